/- For every input of bulk at most 1048576 the law VaultNames returns true and the input reads as it did. Part Vault5: walks and lemmas of the proof. -/
import Derived.Test.YtcjmehononbadaaVault4
namespace Go.Proofs.Ytcjmehononbadaa
open Go.Sym

theorem Fc.bsl60_1 : bslB Try.prog 60 1 = some (22, 1, [.slice none 0 0]) := by kernel_rfl
theorem Fc.fn39 : isFn Try.prog 39 = true := by kernel_rfl
theorem Fc.fn47 : isFn Try.prog 47 = true := by kernel_rfl
theorem Fc.fn48 : isFn Try.prog 48 = true := by kernel_rfl
theorem Fc.fn57 : isFn Try.prog 57 = true := by kernel_rfl
theorem Fc.fn71 : isFn Try.prog 71 = true := by kernel_rfl
def lb_script : ByteArray := { data := #[115, 99, 114, 105, 112, 116] }
def lb_message : ByteArray := { data := #[109, 101, 115, 115, 97, 103, 101] }
def lb_early : ByteArray := { data := #[101, 97, 114, 108, 121] }
def lb_hand : ByteArray := { data := #[104, 97, 110, 100] }
def lb_both : ByteArray := { data := #[98, 111, 116, 104] }
def lb_master : ByteArray := { data := #[109, 97, 115, 116, 101, 114] }
def lb_finished : ByteArray := { data := #[102, 105, 110, 105, 115, 104, 101, 100] }
def lb_mark : ByteArray := { data := #[109, 97, 114, 107] }
def lb_binder : ByteArray := { data := #[98, 105, 110, 100, 101, 114] }
def lb_resume : ByteArray := { data := #[114, 101, 115, 117, 109, 101] }
def lb_ticket : ByteArray := { data := #[116, 105, 99, 107, 101, 116] }

theorem next_c (b : Nat) (V : VB) (ts : List Tm) (s : ByteArray) (hs : s.size ≤ 9223372036854775807) (pv : Value) (ls : List (List UInt8)) (h : List UInt8) (hh : h.length = 16) (cb cv vv : Nat) (n1 : cb ≠ cv) (n2 : cb ≠ vv) (n3 : cv ≠ vv) (hm : ts.length ≤ 1000000000) (x : Int) (w0 : World) (hvi : VI w0 b V ts) (hl1 : ls.flatten.length ≤ 1099511627776) (hl2 : ls.length ≤ 1099511627776) (hp : SlBF (fun x => x = cb ∨ V.F b x) w0 pv ls)
    (h1 : w0.heap[cb]? = some (.cells (hcells h ++ [Value.int .i64 x]).toArray 129 (0, 0))) (h2 : w0.heap[cv]? = some (.cells [Value.pointer (some ⟨cb, 0, none⟩)].toArray 94 (0, 0))) (h3 : w0.heap[vv]? = some (.cells [Value.pointer (some ⟨b, 0, none⟩)].toArray 23 (0, 0))) : Calls Try.prog 71 #[.string s, pv, .pointer (some ⟨cv, 0, none⟩), .pointer (some ⟨vv, 0, none⟩)] w0 fun e w' => ∃ u h' x' V' ts', e = .returned u ∧ h'.length = 16 ∧ VI w' b V' ts' ∧ (∀ x, V'.F b x → V.F b x ∨ w0.heap.size ≤ x) ∧ Mod (fun x => x = cb ∨ V.F b x) w0 w' ∧ w'.heap[cb]? = some (.cells (hcells h' ++ [Value.int .i64 x']).toArray 129 (0, 0)) ∧ NxT ts h x (drv s (strOf ls.flatten)) h' x' ts' := by
  by_cases hx : x = 0
  · subst hx
    refine (next_v b V ts s hs pv ls h hh cb cv vv n1 n2 n3 hm w0 hvi hl1 hl2 hp h1 h2 h3).mono fun e w' ⟨u, h', x', V', ts', k1, k2, k3, k4, k5, k6⟩ => ?_
    exact ⟨u, h', x', V', ts', k1, k6.len, k2, k3, k4, k5, .inr ⟨rfl, k6⟩⟩
  · refine (next_stop s pv h hh cb cv vv n1 n2 n3 _ x hx w0 h1 h2 h3).mono fun e w' ⟨u, k1, k2⟩ => ?_
    exact ⟨u, h, x, V, ts, k1, hh, hvi.ext k2, fun _ h => .inl h, k2.mono (fun _ h => h.elim), k2.heap_some h1, .inl ⟨hx, rfl, rfl, rfl⟩⟩

set_option maxRecDepth 100000 in
set_option maxHeartbeats 1000000 in
theorem Begin_v (b : Nat) (V : VB) (ts : List Tm) (hm : ts.length ≤ 999999990) (w0 : World) (hvi : VI w0 b V ts) : Calls Try.prog 12 #[.pointer (some ⟨b, 0, none⟩)] w0 fun e w' => ∃ h' x V' ts', e = .returned (.tuple #[hnd h', .int .i64 x]) ∧ VI w' b V' ts' ∧ VStep w0 w' b V V' ∧ OfT ts (nm 0) (drv lb_script (strOf [])) h' x ts' := by
  refine enter Try.func12 rfl rfl rfl ?_
  intro a hS
  have hH := Hp.start w0 (V.F b)
  replace hH := hH.knowV hvi (by intro p hp; simp at hp)
  have hVS := VS.start w0 b V
  refine c_seq ?_
  refine reg_plain w0 (V.F b) ?_
  refine r_alloc hS hH (by repeat (first | exact Sub.nil | refine Sub.cons ?_ ?_ | exact In.here | refine In.there ?_)) Fc.zc26 rfl ?_
  clear hS hH; intro a w b2 hb2 hwb2 hS hH
  refine r_assign hS hH.kp0 rfl rfl ?_; clear hS; intro a hS
  refine Sq.nil ?_
  refine then_n ?_
  refine c_seq ?_
  refine reg_plain w0 (V.F b) ?_
  refine r_move hS hH.kp0 rfl rfl ?_; clear hS; intro a hS
  refine r_move hS hH.kp0 rfl rfl ?_; clear hS; intro a hS
  refine r_call (l := [.tmp 8]) hS rfl rfl Fc.fn39 rfl ?_
  refine Calls.mono (Root_v b V ts _ (hH.vin hvi.ok hvi.n01 hvi.n23 (by repeat (first | exact In.here | refine In.there ?_)) (by repeat (first | exact In.here | refine In.there ?_)) (by repeat (first | exact In.here | refine In.there ?_)) (by repeat (first | exact In.here | refine In.there ?_)))) ?_
  rintro e w1 ⟨h, rfl, hqx, hE⟩
  obtain ⟨x0, x1, x2, x3, x4, x5, x6, x7, x8, x9, xa, xb, xc, xd, xe, xf, rfl⟩ := len16 (h := h) (by rw [hqx]; rfl)
  replace hH := hH.ext hE
  refine ⟨_, rfl, hH.kp0, ?_⟩
  clear hS; intro a hS
  refine r_call (l := [.tmp 7, .tmp 9]) hS rfl rfl Fc.fn47 rfl ?_
  have hsz := hH.mod.size
  refine Calls.mono (then_c (some ⟨b, 0, none⟩) [x0, x1, x2, x3, x4, x5, x6, x7, x8, x9, xa, xb, xc, xd, xe, xf] rfl _) ?_
  rintro e w1 ⟨cb, cv, vv, rfl, hE, hcb, hcv, hvv, n1, n2, n3, k1, k2, k3⟩
  replace hH := hH.know3 hE hcb hcv hvv n1 n2 n3 k1 k2 k3
  have hcb0 := Nat.le_trans hsz hcb
  refine ⟨_, rfl, hH.kp0, ?_⟩
  clear hS; intro a hS
  refine r_move hS hH.kp0 rfl rfl ?_; clear hS; intro a hS
  refine r_extract hS hH.kp0 rfl rfl rfl ?_; clear hS; intro a hS
  refine r_extract hS hH.kp0 rfl rfl rfl ?_; clear hS; intro a hS
  refine r_assign hS hH.kp0 rfl rfl ?_; clear hS; intro a hS
  refine r_assign hS hH.kp0 rfl rfl ?_; clear hS; intro a hS
  refine Sq.nil ?_
  refine then_n ?_
  refine c_seq ?_
  refine reg_plain w0 (V.F b) ?_
  refine r_move hS hH.kp0 rfl rfl ?_; clear hS; intro a hS
  refine r_call (l := [.const (.string { data := #[115, 99, 114, 105, 112, 116] }), .const (.slice none 0 0)]) hS rfl rfl Fc.fn71 rfl ?_
  refine Calls.mono (next_v b V ts lb_script (by decide) _ [] [x0, x1, x2, x3, x4, x5, x6, x7, x8, x9, xa, xb, xc, xd, xe, xf] rfl cb cv vv n1 n2 n3 (by omega) _ (hH.vin hvi.ok hvi.n01 hvi.n23 (by repeat (first | exact In.here | refine In.there ?_)) (by repeat (first | exact In.here | refine In.there ?_)) (by repeat (first | exact In.here | refine In.there ?_)) (by repeat (first | exact In.here | refine In.there ?_))) (by simp) (by simp) (SlBF.nil _ _) (hH.get (by repeat (first | exact In.here | refine In.there ?_))) (hH.get (by repeat (first | exact In.here | refine In.there ?_))) (hH.get (by repeat (first | exact In.here | refine In.there ?_)))) ?_
  rintro e w1 ⟨u, h, xx1, V1, ts1, rfl, hvi1, hF1, hM1, hcb1, hof⟩
  obtain ⟨y0, y1, y2, y3, y4, y5, y6, y7, y8, y9, ya, yb, yc, yd, ye, yf, rfl⟩ := len16 hof.len
  have hm1 : ts1.length ≤ 1000000000 := by have := hof.lens; omega
  have hVS1 := hVS.stepF hF1 hH.mod.size
  replace hH := hH.vaultC hVS hF1 hM1 hvi1 hcb1 (by repeat (first | exact .here | apply In.there | apply Put.there | apply Del.there | apply Sw.there)) (by repeat (first | exact .here | apply In.there | apply Put.there | apply Del.there | apply Sw.there)) (.inr hcb0)
  refine ⟨_, rfl, hH.kp0, ?_⟩
  clear hS; intro a hS
  refine Sq.nil ?_
  refine then_n ?_
  refine c_seq ?_
  refine reg_plain w0 (V.F b) ?_
  refine r_move hS hH.kp0 rfl rfl ?_; clear hS; intro a hS
  refine r_call (l := [.tmp 15]) hS rfl rfl Fc.fn48 rfl ?_
  refine Calls.mono (told_c cb [y0, y1, y2, y3, y4, y5, y6, y7, y8, y9, ya, yb, yc, yd, ye, yf] xx1 rfl _ (hH.get (by repeat (first | exact In.here | refine In.there ?_)))) ?_
  rintro e w1 ⟨rfl, hE⟩
  replace hH := hH.ext hE
  refine ⟨_, rfl, hH.kp0, ?_⟩
  clear hS; intro a hS
  refine r_extract hS hH.kp0 rfl rfl rfl ?_; clear hS; intro a hS
  refine r_extract hS hH.kp0 rfl rfl rfl ?_; clear hS; intro a hS
  refine r_store_row hS hH rfl rfl (by repeat (first | exact .here | apply In.there | apply Put.there | apply Del.there | apply Sw.there)) (by repeat (first | exact Sub.nil | refine Sub.cons ?_ ?_ | exact In.here | refine In.there ?_)) Fc.sz26 (by first | exact hcells_one _ | exact of_decide_eq_true rfl) (by rfl) (by first | exact .inr (by assumption) | exact .inl (by first | assumption | rfl)) ?_
  clear hH; intro w hH
  refine r_assign hS hH.kp0 rfl rfl ?_; clear hS; intro a hS
  refine Sq.nil ?_
  refine then_n ?_
  refine wp_ret ?_
  exact leave (.inl rfl) hS rfl (Res.cell rfl (hH.get (by repeat (first | exact In.here | refine In.there ?_))) Fc.ag26 (by rfl) rfl (Res.tmp rfl Res.nil)) ⟨_, _, V1, ts1, rfl, (hH.vin hvi1.ok hvi1.n01 hvi1.n23 (by repeat (first | exact In.here | refine In.there ?_)) (by repeat (first | exact In.here | refine In.there ?_)) (by repeat (first | exact In.here | refine In.there ?_)) (by repeat (first | exact In.here | refine In.there ?_))), ⟨hVS1, hH.mod⟩, by rw [← hqx]; exact hof⟩

set_option maxRecDepth 100000 in
set_option maxHeartbeats 1000000 in
theorem Add_v (b : Nat) (V : VB) (ts : List Tm) (hm : ts.length ≤ 999999990) (h : List UInt8) (hh : h.length = 16) (v : Value) (l : List UInt8) (hl : l.length ≤ 1048576) (w0 : World) (hvi : VI w0 b V ts) (hb : BsF (V.F b) w0 v l) : Calls Try.prog 13 #[.pointer (some ⟨b, 0, none⟩), hnd h, v] w0 fun e w' => ∃ h' x V' ts', e = .returned (.tuple #[hnd h', .int .i64 x]) ∧ VI w' b V' ts' ∧ VStep w0 w' b V V' ∧ OfT ts h (drv lb_message (strOf [l].flatten)) h' x ts' := by
  refine enter Try.func13 rfl rfl rfl ?_
  intro a hS
  have hH := Hp.start w0 (V.F b)
  obtain ⟨x0, x1, x2, x3, x4, x5, x6, x7, x8, x9, xa, xb, xc, xd, xe, xf, rfl⟩ := len16 hh
  obtain ⟨q, qc, hsl⟩ := hb.bs
  have hv9 := hsl.val
  subst hv9
  replace hH := hH.knowV hvi (by intro p hp; simp at hp)
  have hVS := VS.start w0 b V
  refine c_seq ?_
  refine reg_plain w0 (V.F b) ?_
  refine r_box hS hH (by repeat (first | exact Sub.nil | refine Sub.cons ?_ ?_ | exact In.here | refine In.there ?_)) rfl rfl rfl ?_
  clear hS hH; intro a w b4 hb4 hwb4 hS hH
  refine r_alloc hS hH (by repeat (first | exact Sub.nil | refine Sub.cons ?_ ?_ | exact In.here | refine In.there ?_)) Fc.zc26 rfl ?_
  clear hS hH; intro a w b6 hb6 hwb6 hS hH
  refine r_assign hS hH.kp0 rfl rfl ?_; clear hS; intro a hS
  refine Sq.nil ?_
  refine then_n ?_
  refine c_seq ?_
  refine reg_plain w0 (V.F b) ?_
  refine r_move hS hH.kp0 rfl rfl ?_; clear hS; intro a hS
  refine r_load_row hS hH (by repeat (first | exact Sub.nil | refine Sub.cons ?_ ?_ | exact In.here | refine In.there ?_)) rfl (by repeat (first | exact In.here | refine In.there ?_)) Fc.ag26 (by rfl) rfl ?_; clear hS; intro a hS
  refine r_call (l := [.tmp 11, .tmp 12]) hS rfl rfl Fc.fn47 rfl ?_
  have hsz := hH.mod.size
  refine Calls.mono (then_c (some ⟨b, 0, none⟩) [x0, x1, x2, x3, x4, x5, x6, x7, x8, x9, xa, xb, xc, xd, xe, xf] rfl _) ?_
  rintro e w1 ⟨cb, cv, vv, rfl, hE, hcb, hcv, hvv, n1, n2, n3, k1, k2, k3⟩
  replace hH := hH.know3 hE hcb hcv hvv n1 n2 n3 k1 k2 k3
  have hcb0 := Nat.le_trans hsz hcb
  refine ⟨_, rfl, hH.kp0, ?_⟩
  clear hS; intro a hS
  refine r_move hS hH.kp0 rfl rfl ?_; clear hS; intro a hS
  refine r_extract hS hH.kp0 rfl rfl rfl ?_; clear hS; intro a hS
  refine r_extract hS hH.kp0 rfl rfl rfl ?_; clear hS; intro a hS
  refine r_assign hS hH.kp0 rfl rfl ?_; clear hS; intro a hS
  refine r_assign hS hH.kp0 rfl rfl ?_; clear hS; intro a hS
  refine Sq.nil ?_
  refine then_n ?_
  refine c_seq ?_
  refine reg_plain w0 (V.F b) ?_
  refine r_move hS hH.kp0 rfl rfl ?_; clear hS; intro a hS
  refine r_move hS hH.kp0 rfl rfl ?_; clear hS; intro a hS
  refine r_buildSlice (parts := [(0, .tmp 17)]) hS hH (by repeat (first | exact Sub.nil | refine Sub.cons ?_ ?_ | exact In.here | refine In.there ?_)) rfl Fc.bsl60_1 (by rfl) rfl ?_
  clear hS hH; intro a w b18 hb18 hwb18 hS hH
  refine r_call (l := [.const (.string { data := #[109, 101, 115, 115, 97, 103, 101] }), .tmp 18]) hS rfl rfl Fc.fn71 rfl ?_
  refine Calls.mono (next_v b V ts lb_message (by decide) _ [l] [x0, x1, x2, x3, x4, x5, x6, x7, x8, x9, xa, xb, xc, xd, xe, xf] rfl cb cv vv n1 n2 n3 (by omega) _ (hH.vin hvi.ok hvi.n01 hvi.n23 (by repeat (first | exact In.here | refine In.there ?_)) (by repeat (first | exact In.here | refine In.there ?_)) (by repeat (first | exact In.here | refine In.there ?_)) (by repeat (first | exact In.here | refine In.there ?_))) (by first | (simp; done) | (simp; omega)) (by simp) (SlBF.one (hH.get (b := b18) (by repeat (first | exact .here | apply In.there | apply Put.there | apply Del.there | apply Sw.there))) (by rintro (e | e); exact hH.ne (x := b18) (y := cb) (.cons (by repeat (first | exact .here | apply In.there | apply Put.there | apply Del.there | apply Sw.there)) (.cons (by repeat (first | exact .here | apply In.there | apply Put.there | apply Del.there | apply Sw.there)) .nil)) (by intro h; injection h with _ h2 _; revert h2; decide) e; exact (hH.vin hvi.ok hvi.n01 hvi.n23 (by repeat (first | exact In.here | refine In.there ?_)) (by repeat (first | exact In.here | refine In.there ?_)) (by repeat (first | exact In.here | refine In.there ?_)) (by repeat (first | exact In.here | refine In.there ?_))).notF (hH.get (b := b18) (by repeat (first | exact .here | apply In.there | apply Put.there | apply Del.there | apply Sw.there))) (by decide) (by decide) e) (hb.go hH.mod (by rintro x (rfl | e); exact .inr hcb0; exact hVS x e))) (hH.get (by repeat (first | exact In.here | refine In.there ?_))) (hH.get (by repeat (first | exact In.here | refine In.there ?_))) (hH.get (by repeat (first | exact In.here | refine In.there ?_)))) ?_
  rintro e w1 ⟨u, h, xx1, V1, ts1, rfl, hvi1, hF1, hM1, hcb1, hof⟩
  obtain ⟨y0, y1, y2, y3, y4, y5, y6, y7, y8, y9, ya, yb, yc, yd, ye, yf, rfl⟩ := len16 hof.len
  have hm1 : ts1.length ≤ 1000000000 := by have := hof.lens; omega
  have hVS1 := hVS.stepF hF1 hH.mod.size
  replace hH := hH.vaultC hVS hF1 hM1 hvi1 hcb1 (by repeat (first | exact .here | apply In.there | apply Put.there | apply Del.there | apply Sw.there)) (by repeat (first | exact .here | apply In.there | apply Put.there | apply Del.there | apply Sw.there)) (.inr hcb0)
  refine ⟨_, rfl, hH.kp0, ?_⟩
  clear hS; intro a hS
  refine Sq.nil ?_
  refine then_n ?_
  refine c_seq ?_
  refine reg_plain w0 (V.F b) ?_
  refine r_move hS hH.kp0 rfl rfl ?_; clear hS; intro a hS
  refine r_call (l := [.tmp 20]) hS rfl rfl Fc.fn48 rfl ?_
  refine Calls.mono (told_c cb [y0, y1, y2, y3, y4, y5, y6, y7, y8, y9, ya, yb, yc, yd, ye, yf] xx1 rfl _ (hH.get (by repeat (first | exact In.here | refine In.there ?_)))) ?_
  rintro e w1 ⟨rfl, hE⟩
  replace hH := hH.ext hE
  refine ⟨_, rfl, hH.kp0, ?_⟩
  clear hS; intro a hS
  refine r_extract hS hH.kp0 rfl rfl rfl ?_; clear hS; intro a hS
  refine r_extract hS hH.kp0 rfl rfl rfl ?_; clear hS; intro a hS
  refine r_store_row hS hH rfl rfl (by repeat (first | exact .here | apply In.there | apply Put.there | apply Del.there | apply Sw.there)) (by repeat (first | exact Sub.nil | refine Sub.cons ?_ ?_ | exact In.here | refine In.there ?_)) Fc.sz26 (by first | exact hcells_one _ | exact of_decide_eq_true rfl) (by rfl) (by first | exact .inr (by assumption) | exact .inl (by first | assumption | rfl)) ?_
  clear hH; intro w hH
  refine r_assign hS hH.kp0 rfl rfl ?_; clear hS; intro a hS
  refine Sq.nil ?_
  refine then_n ?_
  refine wp_ret ?_
  exact leave (.inl rfl) hS rfl (Res.cell rfl (hH.get (by repeat (first | exact In.here | refine In.there ?_))) Fc.ag26 (by rfl) rfl (Res.tmp rfl Res.nil)) ⟨_, _, V1, ts1, rfl, (hH.vin hvi1.ok hvi1.n01 hvi1.n23 (by repeat (first | exact In.here | refine In.there ?_)) (by repeat (first | exact In.here | refine In.there ?_)) (by repeat (first | exact In.here | refine In.there ?_)) (by repeat (first | exact In.here | refine In.there ?_))), ⟨hVS1, hH.mod⟩, hof⟩

set_option maxRecDepth 100000 in
set_option maxHeartbeats 1000000 in
theorem Early_z (b : Nat) (V : VB) (ts : List Tm) (hm : ts.length ≤ 999999990) (w0 : World) (hvi : VI w0 b V ts) : Calls Try.prog 31 #[.pointer (some ⟨b, 0, none⟩), hnd zH] w0 fun e w' => ∃ h' x V' ts', e = .returned (.tuple #[hnd h', .int .i64 x]) ∧ VI w' b V' ts' ∧ VStep w0 w' b V V' ∧ OfT ts (nm 0) (drv lb_early (strOf [])) h' x ts' := by
  refine enter Try.func31 rfl rfl rfl ?_
  intro a hS
  have hH := Hp.start w0 (V.F b)
  replace hH := hH.knowV hvi (by intro p hp; simp at hp)
  have hVS := VS.start w0 b V
  refine c_seq ?_
  refine reg_plain w0 (V.F b) ?_
  refine r_box hS hH (by repeat (first | exact Sub.nil | refine Sub.cons ?_ ?_ | exact In.here | refine In.there ?_)) rfl rfl rfl ?_
  clear hS hH; intro a w b3 hb3 hwb3 hS hH
  refine r_alloc hS hH (by repeat (first | exact Sub.nil | refine Sub.cons ?_ ?_ | exact In.here | refine In.there ?_)) Fc.zc26 rfl ?_
  clear hS hH; intro a w b4 hb4 hwb4 hS hH
  refine r_assign hS hH.kp0 rfl rfl ?_; clear hS; intro a hS
  refine Sq.nil ?_
  refine then_n ?_
  refine c_seq ?_
  refine c_seq ?_
  refine reg_plain w0 (V.F b) ?_
  refine r_load_row hS hH (by repeat (first | exact Sub.nil | refine Sub.cons ?_ ?_ | exact In.here | refine In.there ?_)) rfl (by repeat (first | exact In.here | refine In.there ?_)) Fc.ag26 (by rfl) rfl ?_; clear hS; intro a hS
  refine r_buildA (parts := []) hS hH.kp0 rfl rfl Fc.zc26 Fc.ar26 (by rfl) ?_; clear hS; intro a hS
  refine r_arrEql (h := zH) (g := zH) Fc.arrH hS hH.kp0 rfl rfl rfl rfl rfl ?_; clear hS; intro a hS
  refine Sq.nil ?_
  refine then_n ?_
  refine c_condT hS rfl rfl ?_
  refine reg_plain w0 (V.F b) ?_
  refine r_move hS hH.kp0 rfl rfl ?_; clear hS; intro a hS
  refine r_call (l := [.tmp 11]) hS rfl rfl Fc.fn39 rfl ?_
  refine Calls.mono (Root_v b V ts _ (hH.vin hvi.ok hvi.n01 hvi.n23 (by repeat (first | exact In.here | refine In.there ?_)) (by repeat (first | exact In.here | refine In.there ?_)) (by repeat (first | exact In.here | refine In.there ?_)) (by repeat (first | exact In.here | refine In.there ?_)))) ?_
  rintro e w1 ⟨h, rfl, hqx, hE⟩
  obtain ⟨x0, x1, x2, x3, x4, x5, x6, x7, x8, x9, xa, xb, xc, xd, xe, xf, rfl⟩ := len16 (h := h) (by rw [hqx]; rfl)
  replace hH := hH.ext hE
  refine ⟨_, rfl, hH.kp0, ?_⟩
  clear hS; intro a hS
  refine r_store_row hS hH rfl rfl (by repeat (first | exact .here | apply In.there | apply Put.there | apply Del.there | apply Sw.there)) (by repeat (first | exact Sub.nil | refine Sub.cons ?_ ?_ | exact In.here | refine In.there ?_)) Fc.sz26 (by first | exact hcells_one _ | exact of_decide_eq_true rfl) (by rfl) (by first | exact .inr (by assumption) | exact .inl (by first | assumption | rfl)) ?_
  clear hH; intro w hH
  refine Sq.nil ?_
  refine then_n ?_
  refine c_seq ?_
  refine reg_plain w0 (V.F b) ?_
  refine r_move hS hH.kp0 rfl rfl ?_; clear hS; intro a hS
  refine r_load_row hS hH (by repeat (first | exact Sub.nil | refine Sub.cons ?_ ?_ | exact In.here | refine In.there ?_)) rfl (by repeat (first | exact In.here | refine In.there ?_)) Fc.ag26 (by rfl) rfl ?_; clear hS; intro a hS
  refine r_call (l := [.tmp 14, .tmp 15]) hS rfl rfl Fc.fn47 rfl ?_
  have hsz := hH.mod.size
  refine Calls.mono (then_c (some ⟨b, 0, none⟩) [x0, x1, x2, x3, x4, x5, x6, x7, x8, x9, xa, xb, xc, xd, xe, xf] rfl _) ?_
  rintro e w1 ⟨cb, cv, vv, rfl, hE, hcb, hcv, hvv, n1, n2, n3, k1, k2, k3⟩
  replace hH := hH.know3 hE hcb hcv hvv n1 n2 n3 k1 k2 k3
  have hcb0 := Nat.le_trans hsz hcb
  refine ⟨_, rfl, hH.kp0, ?_⟩
  clear hS; intro a hS
  refine r_move hS hH.kp0 rfl rfl ?_; clear hS; intro a hS
  refine r_extract hS hH.kp0 rfl rfl rfl ?_; clear hS; intro a hS
  refine r_extract hS hH.kp0 rfl rfl rfl ?_; clear hS; intro a hS
  refine r_assign hS hH.kp0 rfl rfl ?_; clear hS; intro a hS
  refine r_assign hS hH.kp0 rfl rfl ?_; clear hS; intro a hS
  refine Sq.nil ?_
  refine then_n ?_
  refine c_seq ?_
  refine reg_plain w0 (V.F b) ?_
  refine r_move hS hH.kp0 rfl rfl ?_; clear hS; intro a hS
  refine r_call (l := [.const (.string { data := #[101, 97, 114, 108, 121] }), .const (.slice none 0 0)]) hS rfl rfl Fc.fn71 rfl ?_
  refine Calls.mono (next_v b V ts lb_early (by decide) _ [] [x0, x1, x2, x3, x4, x5, x6, x7, x8, x9, xa, xb, xc, xd, xe, xf] rfl cb cv vv n1 n2 n3 (by omega) _ (hH.vin hvi.ok hvi.n01 hvi.n23 (by repeat (first | exact In.here | refine In.there ?_)) (by repeat (first | exact In.here | refine In.there ?_)) (by repeat (first | exact In.here | refine In.there ?_)) (by repeat (first | exact In.here | refine In.there ?_))) (by simp) (by simp) (SlBF.nil _ _) (hH.get (by repeat (first | exact In.here | refine In.there ?_))) (hH.get (by repeat (first | exact In.here | refine In.there ?_))) (hH.get (by repeat (first | exact In.here | refine In.there ?_)))) ?_
  rintro e w1 ⟨u, h, xx1, V1, ts1, rfl, hvi1, hF1, hM1, hcb1, hof⟩
  obtain ⟨y0, y1, y2, y3, y4, y5, y6, y7, y8, y9, ya, yb, yc, yd, ye, yf, rfl⟩ := len16 hof.len
  have hm1 : ts1.length ≤ 1000000000 := by have := hof.lens; omega
  have hVS1 := hVS.stepF hF1 hH.mod.size
  replace hH := hH.vaultC hVS hF1 hM1 hvi1 hcb1 (by repeat (first | exact .here | apply In.there | apply Put.there | apply Del.there | apply Sw.there)) (by repeat (first | exact .here | apply In.there | apply Put.there | apply Del.there | apply Sw.there)) (.inr hcb0)
  refine ⟨_, rfl, hH.kp0, ?_⟩
  clear hS; intro a hS
  refine Sq.nil ?_
  refine then_n ?_
  refine c_seq ?_
  refine reg_plain w0 (V.F b) ?_
  refine r_move hS hH.kp0 rfl rfl ?_; clear hS; intro a hS
  refine r_call (l := [.tmp 21]) hS rfl rfl Fc.fn48 rfl ?_
  refine Calls.mono (told_c cb [y0, y1, y2, y3, y4, y5, y6, y7, y8, y9, ya, yb, yc, yd, ye, yf] xx1 rfl _ (hH.get (by repeat (first | exact In.here | refine In.there ?_)))) ?_
  rintro e w1 ⟨rfl, hE⟩
  replace hH := hH.ext hE
  refine ⟨_, rfl, hH.kp0, ?_⟩
  clear hS; intro a hS
  refine r_extract hS hH.kp0 rfl rfl rfl ?_; clear hS; intro a hS
  refine r_extract hS hH.kp0 rfl rfl rfl ?_; clear hS; intro a hS
  refine r_store_row hS hH rfl rfl (by repeat (first | exact .here | apply In.there | apply Put.there | apply Del.there | apply Sw.there)) (by repeat (first | exact Sub.nil | refine Sub.cons ?_ ?_ | exact In.here | refine In.there ?_)) Fc.sz26 (by first | exact hcells_one _ | exact of_decide_eq_true rfl) (by rfl) (by first | exact .inr (by assumption) | exact .inl (by first | assumption | rfl)) ?_
  clear hH; intro w hH
  refine r_assign hS hH.kp0 rfl rfl ?_; clear hS; intro a hS
  refine Sq.nil ?_
  refine then_n ?_
  refine wp_ret ?_
  exact leave (.inl rfl) hS rfl (Res.cell rfl (hH.get (by repeat (first | exact In.here | refine In.there ?_))) Fc.ag26 (by rfl) rfl (Res.tmp rfl Res.nil)) ⟨_, _, V1, ts1, rfl, (hH.vin hvi1.ok hvi1.n01 hvi1.n23 (by repeat (first | exact In.here | refine In.there ?_)) (by repeat (first | exact In.here | refine In.there ?_)) (by repeat (first | exact In.here | refine In.there ?_)) (by repeat (first | exact In.here | refine In.there ?_))), ⟨hVS1, hH.mod⟩, by rw [← hqx]; exact hof⟩

set_option maxRecDepth 100000 in
set_option maxHeartbeats 1000000 in
theorem Early_h (b : Nat) (V : VB) (ts : List Tm) (hm : ts.length ≤ 999999990) (h : List UInt8) (hh : h.length = 16) (hz : h ≠ zH) (w0 : World) (hvi : VI w0 b V ts) : Calls Try.prog 31 #[.pointer (some ⟨b, 0, none⟩), hnd h] w0 fun e w' => ∃ h' x V' ts', e = .returned (.tuple #[hnd h', .int .i64 x]) ∧ VI w' b V' ts' ∧ VStep w0 w' b V V' ∧ OfT ts h (drv lb_early (strOf [])) h' x ts' := by
  refine enter Try.func31 rfl rfl rfl ?_
  intro a hS
  have hH := Hp.start w0 (V.F b)
  obtain ⟨x0, x1, x2, x3, x4, x5, x6, x7, x8, x9, xa, xb, xc, xd, xe, xf, rfl⟩ := len16 hh
  replace hH := hH.knowV hvi (by intro p hp; simp at hp)
  have hVS := VS.start w0 b V
  refine c_seq ?_
  refine reg_plain w0 (V.F b) ?_
  refine r_box hS hH (by repeat (first | exact Sub.nil | refine Sub.cons ?_ ?_ | exact In.here | refine In.there ?_)) rfl rfl rfl ?_
  clear hS hH; intro a w b3 hb3 hwb3 hS hH
  refine r_alloc hS hH (by repeat (first | exact Sub.nil | refine Sub.cons ?_ ?_ | exact In.here | refine In.there ?_)) Fc.zc26 rfl ?_
  clear hS hH; intro a w b4 hb4 hwb4 hS hH
  refine r_assign hS hH.kp0 rfl rfl ?_; clear hS; intro a hS
  refine Sq.nil ?_
  refine then_n ?_
  refine c_seq ?_
  refine c_seq ?_
  refine reg_plain w0 (V.F b) ?_
  refine r_load_row hS hH (by repeat (first | exact Sub.nil | refine Sub.cons ?_ ?_ | exact In.here | refine In.there ?_)) rfl (by repeat (first | exact In.here | refine In.there ?_)) Fc.ag26 (by rfl) rfl ?_; clear hS; intro a hS
  refine r_buildA (parts := []) hS hH.kp0 rfl rfl Fc.zc26 Fc.ar26 (by rfl) ?_; clear hS; intro a hS
  refine r_arrEql (h := [x0, x1, x2, x3, x4, x5, x6, x7, x8, x9, xa, xb, xc, xd, xe, xf]) (g := zH) Fc.arrH hS hH.kp0 rfl rfl rfl rfl rfl ?_; clear hS; intro a hS
  refine Sq.nil ?_
  refine then_n ?_
  refine c_condF hS rfl (DF hz) ?_
  refine wp_skip ?_
  refine then_n ?_
  refine c_seq ?_
  refine reg_plain w0 (V.F b) ?_
  refine r_move hS hH.kp0 rfl rfl ?_; clear hS; intro a hS
  refine r_load_row hS hH (by repeat (first | exact Sub.nil | refine Sub.cons ?_ ?_ | exact In.here | refine In.there ?_)) rfl (by repeat (first | exact In.here | refine In.there ?_)) Fc.ag26 (by rfl) rfl ?_; clear hS; intro a hS
  refine r_call (l := [.tmp 14, .tmp 15]) hS rfl rfl Fc.fn47 rfl ?_
  have hsz := hH.mod.size
  refine Calls.mono (then_c (some ⟨b, 0, none⟩) [x0, x1, x2, x3, x4, x5, x6, x7, x8, x9, xa, xb, xc, xd, xe, xf] rfl _) ?_
  rintro e w1 ⟨cb, cv, vv, rfl, hE, hcb, hcv, hvv, n1, n2, n3, k1, k2, k3⟩
  replace hH := hH.know3 hE hcb hcv hvv n1 n2 n3 k1 k2 k3
  have hcb0 := Nat.le_trans hsz hcb
  refine ⟨_, rfl, hH.kp0, ?_⟩
  clear hS; intro a hS
  refine r_move hS hH.kp0 rfl rfl ?_; clear hS; intro a hS
  refine r_extract hS hH.kp0 rfl rfl rfl ?_; clear hS; intro a hS
  refine r_extract hS hH.kp0 rfl rfl rfl ?_; clear hS; intro a hS
  refine r_assign hS hH.kp0 rfl rfl ?_; clear hS; intro a hS
  refine r_assign hS hH.kp0 rfl rfl ?_; clear hS; intro a hS
  refine Sq.nil ?_
  refine then_n ?_
  refine c_seq ?_
  refine reg_plain w0 (V.F b) ?_
  refine r_move hS hH.kp0 rfl rfl ?_; clear hS; intro a hS
  refine r_call (l := [.const (.string { data := #[101, 97, 114, 108, 121] }), .const (.slice none 0 0)]) hS rfl rfl Fc.fn71 rfl ?_
  refine Calls.mono (next_v b V ts lb_early (by decide) _ [] [x0, x1, x2, x3, x4, x5, x6, x7, x8, x9, xa, xb, xc, xd, xe, xf] rfl cb cv vv n1 n2 n3 (by omega) _ (hH.vin hvi.ok hvi.n01 hvi.n23 (by repeat (first | exact In.here | refine In.there ?_)) (by repeat (first | exact In.here | refine In.there ?_)) (by repeat (first | exact In.here | refine In.there ?_)) (by repeat (first | exact In.here | refine In.there ?_))) (by simp) (by simp) (SlBF.nil _ _) (hH.get (by repeat (first | exact In.here | refine In.there ?_))) (hH.get (by repeat (first | exact In.here | refine In.there ?_))) (hH.get (by repeat (first | exact In.here | refine In.there ?_)))) ?_
  rintro e w1 ⟨u, h, xx1, V1, ts1, rfl, hvi1, hF1, hM1, hcb1, hof⟩
  obtain ⟨y0, y1, y2, y3, y4, y5, y6, y7, y8, y9, ya, yb, yc, yd, ye, yf, rfl⟩ := len16 hof.len
  have hm1 : ts1.length ≤ 1000000000 := by have := hof.lens; omega
  have hVS1 := hVS.stepF hF1 hH.mod.size
  replace hH := hH.vaultC hVS hF1 hM1 hvi1 hcb1 (by repeat (first | exact .here | apply In.there | apply Put.there | apply Del.there | apply Sw.there)) (by repeat (first | exact .here | apply In.there | apply Put.there | apply Del.there | apply Sw.there)) (.inr hcb0)
  refine ⟨_, rfl, hH.kp0, ?_⟩
  clear hS; intro a hS
  refine Sq.nil ?_
  refine then_n ?_
  refine c_seq ?_
  refine reg_plain w0 (V.F b) ?_
  refine r_move hS hH.kp0 rfl rfl ?_; clear hS; intro a hS
  refine r_call (l := [.tmp 21]) hS rfl rfl Fc.fn48 rfl ?_
  refine Calls.mono (told_c cb [y0, y1, y2, y3, y4, y5, y6, y7, y8, y9, ya, yb, yc, yd, ye, yf] xx1 rfl _ (hH.get (by repeat (first | exact In.here | refine In.there ?_)))) ?_
  rintro e w1 ⟨rfl, hE⟩
  replace hH := hH.ext hE
  refine ⟨_, rfl, hH.kp0, ?_⟩
  clear hS; intro a hS
  refine r_extract hS hH.kp0 rfl rfl rfl ?_; clear hS; intro a hS
  refine r_extract hS hH.kp0 rfl rfl rfl ?_; clear hS; intro a hS
  refine r_store_row hS hH rfl rfl (by repeat (first | exact .here | apply In.there | apply Put.there | apply Del.there | apply Sw.there)) (by repeat (first | exact Sub.nil | refine Sub.cons ?_ ?_ | exact In.here | refine In.there ?_)) Fc.sz26 (by first | exact hcells_one _ | exact of_decide_eq_true rfl) (by rfl) (by first | exact .inr (by assumption) | exact .inl (by first | assumption | rfl)) ?_
  clear hH; intro w hH
  refine r_assign hS hH.kp0 rfl rfl ?_; clear hS; intro a hS
  refine Sq.nil ?_
  refine then_n ?_
  refine wp_ret ?_
  exact leave (.inl rfl) hS rfl (Res.cell rfl (hH.get (by repeat (first | exact In.here | refine In.there ?_))) Fc.ag26 (by rfl) rfl (Res.tmp rfl Res.nil)) ⟨_, _, V1, ts1, rfl, (hH.vin hvi1.ok hvi1.n01 hvi1.n23 (by repeat (first | exact In.here | refine In.there ?_)) (by repeat (first | exact In.here | refine In.there ?_)) (by repeat (first | exact In.here | refine In.there ?_)) (by repeat (first | exact In.here | refine In.there ?_))), ⟨hVS1, hH.mod⟩, hof⟩

set_option maxRecDepth 100000 in
set_option maxHeartbeats 1000000 in
theorem Master_v (b : Nat) (V : VB) (ts : List Tm) (hm : ts.length ≤ 999999990) (h : List UInt8) (hh : h.length = 16) (w0 : World) (hvi : VI w0 b V ts) : Calls Try.prog 33 #[.pointer (some ⟨b, 0, none⟩), hnd h] w0 fun e w' => ∃ h' x V' ts', e = .returned (.tuple #[hnd h', .int .i64 x]) ∧ VI w' b V' ts' ∧ VStep w0 w' b V V' ∧ OfT ts h (drv lb_master (strOf [])) h' x ts' := by
  refine enter Try.func33 rfl rfl rfl ?_
  intro a hS
  have hH := Hp.start w0 (V.F b)
  obtain ⟨x0, x1, x2, x3, x4, x5, x6, x7, x8, x9, xa, xb, xc, xd, xe, xf, rfl⟩ := len16 hh
  replace hH := hH.knowV hvi (by intro p hp; simp at hp)
  have hVS := VS.start w0 b V
  refine c_seq ?_
  refine reg_plain w0 (V.F b) ?_
  refine r_box hS hH (by repeat (first | exact Sub.nil | refine Sub.cons ?_ ?_ | exact In.here | refine In.there ?_)) rfl rfl rfl ?_
  clear hS hH; intro a w b3 hb3 hwb3 hS hH
  refine r_alloc hS hH (by repeat (first | exact Sub.nil | refine Sub.cons ?_ ?_ | exact In.here | refine In.there ?_)) Fc.zc26 rfl ?_
  clear hS hH; intro a w b4 hb4 hwb4 hS hH
  refine r_assign hS hH.kp0 rfl rfl ?_; clear hS; intro a hS
  refine Sq.nil ?_
  refine then_n ?_
  refine c_seq ?_
  refine reg_plain w0 (V.F b) ?_
  refine r_move hS hH.kp0 rfl rfl ?_; clear hS; intro a hS
  refine r_load_row hS hH (by repeat (first | exact Sub.nil | refine Sub.cons ?_ ?_ | exact In.here | refine In.there ?_)) rfl (by repeat (first | exact In.here | refine In.there ?_)) Fc.ag26 (by rfl) rfl ?_; clear hS; intro a hS
  refine r_call (l := [.tmp 9, .tmp 10]) hS rfl rfl Fc.fn47 rfl ?_
  have hsz := hH.mod.size
  refine Calls.mono (then_c (some ⟨b, 0, none⟩) [x0, x1, x2, x3, x4, x5, x6, x7, x8, x9, xa, xb, xc, xd, xe, xf] rfl _) ?_
  rintro e w1 ⟨cb, cv, vv, rfl, hE, hcb, hcv, hvv, n1, n2, n3, k1, k2, k3⟩
  replace hH := hH.know3 hE hcb hcv hvv n1 n2 n3 k1 k2 k3
  have hcb0 := Nat.le_trans hsz hcb
  refine ⟨_, rfl, hH.kp0, ?_⟩
  clear hS; intro a hS
  refine r_move hS hH.kp0 rfl rfl ?_; clear hS; intro a hS
  refine r_extract hS hH.kp0 rfl rfl rfl ?_; clear hS; intro a hS
  refine r_extract hS hH.kp0 rfl rfl rfl ?_; clear hS; intro a hS
  refine r_assign hS hH.kp0 rfl rfl ?_; clear hS; intro a hS
  refine r_assign hS hH.kp0 rfl rfl ?_; clear hS; intro a hS
  refine Sq.nil ?_
  refine then_n ?_
  refine c_seq ?_
  refine reg_plain w0 (V.F b) ?_
  refine r_move hS hH.kp0 rfl rfl ?_; clear hS; intro a hS
  refine r_call (l := [.const (.string { data := #[109, 97, 115, 116, 101, 114] }), .const (.slice none 0 0)]) hS rfl rfl Fc.fn71 rfl ?_
  refine Calls.mono (next_v b V ts lb_master (by decide) _ [] [x0, x1, x2, x3, x4, x5, x6, x7, x8, x9, xa, xb, xc, xd, xe, xf] rfl cb cv vv n1 n2 n3 (by omega) _ (hH.vin hvi.ok hvi.n01 hvi.n23 (by repeat (first | exact In.here | refine In.there ?_)) (by repeat (first | exact In.here | refine In.there ?_)) (by repeat (first | exact In.here | refine In.there ?_)) (by repeat (first | exact In.here | refine In.there ?_))) (by simp) (by simp) (SlBF.nil _ _) (hH.get (by repeat (first | exact In.here | refine In.there ?_))) (hH.get (by repeat (first | exact In.here | refine In.there ?_))) (hH.get (by repeat (first | exact In.here | refine In.there ?_)))) ?_
  rintro e w1 ⟨u, h, xx1, V1, ts1, rfl, hvi1, hF1, hM1, hcb1, hof⟩
  obtain ⟨y0, y1, y2, y3, y4, y5, y6, y7, y8, y9, ya, yb, yc, yd, ye, yf, rfl⟩ := len16 hof.len
  have hm1 : ts1.length ≤ 1000000000 := by have := hof.lens; omega
  have hVS1 := hVS.stepF hF1 hH.mod.size
  replace hH := hH.vaultC hVS hF1 hM1 hvi1 hcb1 (by repeat (first | exact .here | apply In.there | apply Put.there | apply Del.there | apply Sw.there)) (by repeat (first | exact .here | apply In.there | apply Put.there | apply Del.there | apply Sw.there)) (.inr hcb0)
  refine ⟨_, rfl, hH.kp0, ?_⟩
  clear hS; intro a hS
  refine Sq.nil ?_
  refine then_n ?_
  refine c_seq ?_
  refine reg_plain w0 (V.F b) ?_
  refine r_move hS hH.kp0 rfl rfl ?_; clear hS; intro a hS
  refine r_call (l := [.tmp 16]) hS rfl rfl Fc.fn48 rfl ?_
  refine Calls.mono (told_c cb [y0, y1, y2, y3, y4, y5, y6, y7, y8, y9, ya, yb, yc, yd, ye, yf] xx1 rfl _ (hH.get (by repeat (first | exact In.here | refine In.there ?_)))) ?_
  rintro e w1 ⟨rfl, hE⟩
  replace hH := hH.ext hE
  refine ⟨_, rfl, hH.kp0, ?_⟩
  clear hS; intro a hS
  refine r_extract hS hH.kp0 rfl rfl rfl ?_; clear hS; intro a hS
  refine r_extract hS hH.kp0 rfl rfl rfl ?_; clear hS; intro a hS
  refine r_store_row hS hH rfl rfl (by repeat (first | exact .here | apply In.there | apply Put.there | apply Del.there | apply Sw.there)) (by repeat (first | exact Sub.nil | refine Sub.cons ?_ ?_ | exact In.here | refine In.there ?_)) Fc.sz26 (by first | exact hcells_one _ | exact of_decide_eq_true rfl) (by rfl) (by first | exact .inr (by assumption) | exact .inl (by first | assumption | rfl)) ?_
  clear hH; intro w hH
  refine r_assign hS hH.kp0 rfl rfl ?_; clear hS; intro a hS
  refine Sq.nil ?_
  refine then_n ?_
  refine wp_ret ?_
  exact leave (.inl rfl) hS rfl (Res.cell rfl (hH.get (by repeat (first | exact In.here | refine In.there ?_))) Fc.ag26 (by rfl) rfl (Res.tmp rfl Res.nil)) ⟨_, _, V1, ts1, rfl, (hH.vin hvi1.ok hvi1.n01 hvi1.n23 (by repeat (first | exact In.here | refine In.there ?_)) (by repeat (first | exact In.here | refine In.there ?_)) (by repeat (first | exact In.here | refine In.there ?_)) (by repeat (first | exact In.here | refine In.there ?_))), ⟨hVS1, hH.mod⟩, hof⟩

set_option maxRecDepth 100000 in
set_option maxHeartbeats 1000000 in
theorem Traffic_v (b : Nat) (V : VB) (ts : List Tm) (hm : ts.length ≤ 999999990) (h g : List UInt8) (hh : h.length = 16) (hg : g.length = 16) (s : ByteArray) (hs : s.size ≤ 9223372036854775807) (w0 : World) (hvi : VI w0 b V ts) : Calls Try.prog 15 #[.pointer (some ⟨b, 0, none⟩), hnd h, .string s, hnd g] w0 fun e w' => ∃ h' x V' ts', e = .returned (.tuple #[hnd h', .int .i64 x]) ∧ VI w' b V' ts' ∧ VStep w0 w' b V V' ∧ OfT ts h (drv s (strOf [g].flatten)) h' x ts' := by
  refine enter Try.func15 rfl rfl rfl ?_
  intro a hS
  have hH := Hp.start w0 (V.F b)
  obtain ⟨x0, x1, x2, x3, x4, x5, x6, x7, x8, x9, xa, xb, xc, xd, xe, xf, rfl⟩ := len16 hh
  obtain ⟨g0, g1, g2, g3, g4, g5, g6, g7, g8, g9, ga, gb, gc, gd, ge, gf, rfl⟩ := len16 hg
  replace hH := hH.knowV hvi (by intro p hp; simp at hp)
  have hVS := VS.start w0 b V
  refine c_seq ?_
  refine reg_plain w0 (V.F b) ?_
  refine r_box hS hH (by repeat (first | exact Sub.nil | refine Sub.cons ?_ ?_ | exact In.here | refine In.there ?_)) rfl rfl rfl ?_
  clear hS hH; intro a w b5 hb5 hwb5 hS hH
  refine r_box hS hH (by repeat (first | exact Sub.nil | refine Sub.cons ?_ ?_ | exact In.here | refine In.there ?_)) rfl rfl rfl ?_
  clear hS hH; intro a w b7 hb7 hwb7 hS hH
  refine r_alloc hS hH (by repeat (first | exact Sub.nil | refine Sub.cons ?_ ?_ | exact In.here | refine In.there ?_)) Fc.zc26 rfl ?_
  clear hS hH; intro a w b8 hb8 hwb8 hS hH
  refine r_assign hS hH.kp0 rfl rfl ?_; clear hS; intro a hS
  refine Sq.nil ?_
  refine then_n ?_
  refine c_seq ?_
  refine reg_plain w0 (V.F b) ?_
  refine r_move hS hH.kp0 rfl rfl ?_; clear hS; intro a hS
  refine r_load_row hS hH (by repeat (first | exact Sub.nil | refine Sub.cons ?_ ?_ | exact In.here | refine In.there ?_)) rfl (by repeat (first | exact In.here | refine In.there ?_)) Fc.ag26 (by rfl) rfl ?_; clear hS; intro a hS
  refine r_call (l := [.tmp 13, .tmp 14]) hS rfl rfl Fc.fn47 rfl ?_
  have hsz := hH.mod.size
  refine Calls.mono (then_c (some ⟨b, 0, none⟩) [x0, x1, x2, x3, x4, x5, x6, x7, x8, x9, xa, xb, xc, xd, xe, xf] rfl _) ?_
  rintro e w1 ⟨cb, cv, vv, rfl, hE, hcb, hcv, hvv, n1, n2, n3, k1, k2, k3⟩
  replace hH := hH.know3 hE hcb hcv hvv n1 n2 n3 k1 k2 k3
  have hcb0 := Nat.le_trans hsz hcb
  refine ⟨_, rfl, hH.kp0, ?_⟩
  clear hS; intro a hS
  refine r_move hS hH.kp0 rfl rfl ?_; clear hS; intro a hS
  refine r_extract hS hH.kp0 rfl rfl rfl ?_; clear hS; intro a hS
  refine r_extract hS hH.kp0 rfl rfl rfl ?_; clear hS; intro a hS
  refine r_assign hS hH.kp0 rfl rfl ?_; clear hS; intro a hS
  refine r_assign hS hH.kp0 rfl rfl ?_; clear hS; intro a hS
  refine Sq.nil ?_
  refine then_n ?_
  refine c_seq ?_
  refine reg_plain w0 (V.F b) ?_
  refine r_move hS hH.kp0 rfl rfl ?_; clear hS; intro a hS
  refine r_move hS hH.kp0 rfl rfl ?_; clear hS; intro a hS
  refine r_slArr hS hH.kp0 rfl Fc.ar26 rfl ?_; clear hS; intro a hS
  refine r_buildSlice (parts := [(0, .tmp 20)]) hS hH (by repeat (first | exact Sub.nil | refine Sub.cons ?_ ?_ | exact In.here | refine In.there ?_)) rfl Fc.bsl60_1 (by rfl) rfl ?_
  clear hS hH; intro a w b21 hb21 hwb21 hS hH
  refine r_call (l := [.tmp 19, .tmp 21]) hS rfl rfl Fc.fn71 rfl ?_
  refine Calls.mono (next_v b V ts s hs _ [[g0, g1, g2, g3, g4, g5, g6, g7, g8, g9, ga, gb, gc, gd, ge, gf]] [x0, x1, x2, x3, x4, x5, x6, x7, x8, x9, xa, xb, xc, xd, xe, xf] rfl cb cv vv n1 n2 n3 (by omega) _ (hH.vin hvi.ok hvi.n01 hvi.n23 (by repeat (first | exact In.here | refine In.there ?_)) (by repeat (first | exact In.here | refine In.there ?_)) (by repeat (first | exact In.here | refine In.there ?_)) (by repeat (first | exact In.here | refine In.there ?_))) (by first | (simp; done) | (simp; omega)) (by simp) (SlBF.one (hH.get (b := b21) (by repeat (first | exact .here | apply In.there | apply Put.there | apply Del.there | apply Sw.there))) (by rintro (e | e); exact hH.ne (x := b21) (y := cb) (.cons (by repeat (first | exact .here | apply In.there | apply Put.there | apply Del.there | apply Sw.there)) (.cons (by repeat (first | exact .here | apply In.there | apply Put.there | apply Del.there | apply Sw.there)) .nil)) (by intro h; injection h with _ h2 _; revert h2; decide) e; exact (hH.vin hvi.ok hvi.n01 hvi.n23 (by repeat (first | exact In.here | refine In.there ?_)) (by repeat (first | exact In.here | refine In.there ?_)) (by repeat (first | exact In.here | refine In.there ?_)) (by repeat (first | exact In.here | refine In.there ?_))).notF (hH.get (b := b21) (by repeat (first | exact .here | apply In.there | apply Put.there | apply Del.there | apply Sw.there))) (by decide) (by decide) e) (BsF.block (hH.get (b := b7) (by repeat (first | exact .here | apply In.there | apply Put.there | apply Del.there | apply Sw.there))) rfl (by rintro (e | e); exact hH.ne (x := b7) (y := cb) (.cons (by repeat (first | exact .here | apply In.there | apply Put.there | apply Del.there | apply Sw.there)) (.cons (by repeat (first | exact .here | apply In.there | apply Put.there | apply Del.there | apply Sw.there)) .nil)) (by intro h; injection h with _ h2 _; revert h2; decide) e; exact (hH.vin hvi.ok hvi.n01 hvi.n23 (by repeat (first | exact In.here | refine In.there ?_)) (by repeat (first | exact In.here | refine In.there ?_)) (by repeat (first | exact In.here | refine In.there ?_)) (by repeat (first | exact In.here | refine In.there ?_))).notF (hH.get (b := b7) (by repeat (first | exact .here | apply In.there | apply Put.there | apply Del.there | apply Sw.there))) (by decide) (by decide) e))) (hH.get (by repeat (first | exact In.here | refine In.there ?_))) (hH.get (by repeat (first | exact In.here | refine In.there ?_))) (hH.get (by repeat (first | exact In.here | refine In.there ?_)))) ?_
  rintro e w1 ⟨u, h, xx1, V1, ts1, rfl, hvi1, hF1, hM1, hcb1, hof⟩
  obtain ⟨y0, y1, y2, y3, y4, y5, y6, y7, y8, y9, ya, yb, yc, yd, ye, yf, rfl⟩ := len16 hof.len
  have hm1 : ts1.length ≤ 1000000000 := by have := hof.lens; omega
  have hVS1 := hVS.stepF hF1 hH.mod.size
  replace hH := hH.vaultC hVS hF1 hM1 hvi1 hcb1 (by repeat (first | exact .here | apply In.there | apply Put.there | apply Del.there | apply Sw.there)) (by repeat (first | exact .here | apply In.there | apply Put.there | apply Del.there | apply Sw.there)) (.inr hcb0)
  refine ⟨_, rfl, hH.kp0, ?_⟩
  clear hS; intro a hS
  refine Sq.nil ?_
  refine then_n ?_
  refine c_seq ?_
  refine reg_plain w0 (V.F b) ?_
  refine r_move hS hH.kp0 rfl rfl ?_; clear hS; intro a hS
  refine r_call (l := [.tmp 23]) hS rfl rfl Fc.fn48 rfl ?_
  refine Calls.mono (told_c cb [y0, y1, y2, y3, y4, y5, y6, y7, y8, y9, ya, yb, yc, yd, ye, yf] xx1 rfl _ (hH.get (by repeat (first | exact In.here | refine In.there ?_)))) ?_
  rintro e w1 ⟨rfl, hE⟩
  replace hH := hH.ext hE
  refine ⟨_, rfl, hH.kp0, ?_⟩
  clear hS; intro a hS
  refine r_extract hS hH.kp0 rfl rfl rfl ?_; clear hS; intro a hS
  refine r_extract hS hH.kp0 rfl rfl rfl ?_; clear hS; intro a hS
  refine r_store_row hS hH rfl rfl (by repeat (first | exact .here | apply In.there | apply Put.there | apply Del.there | apply Sw.there)) (by repeat (first | exact Sub.nil | refine Sub.cons ?_ ?_ | exact In.here | refine In.there ?_)) Fc.sz26 (by first | exact hcells_one _ | exact of_decide_eq_true rfl) (by rfl) (by first | exact .inr (by assumption) | exact .inl (by first | assumption | rfl)) ?_
  clear hH; intro w hH
  refine r_assign hS hH.kp0 rfl rfl ?_; clear hS; intro a hS
  refine Sq.nil ?_
  refine then_n ?_
  refine wp_ret ?_
  exact leave (.inl rfl) hS rfl (Res.cell rfl (hH.get (by repeat (first | exact In.here | refine In.there ?_))) Fc.ag26 (by rfl) rfl (Res.tmp rfl Res.nil)) ⟨_, _, V1, ts1, rfl, (hH.vin hvi1.ok hvi1.n01 hvi1.n23 (by repeat (first | exact In.here | refine In.there ?_)) (by repeat (first | exact In.here | refine In.there ?_)) (by repeat (first | exact In.here | refine In.there ?_)) (by repeat (first | exact In.here | refine In.there ?_))), ⟨hVS1, hH.mod⟩, hof⟩

set_option maxRecDepth 100000 in
set_option maxHeartbeats 1000000 in
theorem Mark_v (b : Nat) (V : VB) (ts : List Tm) (hm : ts.length ≤ 999999990) (h g : List UInt8) (hh : h.length = 16) (hg : g.length = 16) (w0 : World) (hvi : VI w0 b V ts) : Calls Try.prog 34 #[.pointer (some ⟨b, 0, none⟩), hnd h, hnd g] w0 fun e w' => ∃ h' x V' ts', e = .returned (.tuple #[hnd h', .int .i64 x]) ∧ VI w' b V' ts' ∧ VStep w0 w' b V V' ∧ Of2 ts h (drv lb_finished (strOf [])) (drv lb_mark (strOf [g].flatten)) h' x ts' := by
  refine enter Try.func34 rfl rfl rfl ?_
  intro a hS
  have hH := Hp.start w0 (V.F b)
  obtain ⟨x0, x1, x2, x3, x4, x5, x6, x7, x8, x9, xa, xb, xc, xd, xe, xf, rfl⟩ := len16 hh
  obtain ⟨g0, g1, g2, g3, g4, g5, g6, g7, g8, g9, ga, gb, gc, gd, ge, gf, rfl⟩ := len16 hg
  replace hH := hH.knowV hvi (by intro p hp; simp at hp)
  have hVS := VS.start w0 b V
  refine c_seq ?_
  refine reg_plain w0 (V.F b) ?_
  refine r_box hS hH (by repeat (first | exact Sub.nil | refine Sub.cons ?_ ?_ | exact In.here | refine In.there ?_)) rfl rfl rfl ?_
  clear hS hH; intro a w b4 hb4 hwb4 hS hH
  refine r_box hS hH (by repeat (first | exact Sub.nil | refine Sub.cons ?_ ?_ | exact In.here | refine In.there ?_)) rfl rfl rfl ?_
  clear hS hH; intro a w b5 hb5 hwb5 hS hH
  refine r_alloc hS hH (by repeat (first | exact Sub.nil | refine Sub.cons ?_ ?_ | exact In.here | refine In.there ?_)) Fc.zc26 rfl ?_
  clear hS hH; intro a w b6 hb6 hwb6 hS hH
  refine r_assign hS hH.kp0 rfl rfl ?_; clear hS; intro a hS
  refine Sq.nil ?_
  refine then_n ?_
  refine c_seq ?_
  refine reg_plain w0 (V.F b) ?_
  refine r_move hS hH.kp0 rfl rfl ?_; clear hS; intro a hS
  refine r_load_row hS hH (by repeat (first | exact Sub.nil | refine Sub.cons ?_ ?_ | exact In.here | refine In.there ?_)) rfl (by repeat (first | exact In.here | refine In.there ?_)) Fc.ag26 (by rfl) rfl ?_; clear hS; intro a hS
  refine r_call (l := [.tmp 11, .tmp 12]) hS rfl rfl Fc.fn47 rfl ?_
  have hsz := hH.mod.size
  refine Calls.mono (then_c (some ⟨b, 0, none⟩) [x0, x1, x2, x3, x4, x5, x6, x7, x8, x9, xa, xb, xc, xd, xe, xf] rfl _) ?_
  rintro e w1 ⟨cb, cv, vv, rfl, hE, hcb, hcv, hvv, n1, n2, n3, k1, k2, k3⟩
  replace hH := hH.know3 hE hcb hcv hvv n1 n2 n3 k1 k2 k3
  have hcb0 := Nat.le_trans hsz hcb
  refine ⟨_, rfl, hH.kp0, ?_⟩
  clear hS; intro a hS
  refine r_move hS hH.kp0 rfl rfl ?_; clear hS; intro a hS
  refine r_extract hS hH.kp0 rfl rfl rfl ?_; clear hS; intro a hS
  refine r_extract hS hH.kp0 rfl rfl rfl ?_; clear hS; intro a hS
  refine r_assign hS hH.kp0 rfl rfl ?_; clear hS; intro a hS
  refine r_assign hS hH.kp0 rfl rfl ?_; clear hS; intro a hS
  refine Sq.nil ?_
  refine then_n ?_
  refine c_seq ?_
  refine reg_plain w0 (V.F b) ?_
  refine r_move hS hH.kp0 rfl rfl ?_; clear hS; intro a hS
  refine r_call (l := [.const (.string { data := #[102, 105, 110, 105, 115, 104, 101, 100] }), .const (.slice none 0 0)]) hS rfl rfl Fc.fn71 rfl ?_
  refine Calls.mono (next_v b V ts lb_finished (by decide) _ [] [x0, x1, x2, x3, x4, x5, x6, x7, x8, x9, xa, xb, xc, xd, xe, xf] rfl cb cv vv n1 n2 n3 (by omega) _ (hH.vin hvi.ok hvi.n01 hvi.n23 (by repeat (first | exact In.here | refine In.there ?_)) (by repeat (first | exact In.here | refine In.there ?_)) (by repeat (first | exact In.here | refine In.there ?_)) (by repeat (first | exact In.here | refine In.there ?_))) (by simp) (by simp) (SlBF.nil _ _) (hH.get (by repeat (first | exact In.here | refine In.there ?_))) (hH.get (by repeat (first | exact In.here | refine In.there ?_))) (hH.get (by repeat (first | exact In.here | refine In.there ?_)))) ?_
  rintro e w1 ⟨u, h, xx1, V1, ts1, rfl, hvi1, hF1, hM1, hcb1, hof⟩
  obtain ⟨y0, y1, y2, y3, y4, y5, y6, y7, y8, y9, ya, yb, yc, yd, ye, yf, rfl⟩ := len16 hof.len
  have hm1 : ts1.length ≤ 1000000000 := by have := hof.lens; omega
  have hVS1 := hVS.stepF hF1 hH.mod.size
  replace hH := hH.vaultC hVS hF1 hM1 hvi1 hcb1 (by repeat (first | exact .here | apply In.there | apply Put.there | apply Del.there | apply Sw.there)) (by repeat (first | exact .here | apply In.there | apply Put.there | apply Del.there | apply Sw.there)) (.inr hcb0)
  refine ⟨_, rfl, hH.kp0, ?_⟩
  clear hS; intro a hS
  refine Sq.nil ?_
  refine then_n ?_
  refine c_seq ?_
  refine reg_plain w0 (V.F b) ?_
  refine r_move hS hH.kp0 rfl rfl ?_; clear hS; intro a hS
  refine r_slArr hS hH.kp0 rfl Fc.ar26 rfl ?_; clear hS; intro a hS
  refine r_buildSlice (parts := [(0, .tmp 19)]) hS hH (by repeat (first | exact Sub.nil | refine Sub.cons ?_ ?_ | exact In.here | refine In.there ?_)) rfl Fc.bsl60_1 (by rfl) rfl ?_
  clear hS hH; intro a w b20 hb20 hwb20 hS hH
  refine r_call (l := [.const (.string { data := #[109, 97, 114, 107] }), .tmp 20]) hS rfl rfl Fc.fn71 rfl ?_
  refine Calls.mono (next_c b V1 ts1 lb_mark (by decide) _ [[g0, g1, g2, g3, g4, g5, g6, g7, g8, g9, ga, gb, gc, gd, ge, gf]] [y0, y1, y2, y3, y4, y5, y6, y7, y8, y9, ya, yb, yc, yd, ye, yf] rfl cb cv vv n1 n2 n3 hm1 xx1 _ (hH.vin hvi1.ok hvi1.n01 hvi1.n23 (by repeat (first | exact In.here | refine In.there ?_)) (by repeat (first | exact In.here | refine In.there ?_)) (by repeat (first | exact In.here | refine In.there ?_)) (by repeat (first | exact In.here | refine In.there ?_))) (by first | (simp; done) | (simp; omega)) (by simp) (SlBF.one (hH.get (b := b20) (by repeat (first | exact .here | apply In.there | apply Put.there | apply Del.there | apply Sw.there))) (by rintro (e | e); exact hH.ne (x := b20) (y := cb) (.cons (by repeat (first | exact .here | apply In.there | apply Put.there | apply Del.there | apply Sw.there)) (.cons (by repeat (first | exact .here | apply In.there | apply Put.there | apply Del.there | apply Sw.there)) .nil)) (by intro h; injection h with _ h2 _; revert h2; decide) e; exact (hH.vin hvi1.ok hvi1.n01 hvi1.n23 (by repeat (first | exact In.here | refine In.there ?_)) (by repeat (first | exact In.here | refine In.there ?_)) (by repeat (first | exact In.here | refine In.there ?_)) (by repeat (first | exact In.here | refine In.there ?_))).notF (hH.get (b := b20) (by repeat (first | exact .here | apply In.there | apply Put.there | apply Del.there | apply Sw.there))) (by decide) (by decide) e) (BsF.block (hH.get (b := b5) (by repeat (first | exact .here | apply In.there | apply Put.there | apply Del.there | apply Sw.there))) rfl (by rintro (e | e); exact hH.ne (x := b5) (y := cb) (.cons (by repeat (first | exact .here | apply In.there | apply Put.there | apply Del.there | apply Sw.there)) (.cons (by repeat (first | exact .here | apply In.there | apply Put.there | apply Del.there | apply Sw.there)) .nil)) (by intro h; injection h with _ h2 _; revert h2; decide) e; exact (hH.vin hvi1.ok hvi1.n01 hvi1.n23 (by repeat (first | exact In.here | refine In.there ?_)) (by repeat (first | exact In.here | refine In.there ?_)) (by repeat (first | exact In.here | refine In.there ?_)) (by repeat (first | exact In.here | refine In.there ?_))).notF (hH.get (b := b5) (by repeat (first | exact .here | apply In.there | apply Put.there | apply Del.there | apply Sw.there))) (by decide) (by decide) e))) (hH.get (by repeat (first | exact In.here | refine In.there ?_))) (hH.get (by repeat (first | exact In.here | refine In.there ?_))) (hH.get (by repeat (first | exact In.here | refine In.there ?_)))) ?_
  rintro e w1 ⟨u, h, xx2, V2, ts2, rfl, hl2, hvi2, hF2, hM2, hcb2, hnx⟩
  obtain ⟨z0, z1, z2, z3, z4, z5, z6, z7, z8, z9, za, zb, zc, zd, ze, zf, rfl⟩ := len16 hl2
  have hVS2 := hVS1.stepF hF2 hH.mod.size
  replace hH := hH.vaultC hVS1 hF2 hM2 hvi2 hcb2 (by repeat (first | exact .here | apply In.there | apply Put.there | apply Del.there | apply Sw.there)) (by repeat (first | exact .here | apply In.there | apply Put.there | apply Del.there | apply Sw.there)) (.inr hcb0)
  refine ⟨_, rfl, hH.kp0, ?_⟩
  clear hS; intro a hS
  refine Sq.nil ?_
  refine then_n ?_
  refine c_seq ?_
  refine reg_plain w0 (V.F b) ?_
  refine r_move hS hH.kp0 rfl rfl ?_; clear hS; intro a hS
  refine r_call (l := [.tmp 22]) hS rfl rfl Fc.fn48 rfl ?_
  refine Calls.mono (told_c cb [z0, z1, z2, z3, z4, z5, z6, z7, z8, z9, za, zb, zc, zd, ze, zf] xx2 rfl _ (hH.get (by repeat (first | exact In.here | refine In.there ?_)))) ?_
  rintro e w1 ⟨rfl, hE⟩
  replace hH := hH.ext hE
  refine ⟨_, rfl, hH.kp0, ?_⟩
  clear hS; intro a hS
  refine r_extract hS hH.kp0 rfl rfl rfl ?_; clear hS; intro a hS
  refine r_extract hS hH.kp0 rfl rfl rfl ?_; clear hS; intro a hS
  refine r_store_row hS hH rfl rfl (by repeat (first | exact .here | apply In.there | apply Put.there | apply Del.there | apply Sw.there)) (by repeat (first | exact Sub.nil | refine Sub.cons ?_ ?_ | exact In.here | refine In.there ?_)) Fc.sz26 (by first | exact hcells_one _ | exact of_decide_eq_true rfl) (by rfl) (by first | exact .inr (by assumption) | exact .inl (by first | assumption | rfl)) ?_
  clear hH; intro w hH
  refine r_assign hS hH.kp0 rfl rfl ?_; clear hS; intro a hS
  refine Sq.nil ?_
  refine then_n ?_
  refine wp_ret ?_
  exact leave (.inl rfl) hS rfl (Res.cell rfl (hH.get (by repeat (first | exact In.here | refine In.there ?_))) Fc.ag26 (by rfl) rfl (Res.tmp rfl Res.nil)) ⟨_, _, V2, ts2, rfl, (hH.vin hvi2.ok hvi2.n01 hvi2.n23 (by repeat (first | exact In.here | refine In.there ?_)) (by repeat (first | exact In.here | refine In.there ?_)) (by repeat (first | exact In.here | refine In.there ?_)) (by repeat (first | exact In.here | refine In.there ?_))), ⟨hVS2, hH.mod⟩, _, _, _, hof, hnx⟩

set_option maxRecDepth 100000 in
set_option maxHeartbeats 1000000 in
theorem Bind_v (b : Nat) (V : VB) (ts : List Tm) (hm : ts.length ≤ 999999990) (h : List UInt8) (hh : h.length = 16) (v : Value) (l : List UInt8) (hl : l.length ≤ 1048576) (w0 : World) (hvi : VI w0 b V ts) (hb : BsF (V.F b) w0 v l) : Calls Try.prog 35 #[.pointer (some ⟨b, 0, none⟩), hnd h, v] w0 fun e w' => ∃ h' x V' ts', e = .returned (.tuple #[hnd h', .int .i64 x]) ∧ VI w' b V' ts' ∧ VStep w0 w' b V V' ∧ Of2 ts h (drv lb_binder (strOf [])) (drv lb_mark (strOf [l].flatten)) h' x ts' := by
  refine enter Try.func35 rfl rfl rfl ?_
  intro a hS
  have hH := Hp.start w0 (V.F b)
  obtain ⟨x0, x1, x2, x3, x4, x5, x6, x7, x8, x9, xa, xb, xc, xd, xe, xf, rfl⟩ := len16 hh
  obtain ⟨q, qc, hsl⟩ := hb.bs
  have hv9 := hsl.val
  subst hv9
  replace hH := hH.knowV hvi (by intro p hp; simp at hp)
  have hVS := VS.start w0 b V
  refine c_seq ?_
  refine reg_plain w0 (V.F b) ?_
  refine r_box hS hH (by repeat (first | exact Sub.nil | refine Sub.cons ?_ ?_ | exact In.here | refine In.there ?_)) rfl rfl rfl ?_
  clear hS hH; intro a w b4 hb4 hwb4 hS hH
  refine r_alloc hS hH (by repeat (first | exact Sub.nil | refine Sub.cons ?_ ?_ | exact In.here | refine In.there ?_)) Fc.zc26 rfl ?_
  clear hS hH; intro a w b6 hb6 hwb6 hS hH
  refine r_assign hS hH.kp0 rfl rfl ?_; clear hS; intro a hS
  refine Sq.nil ?_
  refine then_n ?_
  refine c_seq ?_
  refine reg_plain w0 (V.F b) ?_
  refine r_move hS hH.kp0 rfl rfl ?_; clear hS; intro a hS
  refine r_load_row hS hH (by repeat (first | exact Sub.nil | refine Sub.cons ?_ ?_ | exact In.here | refine In.there ?_)) rfl (by repeat (first | exact In.here | refine In.there ?_)) Fc.ag26 (by rfl) rfl ?_; clear hS; intro a hS
  refine r_call (l := [.tmp 11, .tmp 12]) hS rfl rfl Fc.fn47 rfl ?_
  have hsz := hH.mod.size
  refine Calls.mono (then_c (some ⟨b, 0, none⟩) [x0, x1, x2, x3, x4, x5, x6, x7, x8, x9, xa, xb, xc, xd, xe, xf] rfl _) ?_
  rintro e w1 ⟨cb, cv, vv, rfl, hE, hcb, hcv, hvv, n1, n2, n3, k1, k2, k3⟩
  replace hH := hH.know3 hE hcb hcv hvv n1 n2 n3 k1 k2 k3
  have hcb0 := Nat.le_trans hsz hcb
  refine ⟨_, rfl, hH.kp0, ?_⟩
  clear hS; intro a hS
  refine r_move hS hH.kp0 rfl rfl ?_; clear hS; intro a hS
  refine r_extract hS hH.kp0 rfl rfl rfl ?_; clear hS; intro a hS
  refine r_extract hS hH.kp0 rfl rfl rfl ?_; clear hS; intro a hS
  refine r_assign hS hH.kp0 rfl rfl ?_; clear hS; intro a hS
  refine r_assign hS hH.kp0 rfl rfl ?_; clear hS; intro a hS
  refine Sq.nil ?_
  refine then_n ?_
  refine c_seq ?_
  refine reg_plain w0 (V.F b) ?_
  refine r_move hS hH.kp0 rfl rfl ?_; clear hS; intro a hS
  refine r_call (l := [.const (.string { data := #[98, 105, 110, 100, 101, 114] }), .const (.slice none 0 0)]) hS rfl rfl Fc.fn71 rfl ?_
  refine Calls.mono (next_v b V ts lb_binder (by decide) _ [] [x0, x1, x2, x3, x4, x5, x6, x7, x8, x9, xa, xb, xc, xd, xe, xf] rfl cb cv vv n1 n2 n3 (by omega) _ (hH.vin hvi.ok hvi.n01 hvi.n23 (by repeat (first | exact In.here | refine In.there ?_)) (by repeat (first | exact In.here | refine In.there ?_)) (by repeat (first | exact In.here | refine In.there ?_)) (by repeat (first | exact In.here | refine In.there ?_))) (by simp) (by simp) (SlBF.nil _ _) (hH.get (by repeat (first | exact In.here | refine In.there ?_))) (hH.get (by repeat (first | exact In.here | refine In.there ?_))) (hH.get (by repeat (first | exact In.here | refine In.there ?_)))) ?_
  rintro e w1 ⟨u, h, xx1, V1, ts1, rfl, hvi1, hF1, hM1, hcb1, hof⟩
  obtain ⟨y0, y1, y2, y3, y4, y5, y6, y7, y8, y9, ya, yb, yc, yd, ye, yf, rfl⟩ := len16 hof.len
  have hm1 : ts1.length ≤ 1000000000 := by have := hof.lens; omega
  have hVS1 := hVS.stepF hF1 hH.mod.size
  replace hH := hH.vaultC hVS hF1 hM1 hvi1 hcb1 (by repeat (first | exact .here | apply In.there | apply Put.there | apply Del.there | apply Sw.there)) (by repeat (first | exact .here | apply In.there | apply Put.there | apply Del.there | apply Sw.there)) (.inr hcb0)
  refine ⟨_, rfl, hH.kp0, ?_⟩
  clear hS; intro a hS
  refine Sq.nil ?_
  refine then_n ?_
  refine c_seq ?_
  refine reg_plain w0 (V.F b) ?_
  refine r_move hS hH.kp0 rfl rfl ?_; clear hS; intro a hS
  refine r_move hS hH.kp0 rfl rfl ?_; clear hS; intro a hS
  refine r_buildSlice (parts := [(0, .tmp 19)]) hS hH (by repeat (first | exact Sub.nil | refine Sub.cons ?_ ?_ | exact In.here | refine In.there ?_)) rfl Fc.bsl60_1 (by rfl) rfl ?_
  clear hS hH; intro a w b20 hb20 hwb20 hS hH
  refine r_call (l := [.const (.string { data := #[109, 97, 114, 107] }), .tmp 20]) hS rfl rfl Fc.fn71 rfl ?_
  refine Calls.mono (next_c b V1 ts1 lb_mark (by decide) _ [l] [y0, y1, y2, y3, y4, y5, y6, y7, y8, y9, ya, yb, yc, yd, ye, yf] rfl cb cv vv n1 n2 n3 hm1 xx1 _ (hH.vin hvi1.ok hvi1.n01 hvi1.n23 (by repeat (first | exact In.here | refine In.there ?_)) (by repeat (first | exact In.here | refine In.there ?_)) (by repeat (first | exact In.here | refine In.there ?_)) (by repeat (first | exact In.here | refine In.there ?_))) (by first | (simp; done) | (simp; omega)) (by simp) (SlBF.one (hH.get (b := b20) (by repeat (first | exact .here | apply In.there | apply Put.there | apply Del.there | apply Sw.there))) (by rintro (e | e); exact hH.ne (x := b20) (y := cb) (.cons (by repeat (first | exact .here | apply In.there | apply Put.there | apply Del.there | apply Sw.there)) (.cons (by repeat (first | exact .here | apply In.there | apply Put.there | apply Del.there | apply Sw.there)) .nil)) (by intro h; injection h with _ h2 _; revert h2; decide) e; exact (hH.vin hvi1.ok hvi1.n01 hvi1.n23 (by repeat (first | exact In.here | refine In.there ?_)) (by repeat (first | exact In.here | refine In.there ?_)) (by repeat (first | exact In.here | refine In.there ?_)) (by repeat (first | exact In.here | refine In.there ?_))).notF (hH.get (b := b20) (by repeat (first | exact .here | apply In.there | apply Put.there | apply Del.there | apply Sw.there))) (by decide) (by decide) e) (hb.go hH.mod (by rintro x (rfl | e); exact .inr hcb0; exact hVS1 x e))) (hH.get (by repeat (first | exact In.here | refine In.there ?_))) (hH.get (by repeat (first | exact In.here | refine In.there ?_))) (hH.get (by repeat (first | exact In.here | refine In.there ?_)))) ?_
  rintro e w1 ⟨u, h, xx2, V2, ts2, rfl, hl2, hvi2, hF2, hM2, hcb2, hnx⟩
  obtain ⟨z0, z1, z2, z3, z4, z5, z6, z7, z8, z9, za, zb, zc, zd, ze, zf, rfl⟩ := len16 hl2
  have hVS2 := hVS1.stepF hF2 hH.mod.size
  replace hH := hH.vaultC hVS1 hF2 hM2 hvi2 hcb2 (by repeat (first | exact .here | apply In.there | apply Put.there | apply Del.there | apply Sw.there)) (by repeat (first | exact .here | apply In.there | apply Put.there | apply Del.there | apply Sw.there)) (.inr hcb0)
  refine ⟨_, rfl, hH.kp0, ?_⟩
  clear hS; intro a hS
  refine Sq.nil ?_
  refine then_n ?_
  refine c_seq ?_
  refine reg_plain w0 (V.F b) ?_
  refine r_move hS hH.kp0 rfl rfl ?_; clear hS; intro a hS
  refine r_call (l := [.tmp 22]) hS rfl rfl Fc.fn48 rfl ?_
  refine Calls.mono (told_c cb [z0, z1, z2, z3, z4, z5, z6, z7, z8, z9, za, zb, zc, zd, ze, zf] xx2 rfl _ (hH.get (by repeat (first | exact In.here | refine In.there ?_)))) ?_
  rintro e w1 ⟨rfl, hE⟩
  replace hH := hH.ext hE
  refine ⟨_, rfl, hH.kp0, ?_⟩
  clear hS; intro a hS
  refine r_extract hS hH.kp0 rfl rfl rfl ?_; clear hS; intro a hS
  refine r_extract hS hH.kp0 rfl rfl rfl ?_; clear hS; intro a hS
  refine r_store_row hS hH rfl rfl (by repeat (first | exact .here | apply In.there | apply Put.there | apply Del.there | apply Sw.there)) (by repeat (first | exact Sub.nil | refine Sub.cons ?_ ?_ | exact In.here | refine In.there ?_)) Fc.sz26 (by first | exact hcells_one _ | exact of_decide_eq_true rfl) (by rfl) (by first | exact .inr (by assumption) | exact .inl (by first | assumption | rfl)) ?_
  clear hH; intro w hH
  refine r_assign hS hH.kp0 rfl rfl ?_; clear hS; intro a hS
  refine Sq.nil ?_
  refine then_n ?_
  refine wp_ret ?_
  exact leave (.inl rfl) hS rfl (Res.cell rfl (hH.get (by repeat (first | exact In.here | refine In.there ?_))) Fc.ag26 (by rfl) rfl (Res.tmp rfl Res.nil)) ⟨_, _, V2, ts2, rfl, (hH.vin hvi2.ok hvi2.n01 hvi2.n23 (by repeat (first | exact In.here | refine In.there ?_)) (by repeat (first | exact In.here | refine In.there ?_)) (by repeat (first | exact In.here | refine In.there ?_)) (by repeat (first | exact In.here | refine In.there ?_))), ⟨hVS2, hH.mod⟩, _, _, _, hof, hnx⟩

set_option maxRecDepth 100000 in
set_option maxHeartbeats 1000000 in
theorem Resume_v (b : Nat) (V : VB) (ts : List Tm) (hm : ts.length ≤ 999999990) (h g : List UInt8) (hh : h.length = 16) (hg : g.length = 16) (v : Value) (l : List UInt8) (hl : l.length ≤ 1048576) (w0 : World) (hvi : VI w0 b V ts) (hb : BsF (V.F b) w0 v l) : Calls Try.prog 36 #[.pointer (some ⟨b, 0, none⟩), hnd h, hnd g, v] w0 fun e w' => ∃ h' x V' ts', e = .returned (.tuple #[hnd h', .int .i64 x]) ∧ VI w' b V' ts' ∧ VStep w0 w' b V V' ∧ Of2 ts h (drv lb_resume (strOf [g].flatten)) (drv lb_ticket (strOf [l].flatten)) h' x ts' := by
  refine enter Try.func36 rfl rfl rfl ?_
  intro a hS
  have hH := Hp.start w0 (V.F b)
  obtain ⟨x0, x1, x2, x3, x4, x5, x6, x7, x8, x9, xa, xb, xc, xd, xe, xf, rfl⟩ := len16 hh
  obtain ⟨g0, g1, g2, g3, g4, g5, g6, g7, g8, g9, ga, gb, gc, gd, ge, gf, rfl⟩ := len16 hg
  obtain ⟨q, qc, hsl⟩ := hb.bs
  have hv9 := hsl.val
  subst hv9
  replace hH := hH.knowV hvi (by intro p hp; simp at hp)
  have hVS := VS.start w0 b V
  refine c_seq ?_
  refine reg_plain w0 (V.F b) ?_
  refine r_box hS hH (by repeat (first | exact Sub.nil | refine Sub.cons ?_ ?_ | exact In.here | refine In.there ?_)) rfl rfl rfl ?_
  clear hS hH; intro a w b5 hb5 hwb5 hS hH
  refine r_box hS hH (by repeat (first | exact Sub.nil | refine Sub.cons ?_ ?_ | exact In.here | refine In.there ?_)) rfl rfl rfl ?_
  clear hS hH; intro a w b6 hb6 hwb6 hS hH
  refine r_alloc hS hH (by repeat (first | exact Sub.nil | refine Sub.cons ?_ ?_ | exact In.here | refine In.there ?_)) Fc.zc26 rfl ?_
  clear hS hH; intro a w b8 hb8 hwb8 hS hH
  refine r_assign hS hH.kp0 rfl rfl ?_; clear hS; intro a hS
  refine Sq.nil ?_
  refine then_n ?_
  refine c_seq ?_
  refine reg_plain w0 (V.F b) ?_
  refine r_move hS hH.kp0 rfl rfl ?_; clear hS; intro a hS
  refine r_load_row hS hH (by repeat (first | exact Sub.nil | refine Sub.cons ?_ ?_ | exact In.here | refine In.there ?_)) rfl (by repeat (first | exact In.here | refine In.there ?_)) Fc.ag26 (by rfl) rfl ?_; clear hS; intro a hS
  refine r_call (l := [.tmp 13, .tmp 14]) hS rfl rfl Fc.fn47 rfl ?_
  have hsz := hH.mod.size
  refine Calls.mono (then_c (some ⟨b, 0, none⟩) [x0, x1, x2, x3, x4, x5, x6, x7, x8, x9, xa, xb, xc, xd, xe, xf] rfl _) ?_
  rintro e w1 ⟨cb, cv, vv, rfl, hE, hcb, hcv, hvv, n1, n2, n3, k1, k2, k3⟩
  replace hH := hH.know3 hE hcb hcv hvv n1 n2 n3 k1 k2 k3
  have hcb0 := Nat.le_trans hsz hcb
  refine ⟨_, rfl, hH.kp0, ?_⟩
  clear hS; intro a hS
  refine r_move hS hH.kp0 rfl rfl ?_; clear hS; intro a hS
  refine r_extract hS hH.kp0 rfl rfl rfl ?_; clear hS; intro a hS
  refine r_extract hS hH.kp0 rfl rfl rfl ?_; clear hS; intro a hS
  refine r_assign hS hH.kp0 rfl rfl ?_; clear hS; intro a hS
  refine r_assign hS hH.kp0 rfl rfl ?_; clear hS; intro a hS
  refine Sq.nil ?_
  refine then_n ?_
  refine c_seq ?_
  refine reg_plain w0 (V.F b) ?_
  refine r_move hS hH.kp0 rfl rfl ?_; clear hS; intro a hS
  refine r_slArr hS hH.kp0 rfl Fc.ar26 rfl ?_; clear hS; intro a hS
  refine r_buildSlice (parts := [(0, .tmp 19)]) hS hH (by repeat (first | exact Sub.nil | refine Sub.cons ?_ ?_ | exact In.here | refine In.there ?_)) rfl Fc.bsl60_1 (by rfl) rfl ?_
  clear hS hH; intro a w b20 hb20 hwb20 hS hH
  refine r_call (l := [.const (.string { data := #[114, 101, 115, 117, 109, 101] }), .tmp 20]) hS rfl rfl Fc.fn71 rfl ?_
  refine Calls.mono (next_v b V ts lb_resume (by decide) _ [[g0, g1, g2, g3, g4, g5, g6, g7, g8, g9, ga, gb, gc, gd, ge, gf]] [x0, x1, x2, x3, x4, x5, x6, x7, x8, x9, xa, xb, xc, xd, xe, xf] rfl cb cv vv n1 n2 n3 (by omega) _ (hH.vin hvi.ok hvi.n01 hvi.n23 (by repeat (first | exact In.here | refine In.there ?_)) (by repeat (first | exact In.here | refine In.there ?_)) (by repeat (first | exact In.here | refine In.there ?_)) (by repeat (first | exact In.here | refine In.there ?_))) (by first | (simp; done) | (simp; omega)) (by simp) (SlBF.one (hH.get (b := b20) (by repeat (first | exact .here | apply In.there | apply Put.there | apply Del.there | apply Sw.there))) (by rintro (e | e); exact hH.ne (x := b20) (y := cb) (.cons (by repeat (first | exact .here | apply In.there | apply Put.there | apply Del.there | apply Sw.there)) (.cons (by repeat (first | exact .here | apply In.there | apply Put.there | apply Del.there | apply Sw.there)) .nil)) (by intro h; injection h with _ h2 _; revert h2; decide) e; exact (hH.vin hvi.ok hvi.n01 hvi.n23 (by repeat (first | exact In.here | refine In.there ?_)) (by repeat (first | exact In.here | refine In.there ?_)) (by repeat (first | exact In.here | refine In.there ?_)) (by repeat (first | exact In.here | refine In.there ?_))).notF (hH.get (b := b20) (by repeat (first | exact .here | apply In.there | apply Put.there | apply Del.there | apply Sw.there))) (by decide) (by decide) e) (BsF.block (hH.get (b := b6) (by repeat (first | exact .here | apply In.there | apply Put.there | apply Del.there | apply Sw.there))) rfl (by rintro (e | e); exact hH.ne (x := b6) (y := cb) (.cons (by repeat (first | exact .here | apply In.there | apply Put.there | apply Del.there | apply Sw.there)) (.cons (by repeat (first | exact .here | apply In.there | apply Put.there | apply Del.there | apply Sw.there)) .nil)) (by intro h; injection h with _ h2 _; revert h2; decide) e; exact (hH.vin hvi.ok hvi.n01 hvi.n23 (by repeat (first | exact In.here | refine In.there ?_)) (by repeat (first | exact In.here | refine In.there ?_)) (by repeat (first | exact In.here | refine In.there ?_)) (by repeat (first | exact In.here | refine In.there ?_))).notF (hH.get (b := b6) (by repeat (first | exact .here | apply In.there | apply Put.there | apply Del.there | apply Sw.there))) (by decide) (by decide) e))) (hH.get (by repeat (first | exact In.here | refine In.there ?_))) (hH.get (by repeat (first | exact In.here | refine In.there ?_))) (hH.get (by repeat (first | exact In.here | refine In.there ?_)))) ?_
  rintro e w1 ⟨u, h, xx1, V1, ts1, rfl, hvi1, hF1, hM1, hcb1, hof⟩
  obtain ⟨y0, y1, y2, y3, y4, y5, y6, y7, y8, y9, ya, yb, yc, yd, ye, yf, rfl⟩ := len16 hof.len
  have hm1 : ts1.length ≤ 1000000000 := by have := hof.lens; omega
  have hVS1 := hVS.stepF hF1 hH.mod.size
  replace hH := hH.vaultC hVS hF1 hM1 hvi1 hcb1 (by repeat (first | exact .here | apply In.there | apply Put.there | apply Del.there | apply Sw.there)) (by repeat (first | exact .here | apply In.there | apply Put.there | apply Del.there | apply Sw.there)) (.inr hcb0)
  refine ⟨_, rfl, hH.kp0, ?_⟩
  clear hS; intro a hS
  refine Sq.nil ?_
  refine then_n ?_
  refine c_seq ?_
  refine reg_plain w0 (V.F b) ?_
  refine r_move hS hH.kp0 rfl rfl ?_; clear hS; intro a hS
  refine r_move hS hH.kp0 rfl rfl ?_; clear hS; intro a hS
  refine r_buildSlice (parts := [(0, .tmp 23)]) hS hH (by repeat (first | exact Sub.nil | refine Sub.cons ?_ ?_ | exact In.here | refine In.there ?_)) rfl Fc.bsl60_1 (by rfl) rfl ?_
  clear hS hH; intro a w b24 hb24 hwb24 hS hH
  refine r_call (l := [.const (.string { data := #[116, 105, 99, 107, 101, 116] }), .tmp 24]) hS rfl rfl Fc.fn71 rfl ?_
  refine Calls.mono (next_c b V1 ts1 lb_ticket (by decide) _ [l] [y0, y1, y2, y3, y4, y5, y6, y7, y8, y9, ya, yb, yc, yd, ye, yf] rfl cb cv vv n1 n2 n3 hm1 xx1 _ (hH.vin hvi1.ok hvi1.n01 hvi1.n23 (by repeat (first | exact In.here | refine In.there ?_)) (by repeat (first | exact In.here | refine In.there ?_)) (by repeat (first | exact In.here | refine In.there ?_)) (by repeat (first | exact In.here | refine In.there ?_))) (by first | (simp; done) | (simp; omega)) (by simp) (SlBF.one (hH.get (b := b24) (by repeat (first | exact .here | apply In.there | apply Put.there | apply Del.there | apply Sw.there))) (by rintro (e | e); exact hH.ne (x := b24) (y := cb) (.cons (by repeat (first | exact .here | apply In.there | apply Put.there | apply Del.there | apply Sw.there)) (.cons (by repeat (first | exact .here | apply In.there | apply Put.there | apply Del.there | apply Sw.there)) .nil)) (by intro h; injection h with _ h2 _; revert h2; decide) e; exact (hH.vin hvi1.ok hvi1.n01 hvi1.n23 (by repeat (first | exact In.here | refine In.there ?_)) (by repeat (first | exact In.here | refine In.there ?_)) (by repeat (first | exact In.here | refine In.there ?_)) (by repeat (first | exact In.here | refine In.there ?_))).notF (hH.get (b := b24) (by repeat (first | exact .here | apply In.there | apply Put.there | apply Del.there | apply Sw.there))) (by decide) (by decide) e) (hb.go hH.mod (by rintro x (rfl | e); exact .inr hcb0; exact hVS1 x e))) (hH.get (by repeat (first | exact In.here | refine In.there ?_))) (hH.get (by repeat (first | exact In.here | refine In.there ?_))) (hH.get (by repeat (first | exact In.here | refine In.there ?_)))) ?_
  rintro e w1 ⟨u, h, xx2, V2, ts2, rfl, hl2, hvi2, hF2, hM2, hcb2, hnx⟩
  obtain ⟨z0, z1, z2, z3, z4, z5, z6, z7, z8, z9, za, zb, zc, zd, ze, zf, rfl⟩ := len16 hl2
  have hVS2 := hVS1.stepF hF2 hH.mod.size
  replace hH := hH.vaultC hVS1 hF2 hM2 hvi2 hcb2 (by repeat (first | exact .here | apply In.there | apply Put.there | apply Del.there | apply Sw.there)) (by repeat (first | exact .here | apply In.there | apply Put.there | apply Del.there | apply Sw.there)) (.inr hcb0)
  refine ⟨_, rfl, hH.kp0, ?_⟩
  clear hS; intro a hS
  refine Sq.nil ?_
  refine then_n ?_
  refine c_seq ?_
  refine reg_plain w0 (V.F b) ?_
  refine r_move hS hH.kp0 rfl rfl ?_; clear hS; intro a hS
  refine r_call (l := [.tmp 26]) hS rfl rfl Fc.fn48 rfl ?_
  refine Calls.mono (told_c cb [z0, z1, z2, z3, z4, z5, z6, z7, z8, z9, za, zb, zc, zd, ze, zf] xx2 rfl _ (hH.get (by repeat (first | exact In.here | refine In.there ?_)))) ?_
  rintro e w1 ⟨rfl, hE⟩
  replace hH := hH.ext hE
  refine ⟨_, rfl, hH.kp0, ?_⟩
  clear hS; intro a hS
  refine r_extract hS hH.kp0 rfl rfl rfl ?_; clear hS; intro a hS
  refine r_extract hS hH.kp0 rfl rfl rfl ?_; clear hS; intro a hS
  refine r_store_row hS hH rfl rfl (by repeat (first | exact .here | apply In.there | apply Put.there | apply Del.there | apply Sw.there)) (by repeat (first | exact Sub.nil | refine Sub.cons ?_ ?_ | exact In.here | refine In.there ?_)) Fc.sz26 (by first | exact hcells_one _ | exact of_decide_eq_true rfl) (by rfl) (by first | exact .inr (by assumption) | exact .inl (by first | assumption | rfl)) ?_
  clear hH; intro w hH
  refine r_assign hS hH.kp0 rfl rfl ?_; clear hS; intro a hS
  refine Sq.nil ?_
  refine then_n ?_
  refine wp_ret ?_
  exact leave (.inl rfl) hS rfl (Res.cell rfl (hH.get (by repeat (first | exact In.here | refine In.there ?_))) Fc.ag26 (by rfl) rfl (Res.tmp rfl Res.nil)) ⟨_, _, V2, ts2, rfl, (hH.vin hvi2.ok hvi2.n01 hvi2.n23 (by repeat (first | exact In.here | refine In.there ?_)) (by repeat (first | exact In.here | refine In.there ?_)) (by repeat (first | exact In.here | refine In.there ?_)) (by repeat (first | exact In.here | refine In.there ?_))), ⟨hVS2, hH.mod⟩, _, _, _, hof, hnx⟩

set_option maxRecDepth 100000 in
set_option maxHeartbeats 1000000 in
theorem Hand_v (b : Nat) (V : VB) (ts : List Tm) (hm : ts.length ≤ 999999990) (h g : List UInt8) (hh : h.length = 16) (hg : g.length = 16) (w0 : World) (hvi : VI w0 b V ts) : Calls Try.prog 32 #[.pointer (some ⟨b, 0, none⟩), hnd h, hnd g] w0 fun e w' => ∃ h' x V' ts', e = .returned (.tuple #[hnd h', .int .i64 x]) ∧ VI w' b V' ts' ∧ VStep w0 w' b V V' ∧ HandT ts h g (drv lb_hand (strOf [h].flatten)) (drv lb_both (strOf [h].flatten)) h' x ts' := by
  refine enter Try.func32 rfl rfl rfl ?_
  intro a hS
  have hH := Hp.start w0 (V.F b)
  obtain ⟨x0, x1, x2, x3, x4, x5, x6, x7, x8, x9, xa, xb, xc, xd, xe, xf, rfl⟩ := len16 hh
  obtain ⟨g0, g1, g2, g3, g4, g5, g6, g7, g8, g9, ga, gb, gc, gd, ge, gf, rfl⟩ := len16 hg
  replace hH := hH.knowV hvi (by intro p hp; simp at hp)
  have hVS := VS.start w0 b V
  refine c_seq ?_
  refine reg_plain w0 (V.F b) ?_
  refine r_box hS hH (by repeat (first | exact Sub.nil | refine Sub.cons ?_ ?_ | exact In.here | refine In.there ?_)) rfl rfl rfl ?_
  clear hS hH; intro a w b4 hb4 hwb4 hS hH
  refine r_box hS hH (by repeat (first | exact Sub.nil | refine Sub.cons ?_ ?_ | exact In.here | refine In.there ?_)) rfl rfl rfl ?_
  clear hS hH; intro a w b5 hb5 hwb5 hS hH
  refine r_alloc hS hH (by repeat (first | exact Sub.nil | refine Sub.cons ?_ ?_ | exact In.here | refine In.there ?_)) Fc.zc26 rfl ?_
  clear hS hH; intro a w b6 hb6 hwb6 hS hH
  refine r_assign hS hH.kp0 rfl rfl ?_; clear hS; intro a hS
  refine Sq.nil ?_
  refine then_n ?_
  refine c_seq ?_
  refine c_seq ?_
  refine reg_plain w0 (V.F b) ?_
  refine r_move hS hH.kp0 rfl rfl ?_; clear hS; intro a hS
  refine r_call (l := [.tmp 10]) hS rfl rfl Fc.fn39 rfl ?_
  refine Calls.mono (Root_v b V ts _ (hH.vin hvi.ok hvi.n01 hvi.n23 (by repeat (first | exact In.here | refine In.there ?_)) (by repeat (first | exact In.here | refine In.there ?_)) (by repeat (first | exact In.here | refine In.there ?_)) (by repeat (first | exact In.here | refine In.there ?_)))) ?_
  rintro e w1 ⟨h, rfl, hqr, hE⟩
  obtain ⟨r0, r1, r2, r3, r4, r5, r6, r7, r8, r9, ra, rb, rc, rd, re, rf, rfl⟩ := len16 (h := h) (by rw [hqr]; rfl)
  replace hH := hH.ext hE
  have hrz : [r0, r1, r2, r3, r4, r5, r6, r7, r8, r9, ra, rb, rc, rd, re, rf] ≠ zH := by rw [hqr]; exact nm0_ne
  refine ⟨_, rfl, hH.kp0, ?_⟩
  clear hS; intro a hS
  refine r_buildA (parts := []) hS hH.kp0 rfl rfl Fc.zc26 Fc.ar26 (by rfl) ?_; clear hS; intro a hS
  refine r_arrNeq (h := [r0, r1, r2, r3, r4, r5, r6, r7, r8, r9, ra, rb, rc, rd, re, rf]) (g := zH) Fc.arrH hS hH.kp0 rfl rfl rfl rfl rfl ?_; clear hS; intro a hS
  refine r_move hS hH.kp0 rfl rfl ?_; clear hS; intro a hS
  refine Sq.guardYes hS rfl rfl (by rw [DF hrz]; rfl) ?_
  refine r_move hS hH.kp0 rfl rfl ?_; clear hS; intro a hS
  refine Sq.guardYes hS rfl rfl (by rw [DF hrz]; rfl) ?_
  refine r_load_row hS hH (by repeat (first | exact Sub.nil | refine Sub.cons ?_ ?_ | exact In.here | refine In.there ?_)) rfl (by repeat (first | exact In.here | refine In.there ?_)) Fc.ag26 (by rfl) rfl ?_; clear hS; intro a hS
  refine Sq.guardYes hS rfl rfl (by rw [DF hrz]; rfl) ?_
  refine r_call (l := [.tmp 15, .tmp 16]) hS rfl rfl Fc.fn57 rfl ?_
  refine Calls.mono (Known_v b V ts [x0, x1, x2, x3, x4, x5, x6, x7, x8, x9, xa, xb, xc, xd, xe, xf] rfl _ (hH.vin hvi.ok hvi.n01 hvi.n23 (by repeat (first | exact In.here | refine In.there ?_)) (by repeat (first | exact In.here | refine In.there ?_)) (by repeat (first | exact In.here | refine In.there ?_)) (by repeat (first | exact In.here | refine In.there ?_)))) ?_
  rintro e w1 ⟨kb, rfl, hkb, hE⟩
  replace hH := hH.ext hE
  refine ⟨_, rfl, hH.kp0, ?_⟩
  clear hS; intro a hS
  refine Sq.guardYes hS rfl rfl (by rw [DF hrz]; rfl) ?_
  refine r_not hS hH.kp0 rfl rfl ?_; clear hS; intro a hS
  refine r_pickT hS hH.kp0 rfl (by rw [DF hrz]; rfl) rfl rfl ?_; clear hS; intro a hS
  refine Sq.nil ?_
  refine then_n ?_
  refine c_cond hS rfl (fun hc0 => ?_) (fun hc0 => ?_)
  · have hkf : ¬ kb = true := by cases kb <;> simp_all
    refine c_seq ?_
    refine reg_plain w0 (V.F b) ?_
    refine r_buildA (parts := []) hS hH.kp0 rfl rfl Fc.zc26 Fc.ar26 (by rfl) ?_; clear hS; intro a hS
    refine r_store_row hS hH rfl rfl (by repeat (first | exact .here | apply In.there | apply Put.there | apply Del.there | apply Sw.there)) (by repeat (first | exact Sub.nil | refine Sub.cons ?_ ?_ | exact In.here | refine In.there ?_)) Fc.sz26 (by first | exact hcells_one _ | exact of_decide_eq_true rfl) (by rfl) (by first | exact .inr (by assumption) | exact .inl (by first | assumption | rfl)) ?_
    clear hH; intro w hH
    refine r_assign hS hH.kp0 rfl rfl ?_; clear hS; intro a hS
    refine Sq.nil ?_
    refine then_n ?_
    refine wp_ret ?_
    refine then_r ?_
    exact leave (.inl rfl) hS rfl (Res.cell rfl (hH.get (by repeat (first | exact In.here | refine In.there ?_))) Fc.ag26 (by rfl) rfl (Res.tmp rfl Res.nil)) ⟨zH, 15, V, ts, rfl, (hH.vin hvi.ok hvi.n01 hvi.n23 (by repeat (first | exact In.here | refine In.there ?_)) (by repeat (first | exact In.here | refine In.there ?_)) (by repeat (first | exact In.here | refine In.there ?_)) (by repeat (first | exact In.here | refine In.there ?_))), ⟨hVS, hH.mod⟩, .inl ⟨fun h => hkf (hkb.2 h), rfl, rfl, rfl⟩⟩
  · have hkt : kb = true := by cases kb <;> simp_all
    refine wp_skip ?_
    refine then_n ?_
    refine c_seq ?_
    refine reg_plain w0 (V.F b) ?_
    refine r_move hS hH.kp0 rfl rfl ?_; clear hS; intro a hS
    refine r_load_row hS hH (by repeat (first | exact Sub.nil | refine Sub.cons ?_ ?_ | exact In.here | refine In.there ?_)) rfl (by repeat (first | exact In.here | refine In.there ?_)) Fc.ag26 (by rfl) rfl ?_; clear hS; intro a hS
    refine r_call (l := [.tmp 22, .tmp 23]) hS rfl rfl Fc.fn47 rfl ?_
    have hsz := hH.mod.size
    refine Calls.mono (then_c (some ⟨b, 0, none⟩) [g0, g1, g2, g3, g4, g5, g6, g7, g8, g9, ga, gb, gc, gd, ge, gf] rfl _) ?_
    rintro e w1 ⟨cb, cv, vv, rfl, hE, hcb, hcv, hvv, n1, n2, n3, k1, k2, k3⟩
    replace hH := hH.know3 hE hcb hcv hvv n1 n2 n3 k1 k2 k3
    have hcb0 := Nat.le_trans hsz hcb
    refine ⟨_, rfl, hH.kp0, ?_⟩
    clear hS; intro a hS
    refine r_move hS hH.kp0 rfl rfl ?_; clear hS; intro a hS
    refine r_extract hS hH.kp0 rfl rfl rfl ?_; clear hS; intro a hS
    refine r_extract hS hH.kp0 rfl rfl rfl ?_; clear hS; intro a hS
    refine r_assign hS hH.kp0 rfl rfl ?_; clear hS; intro a hS
    refine r_assign hS hH.kp0 rfl rfl ?_; clear hS; intro a hS
    refine Sq.nil ?_
    refine then_n ?_
    refine c_seq ?_
    refine reg_plain w0 (V.F b) ?_
    refine r_move hS hH.kp0 rfl rfl ?_; clear hS; intro a hS
    refine r_slArr hS hH.kp0 rfl Fc.ar26 rfl ?_; clear hS; intro a hS
    refine r_buildSlice (parts := [(0, .tmp 28)]) hS hH (by repeat (first | exact Sub.nil | refine Sub.cons ?_ ?_ | exact In.here | refine In.there ?_)) rfl Fc.bsl60_1 (by rfl) rfl ?_
    clear hS hH; intro a w b29 hb29 hwb29 hS hH
    refine r_call (l := [.const (.string { data := #[104, 97, 110, 100] }), .tmp 29]) hS rfl rfl Fc.fn71 rfl ?_
    refine Calls.mono (next_v b V ts lb_hand (by decide) _ [[x0, x1, x2, x3, x4, x5, x6, x7, x8, x9, xa, xb, xc, xd, xe, xf]] [g0, g1, g2, g3, g4, g5, g6, g7, g8, g9, ga, gb, gc, gd, ge, gf] rfl cb cv vv n1 n2 n3 (by omega) _ (hH.vin hvi.ok hvi.n01 hvi.n23 (by repeat (first | exact In.here | refine In.there ?_)) (by repeat (first | exact In.here | refine In.there ?_)) (by repeat (first | exact In.here | refine In.there ?_)) (by repeat (first | exact In.here | refine In.there ?_))) (by first | (simp; done) | (simp; omega)) (by simp) (SlBF.one (hH.get (b := b29) (by repeat (first | exact .here | apply In.there | apply Put.there | apply Del.there | apply Sw.there))) (by rintro (e | e); exact hH.ne (x := b29) (y := cb) (.cons (by repeat (first | exact .here | apply In.there | apply Put.there | apply Del.there | apply Sw.there)) (.cons (by repeat (first | exact .here | apply In.there | apply Put.there | apply Del.there | apply Sw.there)) .nil)) (by intro h; injection h with _ h2 _; revert h2; decide) e; exact (hH.vin hvi.ok hvi.n01 hvi.n23 (by repeat (first | exact In.here | refine In.there ?_)) (by repeat (first | exact In.here | refine In.there ?_)) (by repeat (first | exact In.here | refine In.there ?_)) (by repeat (first | exact In.here | refine In.there ?_))).notF (hH.get (b := b29) (by repeat (first | exact .here | apply In.there | apply Put.there | apply Del.there | apply Sw.there))) (by decide) (by decide) e) (BsF.block (hH.get (b := b4) (by repeat (first | exact .here | apply In.there | apply Put.there | apply Del.there | apply Sw.there))) rfl (by rintro (e | e); exact hH.ne (x := b4) (y := cb) (.cons (by repeat (first | exact .here | apply In.there | apply Put.there | apply Del.there | apply Sw.there)) (.cons (by repeat (first | exact .here | apply In.there | apply Put.there | apply Del.there | apply Sw.there)) .nil)) (by intro h; injection h with _ h2 _; revert h2; decide) e; exact (hH.vin hvi.ok hvi.n01 hvi.n23 (by repeat (first | exact In.here | refine In.there ?_)) (by repeat (first | exact In.here | refine In.there ?_)) (by repeat (first | exact In.here | refine In.there ?_)) (by repeat (first | exact In.here | refine In.there ?_))).notF (hH.get (b := b4) (by repeat (first | exact .here | apply In.there | apply Put.there | apply Del.there | apply Sw.there))) (by decide) (by decide) e))) (hH.get (by repeat (first | exact In.here | refine In.there ?_))) (hH.get (by repeat (first | exact In.here | refine In.there ?_))) (hH.get (by repeat (first | exact In.here | refine In.there ?_)))) ?_
    rintro e w1 ⟨u, h, xx1, V1, ts1, rfl, hvi1, hF1, hM1, hcb1, hof⟩
    obtain ⟨y0, y1, y2, y3, y4, y5, y6, y7, y8, y9, ya, yb, yc, yd, ye, yf, rfl⟩ := len16 hof.len
    have hm1 : ts1.length ≤ 1000000000 := by have := hof.lens; omega
    have hVS1 := hVS.stepF hF1 hH.mod.size
    replace hH := hH.vaultC hVS hF1 hM1 hvi1 hcb1 (by repeat (first | exact .here | apply In.there | apply Put.there | apply Del.there | apply Sw.there)) (by repeat (first | exact .here | apply In.there | apply Put.there | apply Del.there | apply Sw.there)) (.inr hcb0)
    refine ⟨_, rfl, hH.kp0, ?_⟩
    clear hS; intro a hS
    refine Sq.nil ?_
    refine then_n ?_
    refine c_seq ?_
    refine reg_plain w0 (V.F b) ?_
    refine r_move hS hH.kp0 rfl rfl ?_; clear hS; intro a hS
    refine r_slArr hS hH.kp0 rfl Fc.ar26 rfl ?_; clear hS; intro a hS
    refine r_buildSlice (parts := [(0, .tmp 32)]) hS hH (by repeat (first | exact Sub.nil | refine Sub.cons ?_ ?_ | exact In.here | refine In.there ?_)) rfl Fc.bsl60_1 (by rfl) rfl ?_
    clear hS hH; intro a w b33 hb33 hwb33 hS hH
    refine r_call (l := [.const (.string { data := #[98, 111, 116, 104] }), .tmp 33]) hS rfl rfl Fc.fn71 rfl ?_
    refine Calls.mono (next_c b V1 ts1 lb_both (by decide) _ [[x0, x1, x2, x3, x4, x5, x6, x7, x8, x9, xa, xb, xc, xd, xe, xf]] [y0, y1, y2, y3, y4, y5, y6, y7, y8, y9, ya, yb, yc, yd, ye, yf] rfl cb cv vv n1 n2 n3 hm1 xx1 _ (hH.vin hvi1.ok hvi1.n01 hvi1.n23 (by repeat (first | exact In.here | refine In.there ?_)) (by repeat (first | exact In.here | refine In.there ?_)) (by repeat (first | exact In.here | refine In.there ?_)) (by repeat (first | exact In.here | refine In.there ?_))) (by first | (simp; done) | (simp; omega)) (by simp) (SlBF.one (hH.get (b := b33) (by repeat (first | exact .here | apply In.there | apply Put.there | apply Del.there | apply Sw.there))) (by rintro (e | e); exact hH.ne (x := b33) (y := cb) (.cons (by repeat (first | exact .here | apply In.there | apply Put.there | apply Del.there | apply Sw.there)) (.cons (by repeat (first | exact .here | apply In.there | apply Put.there | apply Del.there | apply Sw.there)) .nil)) (by intro h; injection h with _ h2 _; revert h2; decide) e; exact (hH.vin hvi1.ok hvi1.n01 hvi1.n23 (by repeat (first | exact In.here | refine In.there ?_)) (by repeat (first | exact In.here | refine In.there ?_)) (by repeat (first | exact In.here | refine In.there ?_)) (by repeat (first | exact In.here | refine In.there ?_))).notF (hH.get (b := b33) (by repeat (first | exact .here | apply In.there | apply Put.there | apply Del.there | apply Sw.there))) (by decide) (by decide) e) (BsF.block (hH.get (b := b4) (by repeat (first | exact .here | apply In.there | apply Put.there | apply Del.there | apply Sw.there))) rfl (by rintro (e | e); exact hH.ne (x := b4) (y := cb) (.cons (by repeat (first | exact .here | apply In.there | apply Put.there | apply Del.there | apply Sw.there)) (.cons (by repeat (first | exact .here | apply In.there | apply Put.there | apply Del.there | apply Sw.there)) .nil)) (by intro h; injection h with _ h2 _; revert h2; decide) e; exact (hH.vin hvi1.ok hvi1.n01 hvi1.n23 (by repeat (first | exact In.here | refine In.there ?_)) (by repeat (first | exact In.here | refine In.there ?_)) (by repeat (first | exact In.here | refine In.there ?_)) (by repeat (first | exact In.here | refine In.there ?_))).notF (hH.get (b := b4) (by repeat (first | exact .here | apply In.there | apply Put.there | apply Del.there | apply Sw.there))) (by decide) (by decide) e))) (hH.get (by repeat (first | exact In.here | refine In.there ?_))) (hH.get (by repeat (first | exact In.here | refine In.there ?_))) (hH.get (by repeat (first | exact In.here | refine In.there ?_)))) ?_
    rintro e w1 ⟨u, h, xx2, V2, ts2, rfl, hl2, hvi2, hF2, hM2, hcb2, hnx⟩
    obtain ⟨z0, z1, z2, z3, z4, z5, z6, z7, z8, z9, za, zb, zc, zd, ze, zf, rfl⟩ := len16 hl2
    have hVS2 := hVS1.stepF hF2 hH.mod.size
    replace hH := hH.vaultC hVS1 hF2 hM2 hvi2 hcb2 (by repeat (first | exact .here | apply In.there | apply Put.there | apply Del.there | apply Sw.there)) (by repeat (first | exact .here | apply In.there | apply Put.there | apply Del.there | apply Sw.there)) (.inr hcb0)
    refine ⟨_, rfl, hH.kp0, ?_⟩
    clear hS; intro a hS
    refine Sq.nil ?_
    refine then_n ?_
    refine c_seq ?_
    refine reg_plain w0 (V.F b) ?_
    refine r_move hS hH.kp0 rfl rfl ?_; clear hS; intro a hS
    refine r_call (l := [.tmp 35]) hS rfl rfl Fc.fn48 rfl ?_
    refine Calls.mono (told_c cb [z0, z1, z2, z3, z4, z5, z6, z7, z8, z9, za, zb, zc, zd, ze, zf] xx2 rfl _ (hH.get (by repeat (first | exact In.here | refine In.there ?_)))) ?_
    rintro e w1 ⟨rfl, hE⟩
    replace hH := hH.ext hE
    refine ⟨_, rfl, hH.kp0, ?_⟩
    clear hS; intro a hS
    refine r_extract hS hH.kp0 rfl rfl rfl ?_; clear hS; intro a hS
    refine r_extract hS hH.kp0 rfl rfl rfl ?_; clear hS; intro a hS
    refine r_store_row hS hH rfl rfl (by repeat (first | exact .here | apply In.there | apply Put.there | apply Del.there | apply Sw.there)) (by repeat (first | exact Sub.nil | refine Sub.cons ?_ ?_ | exact In.here | refine In.there ?_)) Fc.sz26 (by first | exact hcells_one _ | exact of_decide_eq_true rfl) (by rfl) (by first | exact .inr (by assumption) | exact .inl (by first | assumption | rfl)) ?_
    clear hH; intro w hH
    refine r_assign hS hH.kp0 rfl rfl ?_; clear hS; intro a hS
    refine Sq.nil ?_
    refine then_n ?_
    refine wp_ret ?_
    exact leave (.inl rfl) hS rfl (Res.cell rfl (hH.get (by repeat (first | exact In.here | refine In.there ?_))) Fc.ag26 (by rfl) rfl (Res.tmp rfl Res.nil)) ⟨_, _, V2, ts2, rfl, (hH.vin hvi2.ok hvi2.n01 hvi2.n23 (by repeat (first | exact In.here | refine In.there ?_)) (by repeat (first | exact In.here | refine In.there ?_)) (by repeat (first | exact In.here | refine In.there ?_)) (by repeat (first | exact In.here | refine In.there ?_))), ⟨hVS2, hH.mod⟩, .inr ⟨hkb.1 hkt, _, _, _, hof, hnx⟩⟩

end Go.Proofs.Ytcjmehononbadaa
