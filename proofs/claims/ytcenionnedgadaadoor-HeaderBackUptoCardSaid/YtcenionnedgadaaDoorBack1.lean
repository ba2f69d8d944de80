/- HeaderBack: a header that is put is read again, with the place and the lowest bytes of the number. Conditions: those of the given row (arguments of at most 1048576 values and letters; the listed variables hold what the text lays). Part Back1: walks and lemmas of the proof. -/
import Derived.Test.YtcenionnedgadaaDoorRef1
import Derived.Test.YtcenionnedgadaaDoorSymStep
import Derived.Test.YtcenionnedgadaaDoorPuts2
import Derived.Test.YtcenionnedgadaaDoorSymGrow
namespace Go.Proofs.YtcenionnedgadaaDoor
open Go.Sym
/-! ### what was put is read -/
theorem toNat_ofNat {n : Nat} (h : n < 256) : (UInt8.ofNat n).toNat = n := by simp; omega
theorem idQ_at {l a b c : List UInt8} {p : Nat} (hl : l = a ++ (UInt8.ofNat b.length :: (b ++ c))) (hp : p = a.length) (hb : b.length ≤ 20) : idQ l p = .inr (b, p + 1 + b.length) := by
  subst hl hp
  have h0 : (a ++ (UInt8.ofNat b.length :: (b ++ c)))[a.length]? = some (UInt8.ofNat b.length) := by simp
  unfold idQ
  rw [h0]
  simp only
  rw [toNat_ofNat (by omega), if_neg (by omega), if_neg (by simp; omega)]
  have h1 : (a ++ (UInt8.ofNat b.length :: (b ++ c))).drop (a.length + 1) = b ++ c := by
    rw [← List.drop_drop, List.drop_left]; rfl
  rw [h1, List.take_left]
theorem varN_wide {l a c : List UInt8} {v k p : Nat} (hl : l = a ++ (wideB v k ++ c)) (hp : p = a.length) (hk : k ≤ 1) (hv : v < 2 ^ (8 * 2 ^ k - 2)) : varN l p = some (v, p + 2 ^ k) := by
  subst hl hp
  have hd : (a ++ (wideB v k ++ c)).drop a.length = wideB v k ++ c := List.drop_left
  have hlen := wideB_len v k
  have hx : ∃ x, (wideB v k ++ c)[0]? = some x ∧ x.toNat / 64 = k := by
    rcases (by omega : k = 0 ∨ k = 1) with rfl | rfl
    · have : v < 64 := hv
      rw [wideB_0]
      refine ⟨_, rfl, ?_⟩
      simp; omega
    · have : v < 16384 := hv
      rw [wideB_1]
      refine ⟨_, rfl, ?_⟩
      simp; omega
  obtain ⟨x, hx, hxk⟩ := hx
  rw [varN_some hd hx (by rw [hxk, List.length_append, hlen]; omega), hxk]
  have ht : (wideB v k ++ c).take (2 ^ k) = wideB v k := by rw [← hlen]; exact List.take_left
  rw [ht]
  have hb : beN (wideB v k) = (v + k * 2 ^ (8 * 2 ^ k - 2)) % 256 ^ 2 ^ k := beN_beB _ _
  rw [hb]
  rcases (by omega : k = 0 ∨ k = 1) with rfl | rfl
  · have : v < 64 := hv
    simp; omega
  · have : v < 16384 := hv
    simp; omega
theorem startB_eq (f v : Nat) (dst src r : List UInt8) : startB f v dst src ++ r = UInt8.ofNat f :: (beB v 4 ++ (UInt8.ofNat dst.length :: (dst ++ (UInt8.ofNat src.length :: (src ++ r))))) := by simp [startB]
theorem refQ_start {l r dst src : List UInt8} {f v : Nat} (hl : l = startB f v dst src ++ r) (hf : 128 ≤ f) (hf2 : f < 256) (hd : dst.length ≤ 20) (hs : src.length ≤ 20) (hv : v < 4294967296) : refQ l 0 = lateQ l f v dst src (7 + dst.length + src.length) := by
  have he := startB_eq f v dst src r
  rw [← hl] at he
  have hb4 := beB_len v 4
  have h1 : idQ l 5 = .inr (dst, 5 + 1 + dst.length) := idQ_at (a := UInt8.ofNat f :: beB v 4) (b := dst) (c := UInt8.ofNat src.length :: (src ++ r)) (by rw [he]; simp) (by simp [hb4]) hd
  have h2 : idQ l (5 + 1 + dst.length) = .inr (src, 5 + 1 + dst.length + 1 + src.length) := idQ_at (a := UInt8.ofNat f :: (beB v 4 ++ (UInt8.ofNat dst.length :: dst))) (b := src) (c := r) (by rw [he]; simp) (by simp [hb4]; omega) hs
  have h3 : beN ((l.drop 1).take 4) = v := by
    rw [he, List.drop_succ_cons, List.drop_zero]
    have : (beB v 4 ++ (UInt8.ofNat dst.length :: (dst ++ (UInt8.ofNat src.length :: (src ++ r))))).take 4 = beB v 4 := by
      have := List.take_left (l₁ := beB v 4) (l₂ := UInt8.ofNat dst.length :: (dst ++ (UInt8.ofNat src.length :: (src ++ r))))
      rw [hb4] at this; exact this
    rw [this, beN_beB]; omega
  have hlen : l.length = 7 + dst.length + src.length + r.length := by rw [hl, List.length_append, startB_len]
  clear hl
  subst he
  unfold refQ
  rw [if_neg (by omega)]
  simp only
  rw [toNat_ofNat hf2, if_neg (by omega), if_neg (by omega), h1]
  simp only
  rw [h2]
  simp only
  rw [h3, show 5 + 1 + dst.length + 1 + src.length = 7 + dst.length + src.length by omega]
/-- the short one -/
theorem back_5 {l dst r : List UInt8} {n : Nat} {ph : Bool} (hl : l = [UInt8.ofNat (63 + n + if ph then 4 else 0)] ++ dst ++ r) (hn : 1 ≤ n) (hn4 : n ≤ 4) (hd : dst.length ≤ 20) :
    refQ l (dst.length : Int) = .inr (⟨5, 0, dst, [], [], 0, ph, [], z16⟩, 1 + dst.length) := by
  have hx : (UInt8.ofNat (63 + n + if ph then 4 else 0)).toNat = 63 + n + if ph then 4 else 0 := toNat_ofNat (by split <;> omega)
  subst hl
  rw [List.append_assoc]
  show refQ (UInt8.ofNat (63 + n + if ph then 4 else 0) :: (dst ++ r)) _ = _
  unfold refQ
  rw [if_neg (by omega)]
  simp only
  rw [hx, if_pos (by split <;> omega), if_neg (by split <;> omega), if_neg (by simp; omega)]
  have : decide ((63 + n + if ph then 4 else 0) / 4 % 2 = 1) = ph := by
    cases ph
    · exact decide_eq_false (by simp; omega)
    · exact decide_eq_true (by simp; omega)
  rw [this]
  simp
theorem tail_at {l a c dst src tok : List UInt8} {kd ln p : Nat} (hl : l = a ++ (wideB ln 1 ++ c)) (hp : p = a.length) (hln : ln < 16384) (hc : ln ≤ c.length) : tailQ l dst src kd tok p = .inr (⟨(kd : Int), 1, dst, src, tok, ln, false, [], z16⟩, p + 2) := by
  unfold tailQ
  rw [varN_wide hl hp (Nat.le_refl 1) hln]
  simp only
  have h2 : (wideB ln 1).length = 2 := wideB_len _ _
  rw [if_neg (by rw [hl, hp]; simp only [List.length_append]; omega)]
theorem back_12 {l dst src r : List UInt8} {kd n ln : Nat} (hl : l = startB (191 + 16 * kd + n) 1 dst src ++ wideB ln 1 ++ r) (hk : kd = 1 ∨ kd = 2) (hn : 1 ≤ n) (hn4 : n ≤ 4) (hd : dst.length ≤ 20) (hs : src.length ≤ 20) (hln : ln < 16384) (hr : ln ≤ r.length) :
    refQ l 0 = .inr (⟨(kd : Int), 1, dst, src, [], ln, false, [], z16⟩, 7 + dst.length + src.length + 2) := by
  rw [refQ_start (f := 191 + 16 * kd + n) (v := 1) (r := wideB ln 1 ++ r) (by rw [hl, List.append_assoc]) (by omega) (by omega) hd hs (by decide)]
  unfold lateQ
  rw [if_neg (by decide), if_pos rfl, if_neg (by omega), show (191 + 16 * kd + n) / 16 % 4 = kd by omega]
  unfold restQ
  rw [if_neg (by omega), if_neg (by omega)]
  exact tail_at (a := startB (191 + 16 * kd + n) 1 dst src) (by rw [hl, List.append_assoc]) (by rw [startB_len]) hln hr
theorem back_0 {l dst src tok r : List UInt8} {n ln : Nat} (hl : l = startB (191 + n) 1 dst src ++ wideB tok.length (formK tok.length) ++ tok ++ wideB ln 1 ++ r) (hn : 1 ≤ n) (hn4 : n ≤ 4) (hd : dst.length ≤ 20) (hs : src.length ≤ 20) (ht : tok.length ≤ 512) (hln : ln < 16384) (hr : ln ≤ r.length) :
    refQ l 0 = .inr (⟨0, 1, dst, src, tok, ln, false, [], z16⟩, 7 + dst.length + src.length + 2 ^ formK tok.length + tok.length + 2) := by
  rw [refQ_start (f := 191 + n) (v := 1) (r := wideB tok.length (formK tok.length) ++ (tok ++ (wideB ln 1 ++ r))) (by rw [hl]; simp only [List.append_assoc]) (by omega) (by omega) hd hs (by decide)]
  have hfk : formK tok.length ≤ 1 := by
    unfold formK
    rcases Nat.lt_or_ge tok.length 64 with h | h
    · rw [if_pos h]; omega
    · rw [if_neg (by omega), if_pos (by omega)]; omega
  unfold lateQ
  rw [if_neg (by decide), if_pos rfl, if_neg (by omega), show (191 + n) / 16 % 4 = 0 by omega]
  unfold restQ
  rw [if_neg (by decide), if_pos rfl, varN_wide (a := startB (191 + n) 1 dst src) (c := tok ++ (wideB ln 1 ++ r)) (by rw [hl]; simp only [List.append_assoc]) (by rw [startB_len]) hfk (formK_fit (by omega))]
  simp only
  have hw := wideB_len tok.length (formK tok.length)
  have hw2 : (wideB ln 1).length = 2 := wideB_len _ _
  have hdr : (l.drop (7 + dst.length + src.length + 2 ^ formK tok.length)).take tok.length = tok := by
    have : l = (startB (191 + n) 1 dst src ++ wideB tok.length (formK tok.length)) ++ (tok ++ (wideB ln 1 ++ r)) := by rw [hl]; simp only [List.append_assoc]
    rw [this, List.drop_left' (by rw [List.length_append, startB_len, hw]), List.take_left]
  rw [if_neg (by omega), if_neg (by rw [hl]; simp only [List.length_append, startB_len]; omega), hdr]
  exact tail_at (a := startB (191 + n) 1 dst src ++ wideB tok.length (formK tok.length) ++ tok) (by rw [hl, List.append_assoc]) (by simp only [List.length_append, startB_len]; omega) hln hr
theorem back_3 {l dst src tok tag : List UInt8} (hl : l = startB 240 1 dst src ++ tok ++ tag) (hd : dst.length ≤ 20) (hs : src.length ≤ 20) (ht1 : 1 ≤ tok.length) (ht : tok.length ≤ 512) (hg : tag.length = 16) :
    refQ l 0 = .inr (⟨3, 1, dst, src, tok, 0, false, [], tag⟩, l.length) := by
  have hlen : l.length = 7 + dst.length + src.length + tok.length + 16 := by rw [hl]; simp only [List.length_append, startB_len]; omega
  rw [refQ_start (f := 240) (v := 1) (r := tok ++ tag) (by rw [hl, List.append_assoc]) (by decide) (by decide) hd hs (by decide)]
  unfold lateQ
  rw [if_neg (by decide), if_pos rfl, if_neg (by decide), show 240 / 16 % 4 = 3 by decide]
  unfold restQ
  rw [if_pos rfl, if_neg (by omega), if_neg (by omega)]
  have h1 : (l.drop (7 + dst.length + src.length)).take (l.length - 16 - (7 + dst.length + src.length)) = tok := by
    rw [show l.length - 16 - (7 + dst.length + src.length) = tok.length by omega, show l = startB 240 1 dst src ++ (tok ++ tag) from by rw [hl, List.append_assoc], List.drop_left' (by rw [startB_len]), List.take_left]
  have h2 : (l.drop (l.length - 16)).take 16 = tag := by
    rw [show l.length - 16 = (startB 240 1 dst src ++ tok).length by rw [List.length_append, startB_len]; omega, hl, List.drop_left, List.take_of_length_le (by omega)]
  rw [h1, h2]
theorem back_4 {l dst src : List UInt8} {lst : List Int} (hl : l = startB 192 0 dst src ++ listB lst) (hd : dst.length ≤ 20) (hs : src.length ≤ 20) (h0 : 0 < lst.length) :
    refQ l 0 = .inr (⟨4, 0, dst, src, [], 0, false, words l (7 + dst.length + src.length) lst.length, z16⟩, l.length) := by
  have hlen : l.length = 7 + dst.length + src.length + 4 * lst.length := by rw [hl, List.length_append, startB_len, listB_len]
  rw [refQ_start (f := 192) (v := 0) (r := listB lst) hl (by decide) (by decide) hd hs (by decide)]
  unfold lateQ
  rw [if_pos rfl, if_neg (by omega), show (l.length - (7 + dst.length + src.length)) / 4 = lst.length by omega]
theorem OwnB.bsB {B : Nat} {T : TypeId} {w : World} {v : Value} {u : List UInt8} (h : OwnB B T w v u) : Bs w v u := by
  rcases h with ⟨rfl, rfl⟩ | ⟨rb, cap, l2, rfl, _, h3, h4, h5, h6⟩
  · exact Bs.nil w
  · exact (BB.bs ⟨h5, h4, h6⟩ h3)
theorem OwnB.extB {B : Nat} {T : TypeId} {w w' : World} {v : Value} {u : List UInt8} (h : OwnB B T w v u) (k : Ext w w') : OwnB B T w' v u := by
  rcases h with h | ⟨rb, cap, l2, h1, h2, h3, h4⟩
  · exact .inl h
  · exact .inr ⟨rb, cap, l2, h1, h2, k.heap_some h3, h4⟩
theorem OwnB.new {B b : Nat} {T : TypeId} {w w2 w3 : World} {v : Value} {u : List UInt8} (h : OwnB B T w v u) (k : Ext w w2) (m : Mod (· = b) w2 w3) (hb : w.heap.size ≤ b) : OwnB B T w3 v u := by
  rcases h with h | ⟨rb, cap, l2, h1, h2, h3, h4⟩
  · exact .inl h
  · exact .inr ⟨rb, cap, l2, h1, h2, m.heap_some (k.heap_some h3) (fun e => by have := lt_of_block h3; omega), h4⟩
theorem OwnB.oneB {B : Nat} {T : TypeId} {w : World} {v : Value} {u : List UInt8} (h : OwnB B T w v u) : v.oneCell' = true := by
  rcases h with ⟨rfl, _⟩ | ⟨rb, cap, l2, rfl, _⟩ <;> rfl
theorem Own.one' {B es m : Nat} {T : TypeId} {w : World} {v : Value} {xs : List Value} (h : Own B es T w v m xs) : v.oneCell' = true := by
  rcases h with ⟨rfl, _⟩ | ⟨b, cap, l, rfl, _⟩ <;> rfl
theorem hdr_one {k ve ln : Int} {dv sv tv gv : Value} {ph : Bool} {t : List UInt8} (hd : dv.oneCell' = true) (hs : sv.oneCell' = true) (ht : tv.oneCell' = true) (hg : gv.oneCell' = true) : ∀ u ∈ ([.int .i64 k, .int .i64 ve, dv, sv, tv, .int .i64 ln, .bool ph, gv] ++ hcells t : List Value), u.oneCell' = true := by
  intro u hu
  simp only [List.mem_append, List.mem_cons, List.not_mem_nil, or_false] at hu
  rcases hu with (rfl | rfl | rfl | rfl | rfl | rfl | rfl | rfl) | hu
  · rfl
  · rfl
  · exact hd
  · exact hs
  · exact ht
  · rfl
  · rfl
  · exact hg
  · exact hcells_one _ u hu
/-- the first byte, by its bits -/
theorem bits_5 {n : Nat} {ph : Bool} (hn : 1 ≤ n) (hn4 : n ≤ 4) : UInt8.ofNat (63 + n + if ph then 4 else 0) &&& 3 = UInt8.ofNat (n - 1) ∧ UInt8.ofNat (63 + n + if ph then 4 else 0) &&& 128 = 0 ∧ UInt8.ofNat (63 + n + if ph then 4 else 0) &&& 24 = 0 := by
  rcases (by omega : n = 1 ∨ n = 2 ∨ n = 3 ∨ n = 4) with rfl | rfl | rfl | rfl <;> cases ph <;> decide
theorem bits_l {k n : Nat} (hk : k ≤ 2) (hn : 1 ≤ n) (hn4 : n ≤ 4) : UInt8.ofNat (191 + 16 * k + n) &&& 3 = UInt8.ofNat (n - 1) ∧ UInt8.ofNat (191 + 16 * k + n) &&& 128 = 128 ∧ UInt8.ofNat (191 + 16 * k + n) &&& 12 = 0 := by
  rcases (by omega : k = 0 ∨ k = 1 ∨ k = 2) with rfl | rfl | rfl <;> rcases (by omega : n = 1 ∨ n = 2 ∨ n = 3 ∨ n = 4) with rfl | rfl | rfl | rfl <;> decide
/-- the lowest bytes -/
theorem low_and {low n : Nat} (hlow : low < 18446744073709551616) (hn : 1 ≤ n) (hn4 : n ≤ 4) : IntKind.u64.wrap ((BitVec.ofInt IntKind.u64.bits (low : Int) &&& BitVec.ofInt IntKind.u64.bits ((2 ^ (8 * n) - 1 : Nat) : Int)).toNat : Int) = ((low % 256 ^ n : Nat) : Int) := by
  have h1 : (2 : Nat) ^ (8 * n) ≤ 2 ^ 32 := Nat.pow_le_pow_right (by omega) (by omega)
  have h2 : low &&& (2 ^ (8 * n) - 1) = low % 2 ^ (8 * n) := Nat.and_two_pow_sub_one_eq_mod _ _
  have h3 : (2 : Nat) ^ (8 * n) = 256 ^ n := by rw [Nat.pow_mul]
  have h4 : low % 2 ^ (8 * n) ≤ low := Nat.mod_le _ _
  rw [BitVec.toNat_and]
  simp only [IntKind.bits, BitVec.ofInt_natCast, BitVec.toNat_ofNat]
  rw [Nat.mod_eq_of_lt (show low < 2 ^ 64 by omega), Nat.mod_eq_of_lt (show 2 ^ (8 * n) - 1 < 2 ^ 64 by omega), h2, wrap_u64, Nat.mod_eq_of_lt (by omega), h3]
theorem shl8 {n : Nat} (hn4 : n ≤ 4) : (1 * 2 ^ (8 * n)) % 18446744073709551616 = 2 ^ (8 * n) := by
  rw [Nat.one_mul]
  have h1 : (2 : Nat) ^ (8 * n) ≤ 2 ^ 32 := Nat.pow_le_pow_right (by omega) (by omega)
  exact Nat.mod_eq_of_lt (by omega)
theorem sub8 {n : Nat} (hn4 : n ≤ 4) : (2 ^ (8 * n) + (18446744073709551616 - 1)) % 18446744073709551616 = 2 ^ (8 * n) - 1 := by
  have h1 : (2 : Nat) ^ (8 * n) ≤ 2 ^ 32 := Nat.pow_le_pow_right (by omega) (by omega)
  have h2 : 1 ≤ (2 : Nat) ^ (8 * n) := Nat.pow_pos (by decide)
  generalize (2 : Nat) ^ (8 * n) = m at h1 h2 ⊢
  omega
theorem take_low {a z : List UInt8} {low n : Nat} : (((a ++ beB low n) ++ z).drop a.length).take n = beB low n := by
  rw [List.append_assoc, List.drop_left]
  have := List.take_left (l₁ := beB low n) (l₂ := z)
  rw [beB_len] at this; exact this
theorem s447 : ((strOf [68, 7, 5]).toList == (⟨#[68, 7, 5]⟩ : ByteArray).toList) = true := beq_self_eq_true _
end Go.Proofs.YtcenionnedgadaaDoor

namespace Go.Proofs.YtcenionnedgadaaDoor
open Go.Sym

theorem Fp.fn35 : isFn Tryd.prog 35 = true := by kernel_rfl
theorem Fp.ui3 : Tryd.prog.underlying 3 = some (.int .i64) := by kernel_rfl
theorem Fp.us5 : (Tryd.prog.underlying 5).isSome = true := by kernel_rfl
set_option maxRecDepth 100000 in
set_option maxHeartbeats 1000000 in
theorem number_short (x0 : UInt8) (q : Option Addr) (qc : Nat) (l : List UInt8) (p n : Nat) (hl : l.length ≤ 1099511627776) (hx : l[0]? = some x0) (hp1 : 1 ≤ p) (hpn : p + n ≤ l.length) (hn1 : 1 ≤ n) (hn4 : n ≤ 4) (h3 : x0 &&& 3 = UInt8.ofNat (n - 1)) (h128 : x0 &&& 128 = 0) (hm : x0 &&& 24 = 0) (w0 : World) (hb : Bs w0 (.slice q l.length qc) l) : Calls Tryd.prog 17 #[.slice q l.length qc, .int .i64 (p : Int)] w0 fun e w' => e = .returned (.tuple #[.int .u64 (beN ((l.drop p).take n) : Int), .int .i64 (n : Int), .bool true, .int .i64 0]) ∧ Ext w0 w' := by
  refine enter Tryd.func17 rfl rfl rfl ?_
  intro a hS
  have hH := Hp.start w0 (Nobody)
  obtain ⟨ba, bo, hq⟩ := hb.f.addr (by omega)
  subst hq
  refine c_seq ?_
  refine reg_plain w0 (Nobody) ?_
  refine r_assign hS hH.kp0 rfl rfl ?_; clear hS; intro a hS
  refine r_assign hS hH.kp0 rfl rfl ?_; clear hS; intro a hS
  refine r_assign hS hH.kp0 rfl rfl ?_; clear hS; intro a hS
  refine r_assign hS hH.kp0 rfl rfl ?_; clear hS; intro a hS
  refine Sq.nil ?_
  refine then_n ?_
  refine c_seq ?_
  refine c_seq ?_
  refine reg_plain w0 (Nobody) ?_
  refine r_move hS hH.kp0 rfl rfl ?_; clear hS; intro a hS
  refine r_lss hS hH.kp0 rfl rfl rfl ?_; clear hS; intro a hS
  refine r_move hS hH.kp0 rfl rfl ?_; clear hS; intro a hS
  first
    | (refine Sq.guardYes hS rfl rfl (by first | rfl | exact DT (by omega) | exact DF (by omega) | exact beq_iff_eq.2 (by omega) | exact beq_false_of_ne (by omega) | exact bne_iff_ne.2 (by omega) | exact bne_eq_false_iff_eq.2 (by omega) | assumption | exact beq_self_eq_true _ | exact congrArg not (beq_self_eq_true _)) ?_; refine r_move hS hH.kp0 rfl rfl ?_; clear hS; intro a hS)
    | (refine Sq.guardNo hS rfl rfl (by first | rfl | exact DT (by omega) | exact DF (by omega) | exact beq_iff_eq.2 (by omega) | exact beq_false_of_ne (by omega) | exact bne_iff_ne.2 (by omega) | exact bne_eq_false_iff_eq.2 (by omega) | assumption | exact beq_self_eq_true _ | exact congrArg not (beq_self_eq_true _)) hH.kp0 rfl ?_; clear hS; intro a hS)
    | (refine Sq.guardOff hS rfl rfl hH.kp0 rfl ?_; clear hS; intro a hS)
  first
    | (refine Sq.guardYes hS rfl rfl (by first | rfl | exact DT (by omega) | exact DF (by omega) | exact beq_iff_eq.2 (by omega) | exact beq_false_of_ne (by omega) | exact bne_iff_ne.2 (by omega) | exact bne_eq_false_iff_eq.2 (by omega) | assumption | exact beq_self_eq_true _ | exact congrArg not (beq_self_eq_true _)) ?_; refine r_move hS hH.kp0 rfl rfl ?_; clear hS; intro a hS)
    | (refine Sq.guardNo hS rfl rfl (by first | rfl | exact DT (by omega) | exact DF (by omega) | exact beq_iff_eq.2 (by omega) | exact beq_false_of_ne (by omega) | exact bne_iff_ne.2 (by omega) | exact bne_eq_false_iff_eq.2 (by omega) | assumption | exact beq_self_eq_true _ | exact congrArg not (beq_self_eq_true _)) hH.kp0 rfl ?_; clear hS; intro a hS)
    | (refine Sq.guardOff hS rfl rfl hH.kp0 rfl ?_; clear hS; intro a hS)
  first
    | (refine Sq.guardYes hS rfl rfl (by first | rfl | exact DT (by omega) | exact DF (by omega) | exact beq_iff_eq.2 (by omega) | exact beq_false_of_ne (by omega) | exact bne_iff_ne.2 (by omega) | exact bne_eq_false_iff_eq.2 (by omega) | assumption | exact beq_self_eq_true _ | exact congrArg not (beq_self_eq_true _)) ?_; refine r_lenSl hS hH.kp0 rfl Fp.isSlice22 rfl ?_; clear hS; intro a hS)
    | (refine Sq.guardNo hS rfl rfl (by first | rfl | exact DT (by omega) | exact DF (by omega) | exact beq_iff_eq.2 (by omega) | exact beq_false_of_ne (by omega) | exact bne_iff_ne.2 (by omega) | exact bne_eq_false_iff_eq.2 (by omega) | assumption | exact beq_self_eq_true _ | exact congrArg not (beq_self_eq_true _)) hH.kp0 rfl ?_; clear hS; intro a hS)
    | (refine Sq.guardOff hS rfl rfl hH.kp0 rfl ?_; clear hS; intro a hS)
  first
    | (refine Sq.guardYes hS rfl rfl (by first | rfl | exact DT (by omega) | exact DF (by omega) | exact beq_iff_eq.2 (by omega) | exact beq_false_of_ne (by omega) | exact bne_iff_ne.2 (by omega) | exact bne_eq_false_iff_eq.2 (by omega) | assumption | exact beq_self_eq_true _ | exact congrArg not (beq_self_eq_true _)) ?_; refine r_gtr hS hH.kp0 rfl rfl rfl ?_; clear hS; intro a hS)
    | (refine Sq.guardNo hS rfl rfl (by first | rfl | exact DT (by omega) | exact DF (by omega) | exact beq_iff_eq.2 (by omega) | exact beq_false_of_ne (by omega) | exact bne_iff_ne.2 (by omega) | exact bne_eq_false_iff_eq.2 (by omega) | assumption | exact beq_self_eq_true _ | exact congrArg not (beq_self_eq_true _)) hH.kp0 rfl ?_; clear hS; intro a hS)
    | (refine Sq.guardOff hS rfl rfl hH.kp0 rfl ?_; clear hS; intro a hS)
  first
    | (refine r_pickT hS hH.kp0 rfl (by first | rfl | exact DT (by omega) | exact DF (by omega) | exact beq_iff_eq.2 (by omega) | exact beq_false_of_ne (by omega) | exact bne_iff_ne.2 (by omega) | exact bne_eq_false_iff_eq.2 (by omega) | assumption | exact beq_self_eq_true _ | exact congrArg not (beq_self_eq_true _)) rfl rfl ?_; clear hS; intro a hS)
    | (refine r_pickF hS hH.kp0 rfl (by first | rfl | exact DT (by omega) | exact DF (by omega) | exact beq_iff_eq.2 (by omega) | exact beq_false_of_ne (by omega) | exact bne_iff_ne.2 (by omega) | exact bne_eq_false_iff_eq.2 (by omega) | assumption | exact beq_self_eq_true _ | exact congrArg not (beq_self_eq_true _)) rfl rfl ?_; clear hS; intro a hS)
  refine Sq.nil ?_
  refine then_n ?_
  refine c_condF hS rfl (by first | rfl | exact DT (by omega) | exact DF (by omega) | exact beq_iff_eq.2 (by omega) | exact beq_false_of_ne (by omega) | exact bne_iff_ne.2 (by omega) | exact bne_eq_false_iff_eq.2 (by omega) | assumption | exact beq_self_eq_true _ | exact congrArg not (beq_self_eq_true _)) ?_
  refine wp_skip ?_
  refine then_n ?_
  refine c_seq ?_
  refine reg_plain w0 (Nobody) ?_
  refine r_move hS hH.kp0 rfl rfl ?_; clear hS; intro a hS
  refine r_indexAddrS (j := 0) hS hH.kp0 rfl rfl Fp.slb22 rfl (by omega) rfl ?_; clear hS; intro a hS
  refine r_load_cell (v := byteV x0) hS hH.kp0 rfl (by rw [Nat.mul_one]; exact hb.f.byte hH.mod hx) Fp.sc5 rfl ?_; clear hS; intro a hS
  refine r_andB (x0) 3 (UInt8.ofNat (n - 1)) hS hH.kp0 rfl rfl rfl h3 ?_; clear hS; intro a hS
  refine r_toI64 (n - 1) hS hH.kp0 rfl Fp.ui3 Fp.us5 rfl (by rw [toNat_ofNat (by omega)]) (by omega) ?_; clear hS; intro a hS
  (first | refine r_add hS hH.kp0 rfl rfl rfl (by omega) ?_ | refine r_addw hS hH.kp0 rfl rfl rfl ?_)
  clear hS; intro a hS
  rw [show (((n - 1 : Nat) : Int) + 1) = (n : Int) from by omega] at hS
  refine r_assign hS hH.kp0 rfl rfl ?_; clear hS; intro a hS
  refine Sq.nil ?_
  refine then_n ?_
  refine c_seq ?_
  refine reg_plain w0 (Nobody) ?_
  refine r_move hS hH.kp0 rfl rfl ?_; clear hS; intro a hS
  refine r_move hS hH.kp0 rfl rfl ?_; clear hS; intro a hS
  refine r_move hS hH.kp0 rfl rfl ?_; clear hS; intro a hS
  refine r_call (l := [.tmp 26, .tmp 27, .tmp 28]) hS rfl rfl Fp.fn35 rfl ?_
  refine Calls.mono (Get_c (some ⟨ba, bo, none⟩) qc l p n (by omega) ⟨hn1, by omega⟩ hl _ (hb.ext hH.mod)) ?_
  rintro e w1 ⟨x, y, z, rfl, hg, hE⟩
  obtain ⟨_, hx9, hy9, hz9⟩ := hg.resolve_right (fun h => by have := h.1; omega)
  subst hx9 hz9
  replace hH := hH.ext hE
  refine ⟨_, rfl, hH.kp0, ?_⟩
  clear hS; intro a hS
  refine r_move hS hH.kp0 rfl rfl ?_; clear hS; intro a hS
  refine r_extract hS hH.kp0 rfl rfl rfl ?_; clear hS; intro a hS
  refine r_extract hS hH.kp0 rfl rfl rfl ?_; clear hS; intro a hS
  refine r_extract hS hH.kp0 rfl rfl rfl ?_; clear hS; intro a hS
  refine r_assign hS hH.kp0 rfl rfl ?_; clear hS; intro a hS
  refine r_assign hS hH.kp0 rfl rfl ?_; clear hS; intro a hS
  refine r_assign hS hH.kp0 rfl rfl ?_; clear hS; intro a hS
  refine Sq.nil ?_
  refine then_n ?_
  refine c_seq ?_
  refine c_seq ?_
  refine reg_plain w0 (Nobody) ?_
  refine r_move hS hH.kp0 rfl rfl ?_; clear hS; intro a hS
  refine r_neq hS hH.kp0 rfl rfl rfl ?_; clear hS; intro a hS
  refine Sq.nil ?_
  refine then_n ?_
  refine c_condF hS rfl rfl ?_
  refine wp_skip ?_
  refine then_n ?_
  refine c_seq ?_
  refine reg_plain w0 (Nobody) ?_
  refine r_assign hS hH.kp0 rfl rfl ?_; clear hS; intro a hS
  refine Sq.nil ?_
  refine then_n ?_
  refine c_seq ?_
  refine c_seq ?_
  refine reg_plain w0 (Nobody) ?_
  refine r_move hS hH.kp0 rfl rfl ?_; clear hS; intro a hS
  refine r_indexAddrS (j := 0) hS hH.kp0 rfl rfl Fp.slb22 rfl (by omega) rfl ?_; clear hS; intro a hS
  refine r_load_cell (v := byteV x0) hS hH.kp0 rfl (by rw [Nat.mul_one]; exact hb.f.byte hH.mod hx) Fp.sc5 rfl ?_; clear hS; intro a hS
  refine r_andB (x0) 128 (0) hS hH.kp0 rfl rfl rfl h128 ?_; clear hS; intro a hS
  refine r_eql hS hH.kp0 rfl rfl rfl ?_; clear hS; intro a hS
  refine Sq.nil ?_
  refine then_n ?_
  refine c_condT hS rfl rfl ?_
  refine reg_plain w0 (Nobody) ?_
  refine r_assign hS hH.kp0 rfl rfl ?_; clear hS; intro a hS
  refine Sq.nil ?_
  refine then_n ?_
  refine c_seq ?_
  refine reg_draw [(true, 0, []), (true, 1, []), (true, 2, []), (true, 3, []), (true, 4, []), (true, 5, []), (true, 6, []), (true, 7, []), (true, 8, []), (true, 9, []), (true, 10, []), (true, 11, [])] Fc.mixed (by kernel_rfl) (by kernel_rfl) (by kernel_rfl) (by kernel_rfl) (by kernel_rfl) (by repeat (first | with_reducible exact steady_body | with_reducible apply steady_block | with_reducible apply steady_then | with_reducible apply steady_scope | exact steady_body)) hH ?_
  replace hH := hH.drew
  refine r_move hS trivial rfl rfl ?_; clear hS; intro a hS
  refine r_move hS trivial rfl rfl ?_; clear hS; intro a hS
  refine r_move hS trivial rfl rfl ?_; clear hS; intro a hS
  refine r_indexAddrS (j := 0) hS trivial rfl rfl Fp.slb22 rfl (by omega) rfl ?_; clear hS; intro a hS
  refine r_load_cellS (v := byteV x0) hS rfl (fun w1 hk1 => by rw [Nat.mul_one]; exact hb.f.byte hk1.2 hx) Fp.sc5 rfl ?_; clear hS; intro a hS
  refine r_move hS trivial rfl rfl ?_; clear hS; intro a hS
  refine r_andB (x0) 24 (0) hS trivial rfl rfl rfl hm ?_; clear hS; intro a hS
  refine r_eql hS trivial rfl rfl rfl ?_; clear hS; intro a hS
  refine r_assign hS trivial rfl rfl ?_; clear hS; intro a hS
  refine r_assign hS trivial rfl rfl ?_; clear hS; intro a hS
  refine r_assign hS trivial rfl rfl ?_; clear hS; intro a hS
  refine r_assign hS trivial rfl rfl ?_; clear hS; intro a hS
  refine Sq.nil ?_
  refine then_n ?_
  refine wp_ret ?_
  exact leave (.inl rfl) hS rfl (Res.tmp rfl (Res.tmp rfl (Res.tmp rfl (Res.tmp rfl Res.nil)))) ⟨rfl, hH.mod⟩

set_option maxRecDepth 100000 in
set_option maxHeartbeats 1000000 in
theorem number_long (x0 : UInt8) (q : Option Addr) (qc : Nat) (l : List UInt8) (p n : Nat) (hl : l.length ≤ 1099511627776) (hx : l[0]? = some x0) (hp1 : 1 ≤ p) (hpn : p + n ≤ l.length) (hn1 : 1 ≤ n) (hn4 : n ≤ 4) (h3 : x0 &&& 3 = UInt8.ofNat (n - 1)) (h128 : x0 &&& 128 = 128) (hm : x0 &&& 12 = 0) (w0 : World) (hb : Bs w0 (.slice q l.length qc) l) : Calls Tryd.prog 17 #[.slice q l.length qc, .int .i64 (p : Int)] w0 fun e w' => e = .returned (.tuple #[.int .u64 (beN ((l.drop p).take n) : Int), .int .i64 (n : Int), .bool true, .int .i64 0]) ∧ Ext w0 w' := by
  refine enter Tryd.func17 rfl rfl rfl ?_
  intro a hS
  have hH := Hp.start w0 (Nobody)
  obtain ⟨ba, bo, hq⟩ := hb.f.addr (by omega)
  subst hq
  refine c_seq ?_
  refine reg_plain w0 (Nobody) ?_
  refine r_assign hS hH.kp0 rfl rfl ?_; clear hS; intro a hS
  refine r_assign hS hH.kp0 rfl rfl ?_; clear hS; intro a hS
  refine r_assign hS hH.kp0 rfl rfl ?_; clear hS; intro a hS
  refine r_assign hS hH.kp0 rfl rfl ?_; clear hS; intro a hS
  refine Sq.nil ?_
  refine then_n ?_
  refine c_seq ?_
  refine c_seq ?_
  refine reg_plain w0 (Nobody) ?_
  refine r_move hS hH.kp0 rfl rfl ?_; clear hS; intro a hS
  refine r_lss hS hH.kp0 rfl rfl rfl ?_; clear hS; intro a hS
  refine r_move hS hH.kp0 rfl rfl ?_; clear hS; intro a hS
  first
    | (refine Sq.guardYes hS rfl rfl (by first | rfl | exact DT (by omega) | exact DF (by omega) | exact beq_iff_eq.2 (by omega) | exact beq_false_of_ne (by omega) | exact bne_iff_ne.2 (by omega) | exact bne_eq_false_iff_eq.2 (by omega) | assumption | exact beq_self_eq_true _ | exact congrArg not (beq_self_eq_true _)) ?_; refine r_move hS hH.kp0 rfl rfl ?_; clear hS; intro a hS)
    | (refine Sq.guardNo hS rfl rfl (by first | rfl | exact DT (by omega) | exact DF (by omega) | exact beq_iff_eq.2 (by omega) | exact beq_false_of_ne (by omega) | exact bne_iff_ne.2 (by omega) | exact bne_eq_false_iff_eq.2 (by omega) | assumption | exact beq_self_eq_true _ | exact congrArg not (beq_self_eq_true _)) hH.kp0 rfl ?_; clear hS; intro a hS)
    | (refine Sq.guardOff hS rfl rfl hH.kp0 rfl ?_; clear hS; intro a hS)
  first
    | (refine Sq.guardYes hS rfl rfl (by first | rfl | exact DT (by omega) | exact DF (by omega) | exact beq_iff_eq.2 (by omega) | exact beq_false_of_ne (by omega) | exact bne_iff_ne.2 (by omega) | exact bne_eq_false_iff_eq.2 (by omega) | assumption | exact beq_self_eq_true _ | exact congrArg not (beq_self_eq_true _)) ?_; refine r_move hS hH.kp0 rfl rfl ?_; clear hS; intro a hS)
    | (refine Sq.guardNo hS rfl rfl (by first | rfl | exact DT (by omega) | exact DF (by omega) | exact beq_iff_eq.2 (by omega) | exact beq_false_of_ne (by omega) | exact bne_iff_ne.2 (by omega) | exact bne_eq_false_iff_eq.2 (by omega) | assumption | exact beq_self_eq_true _ | exact congrArg not (beq_self_eq_true _)) hH.kp0 rfl ?_; clear hS; intro a hS)
    | (refine Sq.guardOff hS rfl rfl hH.kp0 rfl ?_; clear hS; intro a hS)
  first
    | (refine Sq.guardYes hS rfl rfl (by first | rfl | exact DT (by omega) | exact DF (by omega) | exact beq_iff_eq.2 (by omega) | exact beq_false_of_ne (by omega) | exact bne_iff_ne.2 (by omega) | exact bne_eq_false_iff_eq.2 (by omega) | assumption | exact beq_self_eq_true _ | exact congrArg not (beq_self_eq_true _)) ?_; refine r_lenSl hS hH.kp0 rfl Fp.isSlice22 rfl ?_; clear hS; intro a hS)
    | (refine Sq.guardNo hS rfl rfl (by first | rfl | exact DT (by omega) | exact DF (by omega) | exact beq_iff_eq.2 (by omega) | exact beq_false_of_ne (by omega) | exact bne_iff_ne.2 (by omega) | exact bne_eq_false_iff_eq.2 (by omega) | assumption | exact beq_self_eq_true _ | exact congrArg not (beq_self_eq_true _)) hH.kp0 rfl ?_; clear hS; intro a hS)
    | (refine Sq.guardOff hS rfl rfl hH.kp0 rfl ?_; clear hS; intro a hS)
  first
    | (refine Sq.guardYes hS rfl rfl (by first | rfl | exact DT (by omega) | exact DF (by omega) | exact beq_iff_eq.2 (by omega) | exact beq_false_of_ne (by omega) | exact bne_iff_ne.2 (by omega) | exact bne_eq_false_iff_eq.2 (by omega) | assumption | exact beq_self_eq_true _ | exact congrArg not (beq_self_eq_true _)) ?_; refine r_gtr hS hH.kp0 rfl rfl rfl ?_; clear hS; intro a hS)
    | (refine Sq.guardNo hS rfl rfl (by first | rfl | exact DT (by omega) | exact DF (by omega) | exact beq_iff_eq.2 (by omega) | exact beq_false_of_ne (by omega) | exact bne_iff_ne.2 (by omega) | exact bne_eq_false_iff_eq.2 (by omega) | assumption | exact beq_self_eq_true _ | exact congrArg not (beq_self_eq_true _)) hH.kp0 rfl ?_; clear hS; intro a hS)
    | (refine Sq.guardOff hS rfl rfl hH.kp0 rfl ?_; clear hS; intro a hS)
  first
    | (refine r_pickT hS hH.kp0 rfl (by first | rfl | exact DT (by omega) | exact DF (by omega) | exact beq_iff_eq.2 (by omega) | exact beq_false_of_ne (by omega) | exact bne_iff_ne.2 (by omega) | exact bne_eq_false_iff_eq.2 (by omega) | assumption | exact beq_self_eq_true _ | exact congrArg not (beq_self_eq_true _)) rfl rfl ?_; clear hS; intro a hS)
    | (refine r_pickF hS hH.kp0 rfl (by first | rfl | exact DT (by omega) | exact DF (by omega) | exact beq_iff_eq.2 (by omega) | exact beq_false_of_ne (by omega) | exact bne_iff_ne.2 (by omega) | exact bne_eq_false_iff_eq.2 (by omega) | assumption | exact beq_self_eq_true _ | exact congrArg not (beq_self_eq_true _)) rfl rfl ?_; clear hS; intro a hS)
  refine Sq.nil ?_
  refine then_n ?_
  refine c_condF hS rfl (by first | rfl | exact DT (by omega) | exact DF (by omega) | exact beq_iff_eq.2 (by omega) | exact beq_false_of_ne (by omega) | exact bne_iff_ne.2 (by omega) | exact bne_eq_false_iff_eq.2 (by omega) | assumption | exact beq_self_eq_true _ | exact congrArg not (beq_self_eq_true _)) ?_
  refine wp_skip ?_
  refine then_n ?_
  refine c_seq ?_
  refine reg_plain w0 (Nobody) ?_
  refine r_move hS hH.kp0 rfl rfl ?_; clear hS; intro a hS
  refine r_indexAddrS (j := 0) hS hH.kp0 rfl rfl Fp.slb22 rfl (by omega) rfl ?_; clear hS; intro a hS
  refine r_load_cell (v := byteV x0) hS hH.kp0 rfl (by rw [Nat.mul_one]; exact hb.f.byte hH.mod hx) Fp.sc5 rfl ?_; clear hS; intro a hS
  refine r_andB (x0) 3 (UInt8.ofNat (n - 1)) hS hH.kp0 rfl rfl rfl h3 ?_; clear hS; intro a hS
  refine r_toI64 (n - 1) hS hH.kp0 rfl Fp.ui3 Fp.us5 rfl (by rw [toNat_ofNat (by omega)]) (by omega) ?_; clear hS; intro a hS
  (first | refine r_add hS hH.kp0 rfl rfl rfl (by omega) ?_ | refine r_addw hS hH.kp0 rfl rfl rfl ?_)
  clear hS; intro a hS
  rw [show (((n - 1 : Nat) : Int) + 1) = (n : Int) from by omega] at hS
  refine r_assign hS hH.kp0 rfl rfl ?_; clear hS; intro a hS
  refine Sq.nil ?_
  refine then_n ?_
  refine c_seq ?_
  refine reg_plain w0 (Nobody) ?_
  refine r_move hS hH.kp0 rfl rfl ?_; clear hS; intro a hS
  refine r_move hS hH.kp0 rfl rfl ?_; clear hS; intro a hS
  refine r_move hS hH.kp0 rfl rfl ?_; clear hS; intro a hS
  refine r_call (l := [.tmp 26, .tmp 27, .tmp 28]) hS rfl rfl Fp.fn35 rfl ?_
  refine Calls.mono (Get_c (some ⟨ba, bo, none⟩) qc l p n (by omega) ⟨hn1, by omega⟩ hl _ (hb.ext hH.mod)) ?_
  rintro e w1 ⟨x, y, z, rfl, hg, hE⟩
  obtain ⟨_, hx9, hy9, hz9⟩ := hg.resolve_right (fun h => by have := h.1; omega)
  subst hx9 hz9
  replace hH := hH.ext hE
  refine ⟨_, rfl, hH.kp0, ?_⟩
  clear hS; intro a hS
  refine r_move hS hH.kp0 rfl rfl ?_; clear hS; intro a hS
  refine r_extract hS hH.kp0 rfl rfl rfl ?_; clear hS; intro a hS
  refine r_extract hS hH.kp0 rfl rfl rfl ?_; clear hS; intro a hS
  refine r_extract hS hH.kp0 rfl rfl rfl ?_; clear hS; intro a hS
  refine r_assign hS hH.kp0 rfl rfl ?_; clear hS; intro a hS
  refine r_assign hS hH.kp0 rfl rfl ?_; clear hS; intro a hS
  refine r_assign hS hH.kp0 rfl rfl ?_; clear hS; intro a hS
  refine Sq.nil ?_
  refine then_n ?_
  refine c_seq ?_
  refine c_seq ?_
  refine reg_plain w0 (Nobody) ?_
  refine r_move hS hH.kp0 rfl rfl ?_; clear hS; intro a hS
  refine r_neq hS hH.kp0 rfl rfl rfl ?_; clear hS; intro a hS
  refine Sq.nil ?_
  refine then_n ?_
  refine c_condF hS rfl rfl ?_
  refine wp_skip ?_
  refine then_n ?_
  refine c_seq ?_
  refine reg_plain w0 (Nobody) ?_
  refine r_assign hS hH.kp0 rfl rfl ?_; clear hS; intro a hS
  refine Sq.nil ?_
  refine then_n ?_
  refine c_seq ?_
  refine c_seq ?_
  refine reg_plain w0 (Nobody) ?_
  refine r_move hS hH.kp0 rfl rfl ?_; clear hS; intro a hS
  refine r_indexAddrS (j := 0) hS hH.kp0 rfl rfl Fp.slb22 rfl (by omega) rfl ?_; clear hS; intro a hS
  refine r_load_cell (v := byteV x0) hS hH.kp0 rfl (by rw [Nat.mul_one]; exact hb.f.byte hH.mod hx) Fp.sc5 rfl ?_; clear hS; intro a hS
  refine r_andB (x0) 128 (128) hS hH.kp0 rfl rfl rfl h128 ?_; clear hS; intro a hS
  refine r_eql hS hH.kp0 rfl rfl rfl ?_; clear hS; intro a hS
  refine Sq.nil ?_
  refine then_n ?_
  refine c_condF hS rfl rfl ?_
  refine wp_skip ?_
  refine then_n ?_
  refine c_seq ?_
  refine reg_draw [(true, 0, []), (true, 1, []), (true, 2, []), (true, 3, []), (true, 4, []), (true, 5, []), (true, 6, []), (true, 7, []), (true, 8, []), (true, 9, []), (true, 10, []), (true, 11, [])] Fc.mixed (by kernel_rfl) (by kernel_rfl) (by kernel_rfl) (by kernel_rfl) (by kernel_rfl) (by repeat (first | with_reducible exact steady_body | with_reducible apply steady_block | with_reducible apply steady_then | with_reducible apply steady_scope | exact steady_body)) hH ?_
  replace hH := hH.drew
  refine r_move hS trivial rfl rfl ?_; clear hS; intro a hS
  refine r_move hS trivial rfl rfl ?_; clear hS; intro a hS
  refine r_move hS trivial rfl rfl ?_; clear hS; intro a hS
  refine r_indexAddrS (j := 0) hS trivial rfl rfl Fp.slb22 rfl (by omega) rfl ?_; clear hS; intro a hS
  refine r_load_cellS (v := byteV x0) hS rfl (fun w1 hk1 => by rw [Nat.mul_one]; exact hb.f.byte hk1.2 hx) Fp.sc5 rfl ?_; clear hS; intro a hS
  refine r_move hS trivial rfl rfl ?_; clear hS; intro a hS
  refine r_andB (x0) 12 (0) hS trivial rfl rfl rfl hm ?_; clear hS; intro a hS
  refine r_eql hS trivial rfl rfl rfl ?_; clear hS; intro a hS
  refine r_assign hS trivial rfl rfl ?_; clear hS; intro a hS
  refine r_assign hS trivial rfl rfl ?_; clear hS; intro a hS
  refine r_assign hS trivial rfl rfl ?_; clear hS; intro a hS
  refine r_assign hS trivial rfl rfl ?_; clear hS; intro a hS
  refine Sq.nil ?_
  refine then_n ?_
  refine wp_ret ?_
  exact leave (.inl rfl) hS rfl (Res.tmp rfl (Res.tmp rfl (Res.tmp rfl (Res.tmp rfl Res.nil)))) ⟨rfl, hH.mod⟩

end Go.Proofs.YtcenionnedgadaaDoor
