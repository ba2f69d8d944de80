/- HeaderSplits: any datagram is cut into the packets that the document says. Conditions: those of the given row (arguments of at most 1048576 values and letters; the listed variables hold what the text lays). Part HeaderWhole: walks and lemmas of the proof. -/
import Derived.Test.YtcenionnedgadaaDoorHeader6
namespace Go.Proofs.YtcenionnedgadaaDoor
open Go.Sym

theorem pieces_get (cb : Nat) : ∀ (ls : List (List UInt8)) (o k : Nat) (p : List UInt8), ls[k]? = some p → (pieces cb o ls)[k]? = some (.slice (some ⟨cb, o + (ls.take k).flatten.length, none⟩) p.length p.length)
  | [], _, k, p, h => by cases k <;> cases h
  | q :: qs, o, 0, p, h => by simp at h; subst h; simp [pieces]
  | q :: qs, o, k + 1, p, h => by
    have := pieces_get cb qs (o + q.length) k p (by simpa using h)
    simp only [pieces, List.getElem?_cons_succ, this, List.take_succ_cons, List.flatten_cons, List.length_append, Nat.add_assoc]
theorem flat_part : ∀ (ls : List (List UInt8)) (k : Nat) (p : List UInt8), ls[k]? = some p → (ls.take k).flatten.length + p.length ≤ ls.flatten.length ∧ (ls.flatten.drop (ls.take k).flatten.length).take p.length = p ∧ (ls.take (k + 1)).flatten = (ls.take k).flatten ++ p
  | [], k, p, h => by cases k <;> cases h
  | q :: qs, 0, p, h => by simp at h; subst h; simp
  | q :: qs, k + 1, p, h => by
    obtain ⟨h1, h2, h3⟩ := flat_part qs k p (by simpa using h)
    refine ⟨by simp only [List.take_succ_cons, List.flatten_cons, List.length_append]; omega, ?_, ?_⟩
    · simp only [List.take_succ_cons, List.flatten_cons, List.length_append]
      rw [List.drop_append, List.drop_of_length_le (by omega), List.nil_append, Nat.add_sub_cancel_left]
      exact h2
    · simp only [List.take_succ_cons, List.flatten_cons, h3, List.append_assoc]
theorem one_piece {ids : Int} {ls : List (List UInt8)} {x : UInt8} (h : SplitR ids [x] ls) : ls.length = 1 := by
  have hf := h.flat
  cases ls with
  | nil => simp at hf
  | cons p ps =>
    have h1 := hf.2 p (by simp)
    have h2 := congrArg List.length hf.1
    simp at h2
    cases ps with
    | nil => rfl
    | cons q qs =>
      have h3 := hf.2 q (by simp)
      simp at h2
      omega

theorem Fc.bsl22_1 : bslB Tryd.prog 22 1 = some (5, 1, [.int .u8 0]) := by kernel_rfl
theorem Fc.fn9 : isFn Tryd.prog 9 = true := by kernel_rfl
theorem Fc.isSlice32 : isSlice Tryd.prog 32 = true := by kernel_rfl
theorem Fc.isStr9 : isStr Tryd.prog 9 = true := by kernel_rfl
theorem Fc.slb32 : slB Tryd.prog 32 = some 1 := by kernel_rfl
theorem Fc.u8s22 : u8s Tryd.prog 22 = true := by kernel_rfl
set_option maxRecDepth 100000 in
set_option maxHeartbeats 4000000 in
theorem whole_some (q : Option Addr) (qc : Nat) (l : List UInt8) (hl : l.length ≤ 1048576) (ids : Int) (h1 : 0 < l.length) (w0 : World) (WT : TypeId) (WF : Nat × Nat) (hw0 : w0.heap[0]? = some (.cells [.int .i64 6, .int .i64 14, .int .i64 30, .int .i64 62].toArray WT WF)) (hb : Bs w0 (.slice q l.length qc) l) : Calls Tryd.prog 5 #[.slice q l.length qc, .int .i64 ids] w0 fun e w' => e = .returned (.bool true) ∧ Ext w0 w' := by
  refine enter Tryd.func5 rfl rfl rfl ?_
  intro a hS
  have hH := Hp.start w0 (Nobody)
  obtain ⟨ba, bo, hq⟩ := hb.f.addr h1
  subst hq
  obtain ⟨q, hqq⟩ : ∃ z : Addr, z = ⟨ba, bo, none⟩ := ⟨_, rfl⟩
  rw [← hqq] at hb hS
  have hlt0 := lt_of_block hw0
  replace hH := hH.know hw0 (fun p hp => by simp at hp)
  refine c_seq ?_
  refine reg_plain w0 (Nobody) ?_
  refine r_assign hS hH.kp0 rfl rfl ?_; clear hS; intro a hS
  refine Sq.nil ?_
  refine then_n ?_
  refine c_seq ?_
  refine reg_plain w0 (Nobody) ?_
  refine r_move hS hH.kp0 rfl rfl ?_; clear hS; intro a hS
  refine r_move hS hH.kp0 rfl rfl ?_; clear hS; intro a hS
  refine r_call (l := [.tmp 8, .tmp 9]) hS rfl rfl Fc.fn9 rfl ?_
  refine Calls.mono (Split_some q qc l (by omega) h1 ids _ WT WF (hH.get (b := 0) (by repeat (first | exact In.here | refine In.there ?_))) (hb.ext hH.mod)) ?_
  rintro e w1 ⟨u, cb, cap, l2, ls, rfl, hsp, hO, hcb, hcbk, hcap, hl2, htk2, hE⟩
  obtain ⟨hfl, hpos⟩ := hsp.flat
  have hls0 : 0 < ls.length := by rcases ls with _ | ⟨p, ps⟩; (simp at hfl; subst hfl; cases h1); simp
  obtain ⟨ob, c9, l9, hu, hob0, hbo, hl9, hm9, htk9⟩ := hO.resolve_left (fun h => by have := h.2.1; omega)
  subst hu
  have hlsn := flat_len ls hpos
  rw [hfl] at hlsn
  have hl_0 := Hp.ltm (b := 0) hH (by simp)
  replace hH := ((hH.ext hE).know hcbk (fun z hz e => by simp at hz; subst hz; simp only at e; omega)).know hbo (fun z hz e => by simp only [List.mem_cons, List.not_mem_nil, or_false] at hz; rcases hz with rfl | rfl <;> first | (simp only at e; omega) | (simp only at e; exact own_ne22 hcbk hbo e))
  refine ⟨_, rfl, hH.kp0, ?_⟩
  clear hS; intro a hS
  refine r_assign hS hH.kp0 rfl rfl ?_; clear hS; intro a hS
  refine Sq.nil ?_
  refine then_n ?_
  refine c_seq ?_
  refine reg_plain w0 (Nobody) ?_
  refine r_assign hS hH.kp0 rfl rfl ?_; clear hS; intro a hS
  refine Sq.nil ?_
  refine then_n ?_
  refine c_seq ?_
  refine c_seq ?_
  rw [show (Value.string { data := #[] }) = Value.string (strOf (ls.take 0).flatten) from rfl] at hS
  refine reg_plain w0 (Nobody) ?_
  refine r_assign hS hH.kp0 rfl rfl ?_; clear hS; intro a hS
  refine Sq.nil ?_
  refine then_n ?_
  refine wp_block ?_
  refine c_loop (fun m a w => ∃ (k : Nat) (i : Int), m + k = ls.length ∧ i = k ∧ St 40 (lv [(0, .slice (some q) l.length qc), (5, .slice (some ⟨ob, 0, none⟩) ls.length c9), (6, .string (strOf (ls.take k).flatten)), (7, .int .i64 i)]) a ∧ Hp w0 Nobody [(ob, .cells l9.toArray 22 (0, 0)), (cb, .cells l2.toArray 5 (0, 0)), (0, .cells [.int .i64 6, .int .i64 14, .int .i64 30, .int .i64 62].toArray WT WF)] w) (ls.length) ?_ ?_
  · exact ⟨0, _, rfl, rfl, hS.live ⟨rfl, rfl, rfl, rfl, trivial⟩, hH⟩
  clear hS hH; intro m a w hI; obtain ⟨k, i, hmk, hi, hS, hH⟩ := hI
  refine c_seq ?_
  refine c_seq ?_
  refine reg_plain w0 (Nobody) ?_
  refine r_move hS hH.kp0 rfl rfl ?_; clear hS; intro a hS
  refine r_move hS hH.kp0 rfl rfl ?_; clear hS; intro a hS
  refine r_lenSl hS hH.kp0 rfl Fc.isSlice32 rfl ?_; clear hS; intro a hS
  refine r_lss hS hH.kp0 rfl rfl rfl ?_; clear hS; intro a hS
  refine Sq.nil ?_
  refine then_n ?_
  refine c_cond hS rfl (fun hc0 => ?_) (fun hc0 => ?_)
  · have hlt := of_decide_eq_true hc0
    have hk : k < ls.length := by omega
    obtain ⟨p, hp⟩ : ∃ p, ls[k]? = some p := ⟨_, List.getElem?_eq_getElem hk⟩
    have hpp := pieces_get cb ls 0 k p hp
    obtain ⟨hf1, hf2, hf3⟩ := flat_part ls k p hp
    rw [hfl] at hf1 hf2
    have hpl := hpos p (List.mem_of_getElem? hp)
    have hpk : l9[k]? = some (.slice (some ⟨cb, 0 + (ls.take k).flatten.length, none⟩) p.length p.length) := by rw [← htk9, List.getElem?_take] at hpp; rw [if_pos (by omega)] at hpp; exact hpp
    refine wp_skip ?_
    refine then_n ?_
    refine c_seq ?_
    refine wp_block ?_
    refine c_seq ?_
    refine c_seq ?_
    refine reg_plain w0 (Nobody) ?_
    refine r_move hS hH.kp0 rfl rfl ?_; clear hS; intro a hS
    refine r_move hS hH.kp0 rfl rfl ?_; clear hS; intro a hS
    refine r_indexAddrS (j := k) hS hH.kp0 rfl rfl Fc.slb32 hi (by omega) rfl ?_; clear hS; intro a hS
    refine r_load_sc (v := .slice (some ⟨cb, 0 + (ls.take k).flatten.length, none⟩) p.length p.length) hS hH (by repeat (first | exact Sub.nil | refine Sub.cons ?_ ?_ | exact In.here | refine In.there ?_)) rfl (by repeat (first | exact In.here | refine In.there ?_)) Fc.sc22 (by rw [Nat.zero_add, Nat.mul_one, nthV_eq]; exact hpk) rfl ?_; clear hS; intro a hS
    refine r_lenSl hS hH.kp0 rfl Fc.isSlice22 rfl ?_; clear hS; intro a hS
    refine r_eql hS hH.kp0 rfl rfl rfl ?_; clear hS; intro a hS
    refine Sq.nil ?_
    refine then_n ?_
    refine c_condF hS rfl (beq_false_of_ne (by omega)) ?_
    refine wp_skip ?_
    refine then_n ?_
    refine reg_plain w0 (Nobody) ?_
    refine r_move hS hH.kp0 rfl rfl ?_; clear hS; intro a hS
    refine r_move hS hH.kp0 rfl rfl ?_; clear hS; intro a hS
    refine r_move hS hH.kp0 rfl rfl ?_; clear hS; intro a hS
    refine r_indexAddrS (j := k) hS hH.kp0 rfl rfl Fc.slb32 hi (by omega) rfl ?_; clear hS; intro a hS
    refine r_load_sc (v := .slice (some ⟨cb, 0 + (ls.take k).flatten.length, none⟩) p.length p.length) hS hH (by repeat (first | exact Sub.nil | refine Sub.cons ?_ ?_ | exact In.here | refine In.there ?_)) rfl (by repeat (first | exact In.here | refine In.there ?_)) Fc.sc22 (by rw [Nat.zero_add, Nat.mul_one, nthV_eq]; exact hpk) rfl ?_; clear hS; intro a hS
    refine r_bytesStr (l := p) hS hH.kp0 rfl (by have h := bs_drop (o := (ls.take k).flatten.length) (hH.get (b := cb) (by repeat (first | exact In.here | refine In.there ?_))) htk2 (by omega) p.length hf1 (c := p.length) (Nat.le_refl _); rw [hf2] at h; rw [Nat.zero_add]; exact h) Fc.u8s22 Fc.isStr9 rfl ?_; clear hS; intro a hS
    refine r_strAdd (u := (ls.take k).flatten) (v := p) hS hH.kp0 rfl rfl rfl (by omega) ?_; clear hS; intro a hS
    rw [← hf3] at hS
    refine r_assign hS hH.kp0 rfl rfl ?_; clear hS; intro a hS
    refine Sq.nil ?_
    refine blk_n ?_
    refine then_n ?_
    refine reg_plain w0 (Nobody) ?_
    refine r_move hS hH.kp0 rfl rfl ?_; clear hS; intro a hS
    first | refine r_add hS hH.kp0 rfl rfl rfl (by omega) ?_ | refine r_addw hS hH.kp0 rfl rfl rfl ?_
    clear hS; intro a hS
    refine r_assign hS hH.kp0 rfl rfl ?_; clear hS; intro a hS
    refine Sq.nil ?_
    refine then_n ?_
    refine ⟨m - 1, by omega, k + 1, _, by omega, ?_, hS.live ⟨rfl, rfl, rfl, rfl, trivial⟩, hH⟩
    omega
  · have hge := of_decide_eq_false hc0
    have hke : k = ls.length := by omega
    subst hke
    rw [List.take_of_length_le (Nat.le_refl _), hfl] at hS
    refine wp_exit ?_
    refine then_e ?_
    refine then_e ?_
    refine blk_hit ?_
    refine then_n ?_
    refine c_seq ?_
    refine reg_plain w0 (Nobody) ?_
    refine r_move hS hH.kp0 rfl rfl ?_; clear hS; intro a hS
    refine r_move hS hH.kp0 rfl rfl ?_; clear hS; intro a hS
    refine r_bytesStr (l := l) hS hH.kp0 rfl (hb.ext hH.mod) Fc.u8s22 Fc.isStr9 rfl ?_; clear hS; intro a hS
    refine r_strEql hS hH.kp0 rfl rfl rfl ?_; clear hS; intro a hS
    refine r_move hS hH.kp0 rfl rfl ?_; clear hS; intro a hS
    refine Sq.guardYes hS rfl rfl (by simp) ?_
    refine r_buildSlice (parts := [(0, .const (.int .u8 1))]) hS hH (by repeat (first | exact Sub.nil | refine Sub.cons ?_ ?_ | exact In.here | refine In.there ?_)) rfl Fc.bsl22_1 (by rfl) rfl ?_
    clear hS hH; intro a w b35 hb35 hwb35 hS hH
    refine Sq.guardYes hS rfl rfl (by simp) ?_
    refine r_call (l := [.tmp 35, .const (.int .i64 0)]) hS rfl rfl Fc.fn9 rfl ?_
    refine Calls.mono ((by have hn := Split_some ⟨b35, 0, none⟩ 1 [1] (by decide) (by decide) 0 _ WT WF (hH.get (b := 0) (by repeat (first | exact In.here | refine In.there ?_))) (Bs.byte (hH.get (b := b35) (by repeat (first | exact In.here | refine In.there ?_)))); exact hn)) ?_
    rintro e w1 ⟨u2, cb2, cap2, l3, ls2, rfl, hsp2, hO2, _, _, _, _, _, hE⟩
    replace hH := hH.ext hE
    refine ⟨_, rfl, hH.kp0, ?_⟩
    clear hS; intro a hS
    have hls2 := one_piece hsp2
    obtain ⟨ob3, c93, l93, hu2, _⟩ := hO2.resolve_left (fun h => by have := h.2.1; omega)
    subst hu2
    refine Sq.guardYes hS rfl rfl (by simp) ?_
    refine r_lenSl hS hH.kp0 rfl Fc.isSlice32 rfl ?_; clear hS; intro a hS
    refine Sq.guardYes hS rfl rfl (by simp) ?_
    refine r_eql hS hH.kp0 rfl rfl rfl ?_; clear hS; intro a hS
    rw [show ((ls2.length : Int) == 1) = true from by rw [hls2]; rfl] at hS
    refine r_pickT hS hH.kp0 rfl (by simp) rfl rfl ?_; clear hS; intro a hS
    refine r_assign hS hH.kp0 rfl rfl ?_; clear hS; intro a hS
    refine Sq.nil ?_
    refine then_n ?_
    refine wp_ret ?_
    exact leave (.inl rfl) hS rfl (Res.tmp rfl Res.nil) ⟨rfl, hH.mod⟩

set_option maxRecDepth 100000 in
set_option maxHeartbeats 400000 in
theorem whole_nil (q : Option Addr) (qc : Nat) (ids : Int) (w0 : World) (WT : TypeId) (WF : Nat × Nat) (hw0 : w0.heap[0]? = some (.cells [.int .i64 6, .int .i64 14, .int .i64 30, .int .i64 62].toArray WT WF)) (hb : Bs w0 (.slice q 0 qc) []) : Calls Tryd.prog 5 #[.slice q 0 qc, .int .i64 ids] w0 fun e w' => e = .returned (.bool true) ∧ Ext w0 w' := by
  refine enter Tryd.func5 rfl rfl rfl ?_
  intro a hS
  have hH := Hp.start w0 (Nobody)
  have hlt0 := lt_of_block hw0
  replace hH := hH.know hw0 (fun p hp => by simp at hp)
  refine c_seq ?_
  refine reg_plain w0 (Nobody) ?_
  refine r_assign hS hH.kp0 rfl rfl ?_; clear hS; intro a hS
  refine Sq.nil ?_
  refine then_n ?_
  refine c_seq ?_
  refine reg_plain w0 (Nobody) ?_
  refine r_move hS hH.kp0 rfl rfl ?_; clear hS; intro a hS
  refine r_move hS hH.kp0 rfl rfl ?_; clear hS; intro a hS
  refine r_call (l := [.tmp 8, .tmp 9]) hS rfl rfl Fc.fn9 rfl ?_
  refine Calls.mono (Split_empty q qc ids _ (hb.ext hH.mod)) ?_
  rintro e w1 ⟨rfl, hE⟩
  replace hH := hH.ext hE
  refine ⟨_, rfl, hH.kp0, ?_⟩
  clear hS; intro a hS
  refine r_assign hS hH.kp0 rfl rfl ?_; clear hS; intro a hS
  refine Sq.nil ?_
  refine then_n ?_
  refine c_seq ?_
  refine reg_plain w0 (Nobody) ?_
  refine r_assign hS hH.kp0 rfl rfl ?_; clear hS; intro a hS
  refine Sq.nil ?_
  refine then_n ?_
  refine c_seq ?_
  refine c_seq ?_
  rw [show (Value.string { data := #[] }) = Value.string (strOf []) from rfl] at hS
  refine reg_plain w0 (Nobody) ?_
  refine r_assign hS hH.kp0 rfl rfl ?_; clear hS; intro a hS
  refine Sq.nil ?_
  refine then_n ?_
  refine wp_block ?_
  refine wp_loop_rounds 1 ?_
  refine rnd ?_
  refine c_seq ?_
  refine c_seq ?_
  refine reg_plain w0 (Nobody) ?_
  refine r_move hS hH.kp0 rfl rfl ?_; clear hS; intro a hS
  refine r_move hS hH.kp0 rfl rfl ?_; clear hS; intro a hS
  refine r_lenSl hS hH.kp0 rfl Fc.isSlice32 rfl ?_; clear hS; intro a hS
  refine r_lss hS hH.kp0 rfl rfl rfl ?_; clear hS; intro a hS
  refine Sq.nil ?_
  refine then_n ?_
  refine c_condF hS rfl rfl ?_
  refine wp_exit ?_
  refine then_e ?_
  refine then_e ?_
  refine blk_hit ?_
  refine then_n ?_
  refine c_seq ?_
  refine reg_plain w0 (Nobody) ?_
  refine r_move hS hH.kp0 rfl rfl ?_; clear hS; intro a hS
  refine r_move hS hH.kp0 rfl rfl ?_; clear hS; intro a hS
  refine r_bytesStr (l := []) hS hH.kp0 rfl (hb.ext hH.mod) Fc.u8s22 Fc.isStr9 rfl ?_; clear hS; intro a hS
  refine r_strEql hS hH.kp0 rfl rfl rfl ?_; clear hS; intro a hS
  refine r_move hS hH.kp0 rfl rfl ?_; clear hS; intro a hS
  refine Sq.guardYes hS rfl rfl (by simp) ?_
  refine r_buildSlice (parts := [(0, .const (.int .u8 1))]) hS hH (by repeat (first | exact Sub.nil | refine Sub.cons ?_ ?_ | exact In.here | refine In.there ?_)) rfl Fc.bsl22_1 (by rfl) rfl ?_
  clear hS hH; intro a w b35 hb35 hwb35 hS hH
  refine Sq.guardYes hS rfl rfl (by simp) ?_
  refine r_call (l := [.tmp 35, .const (.int .i64 0)]) hS rfl rfl Fc.fn9 rfl ?_
  refine Calls.mono ((by have hn := Split_some ⟨b35, 0, none⟩ 1 [1] (by decide) (by decide) 0 _ WT WF (hH.get (b := 0) (by repeat (first | exact In.here | refine In.there ?_))) (Bs.byte (hH.get (b := b35) (by repeat (first | exact In.here | refine In.there ?_)))); exact hn)) ?_
  rintro e w1 ⟨u2, cb2, cap2, l3, ls2, rfl, hsp2, hO2, _, _, _, _, _, hE⟩
  replace hH := hH.ext hE
  refine ⟨_, rfl, hH.kp0, ?_⟩
  clear hS; intro a hS
  have hls2 := one_piece hsp2
  obtain ⟨ob3, c93, l93, hu2, _⟩ := hO2.resolve_left (fun h => by have := h.2.1; omega)
  subst hu2
  refine Sq.guardYes hS rfl rfl (by simp) ?_
  refine r_lenSl hS hH.kp0 rfl Fc.isSlice32 rfl ?_; clear hS; intro a hS
  refine Sq.guardYes hS rfl rfl (by simp) ?_
  refine r_eql hS hH.kp0 rfl rfl rfl ?_; clear hS; intro a hS
  rw [show ((ls2.length : Int) == 1) = true from by rw [hls2]; rfl] at hS
  refine r_pickT hS hH.kp0 rfl (by simp) rfl rfl ?_; clear hS; intro a hS
  refine r_assign hS hH.kp0 rfl rfl ?_; clear hS; intro a hS
  refine Sq.nil ?_
  refine then_n ?_
  refine wp_ret ?_
  exact leave (.inl rfl) hS rfl (Res.tmp rfl Res.nil) ⟨rfl, hH.mod⟩


theorem whole_law (q : Option Addr) (qc : Nat) (l : List UInt8) (hl : l.length ≤ 1048576) (ids : Int) (w0 : World) (WT : TypeId) (WF : Nat × Nat) (hw0 : w0.heap[0]? = some (.cells [.int .i64 6, .int .i64 14, .int .i64 30, .int .i64 62].toArray WT WF)) (hb : Bs w0 (.slice q l.length qc) l) : Calls Tryd.prog 5 #[.slice q l.length qc, .int .i64 ids] w0 fun e w' => e = .returned (.bool true) ∧ Ext w0 w' := by
  cases l with
  | nil => exact whole_nil q qc ids w0 WT WF hw0 hb
  | cons x t => exact whole_some q qc (x :: t) hl ids (by simp) w0 WT WF hw0 hb

end Go.Proofs.YtcenionnedgadaaDoor
