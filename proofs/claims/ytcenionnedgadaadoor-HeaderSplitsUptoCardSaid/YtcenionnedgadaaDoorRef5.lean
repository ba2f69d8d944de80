/- HeaderSplits: any datagram is cut into the packets that the document says. Conditions: those of the given row (arguments of at most 1048576 values and letters; the listed variables hold what the text lays). Part Ref5: walks and lemmas of the proof. -/
import Derived.Test.YtcenionnedgadaaDoorRef4
namespace Go.Proofs.YtcenionnedgadaaDoor
open Go.Sym

def rpieces (ba bo qc : Nat) : Nat → List (List UInt8) → List Value
  | _, [] => []
  | o, p :: ps => .slice (some ⟨ba, bo + o, none⟩) p.length (qc - o) :: rpieces ba bo qc (o + p.length) ps
theorem rpieces_len (ba bo qc : Nat) : ∀ (ls : List (List UInt8)) (o : Nat), (rpieces ba bo qc o ls).length = ls.length
  | [], _ => rfl
  | p :: ps, o => by simp [rpieces, rpieces_len ba bo qc ps]
theorem rpieces_snoc (ba bo qc : Nat) : ∀ (ls : List (List UInt8)) (o : Nat) (p : List UInt8), rpieces ba bo qc o (ls ++ [p]) = rpieces ba bo qc o ls ++ [.slice (some ⟨ba, bo + (o + ls.flatten.length), none⟩) p.length (qc - (o + ls.flatten.length))]
  | [], o, p => by simp [rpieces]
  | q :: qs, o, p => by simp [rpieces, rpieces_snoc ba bo qc qs, Nat.add_assoc]
theorem rpieces_get (ba bo qc : Nat) : ∀ (ls : List (List UInt8)) (o k : Nat) (p : List UInt8), ls[k]? = some p → (rpieces ba bo qc o ls)[k]? = some (.slice (some ⟨ba, bo + (o + (ls.take k).flatten.length), none⟩) p.length (qc - (o + (ls.take k).flatten.length)))
  | [], o, k, p, h => by cases k <;> cases h
  | q :: qs, o, 0, p, h => by simp at h; subst h; simp [rpieces]
  | q :: qs, o, k + 1, p, h => by
    have := rpieces_get ba bo qc qs (o + q.length) k p (by simpa using h)
    simp only [rpieces, List.getElem?_cons_succ, this, List.take_succ_cons, List.flatten_cons, List.length_append, Nat.add_assoc]
theorem SplitR.det {ids : Int} {l : List UInt8} {a b : List (List UInt8)} (h : SplitR ids l a) (k : SplitR ids l b) : a = b := by
  induction h generalizing b with
  | nil =>
    cases k with
    | nil => rfl
    | cons _ _ h _ => exact absurd h (by simp)
  | cons l ls h1 _ ih =>
    cases k with
    | nil => exact absurd h1 (by simp)
    | cons _ ls' _ h2 => rw [ih h2]
theorem own_neHB {w : World} {a b : Nat} {c d : Array Value} (h1 : w.heap[a]? = some (.cells c 41 (0, 0))) (h2 : w.heap[b]? = some (.cells d 22 (0, 0))) : a ≠ b := by
  intro e
  rw [e, h2] at h1
  simp at h1

theorem Fc.fn24 : isFn Tryd.prog 24 = true := by kernel_rfl
set_option maxRecDepth 100000 in
set_option maxHeartbeats 400000 in
theorem splitR_empty (q : Option Addr) (qc : Nat) (ids : Int) (w0 : World) : Calls Tryd.prog 10 #[.slice q 0 qc, .int .i64 ids] w0 fun e w' => e = .returned (.slice none 0 0) ∧ Ext w0 w' := by
  refine enter Tryd.func10 rfl rfl rfl ?_
  intro a hS
  have hH := Hp.start w0 (Nobody)
  refine c_seq ?_
  refine reg_plain w0 (Nobody) ?_
  refine r_assign hS hH.kp0 rfl rfl ?_; clear hS; intro a hS
  refine Sq.nil ?_
  refine then_n ?_
  refine c_seq ?_
  refine reg_plain w0 (Nobody) ?_
  refine r_assign hS hH.kp0 rfl rfl ?_; clear hS; intro a hS
  refine Sq.nil ?_
  refine then_n ?_
  refine c_seq ?_
  refine wp_block ?_
  refine wp_loop_rounds 1 ?_
  refine rnd ?_
  refine c_seq ?_
  refine c_seq ?_
  refine reg_plain w0 (Nobody) ?_
  refine r_move hS hH.kp0 rfl rfl ?_; clear hS; intro a hS
  refine r_lenSl hS hH.kp0 rfl Fc.isSlice22 rfl ?_; clear hS; intro a hS
  refine r_gtr hS hH.kp0 rfl rfl rfl ?_; clear hS; intro a hS
  refine Sq.nil ?_
  refine then_n ?_
  refine c_condF hS rfl rfl ?_
  refine wp_exit ?_
  refine then_e ?_
  refine then_e ?_
  refine blk_hit ?_
  refine then_n ?_
  refine c_seq ?_
  refine reg_plain w0 (Nobody) ?_
  refine r_move hS hH.kp0 rfl rfl ?_; clear hS; intro a hS
  refine r_assign hS hH.kp0 rfl rfl ?_; clear hS; intro a hS
  refine Sq.nil ?_
  refine then_n ?_
  refine wp_ret ?_
  exact leave (.inl rfl) hS rfl (Res.tmp rfl Res.nil) ⟨rfl, hH.mod⟩

set_option maxRecDepth 100000 in
set_option maxHeartbeats 4000000 in
theorem splitR_c (ba bo qc : Nat) (l : List UInt8) (hl : l.length ≤ 1099511627776) (h1 : 0 < l.length) (ids : Int) (w0 : World) (hb : Bs w0 (.slice (some ⟨ba, bo, none⟩) l.length qc) l) : Calls Tryd.prog 10 #[.slice (some ⟨ba, bo, none⟩) l.length qc, .int .i64 ids] w0 fun e w' => ∃ (u : Value) (ls : List (List UInt8)), e = .returned u ∧ SplitR ids l ls ∧ Own w0.heap.size 1 22 w' u ls.length (rpieces ba bo qc 0 ls) ∧ Ext w0 w' := by
  refine enter Tryd.func10 rfl rfl rfl ?_
  intro a hS
  have hH := Hp.start w0 (Nobody)
  refine c_seq ?_
  refine reg_plain w0 (Nobody) ?_
  refine r_assign hS hH.kp0 rfl rfl ?_; clear hS; intro a hS
  refine Sq.nil ?_
  refine then_n ?_
  refine c_seq ?_
  refine reg_plain w0 (Nobody) ?_
  refine r_assign hS hH.kp0 rfl rfl ?_; clear hS; intro a hS
  refine Sq.nil ?_
  refine then_n ?_
  refine c_seq ?_
  refine wp_block ?_
  refine c_loop (fun m a w => ∃ (o : Nat) (u : Value) (ls : List (List UInt8)) (ra : Addr) (rc : Nat), m + o = l.length ∧ (o < l.length → ra = ⟨ba, bo + o, none⟩ ∧ rc = qc - o) ∧ (∀ tl, SplitR ids (l.drop o) tl → SplitR ids l (ls ++ tl)) ∧ ls.flatten.length = o ∧ Own w0.heap.size 1 22 w u ls.length (rpieces ba bo qc 0 ls) ∧ St 43 (lv [(0, .slice (some ra) (l.length - o) rc), (1, .int .i64 ids), (5, u)]) a ∧ Hp w0 Nobody [] w) (l.length) ?_ ?_
  · exact ⟨0, _, [], ⟨ba, bo, none⟩, qc, by omega, fun _ => ⟨rfl, rfl⟩, fun tl h => by simpa using h, rfl, Own.nil _ _ _ _, hS.live ⟨rfl, rfl, rfl, trivial⟩, hH⟩
  clear hS hH; intro m a w hI; obtain ⟨o, u, ls, ra, rc, hmo, hra, hAll, hfl, hO, hS, hH⟩ := hI
  refine c_seq ?_
  refine c_seq ?_
  refine reg_plain w0 (Nobody) ?_
  refine r_move hS hH.kp0 rfl rfl ?_; clear hS; intro a hS
  refine r_lenSl hS hH.kp0 rfl Fc.isSlice22 rfl ?_; clear hS; intro a hS
  refine r_gtr hS hH.kp0 rfl rfl rfl ?_; clear hS; intro a hS
  refine Sq.nil ?_
  refine then_n ?_
  refine c_cond hS rfl (fun hc0 => ?_) (fun hc0 => ?_)
  · have hgt := of_decide_eq_true hc0
    have holt : o < l.length := by omega
    obtain ⟨hra1, hrc1⟩ := hra holt
    subst hra1 hrc1
    have hrl : (l.drop o).length = l.length - o := by simp
    have hqle := hb.f.len
    refine wp_skip ?_
    refine then_n ?_
    refine wp_block ?_
    refine c_seq ?_
    refine reg_plain w0 (Nobody) ?_
    have hlsn : ls.length ≤ l.length := by have := split_short hAll hfl; omega
    rcases hO with ⟨rfl, hk0, hxs⟩ | ⟨ob, c9, l9, rfl, hob0, hbo, hl9, hm9, htk9⟩
    · refine r_move hS hH.kp0 rfl rfl ?_; clear hS; intro a hS
      refine r_lenSl hS hH.kp0 rfl Fc.isSlice22 rfl ?_; clear hS; intro a hS
      refine r_assign hS hH.kp0 rfl rfl ?_; clear hS; intro a hS
      refine Sq.nil ?_
      refine then_n ?_
      refine c_seq ?_
      refine reg_plain w0 (Nobody) ?_
      refine r_move hS hH.kp0 rfl rfl ?_; clear hS; intro a hS
      refine r_move hS hH.kp0 rfl rfl ?_; clear hS; intro a hS
      refine r_call (l := [.tmp 16, .tmp 17]) hS rfl rfl Fc.fn24 rfl ?_
      refine Calls.mono ((by have hn := ReadR_c (some ⟨ba, bo + o, none⟩) (qc - o) (l.drop o) (by simp; omega) ids _ (by have h := (hb.ext hH.mod).f.low (ll := o) rfl (by omega); have hqo : ¬ qc = o := (by omega); rw [if_neg hqo, Nat.mul_one] at h; rw [hrl]; exact h.bs); rw [hrl] at hn; exact hn)) ?_
      rintro e w1 ⟨cs, x, y, rfl, hrr, hE⟩
      obtain ⟨hcl, hco⟩ := hrr.len
      replace hH := hH.ext hE
      refine ⟨_, rfl, hH.kp0, ?_⟩
      clear hS; intro a hS
      refine r_move hS hH.kp0 rfl rfl ?_; clear hS; intro a hS
      refine r_extract hS hH.kp0 rfl rfl rfl ?_; clear hS; intro a hS
      refine r_extract hS hH.kp0 rfl rfl rfl ?_; clear hS; intro a hS
      refine r_extract hS hH.kp0 rfl rfl rfl ?_; clear hS; intro a hS
      refine r_alloc hS hH (by repeat (first | exact Sub.nil | refine Sub.cons ?_ ?_ | exact In.here | refine In.there ?_)) Fc.zc41 rfl ?_
      clear hS hH; intro a w bh hbh hwbh hS hH
      refine r_store_row (vs := cs) hS hH rfl rfl (by first | exact .here | exact .there .here | exact .there (.there .here) | exact .there (.there (.there .here)) | exact .there (.there (.there (.there .here))) | exact .there (.there (.there (.there (.there .here)))) | exact .there (.there (.there (.there (.there (.there .here))))) | exact .there (.there (.there (.there (.there (.there (.there .here)))))) | exact .there (.there (.there (.there (.there (.there (.there (.there .here))))))) | exact .there (.there (.there (.there (.there (.there (.there (.there (.there .here)))))))) | exact .there (.there (.there (.there (.there (.there (.there (.there (.there (.there .here))))))))) | exact .there (.there (.there (.there (.there (.there (.there (.there (.there (.there (.there .here)))))))))) | exact .there (.there (.there (.there (.there (.there (.there (.there (.there (.there (.there (.there .here))))))))))) | exact .there (.there (.there (.there (.there (.there (.there (.there (.there (.there (.there (.there (.there .here)))))))))))) | exact .there (.there (.there (.there (.there (.there (.there (.there (.there (.there (.there (.there (.there (.there .here))))))))))))) | exact .there (.there (.there (.there (.there (.there (.there (.there (.there (.there (.there (.there (.there (.there (.there .here))))))))))))))) (by repeat (first | exact Sub.nil | refine Sub.cons ?_ ?_ | exact In.here | refine In.there ?_)) (by rw [hcl]; exact Fc.sz41) hco (by rw [hcl]; rfl) (.inr (by assumption)) ?_; clear hH; intro w hH
      refine r_assign hS hH.kp0 rfl rfl ?_; clear hS; intro a hS
      refine r_assign hS hH.kp0 rfl rfl ?_; clear hS; intro a hS
      refine Sq.nil ?_
      refine then_n ?_
      refine c_seq ?_
      refine c_seq ?_
      refine reg_plain w0 (Nobody) ?_
      refine r_move hS hH.kp0 rfl rfl ?_; clear hS; intro a hS
      refine r_eql hS hH.kp0 rfl rfl rfl ?_; clear hS; intro a hS
      obtain ⟨hcu1, hcu2⟩ := cut_le ids (l := l.drop o) (by simp; omega)
      obtain ⟨N, hN⟩ : ∃ z, cutN (l.drop o) ids = z := ⟨_, rfl⟩
      rw [hN] at hcu1 hcu2
      rw [hrl] at hcu2
      have hcN := hN
      rcases hrq : readQ (l.drop o) ids with bd | ⟨hd, pp⟩
      all_goals rw [hrq] at hrr
      · unfold RdRes at hrr
        have hNv : N = l.length - o := by rw [← hN]; unfold cutN; rw [hrq]; simp
        have hy0 := hrr.2.2.2
        rw [← hrr.2.2.1] at hy0
        refine r_move hS hH.kp0 rfl rfl ?_; clear hS; intro a hS
        refine Sq.guardNo hS rfl rfl (by simpa using hy0) hH.kp0 rfl ?_; clear hS; intro a hS
        refine Sq.guardNo hS rfl rfl (by simpa using hy0) hH.kp0 rfl ?_; clear hS; intro a hS
        refine Sq.guardNo hS rfl rfl (by simpa using hy0) hH.kp0 rfl ?_; clear hS; intro a hS
        refine r_pickF hS hH.kp0 rfl (by simpa using hy0) rfl rfl ?_; clear hS; intro a hS
        refine Sq.nil ?_
        refine then_n ?_
        refine c_condF hS rfl rfl ?_
        refine wp_skip ?_
        refine then_n ?_
        refine c_seq ?_
        refine reg_plain w0 (Nobody) ?_
        refine r_move hS hH.kp0 rfl rfl ?_; clear hS; intro a hS
        refine r_move hS hH.kp0 rfl rfl ?_; clear hS; intro a hS
        refine r_move hS hH.kp0 rfl rfl ?_; clear hS; intro a hS
        refine r_slHi (hh := N) hS hH.kp0 rfl rfl Fc.slb22 (by omega) (by omega) (by intro q h; cases h; rfl) rfl ?_; clear hS; intro a hS
        refine r_buildSlice (parts := [(0, .tmp 36)]) hS hH (by repeat (first | exact Sub.nil | refine Sub.cons ?_ ?_ | exact In.here | refine In.there ?_)) rfl Fc.bsl32_1 (by rfl) rfl ?_
        clear hS hH; intro a w b41 hb41 hwb41 hS hH
        refine r_append_nil hS hH (by repeat (first | exact Sub.nil | refine Sub.cons ?_ ?_ | exact In.here | refine In.there ?_)) rfl rfl Fc.el32 Fc.ni32 (src_one (hH.get .here) rfl) (by decide) (by decide) rfl ?_
        clear hS hH; intro a w ob c9 l9 hob0 hob1 hl9 hm9 htk9 hE9 hS hH
        refine r_assign hS hH.kp0 rfl rfl ?_; clear hS; intro a hS
        refine Sq.nil ?_
        refine then_n ?_
        refine reg_plain w0 (Nobody) ?_
        refine r_move hS hH.kp0 rfl rfl ?_; clear hS; intro a hS
        refine r_move hS hH.kp0 rfl rfl ?_; clear hS; intro a hS
        refine r_slLo (ll := N) hS hH.kp0 rfl rfl Fc.slb22 (by omega) (by omega) rfl ?_; clear hS; intro a hS
        refine r_assign hS hH.kp0 rfl rfl ?_; clear hS; intro a hS
        refine Sq.nil ?_
        refine blk_n ?_
        refine then_n ?_
        have hHz := hH.front (b := ob) (by first | exact .here | exact .there .here | exact .there (.there .here) | exact .there (.there (.there .here)) | exact .there (.there (.there (.there .here))) | exact .there (.there (.there (.there (.there .here)))) | exact .there (.there (.there (.there (.there (.there .here))))) | exact .there (.there (.there (.there (.there (.there (.there .here)))))) | exact .there (.there (.there (.there (.there (.there (.there (.there .here))))))) | exact .there (.there (.there (.there (.there (.there (.there (.there (.there .here)))))))) | exact .there (.there (.there (.there (.there (.there (.there (.there (.there (.there .here))))))))) | exact .there (.there (.there (.there (.there (.there (.there (.there (.there (.there (.there .here)))))))))) | exact .there (.there (.there (.there (.there (.there (.there (.there (.there (.there (.there (.there .here))))))))))) | exact .there (.there (.there (.there (.there (.there (.there (.there (.there (.there (.there (.there (.there .here)))))))))))) | exact .there (.there (.there (.there (.there (.there (.there (.there (.there (.there (.there (.there (.there (.there .here))))))))))))) | exact .there (.there (.there (.there (.there (.there (.there (.there (.there (.there (.there (.there (.there (.there (.there .here)))))))))))))))
        have hNl : ((l.drop o).take N).length = N := by simp; omega
        refine ⟨m - N, by omega, o + N, (.slice (some ⟨ob, 0, none⟩) 1 c9), ls ++ [(l.drop o).take N], (if qc - o = N then ⟨ba, bo + o, none⟩ else ⟨ba, bo + o + N * 1, none⟩), qc - o - N, by omega, ?_, ?_, ?_, ?_, ?_, ?_⟩
        · intro hlt; rw [if_neg (by omega), Nat.mul_one, Nat.add_assoc]; exact ⟨rfl, by omega⟩
        · intro tl htl; rw [List.append_assoc]; refine hAll _ ?_; rw [← List.drop_drop] at htl; rw [← hcN] at htl ⊢; exact SplitR.cons _ _ (by simp; omega) htl
        · rw [List.flatten_append, List.length_append, hfl]; simp; omega
        · rw [rpieces_snoc, Nat.zero_add, hfl, hNl]
          have hls0 : ls = [] := List.eq_nil_of_length_eq_zero hk0
          subst hls0
          refine .inr ⟨ob, c9, l9, rfl, hob0, hHz.get .here, hl9, hm9, ?_⟩
          simpa [rpieces] using htk9
        · rw [show l.length - (o + N) = l.length - o - N from by omega]; exact hS.live ⟨rfl, rfl, rfl, trivial⟩
        · exact hHz.sub (by repeat (first | exact Sub.nil | refine Sub.cons ?_ ?_ | exact In.here | refine In.there ?_)) (by have nd := hHz.nd; simp only [List.map_cons, List.map_nil, List.nodup_cons] at nd ⊢; simp_all)
      · unfold RdRes at hrr
        obtain ⟨⟨dv, sv, tv, gv, hcs, _⟩, hx, hy⟩ := hrr
        subst hy hx
        have hc0k : cs[0]? = some (.int .i64 hd.kind) := by rw [hcs]; rfl
        have hc5k : cs[5]? = some (.int .i64 (hd.len : Int)) := by rw [hcs]; rfl
        refine r_move hS hH.kp0 rfl rfl ?_; clear hS; intro a hS
        refine Sq.guardYes hS rfl rfl rfl ?_
        refine r_fieldAddr hS hH.kp0 rfl Fc.fo41_0 rfl ?_; clear hS; intro a hS
        refine Sq.guardYes hS rfl rfl rfl ?_
        refine r_load_sc (v := .int .i64 hd.kind) hS hH (by repeat (first | exact Sub.nil | refine Sub.cons ?_ ?_ | exact In.here | refine In.there ?_)) rfl (by repeat (first | exact In.here | refine In.there ?_)) Fc.sc3 (by rw [nthV_eq]; exact hc0k) rfl ?_; clear hS; intro a hS
        by_cases hkd : hd.kind ≤ 2
        · have hNv : N = pp + hd.len := by rw [← hN]; unfold cutN; rw [hrq]; simp [hkd]
          refine Sq.guardYes hS rfl rfl rfl ?_
          refine r_leq hS hH.kp0 rfl rfl rfl ?_; clear hS; intro a hS
          refine r_pickT hS hH.kp0 rfl rfl rfl rfl ?_; clear hS; intro a hS
          refine Sq.nil ?_
          refine then_n ?_
          refine c_condT hS rfl (DT hkd) ?_
          refine reg_plain w0 (Nobody) ?_
          refine r_move hS hH.kp0 rfl rfl ?_; clear hS; intro a hS
          refine r_fieldAddr hS hH.kp0 rfl Fc.fo41_5 rfl ?_; clear hS; intro a hS
          refine r_load_sc (v := .int .i64 (hd.len : Int)) hS hH (by repeat (first | exact Sub.nil | refine Sub.cons ?_ ?_ | exact In.here | refine In.there ?_)) rfl (by repeat (first | exact In.here | refine In.there ?_)) Fc.sc3 (by rw [nthV_eq]; exact hc5k) rfl ?_; clear hS; intro a hS
          refine r_add hS hH.kp0 rfl rfl rfl (by omega) ?_; clear hS; intro a hS
          refine r_assign hS hH.kp0 rfl rfl ?_; clear hS; intro a hS
          refine Sq.nil ?_
          refine then_n ?_
          refine c_seq ?_
          refine reg_plain w0 (Nobody) ?_
          refine r_move hS hH.kp0 rfl rfl ?_; clear hS; intro a hS
          refine r_move hS hH.kp0 rfl rfl ?_; clear hS; intro a hS
          refine r_move hS hH.kp0 rfl rfl ?_; clear hS; intro a hS
          refine r_slHi (hh := N) hS hH.kp0 rfl rfl Fc.slb22 (by omega) (by omega) (by intro q h; cases h; rfl) rfl ?_; clear hS; intro a hS
          refine r_buildSlice (parts := [(0, .tmp 36)]) hS hH (by repeat (first | exact Sub.nil | refine Sub.cons ?_ ?_ | exact In.here | refine In.there ?_)) rfl Fc.bsl32_1 (by rfl) rfl ?_
          clear hS hH; intro a w b41 hb41 hwb41 hS hH
          refine r_append_nil hS hH (by repeat (first | exact Sub.nil | refine Sub.cons ?_ ?_ | exact In.here | refine In.there ?_)) rfl rfl Fc.el32 Fc.ni32 (src_one (hH.get .here) rfl) (by decide) (by decide) rfl ?_
          clear hS hH; intro a w ob c9 l9 hob0 hob1 hl9 hm9 htk9 hE9 hS hH
          refine r_assign hS hH.kp0 rfl rfl ?_; clear hS; intro a hS
          refine Sq.nil ?_
          refine then_n ?_
          refine reg_plain w0 (Nobody) ?_
          refine r_move hS hH.kp0 rfl rfl ?_; clear hS; intro a hS
          refine r_move hS hH.kp0 rfl rfl ?_; clear hS; intro a hS
          refine r_slLo (ll := N) hS hH.kp0 rfl rfl Fc.slb22 (by omega) (by omega) rfl ?_; clear hS; intro a hS
          refine r_assign hS hH.kp0 rfl rfl ?_; clear hS; intro a hS
          refine Sq.nil ?_
          refine blk_n ?_
          refine then_n ?_
          have hHz := hH.front (b := ob) (by first | exact .here | exact .there .here | exact .there (.there .here) | exact .there (.there (.there .here)) | exact .there (.there (.there (.there .here))) | exact .there (.there (.there (.there (.there .here)))) | exact .there (.there (.there (.there (.there (.there .here))))) | exact .there (.there (.there (.there (.there (.there (.there .here)))))) | exact .there (.there (.there (.there (.there (.there (.there (.there .here))))))) | exact .there (.there (.there (.there (.there (.there (.there (.there (.there .here)))))))) | exact .there (.there (.there (.there (.there (.there (.there (.there (.there (.there .here))))))))) | exact .there (.there (.there (.there (.there (.there (.there (.there (.there (.there (.there .here)))))))))) | exact .there (.there (.there (.there (.there (.there (.there (.there (.there (.there (.there (.there .here))))))))))) | exact .there (.there (.there (.there (.there (.there (.there (.there (.there (.there (.there (.there (.there .here)))))))))))) | exact .there (.there (.there (.there (.there (.there (.there (.there (.there (.there (.there (.there (.there (.there .here))))))))))))) | exact .there (.there (.there (.there (.there (.there (.there (.there (.there (.there (.there (.there (.there (.there (.there .here)))))))))))))))
          have hNl : ((l.drop o).take N).length = N := by simp; omega
          refine ⟨m - N, by omega, o + N, (.slice (some ⟨ob, 0, none⟩) 1 c9), ls ++ [(l.drop o).take N], (if qc - o = N then ⟨ba, bo + o, none⟩ else ⟨ba, bo + o + N * 1, none⟩), qc - o - N, by omega, ?_, ?_, ?_, ?_, ?_, ?_⟩
          · intro hlt; rw [if_neg (by omega), Nat.mul_one, Nat.add_assoc]; exact ⟨rfl, by omega⟩
          · intro tl htl; rw [List.append_assoc]; refine hAll _ ?_; rw [← List.drop_drop] at htl; rw [← hcN] at htl ⊢; exact SplitR.cons _ _ (by simp; omega) htl
          · rw [List.flatten_append, List.length_append, hfl]; simp; omega
          · rw [rpieces_snoc, Nat.zero_add, hfl, hNl]
            have hls0 : ls = [] := List.eq_nil_of_length_eq_zero hk0
            subst hls0
            refine .inr ⟨ob, c9, l9, rfl, hob0, hHz.get .here, hl9, hm9, ?_⟩
            simpa [rpieces] using htk9
          · rw [show l.length - (o + N) = l.length - o - N from by omega]; exact hS.live ⟨rfl, rfl, rfl, trivial⟩
          · exact hHz.sub (by repeat (first | exact Sub.nil | refine Sub.cons ?_ ?_ | exact In.here | refine In.there ?_)) (by have nd := hHz.nd; simp only [List.map_cons, List.map_nil, List.nodup_cons] at nd ⊢; simp_all)
        · have hNv : N = l.length - o := by rw [← hN]; unfold cutN; rw [hrq]; simp [hkd]
          refine Sq.guardYes hS rfl rfl rfl ?_
          refine r_leq hS hH.kp0 rfl rfl rfl ?_; clear hS; intro a hS
          refine r_pickT hS hH.kp0 rfl rfl rfl rfl ?_; clear hS; intro a hS
          refine Sq.nil ?_
          refine then_n ?_
          refine c_condF hS rfl (DF hkd) ?_
          refine wp_skip ?_
          refine then_n ?_
          refine c_seq ?_
          refine reg_plain w0 (Nobody) ?_
          refine r_move hS hH.kp0 rfl rfl ?_; clear hS; intro a hS
          refine r_move hS hH.kp0 rfl rfl ?_; clear hS; intro a hS
          refine r_move hS hH.kp0 rfl rfl ?_; clear hS; intro a hS
          refine r_slHi (hh := N) hS hH.kp0 rfl rfl Fc.slb22 (by omega) (by omega) (by intro q h; cases h; rfl) rfl ?_; clear hS; intro a hS
          refine r_buildSlice (parts := [(0, .tmp 36)]) hS hH (by repeat (first | exact Sub.nil | refine Sub.cons ?_ ?_ | exact In.here | refine In.there ?_)) rfl Fc.bsl32_1 (by rfl) rfl ?_
          clear hS hH; intro a w b41 hb41 hwb41 hS hH
          refine r_append_nil hS hH (by repeat (first | exact Sub.nil | refine Sub.cons ?_ ?_ | exact In.here | refine In.there ?_)) rfl rfl Fc.el32 Fc.ni32 (src_one (hH.get .here) rfl) (by decide) (by decide) rfl ?_
          clear hS hH; intro a w ob c9 l9 hob0 hob1 hl9 hm9 htk9 hE9 hS hH
          refine r_assign hS hH.kp0 rfl rfl ?_; clear hS; intro a hS
          refine Sq.nil ?_
          refine then_n ?_
          refine reg_plain w0 (Nobody) ?_
          refine r_move hS hH.kp0 rfl rfl ?_; clear hS; intro a hS
          refine r_move hS hH.kp0 rfl rfl ?_; clear hS; intro a hS
          refine r_slLo (ll := N) hS hH.kp0 rfl rfl Fc.slb22 (by omega) (by omega) rfl ?_; clear hS; intro a hS
          refine r_assign hS hH.kp0 rfl rfl ?_; clear hS; intro a hS
          refine Sq.nil ?_
          refine blk_n ?_
          refine then_n ?_
          have hHz := hH.front (b := ob) (by first | exact .here | exact .there .here | exact .there (.there .here) | exact .there (.there (.there .here)) | exact .there (.there (.there (.there .here))) | exact .there (.there (.there (.there (.there .here)))) | exact .there (.there (.there (.there (.there (.there .here))))) | exact .there (.there (.there (.there (.there (.there (.there .here)))))) | exact .there (.there (.there (.there (.there (.there (.there (.there .here))))))) | exact .there (.there (.there (.there (.there (.there (.there (.there (.there .here)))))))) | exact .there (.there (.there (.there (.there (.there (.there (.there (.there (.there .here))))))))) | exact .there (.there (.there (.there (.there (.there (.there (.there (.there (.there (.there .here)))))))))) | exact .there (.there (.there (.there (.there (.there (.there (.there (.there (.there (.there (.there .here))))))))))) | exact .there (.there (.there (.there (.there (.there (.there (.there (.there (.there (.there (.there (.there .here)))))))))))) | exact .there (.there (.there (.there (.there (.there (.there (.there (.there (.there (.there (.there (.there (.there .here))))))))))))) | exact .there (.there (.there (.there (.there (.there (.there (.there (.there (.there (.there (.there (.there (.there (.there .here)))))))))))))))
          have hNl : ((l.drop o).take N).length = N := by simp; omega
          refine ⟨m - N, by omega, o + N, (.slice (some ⟨ob, 0, none⟩) 1 c9), ls ++ [(l.drop o).take N], (if qc - o = N then ⟨ba, bo + o, none⟩ else ⟨ba, bo + o + N * 1, none⟩), qc - o - N, by omega, ?_, ?_, ?_, ?_, ?_, ?_⟩
          · intro hlt; rw [if_neg (by omega), Nat.mul_one, Nat.add_assoc]; exact ⟨rfl, by omega⟩
          · intro tl htl; rw [List.append_assoc]; refine hAll _ ?_; rw [← List.drop_drop] at htl; rw [← hcN] at htl ⊢; exact SplitR.cons _ _ (by simp; omega) htl
          · rw [List.flatten_append, List.length_append, hfl]; simp; omega
          · rw [rpieces_snoc, Nat.zero_add, hfl, hNl]
            have hls0 : ls = [] := List.eq_nil_of_length_eq_zero hk0
            subst hls0
            refine .inr ⟨ob, c9, l9, rfl, hob0, hHz.get .here, hl9, hm9, ?_⟩
            simpa [rpieces] using htk9
          · rw [show l.length - (o + N) = l.length - o - N from by omega]; exact hS.live ⟨rfl, rfl, rfl, trivial⟩
          · exact hHz.sub (by repeat (first | exact Sub.nil | refine Sub.cons ?_ ?_ | exact In.here | refine In.there ?_)) (by have nd := hHz.nd; simp only [List.map_cons, List.map_nil, List.nodup_cons] at nd ⊢; simp_all)
    · replace hH := hH.know hbo (fun z hz e => by simp at hz)
      refine r_move hS hH.kp0 rfl rfl ?_; clear hS; intro a hS
      refine r_lenSl hS hH.kp0 rfl Fc.isSlice22 rfl ?_; clear hS; intro a hS
      refine r_assign hS hH.kp0 rfl rfl ?_; clear hS; intro a hS
      refine Sq.nil ?_
      refine then_n ?_
      refine c_seq ?_
      refine reg_plain w0 (Nobody) ?_
      refine r_move hS hH.kp0 rfl rfl ?_; clear hS; intro a hS
      refine r_move hS hH.kp0 rfl rfl ?_; clear hS; intro a hS
      refine r_call (l := [.tmp 16, .tmp 17]) hS rfl rfl Fc.fn24 rfl ?_
      refine Calls.mono ((by have hn := ReadR_c (some ⟨ba, bo + o, none⟩) (qc - o) (l.drop o) (by simp; omega) ids _ (by have h := (hb.ext hH.mod).f.low (ll := o) rfl (by omega); have hqo : ¬ qc = o := (by omega); rw [if_neg hqo, Nat.mul_one] at h; rw [hrl]; exact h.bs); rw [hrl] at hn; exact hn)) ?_
      rintro e w1 ⟨cs, x, y, rfl, hrr, hE⟩
      obtain ⟨hcl, hco⟩ := hrr.len
      replace hH := hH.ext hE
      refine ⟨_, rfl, hH.kp0, ?_⟩
      clear hS; intro a hS
      refine r_move hS hH.kp0 rfl rfl ?_; clear hS; intro a hS
      refine r_extract hS hH.kp0 rfl rfl rfl ?_; clear hS; intro a hS
      refine r_extract hS hH.kp0 rfl rfl rfl ?_; clear hS; intro a hS
      refine r_extract hS hH.kp0 rfl rfl rfl ?_; clear hS; intro a hS
      refine r_alloc hS hH (by repeat (first | exact Sub.nil | refine Sub.cons ?_ ?_ | exact In.here | refine In.there ?_)) Fc.zc41 rfl ?_
      clear hS hH; intro a w bh hbh hwbh hS hH
      refine r_store_row (vs := cs) hS hH rfl rfl (by first | exact .here | exact .there .here | exact .there (.there .here) | exact .there (.there (.there .here)) | exact .there (.there (.there (.there .here))) | exact .there (.there (.there (.there (.there .here)))) | exact .there (.there (.there (.there (.there (.there .here))))) | exact .there (.there (.there (.there (.there (.there (.there .here)))))) | exact .there (.there (.there (.there (.there (.there (.there (.there .here))))))) | exact .there (.there (.there (.there (.there (.there (.there (.there (.there .here)))))))) | exact .there (.there (.there (.there (.there (.there (.there (.there (.there (.there .here))))))))) | exact .there (.there (.there (.there (.there (.there (.there (.there (.there (.there (.there .here)))))))))) | exact .there (.there (.there (.there (.there (.there (.there (.there (.there (.there (.there (.there .here))))))))))) | exact .there (.there (.there (.there (.there (.there (.there (.there (.there (.there (.there (.there (.there .here)))))))))))) | exact .there (.there (.there (.there (.there (.there (.there (.there (.there (.there (.there (.there (.there (.there .here))))))))))))) | exact .there (.there (.there (.there (.there (.there (.there (.there (.there (.there (.there (.there (.there (.there (.there .here))))))))))))))) (by repeat (first | exact Sub.nil | refine Sub.cons ?_ ?_ | exact In.here | refine In.there ?_)) (by rw [hcl]; exact Fc.sz41) hco (by rw [hcl]; rfl) (.inr (by assumption)) ?_; clear hH; intro w hH
      refine r_assign hS hH.kp0 rfl rfl ?_; clear hS; intro a hS
      refine r_assign hS hH.kp0 rfl rfl ?_; clear hS; intro a hS
      refine Sq.nil ?_
      refine then_n ?_
      refine c_seq ?_
      refine c_seq ?_
      refine reg_plain w0 (Nobody) ?_
      refine r_move hS hH.kp0 rfl rfl ?_; clear hS; intro a hS
      refine r_eql hS hH.kp0 rfl rfl rfl ?_; clear hS; intro a hS
      obtain ⟨hcu1, hcu2⟩ := cut_le ids (l := l.drop o) (by simp; omega)
      obtain ⟨N, hN⟩ : ∃ z, cutN (l.drop o) ids = z := ⟨_, rfl⟩
      rw [hN] at hcu1 hcu2
      rw [hrl] at hcu2
      have hcN := hN
      rcases hrq : readQ (l.drop o) ids with bd | ⟨hd, pp⟩
      all_goals rw [hrq] at hrr
      · unfold RdRes at hrr
        have hNv : N = l.length - o := by rw [← hN]; unfold cutN; rw [hrq]; simp
        have hy0 := hrr.2.2.2
        rw [← hrr.2.2.1] at hy0
        refine r_move hS hH.kp0 rfl rfl ?_; clear hS; intro a hS
        refine Sq.guardNo hS rfl rfl (by simpa using hy0) hH.kp0 rfl ?_; clear hS; intro a hS
        refine Sq.guardNo hS rfl rfl (by simpa using hy0) hH.kp0 rfl ?_; clear hS; intro a hS
        refine Sq.guardNo hS rfl rfl (by simpa using hy0) hH.kp0 rfl ?_; clear hS; intro a hS
        refine r_pickF hS hH.kp0 rfl (by simpa using hy0) rfl rfl ?_; clear hS; intro a hS
        refine Sq.nil ?_
        refine then_n ?_
        refine c_condF hS rfl rfl ?_
        refine wp_skip ?_
        refine then_n ?_
        refine c_seq ?_
        refine reg_plain w0 (Nobody) ?_
        refine r_move hS hH.kp0 rfl rfl ?_; clear hS; intro a hS
        refine r_move hS hH.kp0 rfl rfl ?_; clear hS; intro a hS
        refine r_move hS hH.kp0 rfl rfl ?_; clear hS; intro a hS
        refine r_slHi (hh := N) hS hH.kp0 rfl rfl Fc.slb22 (by omega) (by omega) (by intro q h; cases h; rfl) rfl ?_; clear hS; intro a hS
        refine r_buildSlice (parts := [(0, .tmp 36)]) hS hH (by repeat (first | exact Sub.nil | refine Sub.cons ?_ ?_ | exact In.here | refine In.there ?_)) rfl Fc.bsl32_1 (by rfl) rfl ?_
        clear hS hH; intro a w b41 hb41 hwb41 hS hH
        refine r_append_own2 hS hH rfl rfl (by first | exact .here | exact .there .here | exact .there (.there .here) | exact .there (.there (.there .here)) | exact .there (.there (.there (.there .here))) | exact .there (.there (.there (.there (.there .here)))) | exact .there (.there (.there (.there (.there (.there .here))))) | exact .there (.there (.there (.there (.there (.there (.there .here)))))) | exact .there (.there (.there (.there (.there (.there (.there (.there .here))))))) | exact .there (.there (.there (.there (.there (.there (.there (.there (.there .here)))))))) | exact .there (.there (.there (.there (.there (.there (.there (.there (.there (.there .here))))))))) | exact .there (.there (.there (.there (.there (.there (.there (.there (.there (.there (.there .here)))))))))) | exact .there (.there (.there (.there (.there (.there (.there (.there (.there (.there (.there (.there .here))))))))))) | exact .there (.there (.there (.there (.there (.there (.there (.there (.there (.there (.there (.there (.there .here)))))))))))) | exact .there (.there (.there (.there (.there (.there (.there (.there (.there (.there (.there (.there (.there (.there .here))))))))))))) | exact .there (.there (.there (.there (.there (.there (.there (.there (.there (.there (.there (.there (.there (.there (.there .here))))))))))))))) (by repeat (first | exact Sub.nil | refine Sub.cons ?_ ?_ | exact In.here | refine In.there ?_)) Fc.el32 Fc.ni32 hl9 hm9 (src_one (hH.get .here) rfl) (by have := hlsn; omega) hob0 rfl ?_
        clear hS hH; intro a w ob2 c10 l10 hob2 hl10 hm10 htk10 hmw10 hS hH
        refine r_assign hS hH.kp0 rfl rfl ?_; clear hS; intro a hS
        refine Sq.nil ?_
        refine then_n ?_
        refine reg_plain w0 (Nobody) ?_
        refine r_move hS hH.kp0 rfl rfl ?_; clear hS; intro a hS
        refine r_move hS hH.kp0 rfl rfl ?_; clear hS; intro a hS
        refine r_slLo (ll := N) hS hH.kp0 rfl rfl Fc.slb22 (by omega) (by omega) rfl ?_; clear hS; intro a hS
        refine r_assign hS hH.kp0 rfl rfl ?_; clear hS; intro a hS
        refine Sq.nil ?_
        refine blk_n ?_
        refine then_n ?_
        have hHz := hH.front (b := ob2) (by first | exact .here | exact .there .here | exact .there (.there .here) | exact .there (.there (.there .here)) | exact .there (.there (.there (.there .here))) | exact .there (.there (.there (.there (.there .here)))) | exact .there (.there (.there (.there (.there (.there .here))))) | exact .there (.there (.there (.there (.there (.there (.there .here)))))) | exact .there (.there (.there (.there (.there (.there (.there (.there .here))))))) | exact .there (.there (.there (.there (.there (.there (.there (.there (.there .here)))))))) | exact .there (.there (.there (.there (.there (.there (.there (.there (.there (.there .here))))))))) | exact .there (.there (.there (.there (.there (.there (.there (.there (.there (.there (.there .here)))))))))) | exact .there (.there (.there (.there (.there (.there (.there (.there (.there (.there (.there (.there .here))))))))))) | exact .there (.there (.there (.there (.there (.there (.there (.there (.there (.there (.there (.there (.there .here)))))))))))) | exact .there (.there (.there (.there (.there (.there (.there (.there (.there (.there (.there (.there (.there (.there .here))))))))))))) | exact .there (.there (.there (.there (.there (.there (.there (.there (.there (.there (.there (.there (.there (.there (.there .here)))))))))))))))
        have hNl : ((l.drop o).take N).length = N := by simp; omega
        refine ⟨m - N, by omega, o + N, (.slice (some ⟨ob2, 0, none⟩) (ls.length + 1) c10), ls ++ [(l.drop o).take N], (if qc - o = N then ⟨ba, bo + o, none⟩ else ⟨ba, bo + o + N * 1, none⟩), qc - o - N, by omega, ?_, ?_, ?_, ?_, ?_, ?_⟩
        · intro hlt; rw [if_neg (by omega), Nat.mul_one, Nat.add_assoc]; exact ⟨rfl, by omega⟩
        · intro tl htl; rw [List.append_assoc]; refine hAll _ ?_; rw [← List.drop_drop] at htl; rw [← hcN] at htl ⊢; exact SplitR.cons _ _ (by simp; omega) htl
        · rw [List.flatten_append, List.length_append, hfl]; simp; omega
        · rw [rpieces_snoc, Nat.zero_add, hfl, hNl]
          refine .inr ⟨ob2, c10, l10, ?_, hob2, hHz.get .here, hl10, by rw [List.length_append, List.length_singleton]; exact hm10, ?_⟩
          · rw [List.length_append, List.length_singleton]
          · rw [List.length_append, List.length_singleton, htk10, htk9]
        · rw [show l.length - (o + N) = l.length - o - N from by omega]; exact hS.live ⟨rfl, rfl, rfl, trivial⟩
        · exact hHz.sub (by repeat (first | exact Sub.nil | refine Sub.cons ?_ ?_ | exact In.here | refine In.there ?_)) (by have nd := hHz.nd; simp only [List.map_cons, List.map_nil, List.nodup_cons] at nd ⊢; simp_all)
      · unfold RdRes at hrr
        obtain ⟨⟨dv, sv, tv, gv, hcs, _⟩, hx, hy⟩ := hrr
        subst hy hx
        have hc0k : cs[0]? = some (.int .i64 hd.kind) := by rw [hcs]; rfl
        have hc5k : cs[5]? = some (.int .i64 (hd.len : Int)) := by rw [hcs]; rfl
        refine r_move hS hH.kp0 rfl rfl ?_; clear hS; intro a hS
        refine Sq.guardYes hS rfl rfl rfl ?_
        refine r_fieldAddr hS hH.kp0 rfl Fc.fo41_0 rfl ?_; clear hS; intro a hS
        refine Sq.guardYes hS rfl rfl rfl ?_
        refine r_load_sc (v := .int .i64 hd.kind) hS hH (by repeat (first | exact Sub.nil | refine Sub.cons ?_ ?_ | exact In.here | refine In.there ?_)) rfl (by repeat (first | exact In.here | refine In.there ?_)) Fc.sc3 (by rw [nthV_eq]; exact hc0k) rfl ?_; clear hS; intro a hS
        by_cases hkd : hd.kind ≤ 2
        · have hNv : N = pp + hd.len := by rw [← hN]; unfold cutN; rw [hrq]; simp [hkd]
          refine Sq.guardYes hS rfl rfl rfl ?_
          refine r_leq hS hH.kp0 rfl rfl rfl ?_; clear hS; intro a hS
          refine r_pickT hS hH.kp0 rfl rfl rfl rfl ?_; clear hS; intro a hS
          refine Sq.nil ?_
          refine then_n ?_
          refine c_condT hS rfl (DT hkd) ?_
          refine reg_plain w0 (Nobody) ?_
          refine r_move hS hH.kp0 rfl rfl ?_; clear hS; intro a hS
          refine r_fieldAddr hS hH.kp0 rfl Fc.fo41_5 rfl ?_; clear hS; intro a hS
          refine r_load_sc (v := .int .i64 (hd.len : Int)) hS hH (by repeat (first | exact Sub.nil | refine Sub.cons ?_ ?_ | exact In.here | refine In.there ?_)) rfl (by repeat (first | exact In.here | refine In.there ?_)) Fc.sc3 (by rw [nthV_eq]; exact hc5k) rfl ?_; clear hS; intro a hS
          refine r_add hS hH.kp0 rfl rfl rfl (by omega) ?_; clear hS; intro a hS
          refine r_assign hS hH.kp0 rfl rfl ?_; clear hS; intro a hS
          refine Sq.nil ?_
          refine then_n ?_
          refine c_seq ?_
          refine reg_plain w0 (Nobody) ?_
          refine r_move hS hH.kp0 rfl rfl ?_; clear hS; intro a hS
          refine r_move hS hH.kp0 rfl rfl ?_; clear hS; intro a hS
          refine r_move hS hH.kp0 rfl rfl ?_; clear hS; intro a hS
          refine r_slHi (hh := N) hS hH.kp0 rfl rfl Fc.slb22 (by omega) (by omega) (by intro q h; cases h; rfl) rfl ?_; clear hS; intro a hS
          refine r_buildSlice (parts := [(0, .tmp 36)]) hS hH (by repeat (first | exact Sub.nil | refine Sub.cons ?_ ?_ | exact In.here | refine In.there ?_)) rfl Fc.bsl32_1 (by rfl) rfl ?_
          clear hS hH; intro a w b41 hb41 hwb41 hS hH
          refine r_append_own2 hS hH rfl rfl (by first | exact .here | exact .there .here | exact .there (.there .here) | exact .there (.there (.there .here)) | exact .there (.there (.there (.there .here))) | exact .there (.there (.there (.there (.there .here)))) | exact .there (.there (.there (.there (.there (.there .here))))) | exact .there (.there (.there (.there (.there (.there (.there .here)))))) | exact .there (.there (.there (.there (.there (.there (.there (.there .here))))))) | exact .there (.there (.there (.there (.there (.there (.there (.there (.there .here)))))))) | exact .there (.there (.there (.there (.there (.there (.there (.there (.there (.there .here))))))))) | exact .there (.there (.there (.there (.there (.there (.there (.there (.there (.there (.there .here)))))))))) | exact .there (.there (.there (.there (.there (.there (.there (.there (.there (.there (.there (.there .here))))))))))) | exact .there (.there (.there (.there (.there (.there (.there (.there (.there (.there (.there (.there (.there .here)))))))))))) | exact .there (.there (.there (.there (.there (.there (.there (.there (.there (.there (.there (.there (.there (.there .here))))))))))))) | exact .there (.there (.there (.there (.there (.there (.there (.there (.there (.there (.there (.there (.there (.there (.there .here))))))))))))))) (by repeat (first | exact Sub.nil | refine Sub.cons ?_ ?_ | exact In.here | refine In.there ?_)) Fc.el32 Fc.ni32 hl9 hm9 (src_one (hH.get .here) rfl) (by have := hlsn; omega) hob0 rfl ?_
          clear hS hH; intro a w ob2 c10 l10 hob2 hl10 hm10 htk10 hmw10 hS hH
          refine r_assign hS hH.kp0 rfl rfl ?_; clear hS; intro a hS
          refine Sq.nil ?_
          refine then_n ?_
          refine reg_plain w0 (Nobody) ?_
          refine r_move hS hH.kp0 rfl rfl ?_; clear hS; intro a hS
          refine r_move hS hH.kp0 rfl rfl ?_; clear hS; intro a hS
          refine r_slLo (ll := N) hS hH.kp0 rfl rfl Fc.slb22 (by omega) (by omega) rfl ?_; clear hS; intro a hS
          refine r_assign hS hH.kp0 rfl rfl ?_; clear hS; intro a hS
          refine Sq.nil ?_
          refine blk_n ?_
          refine then_n ?_
          have hHz := hH.front (b := ob2) (by first | exact .here | exact .there .here | exact .there (.there .here) | exact .there (.there (.there .here)) | exact .there (.there (.there (.there .here))) | exact .there (.there (.there (.there (.there .here)))) | exact .there (.there (.there (.there (.there (.there .here))))) | exact .there (.there (.there (.there (.there (.there (.there .here)))))) | exact .there (.there (.there (.there (.there (.there (.there (.there .here))))))) | exact .there (.there (.there (.there (.there (.there (.there (.there (.there .here)))))))) | exact .there (.there (.there (.there (.there (.there (.there (.there (.there (.there .here))))))))) | exact .there (.there (.there (.there (.there (.there (.there (.there (.there (.there (.there .here)))))))))) | exact .there (.there (.there (.there (.there (.there (.there (.there (.there (.there (.there (.there .here))))))))))) | exact .there (.there (.there (.there (.there (.there (.there (.there (.there (.there (.there (.there (.there .here)))))))))))) | exact .there (.there (.there (.there (.there (.there (.there (.there (.there (.there (.there (.there (.there (.there .here))))))))))))) | exact .there (.there (.there (.there (.there (.there (.there (.there (.there (.there (.there (.there (.there (.there (.there .here)))))))))))))))
          have hNl : ((l.drop o).take N).length = N := by simp; omega
          refine ⟨m - N, by omega, o + N, (.slice (some ⟨ob2, 0, none⟩) (ls.length + 1) c10), ls ++ [(l.drop o).take N], (if qc - o = N then ⟨ba, bo + o, none⟩ else ⟨ba, bo + o + N * 1, none⟩), qc - o - N, by omega, ?_, ?_, ?_, ?_, ?_, ?_⟩
          · intro hlt; rw [if_neg (by omega), Nat.mul_one, Nat.add_assoc]; exact ⟨rfl, by omega⟩
          · intro tl htl; rw [List.append_assoc]; refine hAll _ ?_; rw [← List.drop_drop] at htl; rw [← hcN] at htl ⊢; exact SplitR.cons _ _ (by simp; omega) htl
          · rw [List.flatten_append, List.length_append, hfl]; simp; omega
          · rw [rpieces_snoc, Nat.zero_add, hfl, hNl]
            refine .inr ⟨ob2, c10, l10, ?_, hob2, hHz.get .here, hl10, by rw [List.length_append, List.length_singleton]; exact hm10, ?_⟩
            · rw [List.length_append, List.length_singleton]
            · rw [List.length_append, List.length_singleton, htk10, htk9]
          · rw [show l.length - (o + N) = l.length - o - N from by omega]; exact hS.live ⟨rfl, rfl, rfl, trivial⟩
          · exact hHz.sub (by repeat (first | exact Sub.nil | refine Sub.cons ?_ ?_ | exact In.here | refine In.there ?_)) (by have nd := hHz.nd; simp only [List.map_cons, List.map_nil, List.nodup_cons] at nd ⊢; simp_all)
        · have hNv : N = l.length - o := by rw [← hN]; unfold cutN; rw [hrq]; simp [hkd]
          refine Sq.guardYes hS rfl rfl rfl ?_
          refine r_leq hS hH.kp0 rfl rfl rfl ?_; clear hS; intro a hS
          refine r_pickT hS hH.kp0 rfl rfl rfl rfl ?_; clear hS; intro a hS
          refine Sq.nil ?_
          refine then_n ?_
          refine c_condF hS rfl (DF hkd) ?_
          refine wp_skip ?_
          refine then_n ?_
          refine c_seq ?_
          refine reg_plain w0 (Nobody) ?_
          refine r_move hS hH.kp0 rfl rfl ?_; clear hS; intro a hS
          refine r_move hS hH.kp0 rfl rfl ?_; clear hS; intro a hS
          refine r_move hS hH.kp0 rfl rfl ?_; clear hS; intro a hS
          refine r_slHi (hh := N) hS hH.kp0 rfl rfl Fc.slb22 (by omega) (by omega) (by intro q h; cases h; rfl) rfl ?_; clear hS; intro a hS
          refine r_buildSlice (parts := [(0, .tmp 36)]) hS hH (by repeat (first | exact Sub.nil | refine Sub.cons ?_ ?_ | exact In.here | refine In.there ?_)) rfl Fc.bsl32_1 (by rfl) rfl ?_
          clear hS hH; intro a w b41 hb41 hwb41 hS hH
          refine r_append_own2 hS hH rfl rfl (by first | exact .here | exact .there .here | exact .there (.there .here) | exact .there (.there (.there .here)) | exact .there (.there (.there (.there .here))) | exact .there (.there (.there (.there (.there .here)))) | exact .there (.there (.there (.there (.there (.there .here))))) | exact .there (.there (.there (.there (.there (.there (.there .here)))))) | exact .there (.there (.there (.there (.there (.there (.there (.there .here))))))) | exact .there (.there (.there (.there (.there (.there (.there (.there (.there .here)))))))) | exact .there (.there (.there (.there (.there (.there (.there (.there (.there (.there .here))))))))) | exact .there (.there (.there (.there (.there (.there (.there (.there (.there (.there (.there .here)))))))))) | exact .there (.there (.there (.there (.there (.there (.there (.there (.there (.there (.there (.there .here))))))))))) | exact .there (.there (.there (.there (.there (.there (.there (.there (.there (.there (.there (.there (.there .here)))))))))))) | exact .there (.there (.there (.there (.there (.there (.there (.there (.there (.there (.there (.there (.there (.there .here))))))))))))) | exact .there (.there (.there (.there (.there (.there (.there (.there (.there (.there (.there (.there (.there (.there (.there .here))))))))))))))) (by repeat (first | exact Sub.nil | refine Sub.cons ?_ ?_ | exact In.here | refine In.there ?_)) Fc.el32 Fc.ni32 hl9 hm9 (src_one (hH.get .here) rfl) (by have := hlsn; omega) hob0 rfl ?_
          clear hS hH; intro a w ob2 c10 l10 hob2 hl10 hm10 htk10 hmw10 hS hH
          refine r_assign hS hH.kp0 rfl rfl ?_; clear hS; intro a hS
          refine Sq.nil ?_
          refine then_n ?_
          refine reg_plain w0 (Nobody) ?_
          refine r_move hS hH.kp0 rfl rfl ?_; clear hS; intro a hS
          refine r_move hS hH.kp0 rfl rfl ?_; clear hS; intro a hS
          refine r_slLo (ll := N) hS hH.kp0 rfl rfl Fc.slb22 (by omega) (by omega) rfl ?_; clear hS; intro a hS
          refine r_assign hS hH.kp0 rfl rfl ?_; clear hS; intro a hS
          refine Sq.nil ?_
          refine blk_n ?_
          refine then_n ?_
          have hHz := hH.front (b := ob2) (by first | exact .here | exact .there .here | exact .there (.there .here) | exact .there (.there (.there .here)) | exact .there (.there (.there (.there .here))) | exact .there (.there (.there (.there (.there .here)))) | exact .there (.there (.there (.there (.there (.there .here))))) | exact .there (.there (.there (.there (.there (.there (.there .here)))))) | exact .there (.there (.there (.there (.there (.there (.there (.there .here))))))) | exact .there (.there (.there (.there (.there (.there (.there (.there (.there .here)))))))) | exact .there (.there (.there (.there (.there (.there (.there (.there (.there (.there .here))))))))) | exact .there (.there (.there (.there (.there (.there (.there (.there (.there (.there (.there .here)))))))))) | exact .there (.there (.there (.there (.there (.there (.there (.there (.there (.there (.there (.there .here))))))))))) | exact .there (.there (.there (.there (.there (.there (.there (.there (.there (.there (.there (.there (.there .here)))))))))))) | exact .there (.there (.there (.there (.there (.there (.there (.there (.there (.there (.there (.there (.there (.there .here))))))))))))) | exact .there (.there (.there (.there (.there (.there (.there (.there (.there (.there (.there (.there (.there (.there (.there .here)))))))))))))))
          have hNl : ((l.drop o).take N).length = N := by simp; omega
          refine ⟨m - N, by omega, o + N, (.slice (some ⟨ob2, 0, none⟩) (ls.length + 1) c10), ls ++ [(l.drop o).take N], (if qc - o = N then ⟨ba, bo + o, none⟩ else ⟨ba, bo + o + N * 1, none⟩), qc - o - N, by omega, ?_, ?_, ?_, ?_, ?_, ?_⟩
          · intro hlt; rw [if_neg (by omega), Nat.mul_one, Nat.add_assoc]; exact ⟨rfl, by omega⟩
          · intro tl htl; rw [List.append_assoc]; refine hAll _ ?_; rw [← List.drop_drop] at htl; rw [← hcN] at htl ⊢; exact SplitR.cons _ _ (by simp; omega) htl
          · rw [List.flatten_append, List.length_append, hfl]; simp; omega
          · rw [rpieces_snoc, Nat.zero_add, hfl, hNl]
            refine .inr ⟨ob2, c10, l10, ?_, hob2, hHz.get .here, hl10, by rw [List.length_append, List.length_singleton]; exact hm10, ?_⟩
            · rw [List.length_append, List.length_singleton]
            · rw [List.length_append, List.length_singleton, htk10, htk9]
          · rw [show l.length - (o + N) = l.length - o - N from by omega]; exact hS.live ⟨rfl, rfl, rfl, trivial⟩
          · exact hHz.sub (by repeat (first | exact Sub.nil | refine Sub.cons ?_ ?_ | exact In.here | refine In.there ?_)) (by have nd := hHz.nd; simp only [List.map_cons, List.map_nil, List.nodup_cons] at nd ⊢; simp_all)
  · have hgt := of_decide_eq_false hc0
    have hoe : o = l.length := by omega
    have hfin := hAll [] (by rw [List.drop_of_length_le (by omega)]; exact SplitR.nil)
    rw [List.append_nil] at hfin
    refine wp_exit ?_
    refine then_e ?_
    refine then_e ?_
    refine blk_hit ?_
    refine then_n ?_
    refine c_seq ?_
    refine reg_plain w0 (Nobody) ?_
    refine r_move hS hH.kp0 rfl rfl ?_; clear hS; intro a hS
    refine r_assign hS hH.kp0 rfl rfl ?_; clear hS; intro a hS
    refine Sq.nil ?_
    refine then_n ?_
    refine wp_ret ?_
    exact leave (.inl rfl) hS rfl (Res.tmp rfl Res.nil) ⟨_, ls, rfl, hfin, hO, hH.mod⟩

end Go.Proofs.YtcenionnedgadaaDoor
