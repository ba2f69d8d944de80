/- HeaderBack: a header that is put is read again, with the place and the lowest bytes of the number. Conditions: those of the given row (arguments of at most 1048576 values and letters; the listed variables hold what the text lays). Part Header5: walks and lemmas of the proof. -/
import Derived.Test.YtcenionnedgadaaDoorHeader4
namespace Go.Proofs.YtcenionnedgadaaDoor
open Go.Sym

theorem tag_len {l : List UInt8} {x0 : Nat} {ve : Int} {c : Cu} : (hlongC l x0 ve c).tag.length = 16 := by
  have hz : z16.length = 16 := rfl
  unfold hlongC
  split
  · split
    · unfold versC; split <;> exact hz
    · split
      · unfold knownC
        split
        · unfold retryC
          split
          · unfold retryC2
            show (if _ then _ else _ : List UInt8).length = 16
            split
            · assumption
            · exact hz
          · exact hz
        · split
          · unfold initC
            split <;> exact hz
          · exact hz
      · exact hz
  · exact hz
theorem own_ne {w : World} {a b : Nat} {c d : Array Value} (h1 : w.heap[a]? = some (.cells c 5 (0, 0))) (h2 : w.heap[b]? = some (.cells d 3 (0, 0))) : a ≠ b := by
  intro e
  rw [e, h2] at h1
  simp at h1

theorem Fc.fn21 : isFn Tryd.prog 21 = true := by kernel_rfl
theorem Fc.fn22 : isFn Tryd.prog 22 = true := by kernel_rfl
theorem Fc.fo26_3 : foff Tryd.prog 26 3 = some 3 := by kernel_rfl
set_option maxRecDepth 100000 in
set_option maxHeartbeats 8000000 in
theorem Read_long (q : Option Addr) (qc : Nat) (l : List UInt8) (hl : l.length ≤ 1099511627776) (ids : Int) (h0 : 0 ≤ ids) (h20 : ids ≤ 20) (x0 : UInt8) (hx0 : l[0]? = some x0) (h7 : x0.toNat.testBit 7 = true) (w0 : World) (WT : TypeId) (WF : Nat × Nat) (hw0 : w0.heap[0]? = some (.cells [.int .i64 6, .int .i64 14, .int .i64 30, .int .i64 62].toArray WT WF)) (hb : Bs w0 (.slice q l.length qc) l) : Calls Tryd.prog 8 #[.slice q l.length qc, .int .i64 ids] w0 fun e w' => ∃ (cs : List Value) (x y : Int), e = .returned (.tuple #[.agg cs.toArray, .int .i64 x, .int .i64 y]) ∧ RdRes w0.heap.size w' cs x y (readQ l ids) ∧ Ext w0 w' := by
  refine enter Tryd.func8 rfl rfl rfl ?_
  intro a hS
  have hH := Hp.start w0 (Nobody)
  have hlt0 := lt_of_block hw0
  replace hH := hH.know hw0 (fun p hp => by simp at hp)
  have h1 : 0 < l.length := (List.getElem?_eq_some_iff.1 hx0).1
  have hxl := x0.toNat_lt
  refine c_seq ?_
  refine reg_plain w0 (Nobody) ?_
  refine r_alloc hS hH (by repeat (first | exact Sub.nil | refine Sub.cons ?_ ?_ | exact In.here | refine In.there ?_)) Fc.zc26 rfl ?_
  clear hS hH; intro a w b4 hb4 hwb4 hS hH
  refine r_assign hS hH.kp0 rfl rfl ?_; clear hS; intro a hS
  refine r_assign hS hH.kp0 rfl rfl ?_; clear hS; intro a hS
  refine Sq.nil ?_
  refine then_n ?_
  refine c_seq ?_
  refine c_seq ?_
  refine reg_plain w0 (Nobody) ?_
  refine r_move hS hH.kp0 rfl rfl ?_; clear hS; intro a hS
  refine r_lss hS hH.kp0 rfl rfl rfl ?_; clear hS; intro a hS
  refine r_move hS hH.kp0 rfl rfl ?_; clear hS; intro a hS
  refine Sq.guardYes hS rfl rfl (DF (by omega)) ?_
  refine r_move hS hH.kp0 rfl rfl ?_; clear hS; intro a hS
  refine Sq.guardYes hS rfl rfl (DF (by omega)) ?_
  refine r_gtr hS hH.kp0 rfl rfl rfl ?_; clear hS; intro a hS
  refine r_pickF hS hH.kp0 rfl (DF (by omega)) rfl rfl ?_; clear hS; intro a hS
  refine Sq.nil ?_
  refine then_n ?_
  refine c_condF hS rfl (DF (by omega)) ?_
  refine wp_skip ?_
  refine then_n ?_
  refine c_seq ?_
  refine reg_plain w0 (Nobody) ?_
  refine r_move hS hH.kp0 rfl rfl ?_; clear hS; intro a hS
  refine r_buildS (parts := [(0, .tmp 16)]) hS hH.kp0 rfl rfl Fc.zc50 Fc.pl50 (by rfl) ?_; clear hS; intro a hS
  have hltb := Hp.ltm (b := b4) hH (by simp)
  refine r_box hS hH (by repeat (first | exact Sub.nil | refine Sub.cons ?_ ?_ | exact In.here | refine In.there ?_)) rfl rfl rfl ?_
  clear hS hH; intro a w b18 hb18 hwb18 hS hH
  refine r_assign hS hH.kp0 rfl rfl ?_; clear hS; intro a hS
  refine Sq.nil ?_
  refine then_n ?_
  refine c_seq ?_
  refine reg_plain w0 (Nobody) ?_
  refine r_move hS hH.kp0 rfl rfl ?_; clear hS; intro a hS
  refine r_call (l := [.tmp 19, .const (.int .i64 1)]) hS rfl rfl Fc.fn18 rfl ?_
  refine Calls.mono ((by have hn := number_c b18 0 qc q l 0 1 (by omega) hl (by omega) _ (hH.get (b := b18) (by repeat (first | exact In.here | refine In.there ?_))) (hb.f.go hH.mod (fun x hx => .inr (by subst hx; assumption))); rw [num1 hx0] at hn; exact hn)) ?_
  rintro e w1 ⟨rfl, hcb1, hm1⟩
  replace hH := hH.modPut hm1 hcb1 (by first | exact .here | exact .there .here | exact .there (.there .here) | exact .there (.there (.there .here)) | exact .there (.there (.there (.there .here))) | exact .there (.there (.there (.there (.there .here)))) | exact .there (.there (.there (.there (.there (.there .here))))) | exact .there (.there (.there (.there (.there (.there (.there .here)))))) | exact .there (.there (.there (.there (.there (.there (.there (.there .here))))))) | exact .there (.there (.there (.there (.there (.there (.there (.there (.there .here)))))))) | exact .there (.there (.there (.there (.there (.there (.there (.there (.there (.there .here))))))))) | exact .there (.there (.there (.there (.there (.there (.there (.there (.there (.there (.there .here)))))))))) | exact .there (.there (.there (.there (.there (.there (.there (.there (.there (.there (.there (.there .here))))))))))) | exact .there (.there (.there (.there (.there (.there (.there (.there (.there (.there (.there (.there (.there .here)))))))))))) | exact .there (.there (.there (.there (.there (.there (.there (.there (.there (.there (.there (.there (.there (.there .here))))))))))))) | exact .there (.there (.there (.there (.there (.there (.there (.there (.there (.there (.there (.there (.there (.there (.there .here))))))))))))))) (.inr (by assumption))
  refine ⟨_, rfl, hH.kp0, ?_⟩
  clear hS; intro a hS
  refine r_toB x0.toNat hS hH.kp0 rfl Fc.ui5 Fc.us3 rfl rfl hxl ?_; clear hS; intro a hS
  refine r_assign hS hH.kp0 rfl rfl ?_; clear hS; intro a hS
  refine Sq.nil ?_
  refine then_n ?_
  refine c_seq ?_
  refine c_seq ?_
  refine reg_plain w0 (Nobody) ?_
  refine r_move hS hH.kp0 rfl rfl ?_; clear hS; intro a hS
  refine r_nilCheck hS hH.kp0 rfl rfl ?_; clear hS; intro a hS
  refine r_fieldAddr hS hH.kp0 rfl Fc.fo50_2 rfl ?_; clear hS; intro a hS
  refine r_load_sc hS hH (by repeat (first | exact Sub.nil | refine Sub.cons ?_ ?_ | exact In.here | refine In.there ?_)) rfl (by repeat (first | exact In.here | refine In.there ?_)) Fc.sc27 (by rfl) rfl ?_; clear hS; intro a hS
  refine r_neq hS hH.kp0 rfl rfl rfl ?_; clear hS; intro a hS
  refine Sq.nil ?_
  refine then_n ?_
  refine c_condF hS rfl rfl ?_
  refine wp_skip ?_
  refine then_n ?_
  refine c_seq ?_
  refine c_seq ?_
  refine reg_plain w0 (Nobody) ?_
  refine r_move hS hH.kp0 rfl rfl ?_; clear hS; intro a hS
  refine r_bitB x0.toNat 7 hS hH.kp0 rfl rfl rfl rfl (by decide) hxl ?_; clear hS; intro a hS
  rw [h7] at hS
  refine r_eql hS hH.kp0 rfl rfl rfl ?_; clear hS; intro a hS
  refine Sq.nil ?_
  refine then_n ?_
  refine c_condF hS rfl rfl ?_
  refine c_seq ?_
  refine reg_plain w0 (Nobody) ?_
  refine r_move hS hH.kp0 rfl rfl ?_; clear hS; intro a hS
  refine r_call (l := [.tmp 49, .const (.int .i64 4)]) hS rfl rfl Fc.fn18 rfl ?_
  refine Calls.mono (number_c b18 1 qc q l 0 4 (by omega) hl (by omega) _ (hH.get (b := b18) (by repeat (first | exact In.here | refine In.there ?_))) (hb.f.go hH.mod (fun x hx => .inr (by subst hx; assumption)))) ?_
  rintro e w1 ⟨rfl, hcb2, hm2⟩
  have hp1 := num_le (l := l) (n := 4) (c := ⟨1, 0⟩) h1
  generalize hN4 : numC l 4 ⟨1, 0⟩ = zz at hcb2 hp1 ⊢
  obtain ⟨ve, p1, b1⟩ := zz
  simp only at hcb2 hp1 ⊢
  replace hH := hH.modPut hm2 hcb2 (by first | exact .here | exact .there .here | exact .there (.there .here) | exact .there (.there (.there .here)) | exact .there (.there (.there (.there .here))) | exact .there (.there (.there (.there (.there .here)))) | exact .there (.there (.there (.there (.there (.there .here))))) | exact .there (.there (.there (.there (.there (.there (.there .here)))))) | exact .there (.there (.there (.there (.there (.there (.there (.there .here))))))) | exact .there (.there (.there (.there (.there (.there (.there (.there (.there .here)))))))) | exact .there (.there (.there (.there (.there (.there (.there (.there (.there (.there .here))))))))) | exact .there (.there (.there (.there (.there (.there (.there (.there (.there (.there (.there .here)))))))))) | exact .there (.there (.there (.there (.there (.there (.there (.there (.there (.there (.there (.there .here))))))))))) | exact .there (.there (.there (.there (.there (.there (.there (.there (.there (.there (.there (.there (.there .here)))))))))))) | exact .there (.there (.there (.there (.there (.there (.there (.there (.there (.there (.there (.there (.there (.there .here))))))))))))) | exact .there (.there (.there (.there (.there (.there (.there (.there (.there (.there (.there (.there (.there (.there (.there .here))))))))))))))) (.inr (by assumption))
  refine ⟨_, rfl, hH.kp0, ?_⟩
  clear hS; intro a hS
  refine r_fieldAddr hS hH.kp0 rfl Fc.fo26_1 rfl ?_; clear hS; intro a hS
  refine r_store1 hS hH rfl rfl rfl (by first | exact .here | exact .there .here | exact .there (.there .here) | exact .there (.there (.there .here)) | exact .there (.there (.there (.there .here))) | exact .there (.there (.there (.there (.there .here)))) | exact .there (.there (.there (.there (.there (.there .here))))) | exact .there (.there (.there (.there (.there (.there (.there .here)))))) | exact .there (.there (.there (.there (.there (.there (.there (.there .here))))))) | exact .there (.there (.there (.there (.there (.there (.there (.there (.there .here)))))))) | exact .there (.there (.there (.there (.there (.there (.there (.there (.there (.there .here))))))))) | exact .there (.there (.there (.there (.there (.there (.there (.there (.there (.there (.there .here)))))))))) | exact .there (.there (.there (.there (.there (.there (.there (.there (.there (.there (.there (.there .here))))))))))) | exact .there (.there (.there (.there (.there (.there (.there (.there (.there (.there (.there (.there (.there .here)))))))))))) | exact .there (.there (.there (.there (.there (.there (.there (.there (.there (.there (.there (.there (.there (.there .here))))))))))))) | exact .there (.there (.there (.there (.there (.there (.there (.there (.there (.there (.there (.there (.there (.there (.there .here))))))))))))))) (by repeat (first | exact Sub.nil | refine Sub.cons ?_ ?_ | exact In.here | refine In.there ?_)) Fc.sz3 (of_decide_eq_true rfl) (.inr (by assumption)) ?_
  clear hH; intro w hH
  refine Sq.nil ?_
  refine then_n ?_
  refine c_seq ?_
  refine reg_plain w0 (Nobody) ?_
  refine r_move hS hH.kp0 rfl rfl ?_; clear hS; intro a hS
  have hl_b4 := Hp.ltm (b := b4) hH (by simp)
  have hl_b18 := Hp.ltm (b := b18) hH (by simp)
  refine r_call (l := [.tmp 52]) hS rfl rfl Fc.fn21 rfl ?_
  refine Calls.mono ((by have hn := id_c b18 p1 qc q l b1 hp1 hl h1 _ (hH.get (b := b18) (by repeat (first | exact In.here | refine In.there ?_))) (hb.f.go hH.mod (fun x hx => .inr (by subst hx; assumption))); exact hn)) ?_
  rintro e w1 ⟨r, rfl, hr, hcb5, hm5⟩
  have hp2 := id_le (c := ⟨p1, b1⟩) hp1
  generalize hD : idC l ⟨p1, b1⟩ = zz at hr hcb5 hp2
  obtain ⟨dst, p2, b2⟩ := zz
  simp only at hr hcb5 hp2
  replace hH := hH.modPut hm5 hcb5 (by first | exact .here | exact .there .here | exact .there (.there .here) | exact .there (.there (.there .here)) | exact .there (.there (.there (.there .here))) | exact .there (.there (.there (.there (.there .here)))) | exact .there (.there (.there (.there (.there (.there .here))))) | exact .there (.there (.there (.there (.there (.there (.there .here)))))) | exact .there (.there (.there (.there (.there (.there (.there (.there .here))))))) | exact .there (.there (.there (.there (.there (.there (.there (.there (.there .here)))))))) | exact .there (.there (.there (.there (.there (.there (.there (.there (.there (.there .here))))))))) | exact .there (.there (.there (.there (.there (.there (.there (.there (.there (.there (.there .here)))))))))) | exact .there (.there (.there (.there (.there (.there (.there (.there (.there (.there (.there (.there .here))))))))))) | exact .there (.there (.there (.there (.there (.there (.there (.there (.there (.there (.there (.there (.there .here)))))))))))) | exact .there (.there (.there (.there (.there (.there (.there (.there (.there (.there (.there (.there (.there (.there .here))))))))))))) | exact .there (.there (.there (.there (.there (.there (.there (.there (.there (.there (.there (.there (.there (.there (.there .here))))))))))))))) (.inr (by assumption))
  refine ⟨_, rfl, hH.kp0, ?_⟩
  clear hS; intro a hS
  have hne : b4 ≠ b18 := by omega
  rcases hr with ⟨hb2, hrv, hdn⟩ | ⟨hb2, rd, capd, l2d, hrv, hrd, hrbkd, hcapd, hl2d, htkd⟩
  · simp only at hb2 hdn
    subst hrv hdn
    refine r_fieldAddr hS hH.kp0 rfl Fc.fo26_2 rfl ?_; clear hS; intro a hS
    refine r_store1 hS hH rfl rfl rfl (by first | exact .here | exact .there .here | exact .there (.there .here) | exact .there (.there (.there .here)) | exact .there (.there (.there (.there .here))) | exact .there (.there (.there (.there (.there .here)))) | exact .there (.there (.there (.there (.there (.there .here))))) | exact .there (.there (.there (.there (.there (.there (.there .here)))))) | exact .there (.there (.there (.there (.there (.there (.there (.there .here))))))) | exact .there (.there (.there (.there (.there (.there (.there (.there (.there .here)))))))) | exact .there (.there (.there (.there (.there (.there (.there (.there (.there (.there .here))))))))) | exact .there (.there (.there (.there (.there (.there (.there (.there (.there (.there (.there .here)))))))))) | exact .there (.there (.there (.there (.there (.there (.there (.there (.there (.there (.there (.there .here))))))))))) | exact .there (.there (.there (.there (.there (.there (.there (.there (.there (.there (.there (.there (.there .here)))))))))))) | exact .there (.there (.there (.there (.there (.there (.there (.there (.there (.there (.there (.there (.there (.there .here))))))))))))) | exact .there (.there (.there (.there (.there (.there (.there (.there (.there (.there (.there (.there (.there (.there (.there .here))))))))))))))) (by repeat (first | exact Sub.nil | refine Sub.cons ?_ ?_ | exact In.here | refine In.there ?_)) Fc.sz22 (of_decide_eq_true rfl) (.inr (by assumption)) ?_
    clear hH; intro w hH
    refine Sq.nil ?_
    refine then_n ?_
    refine c_seq ?_
    refine reg_plain w0 (Nobody) ?_
    refine r_move hS hH.kp0 rfl rfl ?_; clear hS; intro a hS
    refine r_call (l := [.tmp 55]) hS rfl rfl Fc.fn21 rfl ?_
    refine Calls.mono ((by have hn := id_c b18 p2 qc q l b2 hp2 hl h1 _ (hH.get (b := b18) (by repeat (first | exact In.here | refine In.there ?_))) (hb.f.go hH.mod (fun x hx => .inr (by subst hx; assumption))); rw [idC_bad hb2] at hn; exact hn)) ?_
    rintro e w1 ⟨r2, rfl, hr2, hcb6, hm6⟩
    obtain ⟨_, hr2v, _⟩ := hr2.resolve_right (fun h => hb2 h.1)
    subst hr2v
    replace hH := hH.modPut hm6 hcb6 (by first | exact .here | exact .there .here | exact .there (.there .here) | exact .there (.there (.there .here)) | exact .there (.there (.there (.there .here))) | exact .there (.there (.there (.there (.there .here)))) | exact .there (.there (.there (.there (.there (.there .here))))) | exact .there (.there (.there (.there (.there (.there (.there .here)))))) | exact .there (.there (.there (.there (.there (.there (.there (.there .here))))))) | exact .there (.there (.there (.there (.there (.there (.there (.there (.there .here)))))))) | exact .there (.there (.there (.there (.there (.there (.there (.there (.there (.there .here))))))))) | exact .there (.there (.there (.there (.there (.there (.there (.there (.there (.there (.there .here)))))))))) | exact .there (.there (.there (.there (.there (.there (.there (.there (.there (.there (.there (.there .here))))))))))) | exact .there (.there (.there (.there (.there (.there (.there (.there (.there (.there (.there (.there (.there .here)))))))))))) | exact .there (.there (.there (.there (.there (.there (.there (.there (.there (.there (.there (.there (.there (.there .here))))))))))))) | exact .there (.there (.there (.there (.there (.there (.there (.there (.there (.there (.there (.there (.there (.there (.there .here))))))))))))))) (.inr (by assumption))
    refine ⟨_, rfl, hH.kp0, ?_⟩
    clear hS; intro a hS
    refine r_fieldAddr hS hH.kp0 rfl Fc.fo26_3 rfl ?_; clear hS; intro a hS
    refine r_store1 hS hH rfl rfl rfl (by first | exact .here | exact .there .here | exact .there (.there .here) | exact .there (.there (.there .here)) | exact .there (.there (.there (.there .here))) | exact .there (.there (.there (.there (.there .here)))) | exact .there (.there (.there (.there (.there (.there .here))))) | exact .there (.there (.there (.there (.there (.there (.there .here)))))) | exact .there (.there (.there (.there (.there (.there (.there (.there .here))))))) | exact .there (.there (.there (.there (.there (.there (.there (.there (.there .here)))))))) | exact .there (.there (.there (.there (.there (.there (.there (.there (.there (.there .here))))))))) | exact .there (.there (.there (.there (.there (.there (.there (.there (.there (.there (.there .here)))))))))) | exact .there (.there (.there (.there (.there (.there (.there (.there (.there (.there (.there (.there .here))))))))))) | exact .there (.there (.there (.there (.there (.there (.there (.there (.there (.there (.there (.there (.there .here)))))))))))) | exact .there (.there (.there (.there (.there (.there (.there (.there (.there (.there (.there (.there (.there (.there .here))))))))))))) | exact .there (.there (.there (.there (.there (.there (.there (.there (.there (.there (.there (.there (.there (.there (.there .here))))))))))))))) (by repeat (first | exact Sub.nil | refine Sub.cons ?_ ?_ | exact In.here | refine In.there ?_)) Fc.sz22 (of_decide_eq_true rfl) (.inr (by assumption)) ?_
    clear hH; intro w hH
    refine Sq.nil ?_
    refine then_n ?_
    refine reg_plain w0 (Nobody) ?_
    refine r_move hS hH.kp0 rfl rfl ?_; clear hS; intro a hS
    refine r_call (l := [.tmp 4, .tmp 58]) hS rfl rfl Fc.fn22 rfl ?_
    refine Calls.mono (hlong_c b4 b18 p2 qc q l b2 (ve : Int) (.slice none 0 0) (.slice none 0 0) rfl rfl false x0 hx0 hp2 hl h1 (by omega) (by omega) hne _ WT WF (hH.get (b := 0) (by repeat (first | exact In.here | refine In.there ?_))) (hH.get (b := b18) (by repeat (first | exact In.here | refine In.there ?_))) (hH.get (b := b4) (by repeat (first | exact In.here | refine In.there ?_))) (hb.f.go hH.mod (fun x hx => .inr (by rcases hx with rfl | rfl <;> assumption)))) ?_
    rintro e w1 ⟨tv, gv, rfl, hhb, hcb9, htv, hgv, hm9⟩
    have hsz9 := hH.mod.size
    have htag := tag_len (l := l) (x0 := x0.toNat) (ve := (ve : Int)) (c := ⟨p2, b2⟩)
    generalize hLR : hlongC l x0.toNat (ve : Int) ⟨p2, b2⟩ = RR at hhb hcb9 htv hgv htag
    obtain ⟨rk, rt, rl, rli, rtag, rp, rbad⟩ := RR
    simp only at hhb hcb9 htv hgv htag
    obtain ⟨g0, g1, g2, g3, g4, g5, g6, g7, g8, g9, ga, gb, gc, gd, ge, gf, rfl⟩ := len16 htag
    replace hH := ((hH.front (b := b18) (by first | exact .here | exact .there .here | exact .there (.there .here) | exact .there (.there (.there .here)) | exact .there (.there (.there (.there .here))) | exact .there (.there (.there (.there (.there .here)))) | exact .there (.there (.there (.there (.there (.there .here))))) | exact .there (.there (.there (.there (.there (.there (.there .here)))))) | exact .there (.there (.there (.there (.there (.there (.there (.there .here))))))) | exact .there (.there (.there (.there (.there (.there (.there (.there (.there .here)))))))) | exact .there (.there (.there (.there (.there (.there (.there (.there (.there (.there .here))))))))) | exact .there (.there (.there (.there (.there (.there (.there (.there (.there (.there (.there .here)))))))))) | exact .there (.there (.there (.there (.there (.there (.there (.there (.there (.there (.there (.there .here))))))))))) | exact .there (.there (.there (.there (.there (.there (.there (.there (.there (.there (.there (.there (.there .here)))))))))))) | exact .there (.there (.there (.there (.there (.there (.there (.there (.there (.there (.there (.there (.there (.there .here))))))))))))) | exact .there (.there (.there (.there (.there (.there (.there (.there (.there (.there (.there (.there (.there (.there (.there .here)))))))))))))))).front (b := b4) (by first | exact .here | exact .there .here | exact .there (.there .here) | exact .there (.there (.there .here)) | exact .there (.there (.there (.there .here))) | exact .there (.there (.there (.there (.there .here)))) | exact .there (.there (.there (.there (.there (.there .here))))) | exact .there (.there (.there (.there (.there (.there (.there .here)))))) | exact .there (.there (.there (.there (.there (.there (.there (.there .here))))))) | exact .there (.there (.there (.there (.there (.there (.there (.there (.there .here)))))))) | exact .there (.there (.there (.there (.there (.there (.there (.there (.there (.there .here))))))))) | exact .there (.there (.there (.there (.there (.there (.there (.there (.there (.there (.there .here)))))))))) | exact .there (.there (.there (.there (.there (.there (.there (.there (.there (.there (.there (.there .here))))))))))) | exact .there (.there (.there (.there (.there (.there (.there (.there (.there (.there (.there (.there (.there .here)))))))))))) | exact .there (.there (.there (.there (.there (.there (.there (.there (.there (.there (.there (.there (.there (.there .here))))))))))))) | exact .there (.there (.there (.there (.there (.there (.there (.there (.there (.there (.there (.there (.there (.there (.there .here)))))))))))))))).swap2 hne hm9 hhb hcb9 (.inr (by assumption)) (.inr (by assumption)) .two
    refine ⟨_, rfl, hH.kp0, ?_⟩
    clear hS; intro a hS
    refine Sq.nil ?_
    refine then_n ?_
    refine c_seq ?_
    refine c_seq ?_
    refine reg_plain w0 (Nobody) ?_
    have hbad : rbad ≠ 0 := by have h9 := congrArg (fun z => z.c.bad) hLR; rw [hlongC_bad hb2] at h9; simp only at h9; rw [← h9]; exact hb2
    refine r_move hS hH.kp0 rfl rfl ?_; clear hS; intro a hS
    refine r_nilCheck hS hH.kp0 rfl rfl ?_; clear hS; intro a hS
    refine r_fieldAddr hS hH.kp0 rfl Fc.fo50_2 rfl ?_; clear hS; intro a hS
    refine r_load_sc hS hH (by repeat (first | exact Sub.nil | refine Sub.cons ?_ ?_ | exact In.here | refine In.there ?_)) rfl (by repeat (first | exact In.here | refine In.there ?_)) Fc.sc27 (by rfl) rfl ?_; clear hS; intro a hS
    refine r_neq hS hH.kp0 rfl rfl rfl ?_; clear hS; intro a hS
    refine Sq.nil ?_
    refine then_n ?_
    refine c_condT hS rfl (by simpa using hbad) ?_
    refine c_seq ?_
    refine reg_plain w0 (Nobody) ?_
    refine r_buildS (parts := []) hS hH.kp0 rfl rfl Fc.zc26 Fc.pl26 (by rfl) ?_; clear hS; intro a hS
    refine r_move hS hH.kp0 rfl rfl ?_; clear hS; intro a hS
    refine r_nilCheck hS hH.kp0 rfl rfl ?_; clear hS; intro a hS
    refine r_fieldAddr hS hH.kp0 rfl Fc.fo50_2 rfl ?_; clear hS; intro a hS
    refine r_load_sc hS hH (by repeat (first | exact Sub.nil | refine Sub.cons ?_ ?_ | exact In.here | refine In.there ?_)) rfl (by repeat (first | exact In.here | refine In.there ?_)) Fc.sc27 (by rfl) rfl ?_; clear hS; intro a hS
    refine r_store_row hS hH rfl rfl (by first | exact .here | exact .there .here | exact .there (.there .here) | exact .there (.there (.there .here)) | exact .there (.there (.there (.there .here))) | exact .there (.there (.there (.there (.there .here)))) | exact .there (.there (.there (.there (.there (.there .here))))) | exact .there (.there (.there (.there (.there (.there (.there .here)))))) | exact .there (.there (.there (.there (.there (.there (.there (.there .here))))))) | exact .there (.there (.there (.there (.there (.there (.there (.there (.there .here)))))))) | exact .there (.there (.there (.there (.there (.there (.there (.there (.there (.there .here))))))))) | exact .there (.there (.there (.there (.there (.there (.there (.there (.there (.there (.there .here)))))))))) | exact .there (.there (.there (.there (.there (.there (.there (.there (.there (.there (.there (.there .here))))))))))) | exact .there (.there (.there (.there (.there (.there (.there (.there (.there (.there (.there (.there (.there .here)))))))))))) | exact .there (.there (.there (.there (.there (.there (.there (.there (.there (.there (.there (.there (.there (.there .here))))))))))))) | exact .there (.there (.there (.there (.there (.there (.there (.there (.there (.there (.there (.there (.there (.there (.there .here))))))))))))))) (by repeat (first | exact Sub.nil | refine Sub.cons ?_ ?_ | exact In.here | refine In.there ?_)) Fc.sz26 (by first | exact hcells_one _ | exact of_decide_eq_true rfl) (by rfl) (.inr (by assumption)) ?_
    clear hH; intro w hH
    refine r_assign hS hH.kp0 rfl rfl ?_; clear hS; intro a hS
    refine r_assign hS hH.kp0 rfl rfl ?_; clear hS; intro a hS
    refine Sq.nil ?_
    refine then_n ?_
    refine wp_ret ?_
    refine then_r ?_
    have hLQ : longR l x0.toNat = hlongC l x0.toNat (ve : Int) ⟨p2, b2⟩ := by unfold longR; rw [hN4]; simp only [hD, idC_bad hb2]
    have hR := hLQ.trans hLR
    refine leave (.inl rfl) hS rfl (Res.cell rfl (hH.get (by repeat (first | exact In.here | refine In.there ?_))) Fc.ag26 (by rfl) rfl (Res.tmp rfl (Res.tmp rfl Res.nil))) ⟨zHd, _, _, rfl, ?_, hH.mod⟩
    rw [readQ_cons hx0 h0 h20, h7, if_pos rfl]; unfold longQ; rw [hR]; simp only; rw [if_neg hbad]; exact ⟨rfl, rfl, rfl, hbad⟩
  · simp only at hb2
    subst hrv hb2
    replace hH := hH.know hrbkd (fun z hz e => by simp only [List.mem_cons, List.not_mem_nil, or_false] at hz; rcases hz with rfl | rfl | rfl <;> first | (simp only at e; omega))
    refine r_fieldAddr hS hH.kp0 rfl Fc.fo26_2 rfl ?_; clear hS; intro a hS
    refine r_store1 hS hH rfl rfl rfl (by first | exact .here | exact .there .here | exact .there (.there .here) | exact .there (.there (.there .here)) | exact .there (.there (.there (.there .here))) | exact .there (.there (.there (.there (.there .here)))) | exact .there (.there (.there (.there (.there (.there .here))))) | exact .there (.there (.there (.there (.there (.there (.there .here)))))) | exact .there (.there (.there (.there (.there (.there (.there (.there .here))))))) | exact .there (.there (.there (.there (.there (.there (.there (.there (.there .here)))))))) | exact .there (.there (.there (.there (.there (.there (.there (.there (.there (.there .here))))))))) | exact .there (.there (.there (.there (.there (.there (.there (.there (.there (.there (.there .here)))))))))) | exact .there (.there (.there (.there (.there (.there (.there (.there (.there (.there (.there (.there .here))))))))))) | exact .there (.there (.there (.there (.there (.there (.there (.there (.there (.there (.there (.there (.there .here)))))))))))) | exact .there (.there (.there (.there (.there (.there (.there (.there (.there (.there (.there (.there (.there (.there .here))))))))))))) | exact .there (.there (.there (.there (.there (.there (.there (.there (.there (.there (.there (.there (.there (.there (.there .here))))))))))))))) (by repeat (first | exact Sub.nil | refine Sub.cons ?_ ?_ | exact In.here | refine In.there ?_)) Fc.sz22 (of_decide_eq_true rfl) (.inr (by assumption)) ?_
    clear hH; intro w hH
    refine Sq.nil ?_
    refine then_n ?_
    refine c_seq ?_
    refine reg_plain w0 (Nobody) ?_
    refine r_move hS hH.kp0 rfl rfl ?_; clear hS; intro a hS
    have hl_b4 := Hp.ltm (b := b4) hH (by simp)
    have hl_b18 := Hp.ltm (b := b18) hH (by simp)
    have hl_rd := Hp.ltm (b := rd) hH (by simp)
    refine r_call (l := [.tmp 55]) hS rfl rfl Fc.fn21 rfl ?_
    refine Calls.mono ((by have hn := id_c b18 p2 qc q l 0 hp2 hl h1 _ (hH.get (b := b18) (by repeat (first | exact In.here | refine In.there ?_))) (hb.f.go hH.mod (fun x hx => .inr (by subst hx; assumption))); exact hn)) ?_
    rintro e w1 ⟨r2, rfl, hr2, hcb6, hm6⟩
    have hp3 := id_le (c := ⟨p2, 0⟩) hp2
    generalize hSr : idC l ⟨p2, 0⟩ = zz at hr2 hcb6 hp3
    obtain ⟨src, p3, b3⟩ := zz
    simp only at hr2 hcb6 hp3
    replace hH := hH.modPut hm6 hcb6 (by first | exact .here | exact .there .here | exact .there (.there .here) | exact .there (.there (.there .here)) | exact .there (.there (.there (.there .here))) | exact .there (.there (.there (.there (.there .here)))) | exact .there (.there (.there (.there (.there (.there .here))))) | exact .there (.there (.there (.there (.there (.there (.there .here)))))) | exact .there (.there (.there (.there (.there (.there (.there (.there .here))))))) | exact .there (.there (.there (.there (.there (.there (.there (.there (.there .here)))))))) | exact .there (.there (.there (.there (.there (.there (.there (.there (.there (.there .here))))))))) | exact .there (.there (.there (.there (.there (.there (.there (.there (.there (.there (.there .here)))))))))) | exact .there (.there (.there (.there (.there (.there (.there (.there (.there (.there (.there (.there .here))))))))))) | exact .there (.there (.there (.there (.there (.there (.there (.there (.there (.there (.there (.there (.there .here)))))))))))) | exact .there (.there (.there (.there (.there (.there (.there (.there (.there (.there (.there (.there (.there (.there .here))))))))))))) | exact .there (.there (.there (.there (.there (.there (.there (.there (.there (.there (.there (.there (.there (.there (.there .here))))))))))))))) (.inr (by assumption))
    refine ⟨_, rfl, hH.kp0, ?_⟩
    clear hS; intro a hS
    rcases hr2 with ⟨hb3, hrv, hdn⟩ | ⟨hb3, rs, caps, l2s, hrv, hrs, hrbks, hcaps, hl2s, htks⟩
    · simp only at hb3 hdn
      subst hrv hdn
      refine r_fieldAddr hS hH.kp0 rfl Fc.fo26_3 rfl ?_; clear hS; intro a hS
      refine r_store1 hS hH rfl rfl rfl (by first | exact .here | exact .there .here | exact .there (.there .here) | exact .there (.there (.there .here)) | exact .there (.there (.there (.there .here))) | exact .there (.there (.there (.there (.there .here)))) | exact .there (.there (.there (.there (.there (.there .here))))) | exact .there (.there (.there (.there (.there (.there (.there .here)))))) | exact .there (.there (.there (.there (.there (.there (.there (.there .here))))))) | exact .there (.there (.there (.there (.there (.there (.there (.there (.there .here)))))))) | exact .there (.there (.there (.there (.there (.there (.there (.there (.there (.there .here))))))))) | exact .there (.there (.there (.there (.there (.there (.there (.there (.there (.there (.there .here)))))))))) | exact .there (.there (.there (.there (.there (.there (.there (.there (.there (.there (.there (.there .here))))))))))) | exact .there (.there (.there (.there (.there (.there (.there (.there (.there (.there (.there (.there (.there .here)))))))))))) | exact .there (.there (.there (.there (.there (.there (.there (.there (.there (.there (.there (.there (.there (.there .here))))))))))))) | exact .there (.there (.there (.there (.there (.there (.there (.there (.there (.there (.there (.there (.there (.there (.there .here))))))))))))))) (by repeat (first | exact Sub.nil | refine Sub.cons ?_ ?_ | exact In.here | refine In.there ?_)) Fc.sz22 (of_decide_eq_true rfl) (.inr (by assumption)) ?_
      clear hH; intro w hH
      refine Sq.nil ?_
      refine then_n ?_
      refine reg_plain w0 (Nobody) ?_
      refine r_move hS hH.kp0 rfl rfl ?_; clear hS; intro a hS
      refine r_call (l := [.tmp 4, .tmp 58]) hS rfl rfl Fc.fn22 rfl ?_
      refine Calls.mono (hlong_c b4 b18 p3 qc q l b3 (ve : Int) (.slice (some ⟨rd, 0, none⟩) dst.length capd) (.slice none 0 0) rfl rfl false x0 hx0 hp3 hl h1 (by omega) (by omega) hne _ WT WF (hH.get (b := 0) (by repeat (first | exact In.here | refine In.there ?_))) (hH.get (b := b18) (by repeat (first | exact In.here | refine In.there ?_))) (hH.get (b := b4) (by repeat (first | exact In.here | refine In.there ?_))) (hb.f.go hH.mod (fun x hx => .inr (by rcases hx with rfl | rfl <;> assumption)))) ?_
      rintro e w1 ⟨tv, gv, rfl, hhb, hcb9, htv, hgv, hm9⟩
      have hsz9 := hH.mod.size
      have htag := tag_len (l := l) (x0 := x0.toNat) (ve := (ve : Int)) (c := ⟨p3, b3⟩)
      generalize hLR : hlongC l x0.toNat (ve : Int) ⟨p3, b3⟩ = RR at hhb hcb9 htv hgv htag
      obtain ⟨rk, rt, rl, rli, rtag, rp, rbad⟩ := RR
      simp only at hhb hcb9 htv hgv htag
      obtain ⟨g0, g1, g2, g3, g4, g5, g6, g7, g8, g9, ga, gb, gc, gd, ge, gf, rfl⟩ := len16 htag
      replace hH := ((hH.front (b := b18) (by first | exact .here | exact .there .here | exact .there (.there .here) | exact .there (.there (.there .here)) | exact .there (.there (.there (.there .here))) | exact .there (.there (.there (.there (.there .here)))) | exact .there (.there (.there (.there (.there (.there .here))))) | exact .there (.there (.there (.there (.there (.there (.there .here)))))) | exact .there (.there (.there (.there (.there (.there (.there (.there .here))))))) | exact .there (.there (.there (.there (.there (.there (.there (.there (.there .here)))))))) | exact .there (.there (.there (.there (.there (.there (.there (.there (.there (.there .here))))))))) | exact .there (.there (.there (.there (.there (.there (.there (.there (.there (.there (.there .here)))))))))) | exact .there (.there (.there (.there (.there (.there (.there (.there (.there (.there (.there (.there .here))))))))))) | exact .there (.there (.there (.there (.there (.there (.there (.there (.there (.there (.there (.there (.there .here)))))))))))) | exact .there (.there (.there (.there (.there (.there (.there (.there (.there (.there (.there (.there (.there (.there .here))))))))))))) | exact .there (.there (.there (.there (.there (.there (.there (.there (.there (.there (.there (.there (.there (.there (.there .here)))))))))))))))).front (b := b4) (by first | exact .here | exact .there .here | exact .there (.there .here) | exact .there (.there (.there .here)) | exact .there (.there (.there (.there .here))) | exact .there (.there (.there (.there (.there .here)))) | exact .there (.there (.there (.there (.there (.there .here))))) | exact .there (.there (.there (.there (.there (.there (.there .here)))))) | exact .there (.there (.there (.there (.there (.there (.there (.there .here))))))) | exact .there (.there (.there (.there (.there (.there (.there (.there (.there .here)))))))) | exact .there (.there (.there (.there (.there (.there (.there (.there (.there (.there .here))))))))) | exact .there (.there (.there (.there (.there (.there (.there (.there (.there (.there (.there .here)))))))))) | exact .there (.there (.there (.there (.there (.there (.there (.there (.there (.there (.there (.there .here))))))))))) | exact .there (.there (.there (.there (.there (.there (.there (.there (.there (.there (.there (.there (.there .here)))))))))))) | exact .there (.there (.there (.there (.there (.there (.there (.there (.there (.there (.there (.there (.there (.there .here))))))))))))) | exact .there (.there (.there (.there (.there (.there (.there (.there (.there (.there (.there (.there (.there (.there (.there .here)))))))))))))))).swap2 hne hm9 hhb hcb9 (.inr (by assumption)) (.inr (by assumption)) .two
      refine ⟨_, rfl, hH.kp0, ?_⟩
      clear hS; intro a hS
      refine Sq.nil ?_
      refine then_n ?_
      refine c_seq ?_
      refine c_seq ?_
      refine reg_plain w0 (Nobody) ?_
      have hbad : rbad ≠ 0 := by have h9 := congrArg (fun z => z.c.bad) hLR; rw [hlongC_bad hb3] at h9; simp only at h9; rw [← h9]; exact hb3
      refine r_move hS hH.kp0 rfl rfl ?_; clear hS; intro a hS
      refine r_nilCheck hS hH.kp0 rfl rfl ?_; clear hS; intro a hS
      refine r_fieldAddr hS hH.kp0 rfl Fc.fo50_2 rfl ?_; clear hS; intro a hS
      refine r_load_sc hS hH (by repeat (first | exact Sub.nil | refine Sub.cons ?_ ?_ | exact In.here | refine In.there ?_)) rfl (by repeat (first | exact In.here | refine In.there ?_)) Fc.sc27 (by rfl) rfl ?_; clear hS; intro a hS
      refine r_neq hS hH.kp0 rfl rfl rfl ?_; clear hS; intro a hS
      refine Sq.nil ?_
      refine then_n ?_
      refine c_condT hS rfl (by simpa using hbad) ?_
      refine c_seq ?_
      refine reg_plain w0 (Nobody) ?_
      refine r_buildS (parts := []) hS hH.kp0 rfl rfl Fc.zc26 Fc.pl26 (by rfl) ?_; clear hS; intro a hS
      refine r_move hS hH.kp0 rfl rfl ?_; clear hS; intro a hS
      refine r_nilCheck hS hH.kp0 rfl rfl ?_; clear hS; intro a hS
      refine r_fieldAddr hS hH.kp0 rfl Fc.fo50_2 rfl ?_; clear hS; intro a hS
      refine r_load_sc hS hH (by repeat (first | exact Sub.nil | refine Sub.cons ?_ ?_ | exact In.here | refine In.there ?_)) rfl (by repeat (first | exact In.here | refine In.there ?_)) Fc.sc27 (by rfl) rfl ?_; clear hS; intro a hS
      refine r_store_row hS hH rfl rfl (by first | exact .here | exact .there .here | exact .there (.there .here) | exact .there (.there (.there .here)) | exact .there (.there (.there (.there .here))) | exact .there (.there (.there (.there (.there .here)))) | exact .there (.there (.there (.there (.there (.there .here))))) | exact .there (.there (.there (.there (.there (.there (.there .here)))))) | exact .there (.there (.there (.there (.there (.there (.there (.there .here))))))) | exact .there (.there (.there (.there (.there (.there (.there (.there (.there .here)))))))) | exact .there (.there (.there (.there (.there (.there (.there (.there (.there (.there .here))))))))) | exact .there (.there (.there (.there (.there (.there (.there (.there (.there (.there (.there .here)))))))))) | exact .there (.there (.there (.there (.there (.there (.there (.there (.there (.there (.there (.there .here))))))))))) | exact .there (.there (.there (.there (.there (.there (.there (.there (.there (.there (.there (.there (.there .here)))))))))))) | exact .there (.there (.there (.there (.there (.there (.there (.there (.there (.there (.there (.there (.there (.there .here))))))))))))) | exact .there (.there (.there (.there (.there (.there (.there (.there (.there (.there (.there (.there (.there (.there (.there .here))))))))))))))) (by repeat (first | exact Sub.nil | refine Sub.cons ?_ ?_ | exact In.here | refine In.there ?_)) Fc.sz26 (by first | exact hcells_one _ | exact of_decide_eq_true rfl) (by rfl) (.inr (by assumption)) ?_
      clear hH; intro w hH
      refine r_assign hS hH.kp0 rfl rfl ?_; clear hS; intro a hS
      refine r_assign hS hH.kp0 rfl rfl ?_; clear hS; intro a hS
      refine Sq.nil ?_
      refine then_n ?_
      refine wp_ret ?_
      refine then_r ?_
      have hLQ : longR l x0.toNat = hlongC l x0.toNat (ve : Int) ⟨p3, b3⟩ := by unfold longR; rw [hN4]; simp only [hD, hSr]
      have hR := hLQ.trans hLR
      refine leave (.inl rfl) hS rfl (Res.cell rfl (hH.get (by repeat (first | exact In.here | refine In.there ?_))) Fc.ag26 (by rfl) rfl (Res.tmp rfl (Res.tmp rfl Res.nil))) ⟨zHd, _, _, rfl, ?_, hH.mod⟩
      rw [readQ_cons hx0 h0 h20, h7, if_pos rfl]; unfold longQ; rw [hR]; simp only; rw [if_neg hbad]; exact ⟨rfl, rfl, rfl, hbad⟩
    · simp only at hb3
      subst hrv hb3
      replace hH := hH.know hrbks (fun z hz e => by simp only [List.mem_cons, List.not_mem_nil, or_false] at hz; rcases hz with rfl | rfl | rfl | rfl <;> first | (simp only at e; omega))
      refine r_fieldAddr hS hH.kp0 rfl Fc.fo26_3 rfl ?_; clear hS; intro a hS
      refine r_store1 hS hH rfl rfl rfl (by first | exact .here | exact .there .here | exact .there (.there .here) | exact .there (.there (.there .here)) | exact .there (.there (.there (.there .here))) | exact .there (.there (.there (.there (.there .here)))) | exact .there (.there (.there (.there (.there (.there .here))))) | exact .there (.there (.there (.there (.there (.there (.there .here)))))) | exact .there (.there (.there (.there (.there (.there (.there (.there .here))))))) | exact .there (.there (.there (.there (.there (.there (.there (.there (.there .here)))))))) | exact .there (.there (.there (.there (.there (.there (.there (.there (.there (.there .here))))))))) | exact .there (.there (.there (.there (.there (.there (.there (.there (.there (.there (.there .here)))))))))) | exact .there (.there (.there (.there (.there (.there (.there (.there (.there (.there (.there (.there .here))))))))))) | exact .there (.there (.there (.there (.there (.there (.there (.there (.there (.there (.there (.there (.there .here)))))))))))) | exact .there (.there (.there (.there (.there (.there (.there (.there (.there (.there (.there (.there (.there (.there .here))))))))))))) | exact .there (.there (.there (.there (.there (.there (.there (.there (.there (.there (.there (.there (.there (.there (.there .here))))))))))))))) (by repeat (first | exact Sub.nil | refine Sub.cons ?_ ?_ | exact In.here | refine In.there ?_)) Fc.sz22 (of_decide_eq_true rfl) (.inr (by assumption)) ?_
      clear hH; intro w hH
      refine Sq.nil ?_
      refine then_n ?_
      refine reg_plain w0 (Nobody) ?_
      refine r_move hS hH.kp0 rfl rfl ?_; clear hS; intro a hS
      have hl_b4 := Hp.ltm (b := b4) hH (by simp)
      have hl_b18 := Hp.ltm (b := b18) hH (by simp)
      have hl_rd := Hp.ltm (b := rd) hH (by simp)
      have hl_rs := Hp.ltm (b := rs) hH (by simp)
      refine r_call (l := [.tmp 4, .tmp 58]) hS rfl rfl Fc.fn22 rfl ?_
      refine Calls.mono (hlong_c b4 b18 p3 qc q l 0 (ve : Int) (.slice (some ⟨rd, 0, none⟩) dst.length capd) (.slice (some ⟨rs, 0, none⟩) src.length caps) rfl rfl false x0 hx0 hp3 hl h1 (by omega) (by omega) hne _ WT WF (hH.get (b := 0) (by repeat (first | exact In.here | refine In.there ?_))) (hH.get (b := b18) (by repeat (first | exact In.here | refine In.there ?_))) (hH.get (b := b4) (by repeat (first | exact In.here | refine In.there ?_))) (hb.f.go hH.mod (fun x hx => .inr (by rcases hx with rfl | rfl <;> assumption)))) ?_
      rintro e w1 ⟨tv, gv, rfl, hhb, hcb9, htv, hgv, hm9⟩
      have hsz9 := hH.mod.size
      have htag := tag_len (l := l) (x0 := x0.toNat) (ve := (ve : Int)) (c := ⟨p3, 0⟩)
      generalize hLR : hlongC l x0.toNat (ve : Int) ⟨p3, 0⟩ = RR at hhb hcb9 htv hgv htag
      obtain ⟨rk, rt, rl, rli, rtag, rp, rbad⟩ := RR
      simp only at hhb hcb9 htv hgv htag
      obtain ⟨g0, g1, g2, g3, g4, g5, g6, g7, g8, g9, ga, gb, gc, gd, ge, gf, rfl⟩ := len16 htag
      replace hH := ((hH.front (b := b18) (by first | exact .here | exact .there .here | exact .there (.there .here) | exact .there (.there (.there .here)) | exact .there (.there (.there (.there .here))) | exact .there (.there (.there (.there (.there .here)))) | exact .there (.there (.there (.there (.there (.there .here))))) | exact .there (.there (.there (.there (.there (.there (.there .here)))))) | exact .there (.there (.there (.there (.there (.there (.there (.there .here))))))) | exact .there (.there (.there (.there (.there (.there (.there (.there (.there .here)))))))) | exact .there (.there (.there (.there (.there (.there (.there (.there (.there (.there .here))))))))) | exact .there (.there (.there (.there (.there (.there (.there (.there (.there (.there (.there .here)))))))))) | exact .there (.there (.there (.there (.there (.there (.there (.there (.there (.there (.there (.there .here))))))))))) | exact .there (.there (.there (.there (.there (.there (.there (.there (.there (.there (.there (.there (.there .here)))))))))))) | exact .there (.there (.there (.there (.there (.there (.there (.there (.there (.there (.there (.there (.there (.there .here))))))))))))) | exact .there (.there (.there (.there (.there (.there (.there (.there (.there (.there (.there (.there (.there (.there (.there .here)))))))))))))))).front (b := b4) (by first | exact .here | exact .there .here | exact .there (.there .here) | exact .there (.there (.there .here)) | exact .there (.there (.there (.there .here))) | exact .there (.there (.there (.there (.there .here)))) | exact .there (.there (.there (.there (.there (.there .here))))) | exact .there (.there (.there (.there (.there (.there (.there .here)))))) | exact .there (.there (.there (.there (.there (.there (.there (.there .here))))))) | exact .there (.there (.there (.there (.there (.there (.there (.there (.there .here)))))))) | exact .there (.there (.there (.there (.there (.there (.there (.there (.there (.there .here))))))))) | exact .there (.there (.there (.there (.there (.there (.there (.there (.there (.there (.there .here)))))))))) | exact .there (.there (.there (.there (.there (.there (.there (.there (.there (.there (.there (.there .here))))))))))) | exact .there (.there (.there (.there (.there (.there (.there (.there (.there (.there (.there (.there (.there .here)))))))))))) | exact .there (.there (.there (.there (.there (.there (.there (.there (.there (.there (.there (.there (.there (.there .here))))))))))))) | exact .there (.there (.there (.there (.there (.there (.there (.there (.there (.there (.there (.there (.there (.there (.there .here)))))))))))))))).swap2 hne hm9 hhb hcb9 (.inr (by assumption)) (.inr (by assumption)) .two
      refine ⟨_, rfl, hH.kp0, ?_⟩
      clear hS; intro a hS
      refine Sq.nil ?_
      refine then_n ?_
      refine c_seq ?_
      refine c_seq ?_
      refine reg_plain w0 (Nobody) ?_
      rcases htv with ⟨rfl, rfl⟩ | ⟨rbt, capt, l2t, rfl, hrbt, hrbkt, hcapt, hl2t, htkt⟩ <;> rcases hgv with ⟨rfl, hrl0, hrx⟩ | ⟨rbg, capg, l9g, rfl, hrbg, hbog, hl9g, hm9g, htkg⟩
      · refine r_move hS hH.kp0 rfl rfl ?_; clear hS; intro a hS
        refine r_nilCheck hS hH.kp0 rfl rfl ?_; clear hS; intro a hS
        refine r_fieldAddr hS hH.kp0 rfl Fc.fo50_2 rfl ?_; clear hS; intro a hS
        refine r_load_sc hS hH (by repeat (first | exact Sub.nil | refine Sub.cons ?_ ?_ | exact In.here | refine In.there ?_)) rfl (by repeat (first | exact In.here | refine In.there ?_)) Fc.sc27 (by rfl) rfl ?_; clear hS; intro a hS
        refine r_neq hS hH.kp0 rfl rfl rfl ?_; clear hS; intro a hS
        refine Sq.nil ?_
        refine then_n ?_
        refine c_cond hS rfl (fun hc3 => ?_) (fun hc3 => ?_)
        · have hbad : rbad ≠ 0 := by simpa using hc3
          refine c_seq ?_
          refine reg_plain w0 (Nobody) ?_
          refine r_buildS (parts := []) hS hH.kp0 rfl rfl Fc.zc26 Fc.pl26 (by rfl) ?_; clear hS; intro a hS
          refine r_move hS hH.kp0 rfl rfl ?_; clear hS; intro a hS
          refine r_nilCheck hS hH.kp0 rfl rfl ?_; clear hS; intro a hS
          refine r_fieldAddr hS hH.kp0 rfl Fc.fo50_2 rfl ?_; clear hS; intro a hS
          refine r_load_sc hS hH (by repeat (first | exact Sub.nil | refine Sub.cons ?_ ?_ | exact In.here | refine In.there ?_)) rfl (by repeat (first | exact In.here | refine In.there ?_)) Fc.sc27 (by rfl) rfl ?_; clear hS; intro a hS
          refine r_store_row hS hH rfl rfl (by first | exact .here | exact .there .here | exact .there (.there .here) | exact .there (.there (.there .here)) | exact .there (.there (.there (.there .here))) | exact .there (.there (.there (.there (.there .here)))) | exact .there (.there (.there (.there (.there (.there .here))))) | exact .there (.there (.there (.there (.there (.there (.there .here)))))) | exact .there (.there (.there (.there (.there (.there (.there (.there .here))))))) | exact .there (.there (.there (.there (.there (.there (.there (.there (.there .here)))))))) | exact .there (.there (.there (.there (.there (.there (.there (.there (.there (.there .here))))))))) | exact .there (.there (.there (.there (.there (.there (.there (.there (.there (.there (.there .here)))))))))) | exact .there (.there (.there (.there (.there (.there (.there (.there (.there (.there (.there (.there .here))))))))))) | exact .there (.there (.there (.there (.there (.there (.there (.there (.there (.there (.there (.there (.there .here)))))))))))) | exact .there (.there (.there (.there (.there (.there (.there (.there (.there (.there (.there (.there (.there (.there .here))))))))))))) | exact .there (.there (.there (.there (.there (.there (.there (.there (.there (.there (.there (.there (.there (.there (.there .here))))))))))))))) (by repeat (first | exact Sub.nil | refine Sub.cons ?_ ?_ | exact In.here | refine In.there ?_)) Fc.sz26 (by first | exact hcells_one _ | exact of_decide_eq_true rfl) (by rfl) (.inr (by assumption)) ?_
          clear hH; intro w hH
          refine r_assign hS hH.kp0 rfl rfl ?_; clear hS; intro a hS
          refine r_assign hS hH.kp0 rfl rfl ?_; clear hS; intro a hS
          refine Sq.nil ?_
          refine then_n ?_
          refine wp_ret ?_
          refine then_r ?_
          have hLQ : longR l x0.toNat = hlongC l x0.toNat (ve : Int) ⟨p3, 0⟩ := by unfold longR; rw [hN4]; simp only [hD, hSr]
          have hR := hLQ.trans hLR
          refine leave (.inl rfl) hS rfl (Res.cell rfl (hH.get (by repeat (first | exact In.here | refine In.there ?_))) Fc.ag26 (by rfl) rfl (Res.tmp rfl (Res.tmp rfl Res.nil))) ⟨zHd, _, _, rfl, ?_, hH.mod⟩
          rw [readQ_cons hx0 h0 h20, h7, if_pos rfl]; unfold longQ; rw [hR]; simp only; rw [if_neg hbad]; exact ⟨rfl, rfl, rfl, hbad⟩
        · have hbad : rbad = 0 := by simpa using hc3
          subst hbad
          refine wp_skip ?_
          refine then_n ?_
          refine c_seq ?_
          refine reg_draw [(true, 0, []), (true, 1, [0]), (true, 2, [0]), (true, 3, [0]), (true, 4, [0]), (false, 5, [0]), (true, 6, [0]), (true, 7, [0])] Fc.mixed (by kernel_rfl) (by kernel_rfl) (by kernel_rfl) (by kernel_rfl) (by kernel_rfl) (by repeat (first | with_reducible exact steady_body | with_reducible apply steady_block | with_reducible apply steady_then | with_reducible apply steady_scope | exact steady_body)) hH ?_
          replace hH := hH.drew
          refine r_load_rowS hS rfl (by repeat (first | exact In.here | refine In.there ?_)) Fc.ag26 (by rfl) rfl ?_; clear hS; intro a hS
          refine r_move hS trivial rfl rfl ?_; clear hS; intro a hS
          refine r_nilCheck hS trivial rfl rfl ?_; clear hS; intro a hS
          refine r_fieldAddr hS trivial rfl Fc.fo50_1 rfl ?_; clear hS; intro a hS
          refine r_load_scS hS rfl (by repeat (first | exact In.here | refine In.there ?_)) Fc.sc3 (by rfl) rfl ?_; clear hS; intro a hS
          refine r_store_row hS hH rfl rfl (by first | exact .here | exact .there .here | exact .there (.there .here) | exact .there (.there (.there .here)) | exact .there (.there (.there (.there .here))) | exact .there (.there (.there (.there (.there .here)))) | exact .there (.there (.there (.there (.there (.there .here))))) | exact .there (.there (.there (.there (.there (.there (.there .here)))))) | exact .there (.there (.there (.there (.there (.there (.there (.there .here))))))) | exact .there (.there (.there (.there (.there (.there (.there (.there (.there .here)))))))) | exact .there (.there (.there (.there (.there (.there (.there (.there (.there (.there .here))))))))) | exact .there (.there (.there (.there (.there (.there (.there (.there (.there (.there (.there .here)))))))))) | exact .there (.there (.there (.there (.there (.there (.there (.there (.there (.there (.there (.there .here))))))))))) | exact .there (.there (.there (.there (.there (.there (.there (.there (.there (.there (.there (.there (.there .here)))))))))))) | exact .there (.there (.there (.there (.there (.there (.there (.there (.there (.there (.there (.there (.there (.there .here))))))))))))) | exact .there (.there (.there (.there (.there (.there (.there (.there (.there (.there (.there (.there (.there (.there (.there .here))))))))))))))) (by repeat (first | exact Sub.nil | refine Sub.cons ?_ ?_ | exact In.here | refine In.there ?_)) Fc.sz26 (by first | exact hcells_one _ | exact of_decide_eq_true rfl) (by rfl) (.inr (by assumption)) ?_
          clear hH; intro w hH
          refine r_assign hS trivial rfl rfl ?_; clear hS; intro a hS
          refine r_assign hS trivial rfl rfl ?_; clear hS; intro a hS
          refine Sq.nil ?_
          refine then_n ?_
          refine wp_ret ?_
          have hrli : rli = [] := List.eq_nil_of_length_eq_zero hrl0
          subst hrli
          have hLQ : longR l x0.toNat = hlongC l x0.toNat (ve : Int) ⟨p3, 0⟩ := by unfold longR; rw [hN4]; simp only [hD, hSr]
          have hR := hLQ.trans hLR
          refine leave (.inl rfl) hS rfl (Res.cell rfl (hH.get (by repeat (first | exact In.here | refine In.there ?_))) Fc.ag26 (by rfl) rfl (Res.tmp rfl (Res.tmp rfl Res.nil))) ⟨_, _, _, rfl, ?_, hH.mod⟩
          rw [readQ_cons hx0 h0 h20, h7, if_pos rfl]; unfold longQ; rw [hR]; rw [if_pos rfl, hN4]; simp only [hD, hSr]; exact ⟨⟨_, _, _, _, rfl, .inr ⟨rd, capd, l2d, rfl, by omega, hH.get (b := rd) (by repeat (first | exact In.here | refine In.there ?_)), hcapd, hl2d, htkd⟩, .inr ⟨rs, caps, l2s, rfl, by omega, hH.get (b := rs) (by repeat (first | exact In.here | refine In.there ?_)), hcaps, hl2s, htks⟩, OwnB.nil _ _ _, Own.nil _ _ _ _, rfl⟩, rfl, rfl⟩
      · replace hH := hH.know hbog (fun z hz e => by simp only [List.mem_cons, List.not_mem_nil, or_false] at hz; rcases hz with rfl | rfl | rfl | rfl | rfl <;> first | (simp only at e; omega))
        refine r_move hS hH.kp0 rfl rfl ?_; clear hS; intro a hS
        refine r_nilCheck hS hH.kp0 rfl rfl ?_; clear hS; intro a hS
        refine r_fieldAddr hS hH.kp0 rfl Fc.fo50_2 rfl ?_; clear hS; intro a hS
        refine r_load_sc hS hH (by repeat (first | exact Sub.nil | refine Sub.cons ?_ ?_ | exact In.here | refine In.there ?_)) rfl (by repeat (first | exact In.here | refine In.there ?_)) Fc.sc27 (by rfl) rfl ?_; clear hS; intro a hS
        refine r_neq hS hH.kp0 rfl rfl rfl ?_; clear hS; intro a hS
        refine Sq.nil ?_
        refine then_n ?_
        refine c_cond hS rfl (fun hc3 => ?_) (fun hc3 => ?_)
        · have hbad : rbad ≠ 0 := by simpa using hc3
          refine c_seq ?_
          refine reg_plain w0 (Nobody) ?_
          refine r_buildS (parts := []) hS hH.kp0 rfl rfl Fc.zc26 Fc.pl26 (by rfl) ?_; clear hS; intro a hS
          refine r_move hS hH.kp0 rfl rfl ?_; clear hS; intro a hS
          refine r_nilCheck hS hH.kp0 rfl rfl ?_; clear hS; intro a hS
          refine r_fieldAddr hS hH.kp0 rfl Fc.fo50_2 rfl ?_; clear hS; intro a hS
          refine r_load_sc hS hH (by repeat (first | exact Sub.nil | refine Sub.cons ?_ ?_ | exact In.here | refine In.there ?_)) rfl (by repeat (first | exact In.here | refine In.there ?_)) Fc.sc27 (by rfl) rfl ?_; clear hS; intro a hS
          refine r_store_row hS hH rfl rfl (by first | exact .here | exact .there .here | exact .there (.there .here) | exact .there (.there (.there .here)) | exact .there (.there (.there (.there .here))) | exact .there (.there (.there (.there (.there .here)))) | exact .there (.there (.there (.there (.there (.there .here))))) | exact .there (.there (.there (.there (.there (.there (.there .here)))))) | exact .there (.there (.there (.there (.there (.there (.there (.there .here))))))) | exact .there (.there (.there (.there (.there (.there (.there (.there (.there .here)))))))) | exact .there (.there (.there (.there (.there (.there (.there (.there (.there (.there .here))))))))) | exact .there (.there (.there (.there (.there (.there (.there (.there (.there (.there (.there .here)))))))))) | exact .there (.there (.there (.there (.there (.there (.there (.there (.there (.there (.there (.there .here))))))))))) | exact .there (.there (.there (.there (.there (.there (.there (.there (.there (.there (.there (.there (.there .here)))))))))))) | exact .there (.there (.there (.there (.there (.there (.there (.there (.there (.there (.there (.there (.there (.there .here))))))))))))) | exact .there (.there (.there (.there (.there (.there (.there (.there (.there (.there (.there (.there (.there (.there (.there .here))))))))))))))) (by repeat (first | exact Sub.nil | refine Sub.cons ?_ ?_ | exact In.here | refine In.there ?_)) Fc.sz26 (by first | exact hcells_one _ | exact of_decide_eq_true rfl) (by rfl) (.inr (by assumption)) ?_
          clear hH; intro w hH
          refine r_assign hS hH.kp0 rfl rfl ?_; clear hS; intro a hS
          refine r_assign hS hH.kp0 rfl rfl ?_; clear hS; intro a hS
          refine Sq.nil ?_
          refine then_n ?_
          refine wp_ret ?_
          refine then_r ?_
          have hLQ : longR l x0.toNat = hlongC l x0.toNat (ve : Int) ⟨p3, 0⟩ := by unfold longR; rw [hN4]; simp only [hD, hSr]
          have hR := hLQ.trans hLR
          refine leave (.inl rfl) hS rfl (Res.cell rfl (hH.get (by repeat (first | exact In.here | refine In.there ?_))) Fc.ag26 (by rfl) rfl (Res.tmp rfl (Res.tmp rfl Res.nil))) ⟨zHd, _, _, rfl, ?_, hH.mod⟩
          rw [readQ_cons hx0 h0 h20, h7, if_pos rfl]; unfold longQ; rw [hR]; simp only; rw [if_neg hbad]; exact ⟨rfl, rfl, rfl, hbad⟩
        · have hbad : rbad = 0 := by simpa using hc3
          subst hbad
          refine wp_skip ?_
          refine then_n ?_
          refine c_seq ?_
          refine reg_draw [(true, 0, []), (true, 1, [1]), (true, 2, [1]), (true, 3, [1]), (true, 4, [1]), (false, 5, [1]), (true, 6, [1]), (true, 7, [1])] Fc.mixed (by kernel_rfl) (by kernel_rfl) (by kernel_rfl) (by kernel_rfl) (by kernel_rfl) (by repeat (first | with_reducible exact steady_body | with_reducible apply steady_block | with_reducible apply steady_then | with_reducible apply steady_scope | exact steady_body)) hH ?_
          replace hH := hH.drew
          refine r_load_rowS hS rfl (by repeat (first | exact In.here | refine In.there ?_)) Fc.ag26 (by rfl) rfl ?_; clear hS; intro a hS
          refine r_move hS trivial rfl rfl ?_; clear hS; intro a hS
          refine r_nilCheck hS trivial rfl rfl ?_; clear hS; intro a hS
          refine r_fieldAddr hS trivial rfl Fc.fo50_1 rfl ?_; clear hS; intro a hS
          refine r_load_scS hS rfl (by repeat (first | exact In.here | refine In.there ?_)) Fc.sc3 (by rfl) rfl ?_; clear hS; intro a hS
          refine r_store_row hS hH rfl rfl (by first | exact .here | exact .there .here | exact .there (.there .here) | exact .there (.there (.there .here)) | exact .there (.there (.there (.there .here))) | exact .there (.there (.there (.there (.there .here)))) | exact .there (.there (.there (.there (.there (.there .here))))) | exact .there (.there (.there (.there (.there (.there (.there .here)))))) | exact .there (.there (.there (.there (.there (.there (.there (.there .here))))))) | exact .there (.there (.there (.there (.there (.there (.there (.there (.there .here)))))))) | exact .there (.there (.there (.there (.there (.there (.there (.there (.there (.there .here))))))))) | exact .there (.there (.there (.there (.there (.there (.there (.there (.there (.there (.there .here)))))))))) | exact .there (.there (.there (.there (.there (.there (.there (.there (.there (.there (.there (.there .here))))))))))) | exact .there (.there (.there (.there (.there (.there (.there (.there (.there (.there (.there (.there (.there .here)))))))))))) | exact .there (.there (.there (.there (.there (.there (.there (.there (.there (.there (.there (.there (.there (.there .here))))))))))))) | exact .there (.there (.there (.there (.there (.there (.there (.there (.there (.there (.there (.there (.there (.there (.there .here))))))))))))))) (by repeat (first | exact Sub.nil | refine Sub.cons ?_ ?_ | exact In.here | refine In.there ?_)) Fc.sz26 (by first | exact hcells_one _ | exact of_decide_eq_true rfl) (by rfl) (.inr (by assumption)) ?_
          clear hH; intro w hH
          refine r_assign hS trivial rfl rfl ?_; clear hS; intro a hS
          refine r_assign hS trivial rfl rfl ?_; clear hS; intro a hS
          refine Sq.nil ?_
          refine then_n ?_
          refine wp_ret ?_
          have hLQ : longR l x0.toNat = hlongC l x0.toNat (ve : Int) ⟨p3, 0⟩ := by unfold longR; rw [hN4]; simp only [hD, hSr]
          have hR := hLQ.trans hLR
          refine leave (.inl rfl) hS rfl (Res.cell rfl (hH.get (by repeat (first | exact In.here | refine In.there ?_))) Fc.ag26 (by rfl) rfl (Res.tmp rfl (Res.tmp rfl Res.nil))) ⟨_, _, _, rfl, ?_, hH.mod⟩
          rw [readQ_cons hx0 h0 h20, h7, if_pos rfl]; unfold longQ; rw [hR]; rw [if_pos rfl, hN4]; simp only [hD, hSr]; exact ⟨⟨_, _, _, _, rfl, .inr ⟨rd, capd, l2d, rfl, by omega, hH.get (b := rd) (by repeat (first | exact In.here | refine In.there ?_)), hcapd, hl2d, htkd⟩, .inr ⟨rs, caps, l2s, rfl, by omega, hH.get (b := rs) (by repeat (first | exact In.here | refine In.there ?_)), hcaps, hl2s, htks⟩, OwnB.nil _ _ _, .inr ⟨rbg, capg, l9g, rfl, by omega, hH.get (b := rbg) (by repeat (first | exact In.here | refine In.there ?_)), hl9g, hm9g, htkg⟩, rfl⟩, rfl, rfl⟩
      · replace hH := hH.know hrbkt (fun z hz e => by simp only [List.mem_cons, List.not_mem_nil, or_false] at hz; rcases hz with rfl | rfl | rfl | rfl | rfl <;> first | (simp only at e; omega))
        refine r_move hS hH.kp0 rfl rfl ?_; clear hS; intro a hS
        refine r_nilCheck hS hH.kp0 rfl rfl ?_; clear hS; intro a hS
        refine r_fieldAddr hS hH.kp0 rfl Fc.fo50_2 rfl ?_; clear hS; intro a hS
        refine r_load_sc hS hH (by repeat (first | exact Sub.nil | refine Sub.cons ?_ ?_ | exact In.here | refine In.there ?_)) rfl (by repeat (first | exact In.here | refine In.there ?_)) Fc.sc27 (by rfl) rfl ?_; clear hS; intro a hS
        refine r_neq hS hH.kp0 rfl rfl rfl ?_; clear hS; intro a hS
        refine Sq.nil ?_
        refine then_n ?_
        refine c_cond hS rfl (fun hc3 => ?_) (fun hc3 => ?_)
        · have hbad : rbad ≠ 0 := by simpa using hc3
          refine c_seq ?_
          refine reg_plain w0 (Nobody) ?_
          refine r_buildS (parts := []) hS hH.kp0 rfl rfl Fc.zc26 Fc.pl26 (by rfl) ?_; clear hS; intro a hS
          refine r_move hS hH.kp0 rfl rfl ?_; clear hS; intro a hS
          refine r_nilCheck hS hH.kp0 rfl rfl ?_; clear hS; intro a hS
          refine r_fieldAddr hS hH.kp0 rfl Fc.fo50_2 rfl ?_; clear hS; intro a hS
          refine r_load_sc hS hH (by repeat (first | exact Sub.nil | refine Sub.cons ?_ ?_ | exact In.here | refine In.there ?_)) rfl (by repeat (first | exact In.here | refine In.there ?_)) Fc.sc27 (by rfl) rfl ?_; clear hS; intro a hS
          refine r_store_row hS hH rfl rfl (by first | exact .here | exact .there .here | exact .there (.there .here) | exact .there (.there (.there .here)) | exact .there (.there (.there (.there .here))) | exact .there (.there (.there (.there (.there .here)))) | exact .there (.there (.there (.there (.there (.there .here))))) | exact .there (.there (.there (.there (.there (.there (.there .here)))))) | exact .there (.there (.there (.there (.there (.there (.there (.there .here))))))) | exact .there (.there (.there (.there (.there (.there (.there (.there (.there .here)))))))) | exact .there (.there (.there (.there (.there (.there (.there (.there (.there (.there .here))))))))) | exact .there (.there (.there (.there (.there (.there (.there (.there (.there (.there (.there .here)))))))))) | exact .there (.there (.there (.there (.there (.there (.there (.there (.there (.there (.there (.there .here))))))))))) | exact .there (.there (.there (.there (.there (.there (.there (.there (.there (.there (.there (.there (.there .here)))))))))))) | exact .there (.there (.there (.there (.there (.there (.there (.there (.there (.there (.there (.there (.there (.there .here))))))))))))) | exact .there (.there (.there (.there (.there (.there (.there (.there (.there (.there (.there (.there (.there (.there (.there .here))))))))))))))) (by repeat (first | exact Sub.nil | refine Sub.cons ?_ ?_ | exact In.here | refine In.there ?_)) Fc.sz26 (by first | exact hcells_one _ | exact of_decide_eq_true rfl) (by rfl) (.inr (by assumption)) ?_
          clear hH; intro w hH
          refine r_assign hS hH.kp0 rfl rfl ?_; clear hS; intro a hS
          refine r_assign hS hH.kp0 rfl rfl ?_; clear hS; intro a hS
          refine Sq.nil ?_
          refine then_n ?_
          refine wp_ret ?_
          refine then_r ?_
          have hLQ : longR l x0.toNat = hlongC l x0.toNat (ve : Int) ⟨p3, 0⟩ := by unfold longR; rw [hN4]; simp only [hD, hSr]
          have hR := hLQ.trans hLR
          refine leave (.inl rfl) hS rfl (Res.cell rfl (hH.get (by repeat (first | exact In.here | refine In.there ?_))) Fc.ag26 (by rfl) rfl (Res.tmp rfl (Res.tmp rfl Res.nil))) ⟨zHd, _, _, rfl, ?_, hH.mod⟩
          rw [readQ_cons hx0 h0 h20, h7, if_pos rfl]; unfold longQ; rw [hR]; simp only; rw [if_neg hbad]; exact ⟨rfl, rfl, rfl, hbad⟩
        · have hbad : rbad = 0 := by simpa using hc3
          subst hbad
          refine wp_skip ?_
          refine then_n ?_
          refine c_seq ?_
          refine reg_draw [(true, 0, []), (true, 1, [1]), (true, 2, [1]), (true, 3, [1]), (true, 4, [1]), (false, 5, [1]), (true, 6, [1]), (true, 7, [1])] Fc.mixed (by kernel_rfl) (by kernel_rfl) (by kernel_rfl) (by kernel_rfl) (by kernel_rfl) (by repeat (first | with_reducible exact steady_body | with_reducible apply steady_block | with_reducible apply steady_then | with_reducible apply steady_scope | exact steady_body)) hH ?_
          replace hH := hH.drew
          refine r_load_rowS hS rfl (by repeat (first | exact In.here | refine In.there ?_)) Fc.ag26 (by rfl) rfl ?_; clear hS; intro a hS
          refine r_move hS trivial rfl rfl ?_; clear hS; intro a hS
          refine r_nilCheck hS trivial rfl rfl ?_; clear hS; intro a hS
          refine r_fieldAddr hS trivial rfl Fc.fo50_1 rfl ?_; clear hS; intro a hS
          refine r_load_scS hS rfl (by repeat (first | exact In.here | refine In.there ?_)) Fc.sc3 (by rfl) rfl ?_; clear hS; intro a hS
          refine r_store_row hS hH rfl rfl (by first | exact .here | exact .there .here | exact .there (.there .here) | exact .there (.there (.there .here)) | exact .there (.there (.there (.there .here))) | exact .there (.there (.there (.there (.there .here)))) | exact .there (.there (.there (.there (.there (.there .here))))) | exact .there (.there (.there (.there (.there (.there (.there .here)))))) | exact .there (.there (.there (.there (.there (.there (.there (.there .here))))))) | exact .there (.there (.there (.there (.there (.there (.there (.there (.there .here)))))))) | exact .there (.there (.there (.there (.there (.there (.there (.there (.there (.there .here))))))))) | exact .there (.there (.there (.there (.there (.there (.there (.there (.there (.there (.there .here)))))))))) | exact .there (.there (.there (.there (.there (.there (.there (.there (.there (.there (.there (.there .here))))))))))) | exact .there (.there (.there (.there (.there (.there (.there (.there (.there (.there (.there (.there (.there .here)))))))))))) | exact .there (.there (.there (.there (.there (.there (.there (.there (.there (.there (.there (.there (.there (.there .here))))))))))))) | exact .there (.there (.there (.there (.there (.there (.there (.there (.there (.there (.there (.there (.there (.there (.there .here))))))))))))))) (by repeat (first | exact Sub.nil | refine Sub.cons ?_ ?_ | exact In.here | refine In.there ?_)) Fc.sz26 (by first | exact hcells_one _ | exact of_decide_eq_true rfl) (by rfl) (.inr (by assumption)) ?_
          clear hH; intro w hH
          refine r_assign hS trivial rfl rfl ?_; clear hS; intro a hS
          refine r_assign hS trivial rfl rfl ?_; clear hS; intro a hS
          refine Sq.nil ?_
          refine then_n ?_
          refine wp_ret ?_
          have hrli : rli = [] := List.eq_nil_of_length_eq_zero hrl0
          subst hrli
          have hLQ : longR l x0.toNat = hlongC l x0.toNat (ve : Int) ⟨p3, 0⟩ := by unfold longR; rw [hN4]; simp only [hD, hSr]
          have hR := hLQ.trans hLR
          refine leave (.inl rfl) hS rfl (Res.cell rfl (hH.get (by repeat (first | exact In.here | refine In.there ?_))) Fc.ag26 (by rfl) rfl (Res.tmp rfl (Res.tmp rfl Res.nil))) ⟨_, _, _, rfl, ?_, hH.mod⟩
          rw [readQ_cons hx0 h0 h20, h7, if_pos rfl]; unfold longQ; rw [hR]; rw [if_pos rfl, hN4]; simp only [hD, hSr]; exact ⟨⟨_, _, _, _, rfl, .inr ⟨rd, capd, l2d, rfl, by omega, hH.get (b := rd) (by repeat (first | exact In.here | refine In.there ?_)), hcapd, hl2d, htkd⟩, .inr ⟨rs, caps, l2s, rfl, by omega, hH.get (b := rs) (by repeat (first | exact In.here | refine In.there ?_)), hcaps, hl2s, htks⟩, .inr ⟨rbt, capt, l2t, rfl, by omega, hH.get (b := rbt) (by repeat (first | exact In.here | refine In.there ?_)), hcapt, hl2t, htkt⟩, Own.nil _ _ _ _, rfl⟩, rfl, rfl⟩
      · replace hH := hH.know hrbkt (fun z hz e => by simp only [List.mem_cons, List.not_mem_nil, or_false] at hz; rcases hz with rfl | rfl | rfl | rfl | rfl <;> first | (simp only at e; omega))
        replace hH := hH.know hbog (fun z hz e => by simp only [List.mem_cons, List.not_mem_nil, or_false] at hz; rcases hz with rfl | rfl | rfl | rfl | rfl | rfl <;> first | (simp only at e; omega) | (simp only at e; exact own_ne hrbkt hbog e))
        refine r_move hS hH.kp0 rfl rfl ?_; clear hS; intro a hS
        refine r_nilCheck hS hH.kp0 rfl rfl ?_; clear hS; intro a hS
        refine r_fieldAddr hS hH.kp0 rfl Fc.fo50_2 rfl ?_; clear hS; intro a hS
        refine r_load_sc hS hH (by repeat (first | exact Sub.nil | refine Sub.cons ?_ ?_ | exact In.here | refine In.there ?_)) rfl (by repeat (first | exact In.here | refine In.there ?_)) Fc.sc27 (by rfl) rfl ?_; clear hS; intro a hS
        refine r_neq hS hH.kp0 rfl rfl rfl ?_; clear hS; intro a hS
        refine Sq.nil ?_
        refine then_n ?_
        refine c_cond hS rfl (fun hc3 => ?_) (fun hc3 => ?_)
        · have hbad : rbad ≠ 0 := by simpa using hc3
          refine c_seq ?_
          refine reg_plain w0 (Nobody) ?_
          refine r_buildS (parts := []) hS hH.kp0 rfl rfl Fc.zc26 Fc.pl26 (by rfl) ?_; clear hS; intro a hS
          refine r_move hS hH.kp0 rfl rfl ?_; clear hS; intro a hS
          refine r_nilCheck hS hH.kp0 rfl rfl ?_; clear hS; intro a hS
          refine r_fieldAddr hS hH.kp0 rfl Fc.fo50_2 rfl ?_; clear hS; intro a hS
          refine r_load_sc hS hH (by repeat (first | exact Sub.nil | refine Sub.cons ?_ ?_ | exact In.here | refine In.there ?_)) rfl (by repeat (first | exact In.here | refine In.there ?_)) Fc.sc27 (by rfl) rfl ?_; clear hS; intro a hS
          refine r_store_row hS hH rfl rfl (by first | exact .here | exact .there .here | exact .there (.there .here) | exact .there (.there (.there .here)) | exact .there (.there (.there (.there .here))) | exact .there (.there (.there (.there (.there .here)))) | exact .there (.there (.there (.there (.there (.there .here))))) | exact .there (.there (.there (.there (.there (.there (.there .here)))))) | exact .there (.there (.there (.there (.there (.there (.there (.there .here))))))) | exact .there (.there (.there (.there (.there (.there (.there (.there (.there .here)))))))) | exact .there (.there (.there (.there (.there (.there (.there (.there (.there (.there .here))))))))) | exact .there (.there (.there (.there (.there (.there (.there (.there (.there (.there (.there .here)))))))))) | exact .there (.there (.there (.there (.there (.there (.there (.there (.there (.there (.there (.there .here))))))))))) | exact .there (.there (.there (.there (.there (.there (.there (.there (.there (.there (.there (.there (.there .here)))))))))))) | exact .there (.there (.there (.there (.there (.there (.there (.there (.there (.there (.there (.there (.there (.there .here))))))))))))) | exact .there (.there (.there (.there (.there (.there (.there (.there (.there (.there (.there (.there (.there (.there (.there .here))))))))))))))) (by repeat (first | exact Sub.nil | refine Sub.cons ?_ ?_ | exact In.here | refine In.there ?_)) Fc.sz26 (by first | exact hcells_one _ | exact of_decide_eq_true rfl) (by rfl) (.inr (by assumption)) ?_
          clear hH; intro w hH
          refine r_assign hS hH.kp0 rfl rfl ?_; clear hS; intro a hS
          refine r_assign hS hH.kp0 rfl rfl ?_; clear hS; intro a hS
          refine Sq.nil ?_
          refine then_n ?_
          refine wp_ret ?_
          refine then_r ?_
          have hLQ : longR l x0.toNat = hlongC l x0.toNat (ve : Int) ⟨p3, 0⟩ := by unfold longR; rw [hN4]; simp only [hD, hSr]
          have hR := hLQ.trans hLR
          refine leave (.inl rfl) hS rfl (Res.cell rfl (hH.get (by repeat (first | exact In.here | refine In.there ?_))) Fc.ag26 (by rfl) rfl (Res.tmp rfl (Res.tmp rfl Res.nil))) ⟨zHd, _, _, rfl, ?_, hH.mod⟩
          rw [readQ_cons hx0 h0 h20, h7, if_pos rfl]; unfold longQ; rw [hR]; simp only; rw [if_neg hbad]; exact ⟨rfl, rfl, rfl, hbad⟩
        · have hbad : rbad = 0 := by simpa using hc3
          subst hbad
          refine wp_skip ?_
          refine then_n ?_
          refine c_seq ?_
          refine reg_draw [(true, 0, []), (true, 1, [2]), (true, 2, [2]), (true, 3, [2]), (true, 4, [2]), (false, 5, [2]), (true, 6, [2]), (true, 7, [2])] Fc.mixed (by kernel_rfl) (by kernel_rfl) (by kernel_rfl) (by kernel_rfl) (by kernel_rfl) (by repeat (first | with_reducible exact steady_body | with_reducible apply steady_block | with_reducible apply steady_then | with_reducible apply steady_scope | exact steady_body)) hH ?_
          replace hH := hH.drew
          refine r_load_rowS hS rfl (by repeat (first | exact In.here | refine In.there ?_)) Fc.ag26 (by rfl) rfl ?_; clear hS; intro a hS
          refine r_move hS trivial rfl rfl ?_; clear hS; intro a hS
          refine r_nilCheck hS trivial rfl rfl ?_; clear hS; intro a hS
          refine r_fieldAddr hS trivial rfl Fc.fo50_1 rfl ?_; clear hS; intro a hS
          refine r_load_scS hS rfl (by repeat (first | exact In.here | refine In.there ?_)) Fc.sc3 (by rfl) rfl ?_; clear hS; intro a hS
          refine r_store_row hS hH rfl rfl (by first | exact .here | exact .there .here | exact .there (.there .here) | exact .there (.there (.there .here)) | exact .there (.there (.there (.there .here))) | exact .there (.there (.there (.there (.there .here)))) | exact .there (.there (.there (.there (.there (.there .here))))) | exact .there (.there (.there (.there (.there (.there (.there .here)))))) | exact .there (.there (.there (.there (.there (.there (.there (.there .here))))))) | exact .there (.there (.there (.there (.there (.there (.there (.there (.there .here)))))))) | exact .there (.there (.there (.there (.there (.there (.there (.there (.there (.there .here))))))))) | exact .there (.there (.there (.there (.there (.there (.there (.there (.there (.there (.there .here)))))))))) | exact .there (.there (.there (.there (.there (.there (.there (.there (.there (.there (.there (.there .here))))))))))) | exact .there (.there (.there (.there (.there (.there (.there (.there (.there (.there (.there (.there (.there .here)))))))))))) | exact .there (.there (.there (.there (.there (.there (.there (.there (.there (.there (.there (.there (.there (.there .here))))))))))))) | exact .there (.there (.there (.there (.there (.there (.there (.there (.there (.there (.there (.there (.there (.there (.there .here))))))))))))))) (by repeat (first | exact Sub.nil | refine Sub.cons ?_ ?_ | exact In.here | refine In.there ?_)) Fc.sz26 (by first | exact hcells_one _ | exact of_decide_eq_true rfl) (by rfl) (.inr (by assumption)) ?_
          clear hH; intro w hH
          refine r_assign hS trivial rfl rfl ?_; clear hS; intro a hS
          refine r_assign hS trivial rfl rfl ?_; clear hS; intro a hS
          refine Sq.nil ?_
          refine then_n ?_
          refine wp_ret ?_
          have hLQ : longR l x0.toNat = hlongC l x0.toNat (ve : Int) ⟨p3, 0⟩ := by unfold longR; rw [hN4]; simp only [hD, hSr]
          have hR := hLQ.trans hLR
          refine leave (.inl rfl) hS rfl (Res.cell rfl (hH.get (by repeat (first | exact In.here | refine In.there ?_))) Fc.ag26 (by rfl) rfl (Res.tmp rfl (Res.tmp rfl Res.nil))) ⟨_, _, _, rfl, ?_, hH.mod⟩
          rw [readQ_cons hx0 h0 h20, h7, if_pos rfl]; unfold longQ; rw [hR]; rw [if_pos rfl, hN4]; simp only [hD, hSr]; exact ⟨⟨_, _, _, _, rfl, .inr ⟨rd, capd, l2d, rfl, by omega, hH.get (b := rd) (by repeat (first | exact In.here | refine In.there ?_)), hcapd, hl2d, htkd⟩, .inr ⟨rs, caps, l2s, rfl, by omega, hH.get (b := rs) (by repeat (first | exact In.here | refine In.there ?_)), hcaps, hl2s, htks⟩, .inr ⟨rbt, capt, l2t, rfl, by omega, hH.get (b := rbt) (by repeat (first | exact In.here | refine In.there ?_)), hcapt, hl2t, htkt⟩, .inr ⟨rbg, capg, l9g, rfl, by omega, hH.get (b := rbg) (by repeat (first | exact In.here | refine In.there ?_)), hl9g, hm9g, htkg⟩, rfl⟩, rfl, rfl⟩


theorem Read_c (q : Option Addr) (qc : Nat) (l : List UInt8) (hl : l.length ≤ 1099511627776) (ids : Int) (w0 : World) (WT : TypeId) (WF : Nat × Nat) (hw0 : w0.heap[0]? = some (.cells [.int .i64 6, .int .i64 14, .int .i64 30, .int .i64 62].toArray WT WF)) (hb : Bs w0 (.slice q l.length qc) l) : Calls Tryd.prog 8 #[.slice q l.length qc, .int .i64 ids] w0 fun e w' => ∃ (cs : List Value) (x y : Int), e = .returned (.tuple #[.agg cs.toArray, .int .i64 x, .int .i64 y]) ∧ RdRes w0.heap.size w' cs x y (readQ l ids) ∧ Ext w0 w' := by
  by_cases h0 : ids < 0
  · exact Read_low q qc l hl ids h0 w0 WT WF hw0 hb
  by_cases h20 : 20 < ids
  · exact Read_high q qc l hl ids h20 w0 WT WF hw0 hb
  cases hx : l[0]? with
  | none => exact Read_nil q qc l hl ids (by omega) (by omega) (by cases l with | nil => rfl | cons y t => cases hx) w0 WT WF hw0 hb
  | some x0 =>
    cases h7 : x0.toNat.testBit 7 with
    | false => exact Read_short q qc l hl ids (by omega) (by omega) x0 hx h7 w0 WT WF hw0 hb
    | true => exact Read_long q qc l hl ids (by omega) (by omega) x0 hx h7 w0 WT WF hw0 hb

end Go.Proofs.YtcenionnedgadaaDoor
