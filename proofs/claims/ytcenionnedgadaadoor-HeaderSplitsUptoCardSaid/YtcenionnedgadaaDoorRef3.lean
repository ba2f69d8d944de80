/- HeaderSplits: any datagram is cut into the packets that the document says. Conditions: those of the given row (arguments of at most 1048576 values and letters; the listed variables hold what the text lays). Part Ref3: walks and lemmas of the proof. -/
import Derived.Test.YtcenionnedgadaaDoorRef2
namespace Go.Proofs.YtcenionnedgadaaDoor
open Go.Sym

def RestRes (B : Nat) (w : World) (dv sv : Value) (dst src : List UInt8) (cs : List Value) (x y : Int) (r : Int ⊕ (Hd × Nat)) : Prop := match r with
  | .inl b => cs = zHd ∧ x = 0 ∧ y = b ∧ b ≠ 0
  | .inr (h, p) => ∃ tv : Value, cs = [.int .i64 h.kind, .int .i64 h.ver, dv, sv, tv, .int .i64 (h.len : Int), .bool h.phase, .slice none 0 0] ++ hcells h.tag ∧ OwnB B 5 w tv h.token ∧ h.tag.length = 16 ∧ h.list = [] ∧ h.dst = dst ∧ h.src = src ∧ x = p ∧ y = 0
def tg (T : List UInt8) (k : Nat) : List UInt8 := T.take k ++ z16.drop k
theorem hd_one {k ve ln : Int} {dv sv tv gv : Value} {ph : Bool} {t : List UInt8} (hd : dv.oneCell' = true) (hs : sv.oneCell' = true) (ht : tv.oneCell' = true) (hg : gv.oneCell' = true) : ∀ u ∈ ([.int .i64 k, .int .i64 ve, dv, sv, tv, .int .i64 ln, .bool ph, gv] ++ hcells t : List Value), u.oneCell' = true := by
  intro u hu
  simp only [List.mem_append, List.mem_cons, List.not_mem_nil, or_false] at hu
  rcases hu with (rfl | rfl | rfl | rfl | rfl | rfl | rfl | rfl) | hu
  · rfl
  · rfl
  · exact hd
  · exact hs
  · exact ht
  · rfl
  · rfl
  · exact hg
  · exact hcells_one _ u hu
theorem spl_tg {a0 a1 a2 a3 a4 a5 a6 a7 : Value} {T : List UInt8} {k : Nat} {y : UInt8} (hT : T.length = 16) (hk : k < 16) (hy : T[k]? = some y) : spl ([a0, a1, a2, a3, a4, a5, a6, a7] ++ hcells (tg T k)) (0 + 8 + k * 1) [byteV y] = [a0, a1, a2, a3, a4, a5, a6, a7] ++ hcells (tg T (k + 1)) := by
  have hz : z16.length = 16 := rfl
  have hlen : (tg T k).length = 16 := by simp [tg, hz]; omega
  rw [spl1_eq (by simp [hcells, hlen]; omega), List.set_append_right (h := by simp)]
  congr 1
  show (hcells (tg T k)).set (0 + 8 + k * 1 - 8) _ = _
  rw [show 0 + 8 + k * 1 - 8 = k by omega]
  unfold hcells tg
  rw [← List.map_set]
  congr 1
  have e1 : (T.take k).length = k := by simp; omega
  rw [List.set_append_right (h := by omega), e1, Nat.sub_self, List.take_add_one, hy, List.append_assoc]
  congr 1
  have e2 : z16.drop k = 0 :: z16.drop (k + 1) := by
    rw [List.drop_eq_getElem_cons (by omega)]
    congr 1
    have : ∀ i, i < 16 → z16[i]? = some 0 := by decide
    have := this k hk
    rw [List.getElem?_eq_getElem (by omega)] at this
    exact Option.some.inj this
  rw [e2]; rfl

theorem Fc.ag41 : agB Tryd.prog 41 = some 24 := by kernel_rfl
theorem Fc.fn53 : isFn Tryd.prog 53 = true := by kernel_rfl
theorem Fc.fo41_0 : foff Tryd.prog 41 0 = some 0 := by kernel_rfl
theorem Fc.fo41_4 : foff Tryd.prog 41 4 = some 4 := by kernel_rfl
theorem Fc.fo41_5 : foff Tryd.prog 41 5 = some 5 := by kernel_rfl
theorem Fc.fo41_8 : foff Tryd.prog 41 8 = some 8 := by kernel_rfl
theorem Fc.pl41 : placesB Tryd.prog 41 = some [(0, 1), (1, 1), (2, 1), (3, 1), (4, 1), (5, 1), (6, 1), (7, 1), (8, 16)] := by kernel_rfl
theorem Fc.sz41 : sizeB Tryd.prog 41 24 = true := by kernel_rfl
theorem Fc.zc41 : zcB Tryd.prog 41 = some [.int .i64 0, .int .i64 0, .slice none 0 0, .slice none 0 0, .slice none 0 0, .int .i64 0, .bool false, .slice none 0 0, .int .u8 0, .int .u8 0, .int .u8 0, .int .u8 0, .int .u8 0, .int .u8 0, .int .u8 0, .int .u8 0, .int .u8 0, .int .u8 0, .int .u8 0, .int .u8 0, .int .u8 0, .int .u8 0, .int .u8 0, .int .u8 0] := by kernel_rfl
set_option maxRecDepth 100000 in
set_option maxHeartbeats 6000000 in
theorem rest_c (kd p qc : Nat) (q : Option Addr) (l : List UInt8) (dv sv : Value) (dst src : List UInt8) (hdv : dv.oneCell' = true) (hsv : sv.oneCell' = true) (hp : p ≤ l.length) (hl : l.length ≤ 1099511627776) (h1 : 0 < l.length) (w0 : World) (hb : Bs w0 (.slice q l.length qc) l) : Calls Tryd.prog 41 #[.agg ([.int .i64 (kd : Int), .int .i64 1, dv, sv, .slice none 0 0, .int .i64 0, .bool false, .slice none 0 0] ++ hcells z16 : List Value).toArray, .slice q l.length qc, .int .i64 (p : Int)] w0 fun e w' => ∃ (cs : List Value) (x y : Int), e = .returned (.tuple #[.agg cs.toArray, .int .i64 x, .int .i64 y]) ∧ RestRes w0.heap.size w' dv sv dst src cs x y (restQ l dst src kd p) ∧ Ext w0 w' := by
  refine enter Tryd.func41 rfl rfl rfl ?_
  intro a hS
  have hH := Hp.start w0 (Nobody)
  have hfl := (hb.f).len
  obtain ⟨ba, bob, hq⟩ := hb.f.addr h1
  subst hq
  refine c_seq ?_
  refine reg_plain w0 (Nobody) ?_
  refine r_box hS hH (by repeat (first | exact Sub.nil | refine Sub.cons ?_ ?_ | exact In.here | refine In.there ?_)) rfl rfl rfl ?_
  clear hS hH; intro a w bx hbx hwbx hS hH
  refine r_alloc hS hH (by repeat (first | exact Sub.nil | refine Sub.cons ?_ ?_ | exact In.here | refine In.there ?_)) Fc.zc41 rfl ?_
  clear hS hH; intro a w bo hbo hwbo hS hH
  refine r_assign hS hH.kp0 rfl rfl ?_; clear hS; intro a hS
  refine r_assign hS hH.kp0 rfl rfl ?_; clear hS; intro a hS
  refine Sq.nil ?_
  refine then_n ?_
  refine c_seq ?_
  refine c_seq ?_
  refine reg_plain w0 (Nobody) ?_
  refine r_fieldAddr hS hH.kp0 rfl Fc.fo41_0 rfl ?_; clear hS; intro a hS
  refine r_load_sc hS hH (by repeat (first | exact Sub.nil | refine Sub.cons ?_ ?_ | exact In.here | refine In.there ?_)) rfl (by repeat (first | exact In.here | refine In.there ?_)) Fc.sc3 (by rfl) rfl ?_; clear hS; intro a hS
  refine r_eql hS hH.kp0 rfl rfl rfl ?_; clear hS; intro a hS
  refine Sq.nil ?_
  refine then_n ?_
  refine c_cond hS rfl (fun hc0 => ?_) (fun hc0 => ?_)
  · have hk3 : kd = 3 := by have := beq_iff_eq.1 hc0; omega
    refine c_seq ?_
    refine c_seq ?_
    refine reg_plain w0 (Nobody) ?_
    refine r_move hS hH.kp0 rfl rfl ?_; clear hS; intro a hS
    refine r_lenSl hS hH.kp0 rfl Fc.isSlice22 rfl ?_; clear hS; intro a hS
    refine r_move hS hH.kp0 rfl rfl ?_; clear hS; intro a hS
    first | refine r_sub hS hH.kp0 rfl rfl rfl (by omega) ?_ | refine r_subw hS hH.kp0 rfl rfl rfl ?_
    clear hS; intro a hS
    refine r_lss hS hH.kp0 rfl rfl rfl ?_; clear hS; intro a hS
    refine Sq.nil ?_
    refine then_n ?_
    refine c_cond hS rfl (fun hc1 => ?_) (fun hc1 => ?_)
    · have hsh := of_decide_eq_true hc1
      refine c_seq ?_
      refine reg_plain w0 (Nobody) ?_
      refine r_buildS (parts := []) hS hH.kp0 rfl rfl Fc.zc41 Fc.pl41 (by rfl) ?_; clear hS; intro a hS
      refine r_store_row hS hH rfl rfl (by first | exact .here | exact .there .here | exact .there (.there .here) | exact .there (.there (.there .here)) | exact .there (.there (.there (.there .here))) | exact .there (.there (.there (.there (.there .here)))) | exact .there (.there (.there (.there (.there (.there .here))))) | exact .there (.there (.there (.there (.there (.there (.there .here)))))) | exact .there (.there (.there (.there (.there (.there (.there (.there .here))))))) | exact .there (.there (.there (.there (.there (.there (.there (.there (.there .here)))))))) | exact .there (.there (.there (.there (.there (.there (.there (.there (.there (.there .here))))))))) | exact .there (.there (.there (.there (.there (.there (.there (.there (.there (.there (.there .here)))))))))) | exact .there (.there (.there (.there (.there (.there (.there (.there (.there (.there (.there (.there .here))))))))))) | exact .there (.there (.there (.there (.there (.there (.there (.there (.there (.there (.there (.there (.there .here)))))))))))) | exact .there (.there (.there (.there (.there (.there (.there (.there (.there (.there (.there (.there (.there (.there .here))))))))))))) | exact .there (.there (.there (.there (.there (.there (.there (.there (.there (.there (.there (.there (.there (.there (.there .here))))))))))))))) (by repeat (first | exact Sub.nil | refine Sub.cons ?_ ?_ | exact In.here | refine In.there ?_)) Fc.sz41 (by first | exact hcells_one _ | exact of_decide_eq_true rfl) (by rfl) (.inr (by assumption)) ?_
      clear hH; intro w hH
      refine r_assign hS hH.kp0 rfl rfl ?_; clear hS; intro a hS
      refine r_assign hS hH.kp0 rfl rfl ?_; clear hS; intro a hS
      refine Sq.nil ?_
      refine then_n ?_
      refine wp_ret ?_
      refine then_r ?_
      refine then_r ?_
      refine leave (.inl rfl) hS rfl (Res.cell rfl (hH.get (by repeat (first | exact In.here | refine In.there ?_))) Fc.ag41 (by rfl) rfl (Res.tmp rfl (Res.tmp rfl Res.nil))) ⟨zHd, 0, _, rfl, ?_, hH.mod⟩
      have hq0 : restQ l dst src kd p = .inl 10 := by unfold restQ; rw [if_pos hk3, if_pos (by omega)]
      rw [hq0]; exact ⟨rfl, rfl, rfl, by decide⟩
    · have hsh := of_decide_eq_false hc1
      refine wp_skip ?_
      refine then_n ?_
      refine c_seq ?_
      refine reg_plain w0 (Nobody) ?_
      refine r_buildSlice0 hS hH (by repeat (first | exact Sub.nil | refine Sub.cons ?_ ?_ | exact In.here | refine In.there ?_)) Fc.uls22 Fc.inf5 rfl ?_
      clear hS hH; intro a w bz hbz hwbz hS hH
      refine r_move hS hH.kp0 rfl rfl ?_; clear hS; intro a hS
      refine r_move hS hH.kp0 rfl rfl ?_; clear hS; intro a hS
      refine r_move hS hH.kp0 rfl rfl ?_; clear hS; intro a hS
      refine r_lenSl hS hH.kp0 rfl Fc.isSlice22 rfl ?_; clear hS; intro a hS
      first | refine r_sub hS hH.kp0 rfl rfl rfl (by omega) ?_ | refine r_subw hS hH.kp0 rfl rfl rfl ?_
      clear hS; intro a hS
      refine r_slLoHi (ll := p) (hh := l.length - 16) hS hH.kp0 rfl rfl rfl Fc.slb22 rfl (by omega) (by omega) (by omega) rfl ?_; clear hS; intro a hS
      refine r_appB (l := []) ([]) ((l.drop p).take (l.length - 16 - p)) hS hH rfl rfl (by first | exact .here | exact .there .here | exact .there (.there .here) | exact .there (.there (.there .here)) | exact .there (.there (.there (.there .here))) | exact .there (.there (.there (.there (.there .here)))) | exact .there (.there (.there (.there (.there (.there .here))))) | exact .there (.there (.there (.there (.there (.there (.there .here)))))) | exact .there (.there (.there (.there (.there (.there (.there (.there .here))))))) | exact .there (.there (.there (.there (.there (.there (.there (.there (.there .here)))))))) | exact .there (.there (.there (.there (.there (.there (.there (.there (.there (.there .here))))))))) | exact .there (.there (.there (.there (.there (.there (.there (.there (.there (.there (.there .here)))))))))) | exact .there (.there (.there (.there (.there (.there (.there (.there (.there (.there (.there (.there .here))))))))))) | exact .there (.there (.there (.there (.there (.there (.there (.there (.there (.there (.there (.there (.there .here)))))))))))) | exact .there (.there (.there (.there (.there (.there (.there (.there (.there (.there (.there (.there (.there (.there .here))))))))))))) | exact .there (.there (.there (.there (.there (.there (.there (.there (.there (.there (.there (.there (.there (.there (.there .here))))))))))))))) (by repeat (first | exact Sub.nil | refine Sub.cons ?_ ?_ | exact In.here | refine In.there ?_)) Fc.el22 Fc.ni22 BB.nil ((hb.ext hH.mod).f.part (ll := p) (hh := l.length - 16) (by omega) (by omega)).bs (by first | omega | (simp only [List.length_append, List.length_nil, List.length_take, List.length_drop]; omega)) (by assumption) rfl ?_
      clear hS hH; intro a w b1 c1 k1 hw1 hB1 hS hH
      rw [List.nil_append] at hB1 hS
      have htl : ((l.drop p).take (l.length - 16 - p)).length = l.length - 16 - p := by simp; omega
      generalize htk : (l.drop p).take (l.length - 16 - p) = tok at hB1 hS htl
      refine r_fieldAddr hS hH.kp0 rfl Fc.fo41_4 rfl ?_; clear hS; intro a hS
      refine r_store1 hS hH rfl rfl rfl (by first | exact .here | exact .there .here | exact .there (.there .here) | exact .there (.there (.there .here)) | exact .there (.there (.there (.there .here))) | exact .there (.there (.there (.there (.there .here)))) | exact .there (.there (.there (.there (.there (.there .here))))) | exact .there (.there (.there (.there (.there (.there (.there .here)))))) | exact .there (.there (.there (.there (.there (.there (.there (.there .here))))))) | exact .there (.there (.there (.there (.there (.there (.there (.there (.there .here)))))))) | exact .there (.there (.there (.there (.there (.there (.there (.there (.there (.there .here))))))))) | exact .there (.there (.there (.there (.there (.there (.there (.there (.there (.there (.there .here)))))))))) | exact .there (.there (.there (.there (.there (.there (.there (.there (.there (.there (.there (.there .here))))))))))) | exact .there (.there (.there (.there (.there (.there (.there (.there (.there (.there (.there (.there (.there .here)))))))))))) | exact .there (.there (.there (.there (.there (.there (.there (.there (.there (.there (.there (.there (.there (.there .here))))))))))))) | exact .there (.there (.there (.there (.there (.there (.there (.there (.there (.there (.there (.there (.there (.there (.there .here))))))))))))))) (by repeat (first | exact Sub.nil | refine Sub.cons ?_ ?_ | exact In.here | refine In.there ?_)) Fc.sz22 (of_decide_eq_true rfl) (.inr (by assumption)) ?_
      clear hH; intro w hH
      refine Sq.nil ?_
      refine then_n ?_
      refine c_seq ?_
      refine c_seq ?_
      refine reg_plain w0 (Nobody) ?_
      refine r_fieldAddr hS hH.kp0 rfl Fc.fo41_4 rfl ?_; clear hS; intro a hS
      refine r_load_sc hS hH (by repeat (first | exact Sub.nil | refine Sub.cons ?_ ?_ | exact In.here | refine In.there ?_)) rfl (by repeat (first | exact In.here | refine In.there ?_)) Fc.sc22 (by rfl) rfl ?_; clear hS; intro a hS
      refine r_lenSl hS hH.kp0 rfl Fc.isSlice22 rfl ?_; clear hS; intro a hS
      refine r_eql hS hH.kp0 rfl rfl rfl ?_; clear hS; intro a hS
      refine r_move hS hH.kp0 rfl rfl ?_; clear hS; intro a hS
      by_cases ht0 : tok.length = 0
      · refine Sq.guardNo hS rfl rfl (beq_iff_eq.2 (by omega)) hH.kp0 rfl ?_; clear hS; intro a hS
        refine Sq.guardNo hS rfl rfl (beq_iff_eq.2 (by omega)) hH.kp0 rfl ?_; clear hS; intro a hS
        refine Sq.guardNo hS rfl rfl (beq_iff_eq.2 (by omega)) hH.kp0 rfl ?_; clear hS; intro a hS
        refine Sq.guardNo hS rfl rfl (beq_iff_eq.2 (by omega)) hH.kp0 rfl ?_; clear hS; intro a hS
        refine r_pickT hS hH.kp0 rfl (beq_iff_eq.2 (by omega)) rfl rfl ?_; clear hS; intro a hS
        refine Sq.nil ?_
        refine then_n ?_
        refine c_condT hS rfl rfl ?_
        refine c_seq ?_
        refine reg_plain w0 (Nobody) ?_
        refine r_buildS (parts := []) hS hH.kp0 rfl rfl Fc.zc41 Fc.pl41 (by rfl) ?_; clear hS; intro a hS
        refine r_store_row hS hH rfl rfl (by first | exact .here | exact .there .here | exact .there (.there .here) | exact .there (.there (.there .here)) | exact .there (.there (.there (.there .here))) | exact .there (.there (.there (.there (.there .here)))) | exact .there (.there (.there (.there (.there (.there .here))))) | exact .there (.there (.there (.there (.there (.there (.there .here)))))) | exact .there (.there (.there (.there (.there (.there (.there (.there .here))))))) | exact .there (.there (.there (.there (.there (.there (.there (.there (.there .here)))))))) | exact .there (.there (.there (.there (.there (.there (.there (.there (.there (.there .here))))))))) | exact .there (.there (.there (.there (.there (.there (.there (.there (.there (.there (.there .here)))))))))) | exact .there (.there (.there (.there (.there (.there (.there (.there (.there (.there (.there (.there .here))))))))))) | exact .there (.there (.there (.there (.there (.there (.there (.there (.there (.there (.there (.there (.there .here)))))))))))) | exact .there (.there (.there (.there (.there (.there (.there (.there (.there (.there (.there (.there (.there (.there .here))))))))))))) | exact .there (.there (.there (.there (.there (.there (.there (.there (.there (.there (.there (.there (.there (.there (.there .here))))))))))))))) (by repeat (first | exact Sub.nil | refine Sub.cons ?_ ?_ | exact In.here | refine In.there ?_)) Fc.sz41 (by first | exact hcells_one _ | exact of_decide_eq_true rfl) (by rfl) (.inr (by assumption)) ?_
        clear hH; intro w hH
        refine r_assign hS hH.kp0 rfl rfl ?_; clear hS; intro a hS
        refine r_assign hS hH.kp0 rfl rfl ?_; clear hS; intro a hS
        refine Sq.nil ?_
        refine then_n ?_
        refine wp_ret ?_
        refine then_r ?_
        refine then_r ?_
        refine leave (.inl rfl) hS rfl (Res.cell rfl (hH.get (by repeat (first | exact In.here | refine In.there ?_))) Fc.ag41 (by rfl) rfl (Res.tmp rfl (Res.tmp rfl Res.nil))) ⟨zHd, 0, _, rfl, ?_, hH.mod⟩
        have hq0 : restQ l dst src kd p = .inl 11 := by unfold restQ; rw [if_pos hk3, if_neg (by omega), if_pos (by omega)]
        rw [hq0]; exact ⟨rfl, rfl, rfl, by decide⟩
      · refine Sq.guardYes hS rfl rfl (beq_false_of_ne (by omega)) ?_
        refine r_fieldAddr hS hH.kp0 rfl Fc.fo41_4 rfl ?_; clear hS; intro a hS
        refine Sq.guardYes hS rfl rfl (beq_false_of_ne (by omega)) ?_
        refine r_load_sc hS hH (by repeat (first | exact Sub.nil | refine Sub.cons ?_ ?_ | exact In.here | refine In.there ?_)) rfl (by repeat (first | exact In.here | refine In.there ?_)) Fc.sc22 (by rfl) rfl ?_; clear hS; intro a hS
        refine Sq.guardYes hS rfl rfl (beq_false_of_ne (by omega)) ?_
        refine r_lenSl hS hH.kp0 rfl Fc.isSlice22 rfl ?_; clear hS; intro a hS
        refine Sq.guardYes hS rfl rfl (beq_false_of_ne (by omega)) ?_
        refine r_gtr hS hH.kp0 rfl rfl rfl ?_; clear hS; intro a hS
        refine r_pickF hS hH.kp0 rfl (beq_false_of_ne (by omega)) rfl rfl ?_; clear hS; intro a hS
        refine Sq.nil ?_
        refine then_n ?_
        refine c_cond hS rfl (fun hc2 => ?_) (fun hc2 => ?_)
        · have hbig := of_decide_eq_true hc2
          refine c_seq ?_
          refine reg_plain w0 (Nobody) ?_
          refine r_buildS (parts := []) hS hH.kp0 rfl rfl Fc.zc41 Fc.pl41 (by rfl) ?_; clear hS; intro a hS
          refine r_store_row hS hH rfl rfl (by first | exact .here | exact .there .here | exact .there (.there .here) | exact .there (.there (.there .here)) | exact .there (.there (.there (.there .here))) | exact .there (.there (.there (.there (.there .here)))) | exact .there (.there (.there (.there (.there (.there .here))))) | exact .there (.there (.there (.there (.there (.there (.there .here)))))) | exact .there (.there (.there (.there (.there (.there (.there (.there .here))))))) | exact .there (.there (.there (.there (.there (.there (.there (.there (.there .here)))))))) | exact .there (.there (.there (.there (.there (.there (.there (.there (.there (.there .here))))))))) | exact .there (.there (.there (.there (.there (.there (.there (.there (.there (.there (.there .here)))))))))) | exact .there (.there (.there (.there (.there (.there (.there (.there (.there (.there (.there (.there .here))))))))))) | exact .there (.there (.there (.there (.there (.there (.there (.there (.there (.there (.there (.there (.there .here)))))))))))) | exact .there (.there (.there (.there (.there (.there (.there (.there (.there (.there (.there (.there (.there (.there .here))))))))))))) | exact .there (.there (.there (.there (.there (.there (.there (.there (.there (.there (.there (.there (.there (.there (.there .here))))))))))))))) (by repeat (first | exact Sub.nil | refine Sub.cons ?_ ?_ | exact In.here | refine In.there ?_)) Fc.sz41 (by first | exact hcells_one _ | exact of_decide_eq_true rfl) (by rfl) (.inr (by assumption)) ?_
          clear hH; intro w hH
          refine r_assign hS hH.kp0 rfl rfl ?_; clear hS; intro a hS
          refine r_assign hS hH.kp0 rfl rfl ?_; clear hS; intro a hS
          refine Sq.nil ?_
          refine then_n ?_
          refine wp_ret ?_
          refine then_r ?_
          refine then_r ?_
          refine leave (.inl rfl) hS rfl (Res.cell rfl (hH.get (by repeat (first | exact In.here | refine In.there ?_))) Fc.ag41 (by rfl) rfl (Res.tmp rfl (Res.tmp rfl Res.nil))) ⟨zHd, 0, _, rfl, ?_, hH.mod⟩
          have hq0 : restQ l dst src kd p = .inl 11 := by unfold restQ; rw [if_pos hk3, if_neg (by omega), if_pos (by omega)]
          rw [hq0]; exact ⟨rfl, rfl, rfl, by decide⟩
        · have hbig := of_decide_eq_false hc2
          subst hk3
          refine wp_skip ?_
          refine then_n ?_
          refine c_seq ?_
          refine c_seq ?_
          refine reg_plain w0 (Nobody) ?_
          refine r_assign hS hH.kp0 rfl rfl ?_; clear hS; intro a hS
          refine Sq.nil ?_
          refine then_n ?_
          refine wp_block ?_
          refine c_loop (fun m a w => ∃ (k : Nat) (i : Int), m + k = 16 ∧ i = k ∧ St 119 (lv [(1, .slice (some ⟨ba, bob, none⟩) l.length qc), (3, .pointer (some ⟨bx, 0, none⟩)), (6, .pointer (some ⟨bo, 0, none⟩)), (9, .int .i64 i)]) a ∧ Hp w0 Nobody [(b1, .cells k1.toArray 5 (0, 0)), (bo, .cells zHd.toArray 41 (0, 0)), (bx, .cells (([.int .i64 ((3 : Nat) : Int), .int .i64 1, dv, sv, .slice (some ⟨b1, 0, none⟩) tok.length c1, .int .i64 0, .bool false, .slice none 0 0] ++ hcells (tg ((l.drop (l.length - 16)).take 16) k)) : List Value).toArray 41 (0, 0))] w) (16) ?_ ?_
          · exact ⟨0, _, rfl, rfl, hS.live ⟨rfl, rfl, rfl, rfl, trivial⟩, hH⟩
          clear hS hH; intro m a w hI; obtain ⟨k, i, hmk, hi, hS, hH⟩ := hI
          refine c_seq ?_
          refine c_seq ?_
          refine reg_plain w0 (Nobody) ?_
          refine r_move hS hH.kp0 rfl rfl ?_; clear hS; intro a hS
          refine r_lss hS hH.kp0 rfl rfl rfl ?_; clear hS; intro a hS
          refine Sq.nil ?_
          refine then_n ?_
          refine c_cond hS rfl (fun hc3 => ?_) (fun hc3 => ?_)
          · have hk16 : k < 16 := by have := of_decide_eq_true hc3; omega
            obtain ⟨y, hy⟩ : ∃ y, l[l.length - 16 + k]? = some y := ⟨_, List.getElem?_eq_getElem (by omega)⟩
            have hcell := hb.f.byte hH.mod hy
            have hy9 : ((l.drop (l.length - 16)).take 16)[k]? = some y := by rw [List.getElem?_take, if_pos hk16, List.getElem?_drop]; exact hy
            have hl24 : (([.int .i64 ((3 : Nat) : Int), .int .i64 1, dv, sv, .slice (some ⟨b1, 0, none⟩) tok.length c1, .int .i64 0, .bool false, .slice none 0 0] ++ hcells (tg ((l.drop (l.length - 16)).take 16) k)) : List Value).length = 24 := by simp [hcells, tg, z16]; omega
            refine wp_skip ?_
            refine then_n ?_
            refine c_seq ?_
            refine wp_block ?_
            refine reg_plain w0 (Nobody) ?_
            refine r_move hS hH.kp0 rfl rfl ?_; clear hS; intro a hS
            refine r_move hS hH.kp0 rfl rfl ?_; clear hS; intro a hS
            refine r_move hS hH.kp0 rfl rfl ?_; clear hS; intro a hS
            refine r_lenSl hS hH.kp0 rfl Fc.isSlice22 rfl ?_; clear hS; intro a hS
            first | refine r_sub hS hH.kp0 rfl rfl rfl (by omega) ?_ | refine r_subw hS hH.kp0 rfl rfl rfl ?_
            clear hS; intro a hS
            refine r_move hS hH.kp0 rfl rfl ?_; clear hS; intro a hS
            first | refine r_add hS hH.kp0 rfl rfl rfl (by omega) ?_ | refine r_addw hS hH.kp0 rfl rfl rfl ?_
            clear hS; intro a hS
            refine r_indexAddrS (j := l.length - 16 + k) hS hH.kp0 rfl rfl Fc.slb22 (by omega) (by omega) rfl ?_; clear hS; intro a hS
            refine r_load_cell (v := byteV y) hS hH.kp0 rfl (by rw [Nat.mul_one]; exact hcell) Fc.sc5 rfl ?_; clear hS; intro a hS
            refine r_fieldAddr hS hH.kp0 rfl Fc.fo41_8 rfl ?_; clear hS; intro a hS
            refine r_indexAddrA hS hH.kp0 rfl rfl Fc.ar24 hi (by omega) rfl ?_; clear hS; intro a hS
            refine r_store1 (v := byteV y) hS hH rfl rfl rfl (by first | exact .here | exact .there .here | exact .there (.there .here) | exact .there (.there (.there .here)) | exact .there (.there (.there (.there .here))) | exact .there (.there (.there (.there (.there .here)))) | exact .there (.there (.there (.there (.there (.there .here))))) | exact .there (.there (.there (.there (.there (.there (.there .here)))))) | exact .there (.there (.there (.there (.there (.there (.there (.there .here))))))) | exact .there (.there (.there (.there (.there (.there (.there (.there (.there .here)))))))) | exact .there (.there (.there (.there (.there (.there (.there (.there (.there (.there .here))))))))) | exact .there (.there (.there (.there (.there (.there (.there (.there (.there (.there (.there .here)))))))))) | exact .there (.there (.there (.there (.there (.there (.there (.there (.there (.there (.there (.there .here))))))))))) | exact .there (.there (.there (.there (.there (.there (.there (.there (.there (.there (.there (.there (.there .here)))))))))))) | exact .there (.there (.there (.there (.there (.there (.there (.there (.there (.there (.there (.there (.there (.there .here))))))))))))) | exact .there (.there (.there (.there (.there (.there (.there (.there (.there (.there (.there (.there (.there (.there (.there .here))))))))))))))) (by repeat (first | exact Sub.nil | refine Sub.cons ?_ ?_ | exact In.here | refine In.there ?_)) Fc.sz5 (by rw [hl24]; omega) (.inr (by assumption)) ?_; clear hH; intro w hH
            refine Sq.nil ?_
            refine blk_n ?_
            refine then_n ?_
            refine reg_plain w0 (Nobody) ?_
            refine r_move hS hH.kp0 rfl rfl ?_; clear hS; intro a hS
            first | refine r_add hS hH.kp0 rfl rfl rfl (by omega) ?_ | refine r_addw hS hH.kp0 rfl rfl rfl ?_
            clear hS; intro a hS
            refine r_assign hS hH.kp0 rfl rfl ?_; clear hS; intro a hS
            refine Sq.nil ?_
            refine then_n ?_
            refine ⟨m - 1, by omega, k + 1, _, by omega, ?_, hS.live ⟨rfl, rfl, rfl, rfl, trivial⟩, ?_⟩
            · omega
            · rw [spl_tg (by simp; omega) hk16 hy9] at hH; exact hH
          · have hke : k = 16 := by have := of_decide_eq_false hc3; omega
            subst hke
            have hTG2 : tg ((l.drop (l.length - 16)).take 16) 16 = ((l.drop (l.length - 16)).take 16) := by unfold tg; rw [List.take_of_length_le (by simp; omega), show z16.drop 16 = [] from rfl, List.append_nil]
            have hTL : ((l.drop (l.length - 16)).take 16).length = 16 := by simp; omega
            rw [hTG2] at hH
            generalize hTT : ((l.drop (l.length - 16)).take 16) = TT at hTL hH
            obtain ⟨g0, g1, g2, g3, g4, g5, g6, g7, g8, g9, ga, gb, gc, gd, ge, gf, rfl⟩ := len16 hTL
            refine wp_exit ?_
            refine then_e ?_
            refine then_e ?_
            refine blk_hit ?_
            refine then_n ?_
            refine c_seq ?_
            refine reg_plain w0 (Nobody) ?_
            refine r_load_row hS hH (by repeat (first | exact Sub.nil | refine Sub.cons ?_ ?_ | exact In.here | refine In.there ?_)) rfl (by repeat (first | exact In.here | refine In.there ?_)) Fc.ag41 (by rfl) rfl ?_; clear hS; intro a hS
            refine r_move hS hH.kp0 rfl rfl ?_; clear hS; intro a hS
            refine r_lenSl hS hH.kp0 rfl Fc.isSlice22 rfl ?_; clear hS; intro a hS
            refine r_store_row hS hH rfl rfl (by first | exact .here | exact .there .here | exact .there (.there .here) | exact .there (.there (.there .here)) | exact .there (.there (.there (.there .here))) | exact .there (.there (.there (.there (.there .here)))) | exact .there (.there (.there (.there (.there (.there .here))))) | exact .there (.there (.there (.there (.there (.there (.there .here)))))) | exact .there (.there (.there (.there (.there (.there (.there (.there .here))))))) | exact .there (.there (.there (.there (.there (.there (.there (.there (.there .here)))))))) | exact .there (.there (.there (.there (.there (.there (.there (.there (.there (.there .here))))))))) | exact .there (.there (.there (.there (.there (.there (.there (.there (.there (.there (.there .here)))))))))) | exact .there (.there (.there (.there (.there (.there (.there (.there (.there (.there (.there (.there .here))))))))))) | exact .there (.there (.there (.there (.there (.there (.there (.there (.there (.there (.there (.there (.there .here)))))))))))) | exact .there (.there (.there (.there (.there (.there (.there (.there (.there (.there (.there (.there (.there (.there .here))))))))))))) | exact .there (.there (.there (.there (.there (.there (.there (.there (.there (.there (.there (.there (.there (.there (.there .here))))))))))))))) (by repeat (first | exact Sub.nil | refine Sub.cons ?_ ?_ | exact In.here | refine In.there ?_)) Fc.sz41 (hd_one (t := [g0, g1, g2, g3, g4, g5, g6, g7, g8, g9, ga, gb, gc, gd, ge, gf]) hdv hsv rfl rfl) (by rfl) (.inr (by assumption)) ?_; clear hH; intro w hH
            refine r_assign hS hH.kp0 rfl rfl ?_; clear hS; intro a hS
            refine r_assign hS hH.kp0 rfl rfl ?_; clear hS; intro a hS
            refine Sq.nil ?_
            refine then_n ?_
            refine wp_ret ?_
            refine then_r ?_
            refine leave (.inl rfl) hS rfl (Res.cell rfl (hH.get (by repeat (first | exact In.here | refine In.there ?_))) Fc.ag41 (by rfl) rfl (Res.tmp rfl (Res.tmp rfl Res.nil))) ⟨_, _, _, rfl, ?_, hH.mod⟩
            have hq0 : restQ l dst src 3 p = .inr (⟨3, 1, dst, src, tok, 0, false, [], ((l.drop (l.length - 16)).take 16)⟩, l.length) := by unfold restQ; rw [if_pos rfl, if_neg (by omega), if_neg (by omega), htk]
            rw [hq0, hTT]; exact ⟨_, rfl, .inr ⟨b1, c1, k1, rfl, hw1, hH.get (b := b1) (by repeat (first | exact In.here | refine In.there ?_)), hB1.le, hB1.len, hB1.take⟩, rfl, rfl, rfl, rfl, rfl, rfl⟩
  · have hk3 : ¬ kd = 3 := by have := ne_of_beq_false hc0; omega
    refine wp_skip ?_
    refine then_n ?_
    refine c_seq ?_
    refine c_seq ?_
    refine reg_plain w0 (Nobody) ?_
    refine r_fieldAddr hS hH.kp0 rfl Fc.fo41_0 rfl ?_; clear hS; intro a hS
    refine r_load_sc hS hH (by repeat (first | exact Sub.nil | refine Sub.cons ?_ ?_ | exact In.here | refine In.there ?_)) rfl (by repeat (first | exact In.here | refine In.there ?_)) Fc.sc3 (by rfl) rfl ?_; clear hS; intro a hS
    refine r_eql hS hH.kp0 rfl rfl rfl ?_; clear hS; intro a hS
    refine Sq.nil ?_
    refine then_n ?_
    refine c_cond hS rfl (fun hc4 => ?_) (fun hc4 => ?_)
    · have hk0 : kd = 0 := by have := beq_iff_eq.1 hc4; omega
      refine c_seq ?_
      refine reg_plain w0 (Nobody) ?_
      refine r_move hS hH.kp0 rfl rfl ?_; clear hS; intro a hS
      refine r_move hS hH.kp0 rfl rfl ?_; clear hS; intro a hS
      refine r_call (l := [.tmp 66, .tmp 67]) hS rfl rfl Fc.fn53 rfl ?_
      refine Calls.mono (ReadV_c _ _ l p hp hl _ (hb.ext hH.mod)) ?_
      rintro e w1 ⟨x, y, z, rfl, hg, hE⟩
      replace hH := hH.ext hE
      refine ⟨_, rfl, hH.kp0, ?_⟩
      clear hS; intro a hS
      refine r_move hS hH.kp0 rfl rfl ?_; clear hS; intro a hS
      rcases hg with ⟨n13, p13, hv13, hx9, hy9, hz9⟩ | ⟨hv13, hz9⟩
      · subst hx9 hy9 hz9
        obtain ⟨hvn, hvp, hvl⟩ := varN_bound hv13
        refine r_extract hS hH.kp0 rfl rfl rfl ?_; clear hS; intro a hS
        refine r_extract hS hH.kp0 rfl rfl rfl ?_; clear hS; intro a hS
        refine r_extract hS hH.kp0 rfl rfl rfl ?_; clear hS; intro a hS
        refine r_assign hS hH.kp0 rfl rfl ?_; clear hS; intro a hS
        refine r_assign hS hH.kp0 rfl rfl ?_; clear hS; intro a hS
        refine r_assign hS hH.kp0 rfl rfl ?_; clear hS; intro a hS
        refine Sq.nil ?_
        refine then_n ?_
        refine c_seq ?_
        refine c_seq ?_
        refine reg_plain w0 (Nobody) ?_
        refine r_move hS hH.kp0 rfl rfl ?_; clear hS; intro a hS
        refine r_neq hS hH.kp0 rfl rfl rfl ?_; clear hS; intro a hS
        refine Sq.nil ?_
        refine then_n ?_
        refine c_condF hS rfl rfl ?_
        refine wp_skip ?_
        refine then_n ?_
        refine c_seq ?_
        refine c_seq ?_
        refine reg_plain w0 (Nobody) ?_
        refine r_move hS hH.kp0 rfl rfl ?_; clear hS; intro a hS
        refine r_gtr hS hH.kp0 rfl rfl rfl ?_; clear hS; intro a hS
        refine Sq.nil ?_
        refine then_n ?_
        refine c_cond hS rfl (fun hc6 => ?_) (fun hc6 => ?_)
        · have hgt := of_decide_eq_true hc6
          refine c_seq ?_
          refine reg_plain w0 (Nobody) ?_
          refine r_buildS (parts := []) hS hH.kp0 rfl rfl Fc.zc41 Fc.pl41 (by rfl) ?_; clear hS; intro a hS
          refine r_store_row hS hH rfl rfl (by first | exact .here | exact .there .here | exact .there (.there .here) | exact .there (.there (.there .here)) | exact .there (.there (.there (.there .here))) | exact .there (.there (.there (.there (.there .here)))) | exact .there (.there (.there (.there (.there (.there .here))))) | exact .there (.there (.there (.there (.there (.there (.there .here)))))) | exact .there (.there (.there (.there (.there (.there (.there (.there .here))))))) | exact .there (.there (.there (.there (.there (.there (.there (.there (.there .here)))))))) | exact .there (.there (.there (.there (.there (.there (.there (.there (.there (.there .here))))))))) | exact .there (.there (.there (.there (.there (.there (.there (.there (.there (.there (.there .here)))))))))) | exact .there (.there (.there (.there (.there (.there (.there (.there (.there (.there (.there (.there .here))))))))))) | exact .there (.there (.there (.there (.there (.there (.there (.there (.there (.there (.there (.there (.there .here)))))))))))) | exact .there (.there (.there (.there (.there (.there (.there (.there (.there (.there (.there (.there (.there (.there .here))))))))))))) | exact .there (.there (.there (.there (.there (.there (.there (.there (.there (.there (.there (.there (.there (.there (.there .here))))))))))))))) (by repeat (first | exact Sub.nil | refine Sub.cons ?_ ?_ | exact In.here | refine In.there ?_)) Fc.sz41 (by first | exact hcells_one _ | exact of_decide_eq_true rfl) (by rfl) (.inr (by assumption)) ?_
          clear hH; intro w hH
          refine r_assign hS hH.kp0 rfl rfl ?_; clear hS; intro a hS
          refine r_assign hS hH.kp0 rfl rfl ?_; clear hS; intro a hS
          refine Sq.nil ?_
          refine then_n ?_
          refine wp_ret ?_
          refine then_r ?_
          refine then_r ?_
          refine leave (.inl rfl) hS rfl (Res.cell rfl (hH.get (by repeat (first | exact In.here | refine In.there ?_))) Fc.ag41 (by rfl) rfl (Res.tmp rfl (Res.tmp rfl Res.nil))) ⟨zHd, 0, _, rfl, ?_, hH.mod⟩
          have hq0 : restQ l dst src kd p = .inl 11 := by unfold restQ; rw [if_neg hk3, if_pos hk0, hv13]; exact if_pos (by omega)
          rw [hq0]; exact ⟨rfl, rfl, rfl, by decide⟩
        · have hgt := of_decide_eq_false hc6
          refine wp_skip ?_
          refine then_n ?_
          refine c_seq ?_
          refine c_seq ?_
          refine reg_plain w0 (Nobody) ?_
          refine r_move hS hH.kp0 rfl rfl ?_; clear hS; intro a hS
          refine r_lenSl hS hH.kp0 rfl Fc.isSlice22 rfl ?_; clear hS; intro a hS
          refine r_move hS hH.kp0 rfl rfl ?_; clear hS; intro a hS
          first | refine r_sub hS hH.kp0 rfl rfl rfl (by omega) ?_ | refine r_subw hS hH.kp0 rfl rfl rfl ?_
          clear hS; intro a hS
          refine r_move hS hH.kp0 rfl rfl ?_; clear hS; intro a hS
          refine r_lss hS hH.kp0 rfl rfl rfl ?_; clear hS; intro a hS
          refine Sq.nil ?_
          refine then_n ?_
          refine c_cond hS rfl (fun hc7 => ?_) (fun hc7 => ?_)
          · have hsh := of_decide_eq_true hc7
            refine c_seq ?_
            refine reg_plain w0 (Nobody) ?_
            refine r_buildS (parts := []) hS hH.kp0 rfl rfl Fc.zc41 Fc.pl41 (by rfl) ?_; clear hS; intro a hS
            refine r_store_row hS hH rfl rfl (by first | exact .here | exact .there .here | exact .there (.there .here) | exact .there (.there (.there .here)) | exact .there (.there (.there (.there .here))) | exact .there (.there (.there (.there (.there .here)))) | exact .there (.there (.there (.there (.there (.there .here))))) | exact .there (.there (.there (.there (.there (.there (.there .here)))))) | exact .there (.there (.there (.there (.there (.there (.there (.there .here))))))) | exact .there (.there (.there (.there (.there (.there (.there (.there (.there .here)))))))) | exact .there (.there (.there (.there (.there (.there (.there (.there (.there (.there .here))))))))) | exact .there (.there (.there (.there (.there (.there (.there (.there (.there (.there (.there .here)))))))))) | exact .there (.there (.there (.there (.there (.there (.there (.there (.there (.there (.there (.there .here))))))))))) | exact .there (.there (.there (.there (.there (.there (.there (.there (.there (.there (.there (.there (.there .here)))))))))))) | exact .there (.there (.there (.there (.there (.there (.there (.there (.there (.there (.there (.there (.there (.there .here))))))))))))) | exact .there (.there (.there (.there (.there (.there (.there (.there (.there (.there (.there (.there (.there (.there (.there .here))))))))))))))) (by repeat (first | exact Sub.nil | refine Sub.cons ?_ ?_ | exact In.here | refine In.there ?_)) Fc.sz41 (by first | exact hcells_one _ | exact of_decide_eq_true rfl) (by rfl) (.inr (by assumption)) ?_
            clear hH; intro w hH
            refine r_assign hS hH.kp0 rfl rfl ?_; clear hS; intro a hS
            refine r_assign hS hH.kp0 rfl rfl ?_; clear hS; intro a hS
            refine Sq.nil ?_
            refine then_n ?_
            refine wp_ret ?_
            refine then_r ?_
            refine then_r ?_
            refine leave (.inl rfl) hS rfl (Res.cell rfl (hH.get (by repeat (first | exact In.here | refine In.there ?_))) Fc.ag41 (by rfl) rfl (Res.tmp rfl (Res.tmp rfl Res.nil))) ⟨zHd, 0, _, rfl, ?_, hH.mod⟩
            have hq0 : restQ l dst src kd p = .inl 10 := by unfold restQ; rw [if_neg hk3, if_pos hk0, hv13]; simp only; rw [if_neg (by omega), if_pos (by omega)]
            rw [hq0]; exact ⟨rfl, rfl, rfl, by decide⟩
          · have hsh := of_decide_eq_false hc7
            refine wp_skip ?_
            refine then_n ?_
            refine c_seq ?_
            refine reg_plain w0 (Nobody) ?_
            refine r_buildSlice0 hS hH (by repeat (first | exact Sub.nil | refine Sub.cons ?_ ?_ | exact In.here | refine In.there ?_)) Fc.uls22 Fc.inf5 rfl ?_
            clear hS hH; intro a w bz hbz hwbz hS hH
            refine r_move hS hH.kp0 rfl rfl ?_; clear hS; intro a hS
            refine r_move hS hH.kp0 rfl rfl ?_; clear hS; intro a hS
            refine r_move hS hH.kp0 rfl rfl ?_; clear hS; intro a hS
            refine r_move hS hH.kp0 rfl rfl ?_; clear hS; intro a hS
            first | refine r_add hS hH.kp0 rfl rfl rfl (by omega) ?_ | refine r_addw hS hH.kp0 rfl rfl rfl ?_
            clear hS; intro a hS
            refine r_slLoHi (ll := p13) (hh := p13 + n13) hS hH.kp0 rfl rfl rfl Fc.slb22 rfl (by omega) (by omega) (by omega) rfl ?_; clear hS; intro a hS
            refine r_appB (l := []) ([]) ((l.drop p13).take (p13 + n13 - p13)) hS hH rfl rfl (by first | exact .here | exact .there .here | exact .there (.there .here) | exact .there (.there (.there .here)) | exact .there (.there (.there (.there .here))) | exact .there (.there (.there (.there (.there .here)))) | exact .there (.there (.there (.there (.there (.there .here))))) | exact .there (.there (.there (.there (.there (.there (.there .here)))))) | exact .there (.there (.there (.there (.there (.there (.there (.there .here))))))) | exact .there (.there (.there (.there (.there (.there (.there (.there (.there .here)))))))) | exact .there (.there (.there (.there (.there (.there (.there (.there (.there (.there .here))))))))) | exact .there (.there (.there (.there (.there (.there (.there (.there (.there (.there (.there .here)))))))))) | exact .there (.there (.there (.there (.there (.there (.there (.there (.there (.there (.there (.there .here))))))))))) | exact .there (.there (.there (.there (.there (.there (.there (.there (.there (.there (.there (.there (.there .here)))))))))))) | exact .there (.there (.there (.there (.there (.there (.there (.there (.there (.there (.there (.there (.there (.there .here))))))))))))) | exact .there (.there (.there (.there (.there (.there (.there (.there (.there (.there (.there (.there (.there (.there (.there .here))))))))))))))) (by repeat (first | exact Sub.nil | refine Sub.cons ?_ ?_ | exact In.here | refine In.there ?_)) Fc.el22 Fc.ni22 BB.nil ((hb.ext hH.mod).f.part (ll := p13) (hh := p13 + n13) (by omega) (by omega)).bs (by first | omega | (simp only [List.length_append, List.length_nil, List.length_take, List.length_drop]; omega)) (by assumption) rfl ?_
            clear hS hH; intro a w b3 c3 k3 hw3 hB3 hS hH
            rw [List.nil_append, Nat.add_sub_cancel_left] at hB3 hS
            generalize htk : (l.drop p13).take n13 = tkl at hB3 hS
            refine r_fieldAddr hS hH.kp0 rfl Fc.fo41_4 rfl ?_; clear hS; intro a hS
            refine r_store1 hS hH rfl rfl rfl (by first | exact .here | exact .there .here | exact .there (.there .here) | exact .there (.there (.there .here)) | exact .there (.there (.there (.there .here))) | exact .there (.there (.there (.there (.there .here)))) | exact .there (.there (.there (.there (.there (.there .here))))) | exact .there (.there (.there (.there (.there (.there (.there .here)))))) | exact .there (.there (.there (.there (.there (.there (.there (.there .here))))))) | exact .there (.there (.there (.there (.there (.there (.there (.there (.there .here)))))))) | exact .there (.there (.there (.there (.there (.there (.there (.there (.there (.there .here))))))))) | exact .there (.there (.there (.there (.there (.there (.there (.there (.there (.there (.there .here)))))))))) | exact .there (.there (.there (.there (.there (.there (.there (.there (.there (.there (.there (.there .here))))))))))) | exact .there (.there (.there (.there (.there (.there (.there (.there (.there (.there (.there (.there (.there .here)))))))))))) | exact .there (.there (.there (.there (.there (.there (.there (.there (.there (.there (.there (.there (.there (.there .here))))))))))))) | exact .there (.there (.there (.there (.there (.there (.there (.there (.there (.there (.there (.there (.there (.there (.there .here))))))))))))))) (by repeat (first | exact Sub.nil | refine Sub.cons ?_ ?_ | exact In.here | refine In.there ?_)) Fc.sz22 (of_decide_eq_true rfl) (.inr (by assumption)) ?_
            clear hH; intro w hH
            refine Sq.nil ?_
            refine then_n ?_
            refine reg_plain w0 (Nobody) ?_
            refine r_move hS hH.kp0 rfl rfl ?_; clear hS; intro a hS
            refine r_move hS hH.kp0 rfl rfl ?_; clear hS; intro a hS
            first | refine r_add hS hH.kp0 rfl rfl rfl (by omega) ?_ | refine r_addw hS hH.kp0 rfl rfl rfl ?_
            clear hS; intro a hS
            refine r_assign hS hH.kp0 rfl rfl ?_; clear hS; intro a hS
            refine Sq.nil ?_
            obtain ⟨pp, hpp⟩ : ∃ z : Nat, z = p13 + n13 := ⟨_, rfl⟩
            rw [show ((p13 : Int) + (n13 : Int)) = (pp : Int) from by omega] at hS
            have hqt : restQ l dst src kd p = tailQ l dst src kd tkl pp := by unfold restQ; rw [if_neg hk3, if_pos hk0, hv13]; simp only; rw [if_neg (by omega), if_neg (by omega), htk, hk0, hpp]
            refine then_n ?_
            refine c_seq ?_
            refine reg_plain w0 (Nobody) ?_
            refine r_move hS hH.kp0 rfl rfl ?_; clear hS; intro a hS
            refine r_move hS hH.kp0 rfl rfl ?_; clear hS; intro a hS
            refine r_call (l := [.tmp 98, .tmp 99]) hS rfl rfl Fc.fn53 rfl ?_
            refine Calls.mono (ReadV_c _ _ l pp (by omega) hl _ (hb.ext hH.mod)) ?_
            rintro e w1 ⟨x, y, z, rfl, hg, hE⟩
            replace hH := hH.ext hE
            refine ⟨_, rfl, hH.kp0, ?_⟩
            clear hS; intro a hS
            refine r_move hS hH.kp0 rfl rfl ?_; clear hS; intro a hS
            rcases hg with ⟨n22, p22, hv22, hx9, hy9, hz9⟩ | ⟨hv22, hz9⟩
            · subst hx9 hy9 hz9
              obtain ⟨hvn, hvp, hvl⟩ := varN_bound hv22
              refine r_extract hS hH.kp0 rfl rfl rfl ?_; clear hS; intro a hS
              refine r_extract hS hH.kp0 rfl rfl rfl ?_; clear hS; intro a hS
              refine r_extract hS hH.kp0 rfl rfl rfl ?_; clear hS; intro a hS
              refine r_assign hS hH.kp0 rfl rfl ?_; clear hS; intro a hS
              refine r_assign hS hH.kp0 rfl rfl ?_; clear hS; intro a hS
              refine r_assign hS hH.kp0 rfl rfl ?_; clear hS; intro a hS
              refine Sq.nil ?_
              refine then_n ?_
              refine c_seq ?_
              refine c_seq ?_
              refine reg_plain w0 (Nobody) ?_
              refine r_move hS hH.kp0 rfl rfl ?_; clear hS; intro a hS
              refine r_neq hS hH.kp0 rfl rfl rfl ?_; clear hS; intro a hS
              refine r_move hS hH.kp0 rfl rfl ?_; clear hS; intro a hS
              refine Sq.guardYes hS rfl rfl rfl ?_
              refine r_move hS hH.kp0 rfl rfl ?_; clear hS; intro a hS
              refine Sq.guardYes hS rfl rfl rfl ?_
              refine r_lenSl hS hH.kp0 rfl Fc.isSlice22 rfl ?_; clear hS; intro a hS
              refine Sq.guardYes hS rfl rfl rfl ?_
              refine r_move hS hH.kp0 rfl rfl ?_; clear hS; intro a hS
              refine Sq.guardYes hS rfl rfl rfl ?_
              first | refine r_sub hS hH.kp0 rfl rfl rfl (by omega) ?_ | refine r_subw hS hH.kp0 rfl rfl rfl ?_
              clear hS; intro a hS
              refine Sq.guardYes hS rfl rfl rfl ?_
              refine r_move hS hH.kp0 rfl rfl ?_; clear hS; intro a hS
              refine Sq.guardYes hS rfl rfl rfl ?_
              refine r_lss hS hH.kp0 rfl rfl rfl ?_; clear hS; intro a hS
              refine r_pickF hS hH.kp0 rfl rfl rfl rfl ?_; clear hS; intro a hS
              refine Sq.nil ?_
              refine then_n ?_
              refine c_cond hS rfl (fun hc8 => ?_) (fun hc8 => ?_)
              · have hsh8 := of_decide_eq_true hc8
                refine c_seq ?_
                refine reg_plain w0 (Nobody) ?_
                refine r_buildS (parts := []) hS hH.kp0 rfl rfl Fc.zc41 Fc.pl41 (by rfl) ?_; clear hS; intro a hS
                refine r_store_row hS hH rfl rfl (by first | exact .here | exact .there .here | exact .there (.there .here) | exact .there (.there (.there .here)) | exact .there (.there (.there (.there .here))) | exact .there (.there (.there (.there (.there .here)))) | exact .there (.there (.there (.there (.there (.there .here))))) | exact .there (.there (.there (.there (.there (.there (.there .here)))))) | exact .there (.there (.there (.there (.there (.there (.there (.there .here))))))) | exact .there (.there (.there (.there (.there (.there (.there (.there (.there .here)))))))) | exact .there (.there (.there (.there (.there (.there (.there (.there (.there (.there .here))))))))) | exact .there (.there (.there (.there (.there (.there (.there (.there (.there (.there (.there .here)))))))))) | exact .there (.there (.there (.there (.there (.there (.there (.there (.there (.there (.there (.there .here))))))))))) | exact .there (.there (.there (.there (.there (.there (.there (.there (.there (.there (.there (.there (.there .here)))))))))))) | exact .there (.there (.there (.there (.there (.there (.there (.there (.there (.there (.there (.there (.there (.there .here))))))))))))) | exact .there (.there (.there (.there (.there (.there (.there (.there (.there (.there (.there (.there (.there (.there (.there .here))))))))))))))) (by repeat (first | exact Sub.nil | refine Sub.cons ?_ ?_ | exact In.here | refine In.there ?_)) Fc.sz41 (by first | exact hcells_one _ | exact of_decide_eq_true rfl) (by rfl) (.inr (by assumption)) ?_
                clear hH; intro w hH
                refine r_assign hS hH.kp0 rfl rfl ?_; clear hS; intro a hS
                refine r_assign hS hH.kp0 rfl rfl ?_; clear hS; intro a hS
                refine Sq.nil ?_
                refine then_n ?_
                refine wp_ret ?_
                refine then_r ?_
                refine leave (.inl rfl) hS rfl (Res.cell rfl (hH.get (by repeat (first | exact In.here | refine In.there ?_))) Fc.ag41 (by rfl) rfl (Res.tmp rfl (Res.tmp rfl Res.nil))) ⟨zHd, 0, _, rfl, ?_, hH.mod⟩
                have hq0 : restQ l dst src kd p = .inl 10 := by first | (rw [hqt]; unfold tailQ; rw [hv22]; done) | (rw [hqt]; unfold tailQ; rw [hv22]; exact if_pos (by omega))
                rw [hq0]; exact ⟨rfl, rfl, rfl, by decide⟩
              · have hsh8 := of_decide_eq_false hc8
                refine wp_skip ?_
                refine then_n ?_
                refine c_seq ?_
                refine reg_plain w0 (Nobody) ?_
                refine r_move hS hH.kp0 rfl rfl ?_; clear hS; intro a hS
                refine r_fieldAddr hS hH.kp0 rfl Fc.fo41_5 rfl ?_; clear hS; intro a hS
                refine r_store1 hS hH rfl rfl rfl (by first | exact .here | exact .there .here | exact .there (.there .here) | exact .there (.there (.there .here)) | exact .there (.there (.there (.there .here))) | exact .there (.there (.there (.there (.there .here)))) | exact .there (.there (.there (.there (.there (.there .here))))) | exact .there (.there (.there (.there (.there (.there (.there .here)))))) | exact .there (.there (.there (.there (.there (.there (.there (.there .here))))))) | exact .there (.there (.there (.there (.there (.there (.there (.there (.there .here)))))))) | exact .there (.there (.there (.there (.there (.there (.there (.there (.there (.there .here))))))))) | exact .there (.there (.there (.there (.there (.there (.there (.there (.there (.there (.there .here)))))))))) | exact .there (.there (.there (.there (.there (.there (.there (.there (.there (.there (.there (.there .here))))))))))) | exact .there (.there (.there (.there (.there (.there (.there (.there (.there (.there (.there (.there (.there .here)))))))))))) | exact .there (.there (.there (.there (.there (.there (.there (.there (.there (.there (.there (.there (.there (.there .here))))))))))))) | exact .there (.there (.there (.there (.there (.there (.there (.there (.there (.there (.there (.there (.there (.there (.there .here))))))))))))))) (by repeat (first | exact Sub.nil | refine Sub.cons ?_ ?_ | exact In.here | refine In.there ?_)) Fc.sz3 (of_decide_eq_true rfl) (.inr (by assumption)) ?_
                clear hH; intro w hH
                refine Sq.nil ?_
                refine then_n ?_
                refine c_seq ?_
                refine reg_plain w0 (Nobody) ?_
                refine r_load_row hS hH (by repeat (first | exact Sub.nil | refine Sub.cons ?_ ?_ | exact In.here | refine In.there ?_)) rfl (by repeat (first | exact In.here | refine In.there ?_)) Fc.ag41 (by rfl) rfl ?_; clear hS; intro a hS
                refine r_move hS hH.kp0 rfl rfl ?_; clear hS; intro a hS
                refine r_store_row hS hH rfl rfl (by first | exact .here | exact .there .here | exact .there (.there .here) | exact .there (.there (.there .here)) | exact .there (.there (.there (.there .here))) | exact .there (.there (.there (.there (.there .here)))) | exact .there (.there (.there (.there (.there (.there .here))))) | exact .there (.there (.there (.there (.there (.there (.there .here)))))) | exact .there (.there (.there (.there (.there (.there (.there (.there .here))))))) | exact .there (.there (.there (.there (.there (.there (.there (.there (.there .here)))))))) | exact .there (.there (.there (.there (.there (.there (.there (.there (.there (.there .here))))))))) | exact .there (.there (.there (.there (.there (.there (.there (.there (.there (.there (.there .here)))))))))) | exact .there (.there (.there (.there (.there (.there (.there (.there (.there (.there (.there (.there .here))))))))))) | exact .there (.there (.there (.there (.there (.there (.there (.there (.there (.there (.there (.there (.there .here)))))))))))) | exact .there (.there (.there (.there (.there (.there (.there (.there (.there (.there (.there (.there (.there (.there .here))))))))))))) | exact .there (.there (.there (.there (.there (.there (.there (.there (.there (.there (.there (.there (.there (.there (.there .here))))))))))))))) (by repeat (first | exact Sub.nil | refine Sub.cons ?_ ?_ | exact In.here | refine In.there ?_)) Fc.sz41 (hd_one (t := z16) hdv hsv rfl rfl) (by rfl) (.inr (by assumption)) ?_; clear hH; intro w hH
                refine r_assign hS hH.kp0 rfl rfl ?_; clear hS; intro a hS
                refine r_assign hS hH.kp0 rfl rfl ?_; clear hS; intro a hS
                refine Sq.nil ?_
                refine then_n ?_
                refine wp_ret ?_
                refine leave (.inl rfl) hS rfl (Res.cell rfl (hH.get (by repeat (first | exact In.here | refine In.there ?_))) Fc.ag41 (by rfl) rfl (Res.tmp rfl (Res.tmp rfl Res.nil))) ⟨_, _, _, rfl, ?_, hH.mod⟩
                have hq0 : restQ l dst src kd p = .inr (⟨(kd : Int), 1, dst, src, tkl, n22, false, [], z16⟩, p22) := by rw [hqt]; unfold tailQ; rw [hv22]; exact if_neg (by omega)
                rw [hq0]
                first | exact ⟨_, rfl, .inr ⟨b3, c3, k3, rfl, hw3, hH.get (b := b3) (by repeat (first | exact In.here | refine In.there ?_)), hB3.le, hB3.len, hB3.take⟩, rfl, rfl, rfl, rfl, rfl, rfl⟩ | (rw [htkl]; exact ⟨_, rfl, OwnB.nil _ _ _, rfl, rfl, rfl, rfl, rfl, rfl⟩)
            · subst hz9
              refine r_extract hS hH.kp0 rfl rfl rfl ?_; clear hS; intro a hS
              refine r_extract hS hH.kp0 rfl rfl rfl ?_; clear hS; intro a hS
              refine r_extract hS hH.kp0 rfl rfl rfl ?_; clear hS; intro a hS
              refine r_assign hS hH.kp0 rfl rfl ?_; clear hS; intro a hS
              refine r_assign hS hH.kp0 rfl rfl ?_; clear hS; intro a hS
              refine r_assign hS hH.kp0 rfl rfl ?_; clear hS; intro a hS
              refine Sq.nil ?_
              refine then_n ?_
              refine c_seq ?_
              refine c_seq ?_
              refine reg_plain w0 (Nobody) ?_
              refine r_move hS hH.kp0 rfl rfl ?_; clear hS; intro a hS
              refine r_neq hS hH.kp0 rfl rfl rfl ?_; clear hS; intro a hS
              refine r_move hS hH.kp0 rfl rfl ?_; clear hS; intro a hS
              refine Sq.guardNo hS rfl rfl rfl hH.kp0 rfl ?_; clear hS; intro a hS
              refine Sq.guardNo hS rfl rfl rfl hH.kp0 rfl ?_; clear hS; intro a hS
              refine Sq.guardNo hS rfl rfl rfl hH.kp0 rfl ?_; clear hS; intro a hS
              refine Sq.guardNo hS rfl rfl rfl hH.kp0 rfl ?_; clear hS; intro a hS
              refine Sq.guardNo hS rfl rfl rfl hH.kp0 rfl ?_; clear hS; intro a hS
              refine Sq.guardNo hS rfl rfl rfl hH.kp0 rfl ?_; clear hS; intro a hS
              refine r_pickT hS hH.kp0 rfl rfl rfl rfl ?_; clear hS; intro a hS
              refine Sq.nil ?_
              refine then_n ?_
              refine c_condT hS rfl rfl ?_
              refine c_seq ?_
              refine reg_plain w0 (Nobody) ?_
              refine r_buildS (parts := []) hS hH.kp0 rfl rfl Fc.zc41 Fc.pl41 (by rfl) ?_; clear hS; intro a hS
              refine r_store_row hS hH rfl rfl (by first | exact .here | exact .there .here | exact .there (.there .here) | exact .there (.there (.there .here)) | exact .there (.there (.there (.there .here))) | exact .there (.there (.there (.there (.there .here)))) | exact .there (.there (.there (.there (.there (.there .here))))) | exact .there (.there (.there (.there (.there (.there (.there .here)))))) | exact .there (.there (.there (.there (.there (.there (.there (.there .here))))))) | exact .there (.there (.there (.there (.there (.there (.there (.there (.there .here)))))))) | exact .there (.there (.there (.there (.there (.there (.there (.there (.there (.there .here))))))))) | exact .there (.there (.there (.there (.there (.there (.there (.there (.there (.there (.there .here)))))))))) | exact .there (.there (.there (.there (.there (.there (.there (.there (.there (.there (.there (.there .here))))))))))) | exact .there (.there (.there (.there (.there (.there (.there (.there (.there (.there (.there (.there (.there .here)))))))))))) | exact .there (.there (.there (.there (.there (.there (.there (.there (.there (.there (.there (.there (.there (.there .here))))))))))))) | exact .there (.there (.there (.there (.there (.there (.there (.there (.there (.there (.there (.there (.there (.there (.there .here))))))))))))))) (by repeat (first | exact Sub.nil | refine Sub.cons ?_ ?_ | exact In.here | refine In.there ?_)) Fc.sz41 (by first | exact hcells_one _ | exact of_decide_eq_true rfl) (by rfl) (.inr (by assumption)) ?_
              clear hH; intro w hH
              refine r_assign hS hH.kp0 rfl rfl ?_; clear hS; intro a hS
              refine r_assign hS hH.kp0 rfl rfl ?_; clear hS; intro a hS
              refine Sq.nil ?_
              refine then_n ?_
              refine wp_ret ?_
              refine then_r ?_
              refine leave (.inl rfl) hS rfl (Res.cell rfl (hH.get (by repeat (first | exact In.here | refine In.there ?_))) Fc.ag41 (by rfl) rfl (Res.tmp rfl (Res.tmp rfl Res.nil))) ⟨zHd, 0, _, rfl, ?_, hH.mod⟩
              have hq0 : restQ l dst src kd p = .inl 10 := by first | (rw [hqt]; unfold tailQ; rw [hv22]; done) | (rw [hqt]; unfold tailQ; rw [hv22]; exact if_pos (by omega))
              rw [hq0]; exact ⟨rfl, rfl, rfl, by decide⟩
      · subst hz9
        refine r_extract hS hH.kp0 rfl rfl rfl ?_; clear hS; intro a hS
        refine r_extract hS hH.kp0 rfl rfl rfl ?_; clear hS; intro a hS
        refine r_extract hS hH.kp0 rfl rfl rfl ?_; clear hS; intro a hS
        refine r_assign hS hH.kp0 rfl rfl ?_; clear hS; intro a hS
        refine r_assign hS hH.kp0 rfl rfl ?_; clear hS; intro a hS
        refine r_assign hS hH.kp0 rfl rfl ?_; clear hS; intro a hS
        refine Sq.nil ?_
        refine then_n ?_
        refine c_seq ?_
        refine c_seq ?_
        refine reg_plain w0 (Nobody) ?_
        refine r_move hS hH.kp0 rfl rfl ?_; clear hS; intro a hS
        refine r_neq hS hH.kp0 rfl rfl rfl ?_; clear hS; intro a hS
        refine Sq.nil ?_
        refine then_n ?_
        refine c_condT hS rfl rfl ?_
        refine c_seq ?_
        refine reg_plain w0 (Nobody) ?_
        refine r_buildS (parts := []) hS hH.kp0 rfl rfl Fc.zc41 Fc.pl41 (by rfl) ?_; clear hS; intro a hS
        refine r_store_row hS hH rfl rfl (by first | exact .here | exact .there .here | exact .there (.there .here) | exact .there (.there (.there .here)) | exact .there (.there (.there (.there .here))) | exact .there (.there (.there (.there (.there .here)))) | exact .there (.there (.there (.there (.there (.there .here))))) | exact .there (.there (.there (.there (.there (.there (.there .here)))))) | exact .there (.there (.there (.there (.there (.there (.there (.there .here))))))) | exact .there (.there (.there (.there (.there (.there (.there (.there (.there .here)))))))) | exact .there (.there (.there (.there (.there (.there (.there (.there (.there (.there .here))))))))) | exact .there (.there (.there (.there (.there (.there (.there (.there (.there (.there (.there .here)))))))))) | exact .there (.there (.there (.there (.there (.there (.there (.there (.there (.there (.there (.there .here))))))))))) | exact .there (.there (.there (.there (.there (.there (.there (.there (.there (.there (.there (.there (.there .here)))))))))))) | exact .there (.there (.there (.there (.there (.there (.there (.there (.there (.there (.there (.there (.there (.there .here))))))))))))) | exact .there (.there (.there (.there (.there (.there (.there (.there (.there (.there (.there (.there (.there (.there (.there .here))))))))))))))) (by repeat (first | exact Sub.nil | refine Sub.cons ?_ ?_ | exact In.here | refine In.there ?_)) Fc.sz41 (by first | exact hcells_one _ | exact of_decide_eq_true rfl) (by rfl) (.inr (by assumption)) ?_
        clear hH; intro w hH
        refine r_assign hS hH.kp0 rfl rfl ?_; clear hS; intro a hS
        refine r_assign hS hH.kp0 rfl rfl ?_; clear hS; intro a hS
        refine Sq.nil ?_
        refine then_n ?_
        refine wp_ret ?_
        refine then_r ?_
        refine then_r ?_
        refine leave (.inl rfl) hS rfl (Res.cell rfl (hH.get (by repeat (first | exact In.here | refine In.there ?_))) Fc.ag41 (by rfl) rfl (Res.tmp rfl (Res.tmp rfl Res.nil))) ⟨zHd, 0, _, rfl, ?_, hH.mod⟩
        have hq0 : restQ l dst src kd p = .inl 10 := by unfold restQ; rw [if_neg hk3, if_pos hk0, hv13]
        rw [hq0]; exact ⟨rfl, rfl, rfl, by decide⟩
    · have hk0 : ¬ kd = 0 := by have := ne_of_beq_false hc4; omega
      obtain ⟨pp, hpp⟩ : ∃ z, z = p := ⟨_, rfl⟩
      rw [← hpp] at hS
      obtain ⟨tkl, htkl⟩ : ∃ z : List UInt8, z = [] := ⟨_, rfl⟩
      have hqt : restQ l dst src kd p = tailQ l dst src kd tkl pp := by unfold restQ; rw [if_neg hk3, if_neg hk0, htkl, hpp]
      refine wp_skip ?_
      refine then_n ?_
      refine c_seq ?_
      refine reg_plain w0 (Nobody) ?_
      refine r_move hS hH.kp0 rfl rfl ?_; clear hS; intro a hS
      refine r_move hS hH.kp0 rfl rfl ?_; clear hS; intro a hS
      refine r_call (l := [.tmp 98, .tmp 99]) hS rfl rfl Fc.fn53 rfl ?_
      refine Calls.mono (ReadV_c _ _ l pp (by omega) hl _ (hb.ext hH.mod)) ?_
      rintro e w1 ⟨x, y, z, rfl, hg, hE⟩
      replace hH := hH.ext hE
      refine ⟨_, rfl, hH.kp0, ?_⟩
      clear hS; intro a hS
      refine r_move hS hH.kp0 rfl rfl ?_; clear hS; intro a hS
      rcases hg with ⟨n22, p22, hv22, hx9, hy9, hz9⟩ | ⟨hv22, hz9⟩
      · subst hx9 hy9 hz9
        obtain ⟨hvn, hvp, hvl⟩ := varN_bound hv22
        refine r_extract hS hH.kp0 rfl rfl rfl ?_; clear hS; intro a hS
        refine r_extract hS hH.kp0 rfl rfl rfl ?_; clear hS; intro a hS
        refine r_extract hS hH.kp0 rfl rfl rfl ?_; clear hS; intro a hS
        refine r_assign hS hH.kp0 rfl rfl ?_; clear hS; intro a hS
        refine r_assign hS hH.kp0 rfl rfl ?_; clear hS; intro a hS
        refine r_assign hS hH.kp0 rfl rfl ?_; clear hS; intro a hS
        refine Sq.nil ?_
        refine then_n ?_
        refine c_seq ?_
        refine c_seq ?_
        refine reg_plain w0 (Nobody) ?_
        refine r_move hS hH.kp0 rfl rfl ?_; clear hS; intro a hS
        refine r_neq hS hH.kp0 rfl rfl rfl ?_; clear hS; intro a hS
        refine r_move hS hH.kp0 rfl rfl ?_; clear hS; intro a hS
        refine Sq.guardYes hS rfl rfl rfl ?_
        refine r_move hS hH.kp0 rfl rfl ?_; clear hS; intro a hS
        refine Sq.guardYes hS rfl rfl rfl ?_
        refine r_lenSl hS hH.kp0 rfl Fc.isSlice22 rfl ?_; clear hS; intro a hS
        refine Sq.guardYes hS rfl rfl rfl ?_
        refine r_move hS hH.kp0 rfl rfl ?_; clear hS; intro a hS
        refine Sq.guardYes hS rfl rfl rfl ?_
        first | refine r_sub hS hH.kp0 rfl rfl rfl (by omega) ?_ | refine r_subw hS hH.kp0 rfl rfl rfl ?_
        clear hS; intro a hS
        refine Sq.guardYes hS rfl rfl rfl ?_
        refine r_move hS hH.kp0 rfl rfl ?_; clear hS; intro a hS
        refine Sq.guardYes hS rfl rfl rfl ?_
        refine r_lss hS hH.kp0 rfl rfl rfl ?_; clear hS; intro a hS
        refine r_pickF hS hH.kp0 rfl rfl rfl rfl ?_; clear hS; intro a hS
        refine Sq.nil ?_
        refine then_n ?_
        refine c_cond hS rfl (fun hc8 => ?_) (fun hc8 => ?_)
        · have hsh8 := of_decide_eq_true hc8
          refine c_seq ?_
          refine reg_plain w0 (Nobody) ?_
          refine r_buildS (parts := []) hS hH.kp0 rfl rfl Fc.zc41 Fc.pl41 (by rfl) ?_; clear hS; intro a hS
          refine r_store_row hS hH rfl rfl (by first | exact .here | exact .there .here | exact .there (.there .here) | exact .there (.there (.there .here)) | exact .there (.there (.there (.there .here))) | exact .there (.there (.there (.there (.there .here)))) | exact .there (.there (.there (.there (.there (.there .here))))) | exact .there (.there (.there (.there (.there (.there (.there .here)))))) | exact .there (.there (.there (.there (.there (.there (.there (.there .here))))))) | exact .there (.there (.there (.there (.there (.there (.there (.there (.there .here)))))))) | exact .there (.there (.there (.there (.there (.there (.there (.there (.there (.there .here))))))))) | exact .there (.there (.there (.there (.there (.there (.there (.there (.there (.there (.there .here)))))))))) | exact .there (.there (.there (.there (.there (.there (.there (.there (.there (.there (.there (.there .here))))))))))) | exact .there (.there (.there (.there (.there (.there (.there (.there (.there (.there (.there (.there (.there .here)))))))))))) | exact .there (.there (.there (.there (.there (.there (.there (.there (.there (.there (.there (.there (.there (.there .here))))))))))))) | exact .there (.there (.there (.there (.there (.there (.there (.there (.there (.there (.there (.there (.there (.there (.there .here))))))))))))))) (by repeat (first | exact Sub.nil | refine Sub.cons ?_ ?_ | exact In.here | refine In.there ?_)) Fc.sz41 (by first | exact hcells_one _ | exact of_decide_eq_true rfl) (by rfl) (.inr (by assumption)) ?_
          clear hH; intro w hH
          refine r_assign hS hH.kp0 rfl rfl ?_; clear hS; intro a hS
          refine r_assign hS hH.kp0 rfl rfl ?_; clear hS; intro a hS
          refine Sq.nil ?_
          refine then_n ?_
          refine wp_ret ?_
          refine then_r ?_
          refine leave (.inl rfl) hS rfl (Res.cell rfl (hH.get (by repeat (first | exact In.here | refine In.there ?_))) Fc.ag41 (by rfl) rfl (Res.tmp rfl (Res.tmp rfl Res.nil))) ⟨zHd, 0, _, rfl, ?_, hH.mod⟩
          have hq0 : restQ l dst src kd p = .inl 10 := by first | (rw [hqt]; unfold tailQ; rw [hv22]; done) | (rw [hqt]; unfold tailQ; rw [hv22]; exact if_pos (by omega))
          rw [hq0]; exact ⟨rfl, rfl, rfl, by decide⟩
        · have hsh8 := of_decide_eq_false hc8
          refine wp_skip ?_
          refine then_n ?_
          refine c_seq ?_
          refine reg_plain w0 (Nobody) ?_
          refine r_move hS hH.kp0 rfl rfl ?_; clear hS; intro a hS
          refine r_fieldAddr hS hH.kp0 rfl Fc.fo41_5 rfl ?_; clear hS; intro a hS
          refine r_store1 hS hH rfl rfl rfl (by first | exact .here | exact .there .here | exact .there (.there .here) | exact .there (.there (.there .here)) | exact .there (.there (.there (.there .here))) | exact .there (.there (.there (.there (.there .here)))) | exact .there (.there (.there (.there (.there (.there .here))))) | exact .there (.there (.there (.there (.there (.there (.there .here)))))) | exact .there (.there (.there (.there (.there (.there (.there (.there .here))))))) | exact .there (.there (.there (.there (.there (.there (.there (.there (.there .here)))))))) | exact .there (.there (.there (.there (.there (.there (.there (.there (.there (.there .here))))))))) | exact .there (.there (.there (.there (.there (.there (.there (.there (.there (.there (.there .here)))))))))) | exact .there (.there (.there (.there (.there (.there (.there (.there (.there (.there (.there (.there .here))))))))))) | exact .there (.there (.there (.there (.there (.there (.there (.there (.there (.there (.there (.there (.there .here)))))))))))) | exact .there (.there (.there (.there (.there (.there (.there (.there (.there (.there (.there (.there (.there (.there .here))))))))))))) | exact .there (.there (.there (.there (.there (.there (.there (.there (.there (.there (.there (.there (.there (.there (.there .here))))))))))))))) (by repeat (first | exact Sub.nil | refine Sub.cons ?_ ?_ | exact In.here | refine In.there ?_)) Fc.sz3 (of_decide_eq_true rfl) (.inr (by assumption)) ?_
          clear hH; intro w hH
          refine Sq.nil ?_
          refine then_n ?_
          refine c_seq ?_
          refine reg_plain w0 (Nobody) ?_
          refine r_load_row hS hH (by repeat (first | exact Sub.nil | refine Sub.cons ?_ ?_ | exact In.here | refine In.there ?_)) rfl (by repeat (first | exact In.here | refine In.there ?_)) Fc.ag41 (by rfl) rfl ?_; clear hS; intro a hS
          refine r_move hS hH.kp0 rfl rfl ?_; clear hS; intro a hS
          refine r_store_row hS hH rfl rfl (by first | exact .here | exact .there .here | exact .there (.there .here) | exact .there (.there (.there .here)) | exact .there (.there (.there (.there .here))) | exact .there (.there (.there (.there (.there .here)))) | exact .there (.there (.there (.there (.there (.there .here))))) | exact .there (.there (.there (.there (.there (.there (.there .here)))))) | exact .there (.there (.there (.there (.there (.there (.there (.there .here))))))) | exact .there (.there (.there (.there (.there (.there (.there (.there (.there .here)))))))) | exact .there (.there (.there (.there (.there (.there (.there (.there (.there (.there .here))))))))) | exact .there (.there (.there (.there (.there (.there (.there (.there (.there (.there (.there .here)))))))))) | exact .there (.there (.there (.there (.there (.there (.there (.there (.there (.there (.there (.there .here))))))))))) | exact .there (.there (.there (.there (.there (.there (.there (.there (.there (.there (.there (.there (.there .here)))))))))))) | exact .there (.there (.there (.there (.there (.there (.there (.there (.there (.there (.there (.there (.there (.there .here))))))))))))) | exact .there (.there (.there (.there (.there (.there (.there (.there (.there (.there (.there (.there (.there (.there (.there .here))))))))))))))) (by repeat (first | exact Sub.nil | refine Sub.cons ?_ ?_ | exact In.here | refine In.there ?_)) Fc.sz41 (hd_one (t := z16) hdv hsv rfl rfl) (by rfl) (.inr (by assumption)) ?_; clear hH; intro w hH
          refine r_assign hS hH.kp0 rfl rfl ?_; clear hS; intro a hS
          refine r_assign hS hH.kp0 rfl rfl ?_; clear hS; intro a hS
          refine Sq.nil ?_
          refine then_n ?_
          refine wp_ret ?_
          refine leave (.inl rfl) hS rfl (Res.cell rfl (hH.get (by repeat (first | exact In.here | refine In.there ?_))) Fc.ag41 (by rfl) rfl (Res.tmp rfl (Res.tmp rfl Res.nil))) ⟨_, _, _, rfl, ?_, hH.mod⟩
          have hq0 : restQ l dst src kd p = .inr (⟨(kd : Int), 1, dst, src, tkl, n22, false, [], z16⟩, p22) := by rw [hqt]; unfold tailQ; rw [hv22]; exact if_neg (by omega)
          rw [hq0]
          first | exact ⟨_, rfl, .inr ⟨b3, c3, k3, rfl, hw3, hH.get (b := b3) (by repeat (first | exact In.here | refine In.there ?_)), hB3.le, hB3.len, hB3.take⟩, rfl, rfl, rfl, rfl, rfl, rfl⟩ | (rw [htkl]; exact ⟨_, rfl, OwnB.nil _ _ _, rfl, rfl, rfl, rfl, rfl, rfl⟩)
      · subst hz9
        refine r_extract hS hH.kp0 rfl rfl rfl ?_; clear hS; intro a hS
        refine r_extract hS hH.kp0 rfl rfl rfl ?_; clear hS; intro a hS
        refine r_extract hS hH.kp0 rfl rfl rfl ?_; clear hS; intro a hS
        refine r_assign hS hH.kp0 rfl rfl ?_; clear hS; intro a hS
        refine r_assign hS hH.kp0 rfl rfl ?_; clear hS; intro a hS
        refine r_assign hS hH.kp0 rfl rfl ?_; clear hS; intro a hS
        refine Sq.nil ?_
        refine then_n ?_
        refine c_seq ?_
        refine c_seq ?_
        refine reg_plain w0 (Nobody) ?_
        refine r_move hS hH.kp0 rfl rfl ?_; clear hS; intro a hS
        refine r_neq hS hH.kp0 rfl rfl rfl ?_; clear hS; intro a hS
        refine r_move hS hH.kp0 rfl rfl ?_; clear hS; intro a hS
        refine Sq.guardNo hS rfl rfl rfl hH.kp0 rfl ?_; clear hS; intro a hS
        refine Sq.guardNo hS rfl rfl rfl hH.kp0 rfl ?_; clear hS; intro a hS
        refine Sq.guardNo hS rfl rfl rfl hH.kp0 rfl ?_; clear hS; intro a hS
        refine Sq.guardNo hS rfl rfl rfl hH.kp0 rfl ?_; clear hS; intro a hS
        refine Sq.guardNo hS rfl rfl rfl hH.kp0 rfl ?_; clear hS; intro a hS
        refine Sq.guardNo hS rfl rfl rfl hH.kp0 rfl ?_; clear hS; intro a hS
        refine r_pickT hS hH.kp0 rfl rfl rfl rfl ?_; clear hS; intro a hS
        refine Sq.nil ?_
        refine then_n ?_
        refine c_condT hS rfl rfl ?_
        refine c_seq ?_
        refine reg_plain w0 (Nobody) ?_
        refine r_buildS (parts := []) hS hH.kp0 rfl rfl Fc.zc41 Fc.pl41 (by rfl) ?_; clear hS; intro a hS
        refine r_store_row hS hH rfl rfl (by first | exact .here | exact .there .here | exact .there (.there .here) | exact .there (.there (.there .here)) | exact .there (.there (.there (.there .here))) | exact .there (.there (.there (.there (.there .here)))) | exact .there (.there (.there (.there (.there (.there .here))))) | exact .there (.there (.there (.there (.there (.there (.there .here)))))) | exact .there (.there (.there (.there (.there (.there (.there (.there .here))))))) | exact .there (.there (.there (.there (.there (.there (.there (.there (.there .here)))))))) | exact .there (.there (.there (.there (.there (.there (.there (.there (.there (.there .here))))))))) | exact .there (.there (.there (.there (.there (.there (.there (.there (.there (.there (.there .here)))))))))) | exact .there (.there (.there (.there (.there (.there (.there (.there (.there (.there (.there (.there .here))))))))))) | exact .there (.there (.there (.there (.there (.there (.there (.there (.there (.there (.there (.there (.there .here)))))))))))) | exact .there (.there (.there (.there (.there (.there (.there (.there (.there (.there (.there (.there (.there (.there .here))))))))))))) | exact .there (.there (.there (.there (.there (.there (.there (.there (.there (.there (.there (.there (.there (.there (.there .here))))))))))))))) (by repeat (first | exact Sub.nil | refine Sub.cons ?_ ?_ | exact In.here | refine In.there ?_)) Fc.sz41 (by first | exact hcells_one _ | exact of_decide_eq_true rfl) (by rfl) (.inr (by assumption)) ?_
        clear hH; intro w hH
        refine r_assign hS hH.kp0 rfl rfl ?_; clear hS; intro a hS
        refine r_assign hS hH.kp0 rfl rfl ?_; clear hS; intro a hS
        refine Sq.nil ?_
        refine then_n ?_
        refine wp_ret ?_
        refine then_r ?_
        refine leave (.inl rfl) hS rfl (Res.cell rfl (hH.get (by repeat (first | exact In.here | refine In.there ?_))) Fc.ag41 (by rfl) rfl (Res.tmp rfl (Res.tmp rfl Res.nil))) ⟨zHd, 0, _, rfl, ?_, hH.mod⟩
        have hq0 : restQ l dst src kd p = .inl 10 := by first | (rw [hqt]; unfold tailQ; rw [hv22]; done) | (rw [hqt]; unfold tailQ; rw [hv22]; exact if_pos (by omega))
        rw [hq0]; exact ⟨rfl, rfl, rfl, by decide⟩

end Go.Proofs.YtcenionnedgadaaDoor
