/- HeaderBack: a header that is put is read again, with the place and the lowest bytes of the number. Conditions: those of the given row (arguments of at most 1048576 values and letters; the listed variables hold what the text lays). Part HeaderBack: walks and lemmas of the proof. -/
import Derived.Test.YtcenionnedgadaaDoorBack1
namespace Go.Proofs.YtcenionnedgadaaDoor
open Go.Sym
theorem Fp.arrT : ByteArr Tryd.prog 24 16 := byteArr_mk Fc.laid (of_decide_eq_true (by kernel_rfl)) (by kernel_rfl) (by kernel_rfl) (by kernel_rfl) (by kernel_rfl) (by kernel_rfl)

theorem Fp.ag24 : agB Tryd.prog 24 = some 16 := by kernel_rfl
theorem Fp.fn12 : isFn Tryd.prog 12 = true := by kernel_rfl
theorem Fp.fn17 : isFn Tryd.prog 17 = true := by kernel_rfl
theorem Fp.fn8 : isFn Tryd.prog 8 = true := by kernel_rfl
theorem Fp.isBool4 : isBool Tryd.prog 4 = true := by kernel_rfl
theorem Fp.pl26 : placesB Tryd.prog 26 = some [(0, 1), (1, 1), (2, 1), (3, 1), (4, 1), (5, 1), (6, 1), (7, 1), (8, 16)] := by kernel_rfl
theorem Fp.sz26 : sizeB Tryd.prog 26 24 = true := by kernel_rfl
theorem Fp.zc26 : zcB Tryd.prog 26 = some [.int .i64 0, .int .i64 0, .slice none 0 0, .slice none 0 0, .slice none 0 0, .int .i64 0, .bool false, .slice none 0 0, .int .u8 0, .int .u8 0, .int .u8 0, .int .u8 0, .int .u8 0, .int .u8 0, .int .u8 0, .int .u8 0, .int .u8 0, .int .u8 0, .int .u8 0, .int .u8 0, .int .u8 0, .int .u8 0, .int .u8 0, .int .u8 0] := by kernel_rfl
theorem Fp.zc5 : zcB Tryd.prog 5 = some [.int .u8 0] := by kernel_rfl
set_option maxRecDepth 100000 in
set_option maxHeartbeats 6000000 in
theorem back5t_law (ve : Int) (q1 q2 q3 q4 : Option Addr) (c1 c2 c3 c4 : Nat) (dst src tok tag : List UInt8) (lst : List Int) (ln : Int) (htag : tag.length = 16) (n : Nat) (low : Nat) (hlow : low < 18446744073709551616) (w0 : World) (WT : TypeId) (WF : Nat × Nat) (hw0 : w0.heap[0]? = some (.cells [.int .i64 6, .int .i64 14, .int .i64 30, .int .i64 62].toArray WT WF)) (hll : lst.length ≤ 1048576) (hlst : IsA w0 q4 c4 lst) (hd : Bs w0 (.slice q1 dst.length c1) dst) (hs : Bs w0 (.slice q2 src.length c2) src) (ht : Bs w0 (.slice q3 tok.length c3) tok) (hm : mayP 5 dst.length src.length tok.length (ln : Int) (n : Int) lst.length (badN lst)) : Calls Tryd.prog 7 #[.agg ([.int .i64 5, .int .i64 ve, .slice q1 dst.length c1, .slice q2 src.length c2, .slice q3 tok.length c3, .int .i64 (ln : Int), .bool true, .slice q4 lst.length c4] ++ hcells tag : List Value).toArray, .int .u64 (low : Int), .int .i64 (n : Int)] w0 fun e w' => e = .returned (.bool true) ∧ Ext w0 w' := by
  refine enter Tryd.func7 rfl rfl rfl ?_
  intro a hS
  have hH := Hp.start w0 (Nobody)
  have hm2 := hm
  unfold mayP at hm2
  have hwl := wideB_le tok.length
  have hfk8 : 2 ^ formK tok.length ≤ 8 := by rw [← wideB_len tok.length]; exact hwl
  have hfk0 : 0 < 2 ^ formK tok.length := Nat.pow_pos (by decide)
  obtain ⟨t0, t1, t2, t3, t4, t5, t6, t7, t8, t9, ta, tb, tc, td, te, tf, rfl⟩ := len16 htag
  replace hH := hH.know hw0 (fun p hp => by simp at hp)
  refine c_seq ?_
  refine reg_plain w0 (Nobody) ?_
  refine r_box hS hH (by repeat (first | exact Sub.nil | refine Sub.cons ?_ ?_ | exact In.here | refine In.there ?_)) rfl rfl rfl ?_
  clear hS hH; intro a w b3 hb3 hwb3 hS hH
  refine r_assign hS hH.kp0 rfl rfl ?_; clear hS; intro a hS
  refine Sq.nil ?_
  refine then_n ?_
  refine c_seq ?_
  refine reg_plain w0 (Nobody) ?_
  refine r_load_row hS hH (by repeat (first | exact Sub.nil | refine Sub.cons ?_ ?_ | exact In.here | refine In.there ?_)) rfl (by repeat (first | exact In.here | refine In.there ?_)) Fp.ag26 (by rfl) rfl ?_; clear hS; intro a hS
  refine r_move hS hH.kp0 rfl rfl ?_; clear hS; intro a hS
  refine r_move hS hH.kp0 rfl rfl ?_; clear hS; intro a hS
  refine r_call (l := [.tmp 20, .tmp 21, .tmp 22]) hS rfl rfl Fp.fn12 rfl ?_
  refine Calls.mono (Put_5t ve q1 q2 q3 q4 c1 c2 c3 c4 dst src tok _ lst ln  htag n low hlow _ WT WF (hH.get (b := 0) (by repeat (first | exact In.here | refine In.there ?_))) hll (hlst.ext hH.mod) (hd.ext hH.mod) (hs.ext hH.mod) (ht.ext hH.mod) hm) ?_
  rintro e w1 ⟨rx, rfl, hN, hE⟩
  obtain ⟨bx, cx, kx, hvx, hrx, hrkx, hBx⟩ := hN
  subst hvx
  have hwx := Nat.le_trans hH.mod.size hrx
  replace hH := hH.knowN hE hrx hrkx
  refine ⟨_, rfl, hH.kp0, ?_⟩
  clear hS; intro a hS
  generalize hHb : headB 5 n dst src tok ln.toNat true lst [t0, t1, t2, t3, t4, t5, t6, t7, t8, t9, ta, tb, tc, td, te, tf] = Hb at hBx hS
  have hHe : Hb = [UInt8.ofNat (63 + n + if true then 4 else 0)] ++ dst := hHb.symm
  have hHl : Hb.length = 1 + dst.length := by rw [hHe]; simp only [List.length_append, List.length_cons, List.length_nil] <;> omega
  clear hHb
  refine r_move hS hH.kp0 rfl rfl ?_; clear hS; intro a hS
  refine r_extract hS hH.kp0 rfl rfl rfl ?_; clear hS; intro a hS
  refine r_extract hS hH.kp0 rfl rfl rfl ?_; clear hS; intro a hS
  refine r_extract hS hH.kp0 rfl rfl rfl ?_; clear hS; intro a hS
  refine r_assign hS hH.kp0 rfl rfl ?_; clear hS; intro a hS
  refine r_assign hS hH.kp0 rfl rfl ?_; clear hS; intro a hS
  refine r_assign hS hH.kp0 rfl rfl ?_; clear hS; intro a hS
  refine Sq.nil ?_
  refine then_n ?_
  refine c_seq ?_
  refine reg_plain w0 (Nobody) ?_
  refine r_buildSlice (parts := [(0, .const (.int .u8 7))]) hS hH (by repeat (first | exact Sub.nil | refine Sub.cons ?_ ?_ | exact In.here | refine In.there ?_)) rfl Fp.bsl22_1 (by rfl) rfl ?_
  clear hS hH; intro a w b28 hb28 hwb28 hS hH
  refine r_buildS (parts := [(0, .const (.int .i64 5)), (2, .tmp 28), (6, .const (.bool true))]) hS hH.kp0 rfl rfl Fp.zc26 Fp.pl26 (by rfl) ?_; clear hS; intro a hS
  refine r_call (l := [.tmp 29, .const (.int .u64 5), .const (.int .i64 1)]) hS rfl rfl Fp.fn12 rfl ?_
  refine Calls.mono (Put_5t 0 (some ⟨b28, 0, none⟩) none none none 1 0 0 0 [7] [] [] z16 [] 0 rfl 1 5 (by decide) _ WT WF (hH.get (b := 0) (by repeat (first | exact In.here | refine In.there ?_))) (by decide) ⟨rfl, by simp, Nat.le_refl _, fun i u h => by simp at h, fun _ => rfl⟩ ((BB.lit [7] rfl rfl).bs (hH.get (b := b28) (by repeat (first | exact In.here | refine In.there ?_)))) (Bs.nil _) (Bs.nil _) (by decide)) ?_
  rintro e w1 ⟨ro, rfl, hN, hE⟩
  rw [show headB 5 1 [7] [] [] (0 : Int).toNat true [] z16 ++ beB 5 1 = [68, 7, 5] from by decide] at hN
  obtain ⟨bo, co, ko, hvo, hro, hrko, hBo⟩ := hN
  subst hvo
  have hwo := Nat.le_trans hH.mod.size hro
  replace hH := hH.knowN hE hro hrko
  refine ⟨_, rfl, hH.kp0, ?_⟩
  clear hS; intro a hS
  refine r_move hS hH.kp0 rfl rfl ?_; clear hS; intro a hS
  refine r_extract hS hH.kp0 rfl rfl rfl ?_; clear hS; intro a hS
  refine r_extract hS hH.kp0 rfl rfl rfl ?_; clear hS; intro a hS
  refine r_extract hS hH.kp0 rfl rfl rfl ?_; clear hS; intro a hS
  refine r_assign hS hH.kp0 rfl rfl ?_; clear hS; intro a hS
  refine r_assign hS hH.kp0 rfl rfl ?_; clear hS; intro a hS
  refine r_assign hS hH.kp0 rfl rfl ?_; clear hS; intro a hS
  refine Sq.nil ?_
  refine then_n ?_
  refine c_seq ?_
  refine c_seq ?_
  refine reg_plain w0 (Nobody) ?_
  refine r_move hS hH.kp0 rfl rfl ?_; clear hS; intro a hS
  refine r_bytesStr (l := [68, 7, 5]) hS hH.kp0 rfl (hBo.bs (hH.get (b := bo) (by repeat (first | exact In.here | refine In.there ?_)))) Fp.u8s22 Fp.isStr9 rfl ?_; clear hS; intro a hS
  refine r_strNeq hS hH.kp0 rfl rfl rfl ?_; clear hS; intro a hS
  rw [s447] at hS
  refine r_move hS hH.kp0 rfl rfl ?_; clear hS; intro a hS
  refine Sq.guardYes hS rfl rfl rfl ?_; refine r_move hS hH.kp0 rfl rfl ?_; clear hS; intro a hS
  refine Sq.guardYes hS rfl rfl rfl ?_; refine r_neq hS hH.kp0 rfl rfl rfl ?_; clear hS; intro a hS
  refine r_pickF hS hH.kp0 rfl rfl rfl rfl ?_; clear hS; intro a hS
  refine Sq.nil ?_
  refine then_n ?_
  refine c_condF hS rfl rfl ?_
  refine wp_skip ?_
  refine then_n ?_
  refine c_seq ?_
  refine c_seq ?_
  refine reg_plain w0 (Nobody) ?_
  refine r_move hS hH.kp0 rfl rfl ?_; clear hS; intro a hS
  refine r_neq hS hH.kp0 rfl rfl rfl ?_; clear hS; intro a hS
  refine Sq.nil ?_
  refine then_n ?_
  refine c_condF hS rfl rfl ?_
  refine wp_skip ?_
  refine then_n ?_
  refine c_seq ?_
  refine reg_plain w0 (Nobody) ?_
  refine r_assign hS hH.kp0 rfl rfl ?_; clear hS; intro a hS
  refine Sq.nil ?_
  refine then_n ?_
  refine c_seq ?_
  refine c_seq ?_
  refine reg_plain w0 (Nobody) ?_
  refine r_fieldAddr hS hH.kp0 rfl Fp.fo26_0 rfl ?_; clear hS; intro a hS
  refine r_load_sc hS hH (by repeat (first | exact Sub.nil | refine Sub.cons ?_ ?_ | exact In.here | refine In.there ?_)) rfl (by repeat (first | exact In.here | refine In.there ?_)) Fp.sc3 (by rfl) rfl ?_; clear hS; intro a hS
  refine r_eql hS hH.kp0 rfl rfl rfl ?_; clear hS; intro a hS
  refine Sq.nil ?_
  refine then_n ?_
  refine c_condT hS rfl rfl ?_
  refine reg_plain w0 (Nobody) ?_
  refine r_fieldAddr hS hH.kp0 rfl Fp.fo26_2 rfl ?_; clear hS; intro a hS
  refine r_load_sc hS hH (by repeat (first | exact Sub.nil | refine Sub.cons ?_ ?_ | exact In.here | refine In.there ?_)) rfl (by repeat (first | exact In.here | refine In.there ?_)) Fp.sc22 (by rfl) rfl ?_; clear hS; intro a hS
  refine r_lenSl hS hH.kp0 rfl Fp.isSlice22 rfl ?_; clear hS; intro a hS
  refine r_assign hS hH.kp0 rfl rfl ?_; clear hS; intro a hS
  refine Sq.nil ?_
  refine then_n ?_
  refine c_seq ?_
  refine c_seq ?_
  refine reg_plain w0 (Nobody) ?_
  refine r_fieldAddr hS hH.kp0 rfl Fp.fo26_0 rfl ?_; clear hS; intro a hS
  refine r_load_sc hS hH (by repeat (first | exact Sub.nil | refine Sub.cons ?_ ?_ | exact In.here | refine In.there ?_)) rfl (by repeat (first | exact In.here | refine In.there ?_)) Fp.sc3 (by rfl) rfl ?_; clear hS; intro a hS
  refine r_leq hS hH.kp0 rfl rfl rfl ?_; clear hS; intro a hS
  refine Sq.nil ?_
  refine then_n ?_
  refine c_condF hS rfl rfl ?_
  refine wp_skip ?_
  refine then_n ?_
  refine c_seq ?_
  refine c_seq ?_
  refine reg_plain w0 (Nobody) ?_
  refine r_fieldAddr hS hH.kp0 rfl Fp.fo26_0 rfl ?_; clear hS; intro a hS
  refine r_load_sc hS hH (by repeat (first | exact Sub.nil | refine Sub.cons ?_ ?_ | exact In.here | refine In.there ?_)) rfl (by repeat (first | exact In.here | refine In.there ?_)) Fp.sc3 (by rfl) rfl ?_; clear hS; intro a hS
  refine r_eql hS hH.kp0 rfl rfl rfl ?_; clear hS; intro a hS
  refine r_move hS hH.kp0 rfl rfl ?_; clear hS; intro a hS
  refine Sq.guardYes hS rfl rfl rfl ?_; refine r_fieldAddr hS hH.kp0 rfl Fp.fo26_0 rfl ?_; clear hS; intro a hS
  refine Sq.guardYes hS rfl rfl rfl ?_; refine r_load_sc hS hH (by repeat (first | exact Sub.nil | refine Sub.cons ?_ ?_ | exact In.here | refine In.there ?_)) rfl (by repeat (first | exact In.here | refine In.there ?_)) Fp.sc3 (by rfl) rfl ?_; clear hS; intro a hS
  refine Sq.guardYes hS rfl rfl rfl ?_; refine r_eql hS hH.kp0 rfl rfl rfl ?_; clear hS; intro a hS
  refine r_pickF hS hH.kp0 rfl rfl rfl rfl ?_; clear hS; intro a hS
  refine Sq.nil ?_
  refine then_n ?_
  refine c_condF hS rfl rfl ?_
  refine wp_skip ?_
  refine then_n ?_
  refine c_seq ?_
  refine reg_plain w0 (Nobody) ?_
  refine r_move hS hH.kp0 rfl rfl ?_; clear hS; intro a hS
  refine r_move hS hH.kp0 rfl rfl ?_; clear hS; intro a hS
  refine r_call (l := [.tmp 75, .tmp 76]) hS rfl rfl Fp.fn8 rfl ?_
  refine Calls.mono (Read_c (some ⟨bx, 0, none⟩) cx (Hb ++ beB low n) (by simp only [List.length_append, beB_len]; omega) (dst.length : Int) _ WT WF (hH.get (b := 0) (by repeat (first | exact In.here | refine In.there ?_))) (hBx.bs (hH.get (b := bx) (by repeat (first | exact In.here | refine In.there ?_))))) ?_
  rintro e w1 ⟨cs, y, z, rfl, hrd, hE⟩
  rw [← refQ_eq, back_5 (r := beB low n) (by rw [hHe]) (by omega) (by omega) (by omega)] at hrd
  obtain ⟨⟨dv, sv, tv, gv, hcs, hdv, hsv, htv, hgv, _⟩, hy9, hz9⟩ := hrd
  subst hcs hy9 hz9
  replace hH := hH.ext hE
  refine ⟨_, rfl, hH.kp0, ?_⟩
  clear hS; intro a hS
  refine r_move hS hH.kp0 rfl rfl ?_; clear hS; intro a hS
  refine r_extract hS hH.kp0 rfl rfl rfl ?_; clear hS; intro a hS
  refine r_extract hS hH.kp0 rfl rfl rfl ?_; clear hS; intro a hS
  refine r_extract hS hH.kp0 rfl rfl rfl ?_; clear hS; intro a hS
  refine r_allocE hS hH (by repeat (first | exact Sub.nil | refine Sub.cons ?_ ?_ | exact In.here | refine In.there ?_)) Fp.zc26 rfl ?_; clear hS hH; intro a w bh hbh hwbh hE2 hS hH
  refine r_store_rowM hS hH rfl rfl (by first | exact .here | exact .there .here | exact .there (.there .here) | exact .there (.there (.there .here)) | exact .there (.there (.there (.there .here))) | exact .there (.there (.there (.there (.there .here)))) | exact .there (.there (.there (.there (.there (.there .here))))) | exact .there (.there (.there (.there (.there (.there (.there .here)))))) | exact .there (.there (.there (.there (.there (.there (.there (.there .here))))))) | exact .there (.there (.there (.there (.there (.there (.there (.there (.there .here)))))))) | exact .there (.there (.there (.there (.there (.there (.there (.there (.there (.there .here))))))))) | exact .there (.there (.there (.there (.there (.there (.there (.there (.there (.there (.there .here)))))))))) | exact .there (.there (.there (.there (.there (.there (.there (.there (.there (.there (.there (.there .here))))))))))) | exact .there (.there (.there (.there (.there (.there (.there (.there (.there (.there (.there (.there (.there .here)))))))))))) | exact .there (.there (.there (.there (.there (.there (.there (.there (.there (.there (.there (.there (.there (.there .here))))))))))))) | exact .there (.there (.there (.there (.there (.there (.there (.there (.there (.there (.there (.there (.there (.there (.there .here))))))))))))))) (by repeat (first | exact Sub.nil | refine Sub.cons ?_ ?_ | exact In.here | refine In.there ?_)) Fp.sz26 (hdr_one hdv.oneB hsv.oneB htv.oneB (Own.one' hgv)) (by rfl) (.inr hbh) ?_; clear hH; intro w hM2 hH
  have hdv := hdv.new hE2 hM2 hwbh
  have hsv := hsv.new hE2 hM2 hwbh
  have htv := htv.new hE2 hM2 hwbh
  refine r_assign hS hH.kp0 rfl rfl ?_; clear hS; intro a hS
  refine r_assign hS hH.kp0 rfl rfl ?_; clear hS; intro a hS
  refine Sq.nil ?_
  refine then_n ?_
  refine c_seq ?_
  refine c_seq ?_
  refine reg_plain w0 (Nobody) ?_
  refine r_move hS hH.kp0 rfl rfl ?_; clear hS; intro a hS
  refine r_neq hS hH.kp0 rfl rfl rfl ?_; clear hS; intro a hS
  refine r_move hS hH.kp0 rfl rfl ?_; clear hS; intro a hS
  refine Sq.guardYes hS rfl rfl rfl ?_; refine r_move hS hH.kp0 rfl rfl ?_; clear hS; intro a hS
  refine Sq.guardYes hS rfl rfl rfl ?_; refine r_move hS hH.kp0 rfl rfl ?_; clear hS; intro a hS
  refine Sq.guardYes hS rfl rfl rfl ?_; refine r_neq hS hH.kp0 rfl rfl rfl ?_; clear hS; intro a hS
  refine r_pickF hS hH.kp0 rfl rfl rfl rfl ?_; clear hS; intro a hS
  refine r_move hS hH.kp0 rfl rfl ?_; clear hS; intro a hS
  refine Sq.guardYes hS rfl rfl (bne_eq_false_iff_eq.2 (by omega)) ?_; refine r_fieldAddr hS hH.kp0 rfl Fp.fo26_0 rfl ?_; clear hS; intro a hS
  refine Sq.guardYes hS rfl rfl (bne_eq_false_iff_eq.2 (by omega)) ?_; refine r_load_sc hS hH (by repeat (first | exact Sub.nil | refine Sub.cons ?_ ?_ | exact In.here | refine In.there ?_)) rfl (by repeat (first | exact In.here | refine In.there ?_)) Fp.sc3 (by rfl) rfl ?_; clear hS; intro a hS
  refine Sq.guardYes hS rfl rfl (bne_eq_false_iff_eq.2 (by omega)) ?_; refine r_fieldAddr hS hH.kp0 rfl Fp.fo26_0 rfl ?_; clear hS; intro a hS
  refine Sq.guardYes hS rfl rfl (bne_eq_false_iff_eq.2 (by omega)) ?_; refine r_load_sc hS hH (by repeat (first | exact Sub.nil | refine Sub.cons ?_ ?_ | exact In.here | refine In.there ?_)) rfl (by repeat (first | exact In.here | refine In.there ?_)) Fp.sc3 (by rfl) rfl ?_; clear hS; intro a hS
  refine Sq.guardYes hS rfl rfl (bne_eq_false_iff_eq.2 (by omega)) ?_; refine r_neq hS hH.kp0 rfl rfl rfl ?_; clear hS; intro a hS
  refine r_pickF hS hH.kp0 rfl (bne_eq_false_iff_eq.2 (by omega)) rfl rfl ?_; clear hS; intro a hS
  refine r_move hS hH.kp0 rfl rfl ?_; clear hS; intro a hS
  refine Sq.guardYes hS rfl rfl rfl ?_; refine r_fieldAddr hS hH.kp0 rfl Fp.fo26_2 rfl ?_; clear hS; intro a hS
  refine Sq.guardYes hS rfl rfl rfl ?_; refine r_load_sc hS hH (by repeat (first | exact Sub.nil | refine Sub.cons ?_ ?_ | exact In.here | refine In.there ?_)) rfl (by repeat (first | exact In.here | refine In.there ?_)) Fp.sc22 (by rfl) rfl ?_; clear hS; intro a hS
  refine Sq.guardYes hS rfl rfl rfl ?_; refine r_bytesStr (l := dst) hS hH.kp0 rfl hdv.bsB Fp.u8s22 Fp.isStr9 rfl ?_; clear hS; intro a hS
  refine Sq.guardYes hS rfl rfl rfl ?_; refine r_fieldAddr hS hH.kp0 rfl Fp.fo26_2 rfl ?_; clear hS; intro a hS
  refine Sq.guardYes hS rfl rfl rfl ?_; refine r_load_sc hS hH (by repeat (first | exact Sub.nil | refine Sub.cons ?_ ?_ | exact In.here | refine In.there ?_)) rfl (by repeat (first | exact In.here | refine In.there ?_)) Fp.sc22 (by rfl) rfl ?_; clear hS; intro a hS
  refine Sq.guardYes hS rfl rfl rfl ?_; refine r_bytesStr (l := dst) hS hH.kp0 rfl (hd.ext hH.mod) Fp.u8s22 Fp.isStr9 rfl ?_; clear hS; intro a hS
  refine Sq.guardYes hS rfl rfl rfl ?_; refine r_strNeq hS hH.kp0 rfl rfl rfl ?_; clear hS; intro a hS
  refine r_pickF hS hH.kp0 rfl rfl rfl rfl ?_; clear hS; intro a hS
  refine r_move hS hH.kp0 rfl rfl ?_; clear hS; intro a hS
  refine Sq.guardYes hS rfl rfl (congrArg not (beq_self_eq_true _)) ?_; refine r_fieldAddr hS hH.kp0 rfl Fp.fo26_0 rfl ?_; clear hS; intro a hS
  refine Sq.guardYes hS rfl rfl (congrArg not (beq_self_eq_true _)) ?_; refine r_load_sc hS hH (by repeat (first | exact Sub.nil | refine Sub.cons ?_ ?_ | exact In.here | refine In.there ?_)) rfl (by repeat (first | exact In.here | refine In.there ?_)) Fp.sc3 (by rfl) rfl ?_; clear hS; intro a hS
  refine Sq.guardYes hS rfl rfl (congrArg not (beq_self_eq_true _)) ?_; refine r_neq hS hH.kp0 rfl rfl rfl ?_; clear hS; intro a hS
  refine Sq.guardYes hS rfl rfl (congrArg not (beq_self_eq_true _)) ?_; refine r_move hS hH.kp0 rfl rfl ?_; clear hS; intro a hS
  refine Sq.guardNo hS rfl rfl rfl hH.kp0 rfl ?_; clear hS; intro a hS
  refine Sq.guardNo hS rfl rfl rfl hH.kp0 rfl ?_; clear hS; intro a hS
  refine Sq.guardNo hS rfl rfl rfl hH.kp0 rfl ?_; clear hS; intro a hS
  refine Sq.guardNo hS rfl rfl rfl hH.kp0 rfl ?_; clear hS; intro a hS
  refine Sq.guardNo hS rfl rfl rfl hH.kp0 rfl ?_; clear hS; intro a hS
  refine Sq.guardNo hS rfl rfl rfl hH.kp0 rfl ?_; clear hS; intro a hS
  refine Sq.guardNo hS rfl rfl rfl hH.kp0 rfl ?_; clear hS; intro a hS
  refine Sq.guardYes hS rfl rfl (congrArg not (beq_self_eq_true _)) ?_; refine r_pickF hS hH.kp0 rfl rfl rfl rfl ?_; clear hS; intro a hS
  refine r_pickF hS hH.kp0 rfl (congrArg not (beq_self_eq_true _)) rfl rfl ?_; clear hS; intro a hS
  refine Sq.nil ?_
  refine then_n ?_
  refine c_condF hS rfl rfl ?_
  refine wp_skip ?_
  refine then_n ?_
  refine c_seq ?_
  refine c_seq ?_
  refine reg_plain w0 (Nobody) ?_
  refine r_fieldAddr hS hH.kp0 rfl Fp.fo26_0 rfl ?_; clear hS; intro a hS
  refine r_load_sc hS hH (by repeat (first | exact Sub.nil | refine Sub.cons ?_ ?_ | exact In.here | refine In.there ?_)) rfl (by repeat (first | exact In.here | refine In.there ?_)) Fp.sc3 (by rfl) rfl ?_; clear hS; intro a hS
  refine r_eql hS hH.kp0 rfl rfl rfl ?_; clear hS; intro a hS
  refine r_move hS hH.kp0 rfl rfl ?_; clear hS; intro a hS
  refine Sq.guardYes hS rfl rfl rfl ?_; refine r_fieldAddr hS hH.kp0 rfl Fp.fo26_0 rfl ?_; clear hS; intro a hS
  refine Sq.guardYes hS rfl rfl rfl ?_; refine r_load_sc hS hH (by repeat (first | exact Sub.nil | refine Sub.cons ?_ ?_ | exact In.here | refine In.there ?_)) rfl (by repeat (first | exact In.here | refine In.there ?_)) Fp.sc3 (by rfl) rfl ?_; clear hS; intro a hS
  refine Sq.guardYes hS rfl rfl rfl ?_; refine r_eql hS hH.kp0 rfl rfl rfl ?_; clear hS; intro a hS
  refine r_pickF hS hH.kp0 rfl rfl rfl rfl ?_; clear hS; intro a hS
  refine Sq.nil ?_
  refine then_n ?_
  refine c_condF hS rfl rfl ?_
  refine wp_skip ?_
  refine then_n ?_
  refine c_seq ?_
  refine reg_plain w0 (Nobody) ?_
  refine r_move hS hH.kp0 rfl rfl ?_; clear hS; intro a hS
  refine r_move hS hH.kp0 rfl rfl ?_; clear hS; intro a hS
  refine r_call (l := [.tmp 160, .tmp 161]) hS rfl rfl Fp.fn17 rfl ?_
  refine Calls.mono (number_short (UInt8.ofNat (63 + n + if true then 4 else 0)) (some ⟨bx, 0, none⟩) cx (Hb ++ beB low n) Hb.length n (by simp only [List.length_append, beB_len]; omega) (by rw [hHe]; rfl) (by omega) (by simp only [List.length_append, beB_len]; omega) (by omega) (by omega) (bits_5 (ph := true) (n := n) (by omega) (by omega)).1 (bits_5 (ph := true) (n := n) (by omega) (by omega)).2.1 (bits_5 (ph := true) (n := n) (by omega) (by omega)).2.2 _ (hBx.bs (hH.get (b := bx) (by repeat (first | exact In.here | refine In.there ?_))))) ?_
  rintro e w1 ⟨rfl, hE⟩
  have hlow9 : (((Hb ++ beB low n).drop Hb.length).take n) = beB low n := by have h := take_low (a := Hb) (z := []) (low := low) (n := n); rwa [List.append_nil] at h
  rw [hlow9, beN_beB]
  have htv := htv.extB hE
  replace hH := hH.ext hE
  refine ⟨_, rfl, hH.kp0, ?_⟩
  clear hS; intro a hS
  refine r_move hS hH.kp0 rfl rfl ?_; clear hS; intro a hS
  refine r_extract hS hH.kp0 rfl rfl rfl ?_; clear hS; intro a hS
  refine r_extract hS hH.kp0 rfl rfl rfl ?_; clear hS; intro a hS
  refine r_extract hS hH.kp0 rfl rfl rfl ?_; clear hS; intro a hS
  refine r_extract hS hH.kp0 rfl rfl rfl ?_; clear hS; intro a hS
  refine r_assign hS hH.kp0 rfl rfl ?_; clear hS; intro a hS
  refine r_assign hS hH.kp0 rfl rfl ?_; clear hS; intro a hS
  refine r_assign hS hH.kp0 rfl rfl ?_; clear hS; intro a hS
  refine r_assign hS hH.kp0 rfl rfl ?_; clear hS; intro a hS
  refine Sq.nil ?_
  refine then_n ?_
  refine c_seq ?_
  refine reg_plain w0 (Nobody) ?_
  refine r_move hS hH.kp0 rfl rfl ?_; clear hS; intro a hS
  refine r_eql hS hH.kp0 rfl rfl rfl ?_; clear hS; intro a hS
  refine r_move hS hH.kp0 rfl rfl ?_; clear hS; intro a hS
  refine Sq.guardYes hS rfl rfl rfl ?_; refine r_move hS hH.kp0 rfl rfl ?_; clear hS; intro a hS
  refine Sq.guardYes hS rfl rfl rfl ?_; refine r_move hS hH.kp0 rfl rfl ?_; clear hS; intro a hS
  refine Sq.guardYes hS rfl rfl rfl ?_; refine r_eql hS hH.kp0 rfl rfl rfl ?_; clear hS; intro a hS
  refine r_pickT hS hH.kp0 rfl rfl rfl rfl ?_; clear hS; intro a hS
  refine r_move hS hH.kp0 rfl rfl ?_; clear hS; intro a hS
  refine Sq.guardYes hS rfl rfl (DT (by omega)) ?_; refine r_move hS hH.kp0 rfl rfl ?_; clear hS; intro a hS
  refine r_pickT hS hH.kp0 rfl (DT (by omega)) rfl rfl ?_; clear hS; intro a hS
  refine r_move hS hH.kp0 rfl rfl ?_; clear hS; intro a hS
  refine Sq.guardYes hS rfl rfl rfl ?_; refine r_move hS hH.kp0 rfl rfl ?_; clear hS; intro a hS
  refine Sq.guardYes hS rfl rfl rfl ?_; refine r_move hS hH.kp0 rfl rfl ?_; clear hS; intro a hS
  refine Sq.guardYes hS rfl rfl rfl ?_; refine r_move hS hH.kp0 rfl rfl ?_; clear hS; intro a hS
  refine Sq.guardYes hS rfl rfl rfl ?_; (first | refine r_mul hS hH.kp0 rfl rfl rfl (by omega) ?_ | refine r_mulw hS hH.kp0 rfl rfl rfl ?_); clear hS; intro a hS
  refine Sq.guardYes hS rfl rfl rfl ?_; refine r_toU64 (8 * n) hS hH.kp0 rfl Fp.ui30 Fp.us3 rfl (by omega) (by omega) ?_; clear hS; intro a hS
  refine Sq.guardYes hS rfl rfl rfl ?_; refine r_shlN (m := 1) (8 * n) (2 ^ (8 * n)) hS hH.kp0 rfl rfl rfl rfl (by omega) (shl8 (by omega)) ?_; clear hS; intro a hS
  refine Sq.guardYes hS rfl rfl rfl ?_; refine r_subN (m := 2 ^ (8 * n)) (m' := 1) (2 ^ (8 * n) - 1) hS hH.kp0 rfl rfl rfl (by decide) (sub8 (by omega)) ?_; clear hS; intro a hS
  refine Sq.guardYes hS rfl rfl rfl ?_; refine r_and hS hH.kp0 rfl rfl rfl ?_; clear hS; intro a hS; rw [low_and hlow (by omega) (by omega)] at hS
  refine Sq.guardYes hS rfl rfl rfl ?_; refine r_eql hS hH.kp0 rfl rfl rfl ?_; clear hS; intro a hS
  refine r_pickT hS hH.kp0 rfl rfl rfl rfl ?_; clear hS; intro a hS
  refine r_move hS hH.kp0 rfl rfl ?_; clear hS; intro a hS
  refine Sq.guardYes hS rfl rfl (DT (by omega)) ?_; refine r_fieldAddr hS hH.kp0 rfl Fp.fo26_0 rfl ?_; clear hS; intro a hS
  refine Sq.guardYes hS rfl rfl (DT (by omega)) ?_; refine r_load_sc hS hH (by repeat (first | exact Sub.nil | refine Sub.cons ?_ ?_ | exact In.here | refine In.there ?_)) rfl (by repeat (first | exact In.here | refine In.there ?_)) Fp.sc3 (by rfl) rfl ?_; clear hS; intro a hS
  refine Sq.guardYes hS rfl rfl (DT (by omega)) ?_; refine r_neq hS hH.kp0 rfl rfl rfl ?_; clear hS; intro a hS
  refine Sq.guardYes hS rfl rfl (DT (by omega)) ?_; refine r_move hS hH.kp0 rfl rfl ?_; clear hS; intro a hS
  refine Sq.guardYes hS rfl rfl rfl ?_; refine r_fieldAddr hS hH.kp0 rfl Fp.fo26_6 rfl ?_; clear hS; intro a hS
  refine Sq.guardYes hS rfl rfl rfl ?_; refine r_load_sc hS hH (by repeat (first | exact Sub.nil | refine Sub.cons ?_ ?_ | exact In.here | refine In.there ?_)) rfl (by repeat (first | exact In.here | refine In.there ?_)) Fp.sc4 (by rfl) rfl ?_; clear hS; intro a hS
  refine Sq.guardYes hS rfl rfl rfl ?_; refine r_fieldAddr hS hH.kp0 rfl Fp.fo26_6 rfl ?_; clear hS; intro a hS
  refine Sq.guardYes hS rfl rfl rfl ?_; refine r_load_sc hS hH (by repeat (first | exact Sub.nil | refine Sub.cons ?_ ?_ | exact In.here | refine In.there ?_)) rfl (by repeat (first | exact In.here | refine In.there ?_)) Fp.sc4 (by rfl) rfl ?_; clear hS; intro a hS
  refine Sq.guardYes hS rfl rfl rfl ?_; refine r_boolEql hS hH.kp0 rfl rfl Fp.isBool4 rfl ?_; clear hS; intro a hS
  refine Sq.guardYes hS rfl rfl (DT (by omega)) ?_; refine r_pickF hS hH.kp0 rfl rfl rfl rfl ?_; clear hS; intro a hS
  refine r_pickT hS hH.kp0 rfl (DT (by omega)) rfl rfl ?_; clear hS; intro a hS
  refine r_move hS hH.kp0 rfl rfl ?_; clear hS; intro a hS
  refine Sq.guardYes hS rfl rfl rfl ?_; refine r_fieldAddr hS hH.kp0 rfl Fp.fo26_0 rfl ?_; clear hS; intro a hS
  refine Sq.guardYes hS rfl rfl rfl ?_; refine r_load_sc hS hH (by repeat (first | exact Sub.nil | refine Sub.cons ?_ ?_ | exact In.here | refine In.there ?_)) rfl (by repeat (first | exact In.here | refine In.there ?_)) Fp.sc3 (by rfl) rfl ?_; clear hS; intro a hS
  refine Sq.guardYes hS rfl rfl rfl ?_; refine r_eql hS hH.kp0 rfl rfl rfl ?_; clear hS; intro a hS
  refine Sq.guardYes hS rfl rfl rfl ?_; refine r_move hS hH.kp0 rfl rfl ?_; clear hS; intro a hS
  refine Sq.guardNo hS rfl rfl rfl hH.kp0 rfl ?_; clear hS; intro a hS
  refine Sq.guardNo hS rfl rfl rfl hH.kp0 rfl ?_; clear hS; intro a hS
  refine Sq.guardNo hS rfl rfl rfl hH.kp0 rfl ?_; clear hS; intro a hS
  refine Sq.guardNo hS rfl rfl rfl hH.kp0 rfl ?_; clear hS; intro a hS
  refine Sq.guardNo hS rfl rfl rfl hH.kp0 rfl ?_; clear hS; intro a hS
  refine Sq.guardYes hS rfl rfl rfl ?_; refine r_pickT hS hH.kp0 rfl rfl rfl rfl ?_; clear hS; intro a hS
  refine r_pickT hS hH.kp0 rfl rfl rfl rfl ?_; clear hS; intro a hS
  refine r_move hS hH.kp0 rfl rfl ?_; clear hS; intro a hS
  refine Sq.guardYes hS rfl rfl rfl ?_; refine r_fieldAddr hS hH.kp0 rfl Fp.fo26_0 rfl ?_; clear hS; intro a hS
  refine Sq.guardYes hS rfl rfl rfl ?_; refine r_load_sc hS hH (by repeat (first | exact Sub.nil | refine Sub.cons ?_ ?_ | exact In.here | refine In.there ?_)) rfl (by repeat (first | exact In.here | refine In.there ?_)) Fp.sc3 (by rfl) rfl ?_; clear hS; intro a hS
  refine Sq.guardYes hS rfl rfl rfl ?_; refine r_neq hS hH.kp0 rfl rfl rfl ?_; clear hS; intro a hS
  refine Sq.guardYes hS rfl rfl rfl ?_; refine r_move hS hH.kp0 rfl rfl ?_; clear hS; intro a hS
  refine Sq.guardNo hS rfl rfl rfl hH.kp0 rfl ?_; clear hS; intro a hS
  refine Sq.guardNo hS rfl rfl rfl hH.kp0 rfl ?_; clear hS; intro a hS
  refine Sq.guardNo hS rfl rfl rfl hH.kp0 rfl ?_; clear hS; intro a hS
  refine Sq.guardNo hS rfl rfl rfl hH.kp0 rfl ?_; clear hS; intro a hS
  refine Sq.guardNo hS rfl rfl rfl hH.kp0 rfl ?_; clear hS; intro a hS
  refine Sq.guardNo hS rfl rfl rfl hH.kp0 rfl ?_; clear hS; intro a hS
  refine Sq.guardNo hS rfl rfl rfl hH.kp0 rfl ?_; clear hS; intro a hS
  refine Sq.guardYes hS rfl rfl rfl ?_; refine r_pickT hS hH.kp0 rfl rfl rfl rfl ?_; clear hS; intro a hS
  refine r_pickT hS hH.kp0 rfl rfl rfl rfl ?_; clear hS; intro a hS
  refine r_assign hS hH.kp0 rfl rfl ?_; clear hS; intro a hS
  refine Sq.nil ?_
  refine then_n ?_
  refine wp_ret ?_
  refine leave (.inl rfl) hS rfl (Res.tmp rfl Res.nil) ⟨?_, hH.mod⟩
  first | rfl | exact congrArg (fun z => Ending.returned (Value.bool z)) (by first | exact beq_self_eq_true _ | simp [words])

set_option maxRecDepth 100000 in
set_option maxHeartbeats 6000000 in
theorem back5f_law (ve : Int) (q1 q2 q3 q4 : Option Addr) (c1 c2 c3 c4 : Nat) (dst src tok tag : List UInt8) (lst : List Int) (ln : Int) (htag : tag.length = 16) (n : Nat) (low : Nat) (hlow : low < 18446744073709551616) (w0 : World) (WT : TypeId) (WF : Nat × Nat) (hw0 : w0.heap[0]? = some (.cells [.int .i64 6, .int .i64 14, .int .i64 30, .int .i64 62].toArray WT WF)) (hll : lst.length ≤ 1048576) (hlst : IsA w0 q4 c4 lst) (hd : Bs w0 (.slice q1 dst.length c1) dst) (hs : Bs w0 (.slice q2 src.length c2) src) (ht : Bs w0 (.slice q3 tok.length c3) tok) (hm : mayP 5 dst.length src.length tok.length (ln : Int) (n : Int) lst.length (badN lst)) : Calls Tryd.prog 7 #[.agg ([.int .i64 5, .int .i64 ve, .slice q1 dst.length c1, .slice q2 src.length c2, .slice q3 tok.length c3, .int .i64 (ln : Int), .bool false, .slice q4 lst.length c4] ++ hcells tag : List Value).toArray, .int .u64 (low : Int), .int .i64 (n : Int)] w0 fun e w' => e = .returned (.bool true) ∧ Ext w0 w' := by
  refine enter Tryd.func7 rfl rfl rfl ?_
  intro a hS
  have hH := Hp.start w0 (Nobody)
  have hm2 := hm
  unfold mayP at hm2
  have hwl := wideB_le tok.length
  have hfk8 : 2 ^ formK tok.length ≤ 8 := by rw [← wideB_len tok.length]; exact hwl
  have hfk0 : 0 < 2 ^ formK tok.length := Nat.pow_pos (by decide)
  obtain ⟨t0, t1, t2, t3, t4, t5, t6, t7, t8, t9, ta, tb, tc, td, te, tf, rfl⟩ := len16 htag
  replace hH := hH.know hw0 (fun p hp => by simp at hp)
  refine c_seq ?_
  refine reg_plain w0 (Nobody) ?_
  refine r_box hS hH (by repeat (first | exact Sub.nil | refine Sub.cons ?_ ?_ | exact In.here | refine In.there ?_)) rfl rfl rfl ?_
  clear hS hH; intro a w b3 hb3 hwb3 hS hH
  refine r_assign hS hH.kp0 rfl rfl ?_; clear hS; intro a hS
  refine Sq.nil ?_
  refine then_n ?_
  refine c_seq ?_
  refine reg_plain w0 (Nobody) ?_
  refine r_load_row hS hH (by repeat (first | exact Sub.nil | refine Sub.cons ?_ ?_ | exact In.here | refine In.there ?_)) rfl (by repeat (first | exact In.here | refine In.there ?_)) Fp.ag26 (by rfl) rfl ?_; clear hS; intro a hS
  refine r_move hS hH.kp0 rfl rfl ?_; clear hS; intro a hS
  refine r_move hS hH.kp0 rfl rfl ?_; clear hS; intro a hS
  refine r_call (l := [.tmp 20, .tmp 21, .tmp 22]) hS rfl rfl Fp.fn12 rfl ?_
  refine Calls.mono (Put_5f ve q1 q2 q3 q4 c1 c2 c3 c4 dst src tok _ lst ln  htag n low hlow _ WT WF (hH.get (b := 0) (by repeat (first | exact In.here | refine In.there ?_))) hll (hlst.ext hH.mod) (hd.ext hH.mod) (hs.ext hH.mod) (ht.ext hH.mod) hm) ?_
  rintro e w1 ⟨rx, rfl, hN, hE⟩
  obtain ⟨bx, cx, kx, hvx, hrx, hrkx, hBx⟩ := hN
  subst hvx
  have hwx := Nat.le_trans hH.mod.size hrx
  replace hH := hH.knowN hE hrx hrkx
  refine ⟨_, rfl, hH.kp0, ?_⟩
  clear hS; intro a hS
  generalize hHb : headB 5 n dst src tok ln.toNat false lst [t0, t1, t2, t3, t4, t5, t6, t7, t8, t9, ta, tb, tc, td, te, tf] = Hb at hBx hS
  have hHe : Hb = [UInt8.ofNat (63 + n + if false then 4 else 0)] ++ dst := hHb.symm
  have hHl : Hb.length = 1 + dst.length := by rw [hHe]; simp only [List.length_append, List.length_cons, List.length_nil] <;> omega
  clear hHb
  refine r_move hS hH.kp0 rfl rfl ?_; clear hS; intro a hS
  refine r_extract hS hH.kp0 rfl rfl rfl ?_; clear hS; intro a hS
  refine r_extract hS hH.kp0 rfl rfl rfl ?_; clear hS; intro a hS
  refine r_extract hS hH.kp0 rfl rfl rfl ?_; clear hS; intro a hS
  refine r_assign hS hH.kp0 rfl rfl ?_; clear hS; intro a hS
  refine r_assign hS hH.kp0 rfl rfl ?_; clear hS; intro a hS
  refine r_assign hS hH.kp0 rfl rfl ?_; clear hS; intro a hS
  refine Sq.nil ?_
  refine then_n ?_
  refine c_seq ?_
  refine reg_plain w0 (Nobody) ?_
  refine r_buildSlice (parts := [(0, .const (.int .u8 7))]) hS hH (by repeat (first | exact Sub.nil | refine Sub.cons ?_ ?_ | exact In.here | refine In.there ?_)) rfl Fp.bsl22_1 (by rfl) rfl ?_
  clear hS hH; intro a w b28 hb28 hwb28 hS hH
  refine r_buildS (parts := [(0, .const (.int .i64 5)), (2, .tmp 28), (6, .const (.bool true))]) hS hH.kp0 rfl rfl Fp.zc26 Fp.pl26 (by rfl) ?_; clear hS; intro a hS
  refine r_call (l := [.tmp 29, .const (.int .u64 5), .const (.int .i64 1)]) hS rfl rfl Fp.fn12 rfl ?_
  refine Calls.mono (Put_5t 0 (some ⟨b28, 0, none⟩) none none none 1 0 0 0 [7] [] [] z16 [] 0 rfl 1 5 (by decide) _ WT WF (hH.get (b := 0) (by repeat (first | exact In.here | refine In.there ?_))) (by decide) ⟨rfl, by simp, Nat.le_refl _, fun i u h => by simp at h, fun _ => rfl⟩ ((BB.lit [7] rfl rfl).bs (hH.get (b := b28) (by repeat (first | exact In.here | refine In.there ?_)))) (Bs.nil _) (Bs.nil _) (by decide)) ?_
  rintro e w1 ⟨ro, rfl, hN, hE⟩
  rw [show headB 5 1 [7] [] [] (0 : Int).toNat true [] z16 ++ beB 5 1 = [68, 7, 5] from by decide] at hN
  obtain ⟨bo, co, ko, hvo, hro, hrko, hBo⟩ := hN
  subst hvo
  have hwo := Nat.le_trans hH.mod.size hro
  replace hH := hH.knowN hE hro hrko
  refine ⟨_, rfl, hH.kp0, ?_⟩
  clear hS; intro a hS
  refine r_move hS hH.kp0 rfl rfl ?_; clear hS; intro a hS
  refine r_extract hS hH.kp0 rfl rfl rfl ?_; clear hS; intro a hS
  refine r_extract hS hH.kp0 rfl rfl rfl ?_; clear hS; intro a hS
  refine r_extract hS hH.kp0 rfl rfl rfl ?_; clear hS; intro a hS
  refine r_assign hS hH.kp0 rfl rfl ?_; clear hS; intro a hS
  refine r_assign hS hH.kp0 rfl rfl ?_; clear hS; intro a hS
  refine r_assign hS hH.kp0 rfl rfl ?_; clear hS; intro a hS
  refine Sq.nil ?_
  refine then_n ?_
  refine c_seq ?_
  refine c_seq ?_
  refine reg_plain w0 (Nobody) ?_
  refine r_move hS hH.kp0 rfl rfl ?_; clear hS; intro a hS
  refine r_bytesStr (l := [68, 7, 5]) hS hH.kp0 rfl (hBo.bs (hH.get (b := bo) (by repeat (first | exact In.here | refine In.there ?_)))) Fp.u8s22 Fp.isStr9 rfl ?_; clear hS; intro a hS
  refine r_strNeq hS hH.kp0 rfl rfl rfl ?_; clear hS; intro a hS
  rw [s447] at hS
  refine r_move hS hH.kp0 rfl rfl ?_; clear hS; intro a hS
  refine Sq.guardYes hS rfl rfl rfl ?_; refine r_move hS hH.kp0 rfl rfl ?_; clear hS; intro a hS
  refine Sq.guardYes hS rfl rfl rfl ?_; refine r_neq hS hH.kp0 rfl rfl rfl ?_; clear hS; intro a hS
  refine r_pickF hS hH.kp0 rfl rfl rfl rfl ?_; clear hS; intro a hS
  refine Sq.nil ?_
  refine then_n ?_
  refine c_condF hS rfl rfl ?_
  refine wp_skip ?_
  refine then_n ?_
  refine c_seq ?_
  refine c_seq ?_
  refine reg_plain w0 (Nobody) ?_
  refine r_move hS hH.kp0 rfl rfl ?_; clear hS; intro a hS
  refine r_neq hS hH.kp0 rfl rfl rfl ?_; clear hS; intro a hS
  refine Sq.nil ?_
  refine then_n ?_
  refine c_condF hS rfl rfl ?_
  refine wp_skip ?_
  refine then_n ?_
  refine c_seq ?_
  refine reg_plain w0 (Nobody) ?_
  refine r_assign hS hH.kp0 rfl rfl ?_; clear hS; intro a hS
  refine Sq.nil ?_
  refine then_n ?_
  refine c_seq ?_
  refine c_seq ?_
  refine reg_plain w0 (Nobody) ?_
  refine r_fieldAddr hS hH.kp0 rfl Fp.fo26_0 rfl ?_; clear hS; intro a hS
  refine r_load_sc hS hH (by repeat (first | exact Sub.nil | refine Sub.cons ?_ ?_ | exact In.here | refine In.there ?_)) rfl (by repeat (first | exact In.here | refine In.there ?_)) Fp.sc3 (by rfl) rfl ?_; clear hS; intro a hS
  refine r_eql hS hH.kp0 rfl rfl rfl ?_; clear hS; intro a hS
  refine Sq.nil ?_
  refine then_n ?_
  refine c_condT hS rfl rfl ?_
  refine reg_plain w0 (Nobody) ?_
  refine r_fieldAddr hS hH.kp0 rfl Fp.fo26_2 rfl ?_; clear hS; intro a hS
  refine r_load_sc hS hH (by repeat (first | exact Sub.nil | refine Sub.cons ?_ ?_ | exact In.here | refine In.there ?_)) rfl (by repeat (first | exact In.here | refine In.there ?_)) Fp.sc22 (by rfl) rfl ?_; clear hS; intro a hS
  refine r_lenSl hS hH.kp0 rfl Fp.isSlice22 rfl ?_; clear hS; intro a hS
  refine r_assign hS hH.kp0 rfl rfl ?_; clear hS; intro a hS
  refine Sq.nil ?_
  refine then_n ?_
  refine c_seq ?_
  refine c_seq ?_
  refine reg_plain w0 (Nobody) ?_
  refine r_fieldAddr hS hH.kp0 rfl Fp.fo26_0 rfl ?_; clear hS; intro a hS
  refine r_load_sc hS hH (by repeat (first | exact Sub.nil | refine Sub.cons ?_ ?_ | exact In.here | refine In.there ?_)) rfl (by repeat (first | exact In.here | refine In.there ?_)) Fp.sc3 (by rfl) rfl ?_; clear hS; intro a hS
  refine r_leq hS hH.kp0 rfl rfl rfl ?_; clear hS; intro a hS
  refine Sq.nil ?_
  refine then_n ?_
  refine c_condF hS rfl rfl ?_
  refine wp_skip ?_
  refine then_n ?_
  refine c_seq ?_
  refine c_seq ?_
  refine reg_plain w0 (Nobody) ?_
  refine r_fieldAddr hS hH.kp0 rfl Fp.fo26_0 rfl ?_; clear hS; intro a hS
  refine r_load_sc hS hH (by repeat (first | exact Sub.nil | refine Sub.cons ?_ ?_ | exact In.here | refine In.there ?_)) rfl (by repeat (first | exact In.here | refine In.there ?_)) Fp.sc3 (by rfl) rfl ?_; clear hS; intro a hS
  refine r_eql hS hH.kp0 rfl rfl rfl ?_; clear hS; intro a hS
  refine r_move hS hH.kp0 rfl rfl ?_; clear hS; intro a hS
  refine Sq.guardYes hS rfl rfl rfl ?_; refine r_fieldAddr hS hH.kp0 rfl Fp.fo26_0 rfl ?_; clear hS; intro a hS
  refine Sq.guardYes hS rfl rfl rfl ?_; refine r_load_sc hS hH (by repeat (first | exact Sub.nil | refine Sub.cons ?_ ?_ | exact In.here | refine In.there ?_)) rfl (by repeat (first | exact In.here | refine In.there ?_)) Fp.sc3 (by rfl) rfl ?_; clear hS; intro a hS
  refine Sq.guardYes hS rfl rfl rfl ?_; refine r_eql hS hH.kp0 rfl rfl rfl ?_; clear hS; intro a hS
  refine r_pickF hS hH.kp0 rfl rfl rfl rfl ?_; clear hS; intro a hS
  refine Sq.nil ?_
  refine then_n ?_
  refine c_condF hS rfl rfl ?_
  refine wp_skip ?_
  refine then_n ?_
  refine c_seq ?_
  refine reg_plain w0 (Nobody) ?_
  refine r_move hS hH.kp0 rfl rfl ?_; clear hS; intro a hS
  refine r_move hS hH.kp0 rfl rfl ?_; clear hS; intro a hS
  refine r_call (l := [.tmp 75, .tmp 76]) hS rfl rfl Fp.fn8 rfl ?_
  refine Calls.mono (Read_c (some ⟨bx, 0, none⟩) cx (Hb ++ beB low n) (by simp only [List.length_append, beB_len]; omega) (dst.length : Int) _ WT WF (hH.get (b := 0) (by repeat (first | exact In.here | refine In.there ?_))) (hBx.bs (hH.get (b := bx) (by repeat (first | exact In.here | refine In.there ?_))))) ?_
  rintro e w1 ⟨cs, y, z, rfl, hrd, hE⟩
  rw [← refQ_eq, back_5 (r := beB low n) (by rw [hHe]) (by omega) (by omega) (by omega)] at hrd
  obtain ⟨⟨dv, sv, tv, gv, hcs, hdv, hsv, htv, hgv, _⟩, hy9, hz9⟩ := hrd
  subst hcs hy9 hz9
  replace hH := hH.ext hE
  refine ⟨_, rfl, hH.kp0, ?_⟩
  clear hS; intro a hS
  refine r_move hS hH.kp0 rfl rfl ?_; clear hS; intro a hS
  refine r_extract hS hH.kp0 rfl rfl rfl ?_; clear hS; intro a hS
  refine r_extract hS hH.kp0 rfl rfl rfl ?_; clear hS; intro a hS
  refine r_extract hS hH.kp0 rfl rfl rfl ?_; clear hS; intro a hS
  refine r_allocE hS hH (by repeat (first | exact Sub.nil | refine Sub.cons ?_ ?_ | exact In.here | refine In.there ?_)) Fp.zc26 rfl ?_; clear hS hH; intro a w bh hbh hwbh hE2 hS hH
  refine r_store_rowM hS hH rfl rfl (by first | exact .here | exact .there .here | exact .there (.there .here) | exact .there (.there (.there .here)) | exact .there (.there (.there (.there .here))) | exact .there (.there (.there (.there (.there .here)))) | exact .there (.there (.there (.there (.there (.there .here))))) | exact .there (.there (.there (.there (.there (.there (.there .here)))))) | exact .there (.there (.there (.there (.there (.there (.there (.there .here))))))) | exact .there (.there (.there (.there (.there (.there (.there (.there (.there .here)))))))) | exact .there (.there (.there (.there (.there (.there (.there (.there (.there (.there .here))))))))) | exact .there (.there (.there (.there (.there (.there (.there (.there (.there (.there (.there .here)))))))))) | exact .there (.there (.there (.there (.there (.there (.there (.there (.there (.there (.there (.there .here))))))))))) | exact .there (.there (.there (.there (.there (.there (.there (.there (.there (.there (.there (.there (.there .here)))))))))))) | exact .there (.there (.there (.there (.there (.there (.there (.there (.there (.there (.there (.there (.there (.there .here))))))))))))) | exact .there (.there (.there (.there (.there (.there (.there (.there (.there (.there (.there (.there (.there (.there (.there .here))))))))))))))) (by repeat (first | exact Sub.nil | refine Sub.cons ?_ ?_ | exact In.here | refine In.there ?_)) Fp.sz26 (hdr_one hdv.oneB hsv.oneB htv.oneB (Own.one' hgv)) (by rfl) (.inr hbh) ?_; clear hH; intro w hM2 hH
  have hdv := hdv.new hE2 hM2 hwbh
  have hsv := hsv.new hE2 hM2 hwbh
  have htv := htv.new hE2 hM2 hwbh
  refine r_assign hS hH.kp0 rfl rfl ?_; clear hS; intro a hS
  refine r_assign hS hH.kp0 rfl rfl ?_; clear hS; intro a hS
  refine Sq.nil ?_
  refine then_n ?_
  refine c_seq ?_
  refine c_seq ?_
  refine reg_plain w0 (Nobody) ?_
  refine r_move hS hH.kp0 rfl rfl ?_; clear hS; intro a hS
  refine r_neq hS hH.kp0 rfl rfl rfl ?_; clear hS; intro a hS
  refine r_move hS hH.kp0 rfl rfl ?_; clear hS; intro a hS
  refine Sq.guardYes hS rfl rfl rfl ?_; refine r_move hS hH.kp0 rfl rfl ?_; clear hS; intro a hS
  refine Sq.guardYes hS rfl rfl rfl ?_; refine r_move hS hH.kp0 rfl rfl ?_; clear hS; intro a hS
  refine Sq.guardYes hS rfl rfl rfl ?_; refine r_neq hS hH.kp0 rfl rfl rfl ?_; clear hS; intro a hS
  refine r_pickF hS hH.kp0 rfl rfl rfl rfl ?_; clear hS; intro a hS
  refine r_move hS hH.kp0 rfl rfl ?_; clear hS; intro a hS
  refine Sq.guardYes hS rfl rfl (bne_eq_false_iff_eq.2 (by omega)) ?_; refine r_fieldAddr hS hH.kp0 rfl Fp.fo26_0 rfl ?_; clear hS; intro a hS
  refine Sq.guardYes hS rfl rfl (bne_eq_false_iff_eq.2 (by omega)) ?_; refine r_load_sc hS hH (by repeat (first | exact Sub.nil | refine Sub.cons ?_ ?_ | exact In.here | refine In.there ?_)) rfl (by repeat (first | exact In.here | refine In.there ?_)) Fp.sc3 (by rfl) rfl ?_; clear hS; intro a hS
  refine Sq.guardYes hS rfl rfl (bne_eq_false_iff_eq.2 (by omega)) ?_; refine r_fieldAddr hS hH.kp0 rfl Fp.fo26_0 rfl ?_; clear hS; intro a hS
  refine Sq.guardYes hS rfl rfl (bne_eq_false_iff_eq.2 (by omega)) ?_; refine r_load_sc hS hH (by repeat (first | exact Sub.nil | refine Sub.cons ?_ ?_ | exact In.here | refine In.there ?_)) rfl (by repeat (first | exact In.here | refine In.there ?_)) Fp.sc3 (by rfl) rfl ?_; clear hS; intro a hS
  refine Sq.guardYes hS rfl rfl (bne_eq_false_iff_eq.2 (by omega)) ?_; refine r_neq hS hH.kp0 rfl rfl rfl ?_; clear hS; intro a hS
  refine r_pickF hS hH.kp0 rfl (bne_eq_false_iff_eq.2 (by omega)) rfl rfl ?_; clear hS; intro a hS
  refine r_move hS hH.kp0 rfl rfl ?_; clear hS; intro a hS
  refine Sq.guardYes hS rfl rfl rfl ?_; refine r_fieldAddr hS hH.kp0 rfl Fp.fo26_2 rfl ?_; clear hS; intro a hS
  refine Sq.guardYes hS rfl rfl rfl ?_; refine r_load_sc hS hH (by repeat (first | exact Sub.nil | refine Sub.cons ?_ ?_ | exact In.here | refine In.there ?_)) rfl (by repeat (first | exact In.here | refine In.there ?_)) Fp.sc22 (by rfl) rfl ?_; clear hS; intro a hS
  refine Sq.guardYes hS rfl rfl rfl ?_; refine r_bytesStr (l := dst) hS hH.kp0 rfl hdv.bsB Fp.u8s22 Fp.isStr9 rfl ?_; clear hS; intro a hS
  refine Sq.guardYes hS rfl rfl rfl ?_; refine r_fieldAddr hS hH.kp0 rfl Fp.fo26_2 rfl ?_; clear hS; intro a hS
  refine Sq.guardYes hS rfl rfl rfl ?_; refine r_load_sc hS hH (by repeat (first | exact Sub.nil | refine Sub.cons ?_ ?_ | exact In.here | refine In.there ?_)) rfl (by repeat (first | exact In.here | refine In.there ?_)) Fp.sc22 (by rfl) rfl ?_; clear hS; intro a hS
  refine Sq.guardYes hS rfl rfl rfl ?_; refine r_bytesStr (l := dst) hS hH.kp0 rfl (hd.ext hH.mod) Fp.u8s22 Fp.isStr9 rfl ?_; clear hS; intro a hS
  refine Sq.guardYes hS rfl rfl rfl ?_; refine r_strNeq hS hH.kp0 rfl rfl rfl ?_; clear hS; intro a hS
  refine r_pickF hS hH.kp0 rfl rfl rfl rfl ?_; clear hS; intro a hS
  refine r_move hS hH.kp0 rfl rfl ?_; clear hS; intro a hS
  refine Sq.guardYes hS rfl rfl (congrArg not (beq_self_eq_true _)) ?_; refine r_fieldAddr hS hH.kp0 rfl Fp.fo26_0 rfl ?_; clear hS; intro a hS
  refine Sq.guardYes hS rfl rfl (congrArg not (beq_self_eq_true _)) ?_; refine r_load_sc hS hH (by repeat (first | exact Sub.nil | refine Sub.cons ?_ ?_ | exact In.here | refine In.there ?_)) rfl (by repeat (first | exact In.here | refine In.there ?_)) Fp.sc3 (by rfl) rfl ?_; clear hS; intro a hS
  refine Sq.guardYes hS rfl rfl (congrArg not (beq_self_eq_true _)) ?_; refine r_neq hS hH.kp0 rfl rfl rfl ?_; clear hS; intro a hS
  refine Sq.guardYes hS rfl rfl (congrArg not (beq_self_eq_true _)) ?_; refine r_move hS hH.kp0 rfl rfl ?_; clear hS; intro a hS
  refine Sq.guardNo hS rfl rfl rfl hH.kp0 rfl ?_; clear hS; intro a hS
  refine Sq.guardNo hS rfl rfl rfl hH.kp0 rfl ?_; clear hS; intro a hS
  refine Sq.guardNo hS rfl rfl rfl hH.kp0 rfl ?_; clear hS; intro a hS
  refine Sq.guardNo hS rfl rfl rfl hH.kp0 rfl ?_; clear hS; intro a hS
  refine Sq.guardNo hS rfl rfl rfl hH.kp0 rfl ?_; clear hS; intro a hS
  refine Sq.guardNo hS rfl rfl rfl hH.kp0 rfl ?_; clear hS; intro a hS
  refine Sq.guardNo hS rfl rfl rfl hH.kp0 rfl ?_; clear hS; intro a hS
  refine Sq.guardYes hS rfl rfl (congrArg not (beq_self_eq_true _)) ?_; refine r_pickF hS hH.kp0 rfl rfl rfl rfl ?_; clear hS; intro a hS
  refine r_pickF hS hH.kp0 rfl (congrArg not (beq_self_eq_true _)) rfl rfl ?_; clear hS; intro a hS
  refine Sq.nil ?_
  refine then_n ?_
  refine c_condF hS rfl rfl ?_
  refine wp_skip ?_
  refine then_n ?_
  refine c_seq ?_
  refine c_seq ?_
  refine reg_plain w0 (Nobody) ?_
  refine r_fieldAddr hS hH.kp0 rfl Fp.fo26_0 rfl ?_; clear hS; intro a hS
  refine r_load_sc hS hH (by repeat (first | exact Sub.nil | refine Sub.cons ?_ ?_ | exact In.here | refine In.there ?_)) rfl (by repeat (first | exact In.here | refine In.there ?_)) Fp.sc3 (by rfl) rfl ?_; clear hS; intro a hS
  refine r_eql hS hH.kp0 rfl rfl rfl ?_; clear hS; intro a hS
  refine r_move hS hH.kp0 rfl rfl ?_; clear hS; intro a hS
  refine Sq.guardYes hS rfl rfl rfl ?_; refine r_fieldAddr hS hH.kp0 rfl Fp.fo26_0 rfl ?_; clear hS; intro a hS
  refine Sq.guardYes hS rfl rfl rfl ?_; refine r_load_sc hS hH (by repeat (first | exact Sub.nil | refine Sub.cons ?_ ?_ | exact In.here | refine In.there ?_)) rfl (by repeat (first | exact In.here | refine In.there ?_)) Fp.sc3 (by rfl) rfl ?_; clear hS; intro a hS
  refine Sq.guardYes hS rfl rfl rfl ?_; refine r_eql hS hH.kp0 rfl rfl rfl ?_; clear hS; intro a hS
  refine r_pickF hS hH.kp0 rfl rfl rfl rfl ?_; clear hS; intro a hS
  refine Sq.nil ?_
  refine then_n ?_
  refine c_condF hS rfl rfl ?_
  refine wp_skip ?_
  refine then_n ?_
  refine c_seq ?_
  refine reg_plain w0 (Nobody) ?_
  refine r_move hS hH.kp0 rfl rfl ?_; clear hS; intro a hS
  refine r_move hS hH.kp0 rfl rfl ?_; clear hS; intro a hS
  refine r_call (l := [.tmp 160, .tmp 161]) hS rfl rfl Fp.fn17 rfl ?_
  refine Calls.mono (number_short (UInt8.ofNat (63 + n + if false then 4 else 0)) (some ⟨bx, 0, none⟩) cx (Hb ++ beB low n) Hb.length n (by simp only [List.length_append, beB_len]; omega) (by rw [hHe]; rfl) (by omega) (by simp only [List.length_append, beB_len]; omega) (by omega) (by omega) (bits_5 (ph := false) (n := n) (by omega) (by omega)).1 (bits_5 (ph := false) (n := n) (by omega) (by omega)).2.1 (bits_5 (ph := false) (n := n) (by omega) (by omega)).2.2 _ (hBx.bs (hH.get (b := bx) (by repeat (first | exact In.here | refine In.there ?_))))) ?_
  rintro e w1 ⟨rfl, hE⟩
  have hlow9 : (((Hb ++ beB low n).drop Hb.length).take n) = beB low n := by have h := take_low (a := Hb) (z := []) (low := low) (n := n); rwa [List.append_nil] at h
  rw [hlow9, beN_beB]
  have htv := htv.extB hE
  replace hH := hH.ext hE
  refine ⟨_, rfl, hH.kp0, ?_⟩
  clear hS; intro a hS
  refine r_move hS hH.kp0 rfl rfl ?_; clear hS; intro a hS
  refine r_extract hS hH.kp0 rfl rfl rfl ?_; clear hS; intro a hS
  refine r_extract hS hH.kp0 rfl rfl rfl ?_; clear hS; intro a hS
  refine r_extract hS hH.kp0 rfl rfl rfl ?_; clear hS; intro a hS
  refine r_extract hS hH.kp0 rfl rfl rfl ?_; clear hS; intro a hS
  refine r_assign hS hH.kp0 rfl rfl ?_; clear hS; intro a hS
  refine r_assign hS hH.kp0 rfl rfl ?_; clear hS; intro a hS
  refine r_assign hS hH.kp0 rfl rfl ?_; clear hS; intro a hS
  refine r_assign hS hH.kp0 rfl rfl ?_; clear hS; intro a hS
  refine Sq.nil ?_
  refine then_n ?_
  refine c_seq ?_
  refine reg_plain w0 (Nobody) ?_
  refine r_move hS hH.kp0 rfl rfl ?_; clear hS; intro a hS
  refine r_eql hS hH.kp0 rfl rfl rfl ?_; clear hS; intro a hS
  refine r_move hS hH.kp0 rfl rfl ?_; clear hS; intro a hS
  refine Sq.guardYes hS rfl rfl rfl ?_; refine r_move hS hH.kp0 rfl rfl ?_; clear hS; intro a hS
  refine Sq.guardYes hS rfl rfl rfl ?_; refine r_move hS hH.kp0 rfl rfl ?_; clear hS; intro a hS
  refine Sq.guardYes hS rfl rfl rfl ?_; refine r_eql hS hH.kp0 rfl rfl rfl ?_; clear hS; intro a hS
  refine r_pickT hS hH.kp0 rfl rfl rfl rfl ?_; clear hS; intro a hS
  refine r_move hS hH.kp0 rfl rfl ?_; clear hS; intro a hS
  refine Sq.guardYes hS rfl rfl (DT (by omega)) ?_; refine r_move hS hH.kp0 rfl rfl ?_; clear hS; intro a hS
  refine r_pickT hS hH.kp0 rfl (DT (by omega)) rfl rfl ?_; clear hS; intro a hS
  refine r_move hS hH.kp0 rfl rfl ?_; clear hS; intro a hS
  refine Sq.guardYes hS rfl rfl rfl ?_; refine r_move hS hH.kp0 rfl rfl ?_; clear hS; intro a hS
  refine Sq.guardYes hS rfl rfl rfl ?_; refine r_move hS hH.kp0 rfl rfl ?_; clear hS; intro a hS
  refine Sq.guardYes hS rfl rfl rfl ?_; refine r_move hS hH.kp0 rfl rfl ?_; clear hS; intro a hS
  refine Sq.guardYes hS rfl rfl rfl ?_; (first | refine r_mul hS hH.kp0 rfl rfl rfl (by omega) ?_ | refine r_mulw hS hH.kp0 rfl rfl rfl ?_); clear hS; intro a hS
  refine Sq.guardYes hS rfl rfl rfl ?_; refine r_toU64 (8 * n) hS hH.kp0 rfl Fp.ui30 Fp.us3 rfl (by omega) (by omega) ?_; clear hS; intro a hS
  refine Sq.guardYes hS rfl rfl rfl ?_; refine r_shlN (m := 1) (8 * n) (2 ^ (8 * n)) hS hH.kp0 rfl rfl rfl rfl (by omega) (shl8 (by omega)) ?_; clear hS; intro a hS
  refine Sq.guardYes hS rfl rfl rfl ?_; refine r_subN (m := 2 ^ (8 * n)) (m' := 1) (2 ^ (8 * n) - 1) hS hH.kp0 rfl rfl rfl (by decide) (sub8 (by omega)) ?_; clear hS; intro a hS
  refine Sq.guardYes hS rfl rfl rfl ?_; refine r_and hS hH.kp0 rfl rfl rfl ?_; clear hS; intro a hS; rw [low_and hlow (by omega) (by omega)] at hS
  refine Sq.guardYes hS rfl rfl rfl ?_; refine r_eql hS hH.kp0 rfl rfl rfl ?_; clear hS; intro a hS
  refine r_pickT hS hH.kp0 rfl rfl rfl rfl ?_; clear hS; intro a hS
  refine r_move hS hH.kp0 rfl rfl ?_; clear hS; intro a hS
  refine Sq.guardYes hS rfl rfl (DT (by omega)) ?_; refine r_fieldAddr hS hH.kp0 rfl Fp.fo26_0 rfl ?_; clear hS; intro a hS
  refine Sq.guardYes hS rfl rfl (DT (by omega)) ?_; refine r_load_sc hS hH (by repeat (first | exact Sub.nil | refine Sub.cons ?_ ?_ | exact In.here | refine In.there ?_)) rfl (by repeat (first | exact In.here | refine In.there ?_)) Fp.sc3 (by rfl) rfl ?_; clear hS; intro a hS
  refine Sq.guardYes hS rfl rfl (DT (by omega)) ?_; refine r_neq hS hH.kp0 rfl rfl rfl ?_; clear hS; intro a hS
  refine Sq.guardYes hS rfl rfl (DT (by omega)) ?_; refine r_move hS hH.kp0 rfl rfl ?_; clear hS; intro a hS
  refine Sq.guardYes hS rfl rfl rfl ?_; refine r_fieldAddr hS hH.kp0 rfl Fp.fo26_6 rfl ?_; clear hS; intro a hS
  refine Sq.guardYes hS rfl rfl rfl ?_; refine r_load_sc hS hH (by repeat (first | exact Sub.nil | refine Sub.cons ?_ ?_ | exact In.here | refine In.there ?_)) rfl (by repeat (first | exact In.here | refine In.there ?_)) Fp.sc4 (by rfl) rfl ?_; clear hS; intro a hS
  refine Sq.guardYes hS rfl rfl rfl ?_; refine r_fieldAddr hS hH.kp0 rfl Fp.fo26_6 rfl ?_; clear hS; intro a hS
  refine Sq.guardYes hS rfl rfl rfl ?_; refine r_load_sc hS hH (by repeat (first | exact Sub.nil | refine Sub.cons ?_ ?_ | exact In.here | refine In.there ?_)) rfl (by repeat (first | exact In.here | refine In.there ?_)) Fp.sc4 (by rfl) rfl ?_; clear hS; intro a hS
  refine Sq.guardYes hS rfl rfl rfl ?_; refine r_boolEql hS hH.kp0 rfl rfl Fp.isBool4 rfl ?_; clear hS; intro a hS
  refine Sq.guardYes hS rfl rfl (DT (by omega)) ?_; refine r_pickF hS hH.kp0 rfl rfl rfl rfl ?_; clear hS; intro a hS
  refine r_pickT hS hH.kp0 rfl (DT (by omega)) rfl rfl ?_; clear hS; intro a hS
  refine r_move hS hH.kp0 rfl rfl ?_; clear hS; intro a hS
  refine Sq.guardYes hS rfl rfl rfl ?_; refine r_fieldAddr hS hH.kp0 rfl Fp.fo26_0 rfl ?_; clear hS; intro a hS
  refine Sq.guardYes hS rfl rfl rfl ?_; refine r_load_sc hS hH (by repeat (first | exact Sub.nil | refine Sub.cons ?_ ?_ | exact In.here | refine In.there ?_)) rfl (by repeat (first | exact In.here | refine In.there ?_)) Fp.sc3 (by rfl) rfl ?_; clear hS; intro a hS
  refine Sq.guardYes hS rfl rfl rfl ?_; refine r_eql hS hH.kp0 rfl rfl rfl ?_; clear hS; intro a hS
  refine Sq.guardYes hS rfl rfl rfl ?_; refine r_move hS hH.kp0 rfl rfl ?_; clear hS; intro a hS
  refine Sq.guardNo hS rfl rfl rfl hH.kp0 rfl ?_; clear hS; intro a hS
  refine Sq.guardNo hS rfl rfl rfl hH.kp0 rfl ?_; clear hS; intro a hS
  refine Sq.guardNo hS rfl rfl rfl hH.kp0 rfl ?_; clear hS; intro a hS
  refine Sq.guardNo hS rfl rfl rfl hH.kp0 rfl ?_; clear hS; intro a hS
  refine Sq.guardNo hS rfl rfl rfl hH.kp0 rfl ?_; clear hS; intro a hS
  refine Sq.guardYes hS rfl rfl rfl ?_; refine r_pickT hS hH.kp0 rfl rfl rfl rfl ?_; clear hS; intro a hS
  refine r_pickT hS hH.kp0 rfl rfl rfl rfl ?_; clear hS; intro a hS
  refine r_move hS hH.kp0 rfl rfl ?_; clear hS; intro a hS
  refine Sq.guardYes hS rfl rfl rfl ?_; refine r_fieldAddr hS hH.kp0 rfl Fp.fo26_0 rfl ?_; clear hS; intro a hS
  refine Sq.guardYes hS rfl rfl rfl ?_; refine r_load_sc hS hH (by repeat (first | exact Sub.nil | refine Sub.cons ?_ ?_ | exact In.here | refine In.there ?_)) rfl (by repeat (first | exact In.here | refine In.there ?_)) Fp.sc3 (by rfl) rfl ?_; clear hS; intro a hS
  refine Sq.guardYes hS rfl rfl rfl ?_; refine r_neq hS hH.kp0 rfl rfl rfl ?_; clear hS; intro a hS
  refine Sq.guardYes hS rfl rfl rfl ?_; refine r_move hS hH.kp0 rfl rfl ?_; clear hS; intro a hS
  refine Sq.guardNo hS rfl rfl rfl hH.kp0 rfl ?_; clear hS; intro a hS
  refine Sq.guardNo hS rfl rfl rfl hH.kp0 rfl ?_; clear hS; intro a hS
  refine Sq.guardNo hS rfl rfl rfl hH.kp0 rfl ?_; clear hS; intro a hS
  refine Sq.guardNo hS rfl rfl rfl hH.kp0 rfl ?_; clear hS; intro a hS
  refine Sq.guardNo hS rfl rfl rfl hH.kp0 rfl ?_; clear hS; intro a hS
  refine Sq.guardNo hS rfl rfl rfl hH.kp0 rfl ?_; clear hS; intro a hS
  refine Sq.guardNo hS rfl rfl rfl hH.kp0 rfl ?_; clear hS; intro a hS
  refine Sq.guardYes hS rfl rfl rfl ?_; refine r_pickT hS hH.kp0 rfl rfl rfl rfl ?_; clear hS; intro a hS
  refine r_pickT hS hH.kp0 rfl rfl rfl rfl ?_; clear hS; intro a hS
  refine r_assign hS hH.kp0 rfl rfl ?_; clear hS; intro a hS
  refine Sq.nil ?_
  refine then_n ?_
  refine wp_ret ?_
  refine leave (.inl rfl) hS rfl (Res.tmp rfl Res.nil) ⟨?_, hH.mod⟩
  first | rfl | exact congrArg (fun z => Ending.returned (Value.bool z)) (by first | exact beq_self_eq_true _ | simp [words])

set_option maxRecDepth 100000 in
set_option maxHeartbeats 6000000 in
theorem back0_law (ve : Int) (q1 q2 q3 q4 : Option Addr) (c1 c2 c3 c4 : Nat) (dst src tok tag : List UInt8) (lst : List Int) (ln : Nat) (ph : Bool) (htag : tag.length = 16) (n : Nat) (low : Nat) (hlow : low < 18446744073709551616) (w0 : World) (WT : TypeId) (WF : Nat × Nat) (hw0 : w0.heap[0]? = some (.cells [.int .i64 6, .int .i64 14, .int .i64 30, .int .i64 62].toArray WT WF)) (hll : lst.length ≤ 1048576) (hlst : IsA w0 q4 c4 lst) (hd : Bs w0 (.slice q1 dst.length c1) dst) (hs : Bs w0 (.slice q2 src.length c2) src) (ht : Bs w0 (.slice q3 tok.length c3) tok) (hm : mayP 0 dst.length src.length tok.length (ln : Int) (n : Int) lst.length (badN lst)) : Calls Tryd.prog 7 #[.agg ([.int .i64 0, .int .i64 ve, .slice q1 dst.length c1, .slice q2 src.length c2, .slice q3 tok.length c3, .int .i64 (ln : Int), .bool ph, .slice q4 lst.length c4] ++ hcells tag : List Value).toArray, .int .u64 (low : Int), .int .i64 (n : Int)] w0 fun e w' => e = .returned (.bool true) ∧ Ext w0 w' := by
  refine enter Tryd.func7 rfl rfl rfl ?_
  intro a hS
  have hH := Hp.start w0 (Nobody)
  have hm2 := hm
  unfold mayP at hm2
  have hwl := wideB_le tok.length
  have hfk8 : 2 ^ formK tok.length ≤ 8 := by rw [← wideB_len tok.length]; exact hwl
  have hfk0 : 0 < 2 ^ formK tok.length := Nat.pow_pos (by decide)
  have hw2 : (wideB ln 1).length = 2 := wideB_len _ _
  obtain ⟨t0, t1, t2, t3, t4, t5, t6, t7, t8, t9, ta, tb, tc, td, te, tf, rfl⟩ := len16 htag
  replace hH := hH.know hw0 (fun p hp => by simp at hp)
  refine c_seq ?_
  refine reg_plain w0 (Nobody) ?_
  refine r_box hS hH (by repeat (first | exact Sub.nil | refine Sub.cons ?_ ?_ | exact In.here | refine In.there ?_)) rfl rfl rfl ?_
  clear hS hH; intro a w b3 hb3 hwb3 hS hH
  refine r_assign hS hH.kp0 rfl rfl ?_; clear hS; intro a hS
  refine Sq.nil ?_
  refine then_n ?_
  refine c_seq ?_
  refine reg_plain w0 (Nobody) ?_
  refine r_load_row hS hH (by repeat (first | exact Sub.nil | refine Sub.cons ?_ ?_ | exact In.here | refine In.there ?_)) rfl (by repeat (first | exact In.here | refine In.there ?_)) Fp.ag26 (by rfl) rfl ?_; clear hS; intro a hS
  refine r_move hS hH.kp0 rfl rfl ?_; clear hS; intro a hS
  refine r_move hS hH.kp0 rfl rfl ?_; clear hS; intro a hS
  refine r_call (l := [.tmp 20, .tmp 21, .tmp 22]) hS rfl rfl Fp.fn12 rfl ?_
  refine Calls.mono (Put_0 ve q1 q2 q3 q4 c1 c2 c3 c4 dst src tok _ lst ln ph htag n low hlow _ WT WF (hH.get (b := 0) (by repeat (first | exact In.here | refine In.there ?_))) hll (hlst.ext hH.mod) (hd.ext hH.mod) (hs.ext hH.mod) (ht.ext hH.mod) hm) ?_
  rintro e w1 ⟨rx, rfl, hN, hE⟩
  obtain ⟨bx, cx, kx, hvx, hrx, hrkx, hBx⟩ := hN
  subst hvx
  have hwx := Nat.le_trans hH.mod.size hrx
  replace hH := hH.knowN hE hrx hrkx
  refine ⟨_, rfl, hH.kp0, ?_⟩
  clear hS; intro a hS
  generalize hHb : headB 0 n dst src tok ln ph lst [t0, t1, t2, t3, t4, t5, t6, t7, t8, t9, ta, tb, tc, td, te, tf] = Hb at hBx hS
  have hHe : Hb = startB (191 + n) 1 dst src ++ wideB tok.length (formK tok.length) ++ tok ++ wideB ln 1 := hHb.symm
  have hHl : Hb.length = 7 + dst.length + src.length + 2 ^ formK tok.length + tok.length + 2 := by rw [hHe]; simp only [List.length_append, startB_len, wideB_len] <;> omega
  clear hHb
  refine r_move hS hH.kp0 rfl rfl ?_; clear hS; intro a hS
  refine r_extract hS hH.kp0 rfl rfl rfl ?_; clear hS; intro a hS
  refine r_extract hS hH.kp0 rfl rfl rfl ?_; clear hS; intro a hS
  refine r_extract hS hH.kp0 rfl rfl rfl ?_; clear hS; intro a hS
  refine r_assign hS hH.kp0 rfl rfl ?_; clear hS; intro a hS
  refine r_assign hS hH.kp0 rfl rfl ?_; clear hS; intro a hS
  refine r_assign hS hH.kp0 rfl rfl ?_; clear hS; intro a hS
  refine Sq.nil ?_
  refine then_n ?_
  refine c_seq ?_
  refine reg_plain w0 (Nobody) ?_
  refine r_buildSlice (parts := [(0, .const (.int .u8 7))]) hS hH (by repeat (first | exact Sub.nil | refine Sub.cons ?_ ?_ | exact In.here | refine In.there ?_)) rfl Fp.bsl22_1 (by rfl) rfl ?_
  clear hS hH; intro a w b28 hb28 hwb28 hS hH
  refine r_buildS (parts := [(0, .const (.int .i64 5)), (2, .tmp 28), (6, .const (.bool true))]) hS hH.kp0 rfl rfl Fp.zc26 Fp.pl26 (by rfl) ?_; clear hS; intro a hS
  refine r_call (l := [.tmp 29, .const (.int .u64 5), .const (.int .i64 1)]) hS rfl rfl Fp.fn12 rfl ?_
  refine Calls.mono (Put_5t 0 (some ⟨b28, 0, none⟩) none none none 1 0 0 0 [7] [] [] z16 [] 0 rfl 1 5 (by decide) _ WT WF (hH.get (b := 0) (by repeat (first | exact In.here | refine In.there ?_))) (by decide) ⟨rfl, by simp, Nat.le_refl _, fun i u h => by simp at h, fun _ => rfl⟩ ((BB.lit [7] rfl rfl).bs (hH.get (b := b28) (by repeat (first | exact In.here | refine In.there ?_)))) (Bs.nil _) (Bs.nil _) (by decide)) ?_
  rintro e w1 ⟨ro, rfl, hN, hE⟩
  rw [show headB 5 1 [7] [] [] (0 : Int).toNat true [] z16 ++ beB 5 1 = [68, 7, 5] from by decide] at hN
  obtain ⟨bo, co, ko, hvo, hro, hrko, hBo⟩ := hN
  subst hvo
  have hwo := Nat.le_trans hH.mod.size hro
  replace hH := hH.knowN hE hro hrko
  refine ⟨_, rfl, hH.kp0, ?_⟩
  clear hS; intro a hS
  refine r_move hS hH.kp0 rfl rfl ?_; clear hS; intro a hS
  refine r_extract hS hH.kp0 rfl rfl rfl ?_; clear hS; intro a hS
  refine r_extract hS hH.kp0 rfl rfl rfl ?_; clear hS; intro a hS
  refine r_extract hS hH.kp0 rfl rfl rfl ?_; clear hS; intro a hS
  refine r_assign hS hH.kp0 rfl rfl ?_; clear hS; intro a hS
  refine r_assign hS hH.kp0 rfl rfl ?_; clear hS; intro a hS
  refine r_assign hS hH.kp0 rfl rfl ?_; clear hS; intro a hS
  refine Sq.nil ?_
  refine then_n ?_
  refine c_seq ?_
  refine c_seq ?_
  refine reg_plain w0 (Nobody) ?_
  refine r_move hS hH.kp0 rfl rfl ?_; clear hS; intro a hS
  refine r_bytesStr (l := [68, 7, 5]) hS hH.kp0 rfl (hBo.bs (hH.get (b := bo) (by repeat (first | exact In.here | refine In.there ?_)))) Fp.u8s22 Fp.isStr9 rfl ?_; clear hS; intro a hS
  refine r_strNeq hS hH.kp0 rfl rfl rfl ?_; clear hS; intro a hS
  rw [s447] at hS
  refine r_move hS hH.kp0 rfl rfl ?_; clear hS; intro a hS
  refine Sq.guardYes hS rfl rfl rfl ?_; refine r_move hS hH.kp0 rfl rfl ?_; clear hS; intro a hS
  refine Sq.guardYes hS rfl rfl rfl ?_; refine r_neq hS hH.kp0 rfl rfl rfl ?_; clear hS; intro a hS
  refine r_pickF hS hH.kp0 rfl rfl rfl rfl ?_; clear hS; intro a hS
  refine Sq.nil ?_
  refine then_n ?_
  refine c_condF hS rfl rfl ?_
  refine wp_skip ?_
  refine then_n ?_
  refine c_seq ?_
  refine c_seq ?_
  refine reg_plain w0 (Nobody) ?_
  refine r_move hS hH.kp0 rfl rfl ?_; clear hS; intro a hS
  refine r_neq hS hH.kp0 rfl rfl rfl ?_; clear hS; intro a hS
  refine Sq.nil ?_
  refine then_n ?_
  refine c_condF hS rfl rfl ?_
  refine wp_skip ?_
  refine then_n ?_
  refine c_seq ?_
  refine reg_plain w0 (Nobody) ?_
  refine r_assign hS hH.kp0 rfl rfl ?_; clear hS; intro a hS
  refine Sq.nil ?_
  refine then_n ?_
  refine c_seq ?_
  refine c_seq ?_
  refine reg_plain w0 (Nobody) ?_
  refine r_fieldAddr hS hH.kp0 rfl Fp.fo26_0 rfl ?_; clear hS; intro a hS
  refine r_load_sc hS hH (by repeat (first | exact Sub.nil | refine Sub.cons ?_ ?_ | exact In.here | refine In.there ?_)) rfl (by repeat (first | exact In.here | refine In.there ?_)) Fp.sc3 (by rfl) rfl ?_; clear hS; intro a hS
  refine r_eql hS hH.kp0 rfl rfl rfl ?_; clear hS; intro a hS
  refine Sq.nil ?_
  refine then_n ?_
  refine c_condF hS rfl rfl ?_
  refine wp_skip ?_
  refine then_n ?_
  refine c_seq ?_
  refine c_seq ?_
  refine reg_plain w0 (Nobody) ?_
  refine r_fieldAddr hS hH.kp0 rfl Fp.fo26_0 rfl ?_; clear hS; intro a hS
  refine r_load_sc hS hH (by repeat (first | exact Sub.nil | refine Sub.cons ?_ ?_ | exact In.here | refine In.there ?_)) rfl (by repeat (first | exact In.here | refine In.there ?_)) Fp.sc3 (by rfl) rfl ?_; clear hS; intro a hS
  refine r_leq hS hH.kp0 rfl rfl rfl ?_; clear hS; intro a hS
  refine Sq.nil ?_
  refine then_n ?_
  refine c_condT hS rfl rfl ?_
  refine reg_plain w0 (Nobody) ?_
  refine r_move hS hH.kp0 rfl rfl ?_; clear hS; intro a hS
  refine r_fieldAddr hS hH.kp0 rfl Fp.fo26_5 rfl ?_; clear hS; intro a hS
  refine r_load_sc hS hH (by repeat (first | exact Sub.nil | refine Sub.cons ?_ ?_ | exact In.here | refine In.there ?_)) rfl (by repeat (first | exact In.here | refine In.there ?_)) Fp.sc3 (by rfl) rfl ?_; clear hS; intro a hS
  refine r_appZB (Hb ++ beB low n) ln hS hH rfl rfl rfl (by first | exact .here | exact .there .here | exact .there (.there .here) | exact .there (.there (.there .here)) | exact .there (.there (.there (.there .here))) | exact .there (.there (.there (.there (.there .here)))) | exact .there (.there (.there (.there (.there (.there .here))))) | exact .there (.there (.there (.there (.there (.there (.there .here)))))) | exact .there (.there (.there (.there (.there (.there (.there (.there .here))))))) | exact .there (.there (.there (.there (.there (.there (.there (.there (.there .here)))))))) | exact .there (.there (.there (.there (.there (.there (.there (.there (.there (.there .here))))))))) | exact .there (.there (.there (.there (.there (.there (.there (.there (.there (.there (.there .here)))))))))) | exact .there (.there (.there (.there (.there (.there (.there (.there (.there (.there (.there (.there .here))))))))))) | exact .there (.there (.there (.there (.there (.there (.there (.there (.there (.there (.there (.there (.there .here)))))))))))) | exact .there (.there (.there (.there (.there (.there (.there (.there (.there (.there (.there (.there (.there (.there .here))))))))))))) | exact .there (.there (.there (.there (.there (.there (.there (.there (.there (.there (.there (.there (.there (.there (.there .here))))))))))))))) (by repeat (first | exact Sub.nil | refine Sub.cons ?_ ?_ | exact In.here | refine In.there ?_)) Fp.el22 Fp.zc5 Fp.i64_3 hBx (by omega) (by simp only [List.length_append, beB_len]; omega) hwx rfl ?_
  clear hS hH; intro a w bz cz kz hwz hBz hS hH
  refine r_assign hS hH.kp0 rfl rfl ?_; clear hS; intro a hS
  refine Sq.nil ?_
  refine then_n ?_
  refine c_seq ?_
  refine c_seq ?_
  refine reg_plain w0 (Nobody) ?_
  refine r_fieldAddr hS hH.kp0 rfl Fp.fo26_0 rfl ?_; clear hS; intro a hS
  refine r_load_sc hS hH (by repeat (first | exact Sub.nil | refine Sub.cons ?_ ?_ | exact In.here | refine In.there ?_)) rfl (by repeat (first | exact In.here | refine In.there ?_)) Fp.sc3 (by rfl) rfl ?_; clear hS; intro a hS
  refine r_eql hS hH.kp0 rfl rfl rfl ?_; clear hS; intro a hS
  refine r_move hS hH.kp0 rfl rfl ?_; clear hS; intro a hS
  refine Sq.guardYes hS rfl rfl rfl ?_; refine r_fieldAddr hS hH.kp0 rfl Fp.fo26_0 rfl ?_; clear hS; intro a hS
  refine Sq.guardYes hS rfl rfl rfl ?_; refine r_load_sc hS hH (by repeat (first | exact Sub.nil | refine Sub.cons ?_ ?_ | exact In.here | refine In.there ?_)) rfl (by repeat (first | exact In.here | refine In.there ?_)) Fp.sc3 (by rfl) rfl ?_; clear hS; intro a hS
  refine Sq.guardYes hS rfl rfl rfl ?_; refine r_eql hS hH.kp0 rfl rfl rfl ?_; clear hS; intro a hS
  refine r_pickF hS hH.kp0 rfl rfl rfl rfl ?_; clear hS; intro a hS
  refine Sq.nil ?_
  refine then_n ?_
  refine c_condF hS rfl rfl ?_
  refine wp_skip ?_
  refine then_n ?_
  refine c_seq ?_
  refine reg_plain w0 (Nobody) ?_
  refine r_move hS hH.kp0 rfl rfl ?_; clear hS; intro a hS
  refine r_move hS hH.kp0 rfl rfl ?_; clear hS; intro a hS
  refine r_call (l := [.tmp 75, .tmp 76]) hS rfl rfl Fp.fn8 rfl ?_
  refine Calls.mono (Read_c (some ⟨bz, 0, none⟩) cz ((Hb ++ beB low n) ++ List.replicate ln 0) (by simp only [List.length_append, beB_len, List.length_replicate]; omega) 0 _ WT WF (hH.get (b := 0) (by repeat (first | exact In.here | refine In.there ?_))) (hBz.bs (hH.get (b := bz) (by repeat (first | exact In.here | refine In.there ?_))))) ?_
  rintro e w1 ⟨cs, y, z, rfl, hrd, hE⟩
  rw [← refQ_eq, back_0 (tok := tok) (l := (Hb ++ beB low n) ++ List.replicate ln 0) (dst := dst) (src := src) (n := n) (ln := ln) (r := beB low n ++ List.replicate ln 0) (by rw [hHe]; simp only [List.append_assoc]) (by omega) (by omega) (by omega) (by omega) (by omega) (by omega) (by simp)] at hrd
  obtain ⟨⟨dv, sv, tv, gv, hcs, hdv, hsv, htv, hgv, _⟩, hy9, hz9⟩ := hrd
  subst hcs hy9 hz9
  replace hH := hH.ext hE
  refine ⟨_, rfl, hH.kp0, ?_⟩
  clear hS; intro a hS
  refine r_move hS hH.kp0 rfl rfl ?_; clear hS; intro a hS
  refine r_extract hS hH.kp0 rfl rfl rfl ?_; clear hS; intro a hS
  refine r_extract hS hH.kp0 rfl rfl rfl ?_; clear hS; intro a hS
  refine r_extract hS hH.kp0 rfl rfl rfl ?_; clear hS; intro a hS
  refine r_allocE hS hH (by repeat (first | exact Sub.nil | refine Sub.cons ?_ ?_ | exact In.here | refine In.there ?_)) Fp.zc26 rfl ?_; clear hS hH; intro a w bh hbh hwbh hE2 hS hH
  refine r_store_rowM hS hH rfl rfl (by first | exact .here | exact .there .here | exact .there (.there .here) | exact .there (.there (.there .here)) | exact .there (.there (.there (.there .here))) | exact .there (.there (.there (.there (.there .here)))) | exact .there (.there (.there (.there (.there (.there .here))))) | exact .there (.there (.there (.there (.there (.there (.there .here)))))) | exact .there (.there (.there (.there (.there (.there (.there (.there .here))))))) | exact .there (.there (.there (.there (.there (.there (.there (.there (.there .here)))))))) | exact .there (.there (.there (.there (.there (.there (.there (.there (.there (.there .here))))))))) | exact .there (.there (.there (.there (.there (.there (.there (.there (.there (.there (.there .here)))))))))) | exact .there (.there (.there (.there (.there (.there (.there (.there (.there (.there (.there (.there .here))))))))))) | exact .there (.there (.there (.there (.there (.there (.there (.there (.there (.there (.there (.there (.there .here)))))))))))) | exact .there (.there (.there (.there (.there (.there (.there (.there (.there (.there (.there (.there (.there (.there .here))))))))))))) | exact .there (.there (.there (.there (.there (.there (.there (.there (.there (.there (.there (.there (.there (.there (.there .here))))))))))))))) (by repeat (first | exact Sub.nil | refine Sub.cons ?_ ?_ | exact In.here | refine In.there ?_)) Fp.sz26 (hdr_one hdv.oneB hsv.oneB htv.oneB (Own.one' hgv)) (by rfl) (.inr hbh) ?_; clear hH; intro w hM2 hH
  have hdv := hdv.new hE2 hM2 hwbh
  have hsv := hsv.new hE2 hM2 hwbh
  have htv := htv.new hE2 hM2 hwbh
  refine r_assign hS hH.kp0 rfl rfl ?_; clear hS; intro a hS
  refine r_assign hS hH.kp0 rfl rfl ?_; clear hS; intro a hS
  refine Sq.nil ?_
  refine then_n ?_
  refine c_seq ?_
  refine c_seq ?_
  refine reg_plain w0 (Nobody) ?_
  refine r_move hS hH.kp0 rfl rfl ?_; clear hS; intro a hS
  refine r_neq hS hH.kp0 rfl rfl rfl ?_; clear hS; intro a hS
  refine r_move hS hH.kp0 rfl rfl ?_; clear hS; intro a hS
  refine Sq.guardYes hS rfl rfl rfl ?_; refine r_move hS hH.kp0 rfl rfl ?_; clear hS; intro a hS
  refine Sq.guardYes hS rfl rfl rfl ?_; refine r_move hS hH.kp0 rfl rfl ?_; clear hS; intro a hS
  refine Sq.guardYes hS rfl rfl rfl ?_; refine r_neq hS hH.kp0 rfl rfl rfl ?_; clear hS; intro a hS
  refine r_pickF hS hH.kp0 rfl rfl rfl rfl ?_; clear hS; intro a hS
  refine r_move hS hH.kp0 rfl rfl ?_; clear hS; intro a hS
  refine Sq.guardYes hS rfl rfl (bne_eq_false_iff_eq.2 (by omega)) ?_; refine r_fieldAddr hS hH.kp0 rfl Fp.fo26_0 rfl ?_; clear hS; intro a hS
  refine Sq.guardYes hS rfl rfl (bne_eq_false_iff_eq.2 (by omega)) ?_; refine r_load_sc hS hH (by repeat (first | exact Sub.nil | refine Sub.cons ?_ ?_ | exact In.here | refine In.there ?_)) rfl (by repeat (first | exact In.here | refine In.there ?_)) Fp.sc3 (by rfl) rfl ?_; clear hS; intro a hS
  refine Sq.guardYes hS rfl rfl (bne_eq_false_iff_eq.2 (by omega)) ?_; refine r_fieldAddr hS hH.kp0 rfl Fp.fo26_0 rfl ?_; clear hS; intro a hS
  refine Sq.guardYes hS rfl rfl (bne_eq_false_iff_eq.2 (by omega)) ?_; refine r_load_sc hS hH (by repeat (first | exact Sub.nil | refine Sub.cons ?_ ?_ | exact In.here | refine In.there ?_)) rfl (by repeat (first | exact In.here | refine In.there ?_)) Fp.sc3 (by rfl) rfl ?_; clear hS; intro a hS
  refine Sq.guardYes hS rfl rfl (bne_eq_false_iff_eq.2 (by omega)) ?_; refine r_neq hS hH.kp0 rfl rfl rfl ?_; clear hS; intro a hS
  refine r_pickF hS hH.kp0 rfl (bne_eq_false_iff_eq.2 (by omega)) rfl rfl ?_; clear hS; intro a hS
  refine r_move hS hH.kp0 rfl rfl ?_; clear hS; intro a hS
  refine Sq.guardYes hS rfl rfl rfl ?_; refine r_fieldAddr hS hH.kp0 rfl Fp.fo26_2 rfl ?_; clear hS; intro a hS
  refine Sq.guardYes hS rfl rfl rfl ?_; refine r_load_sc hS hH (by repeat (first | exact Sub.nil | refine Sub.cons ?_ ?_ | exact In.here | refine In.there ?_)) rfl (by repeat (first | exact In.here | refine In.there ?_)) Fp.sc22 (by rfl) rfl ?_; clear hS; intro a hS
  refine Sq.guardYes hS rfl rfl rfl ?_; refine r_bytesStr (l := dst) hS hH.kp0 rfl hdv.bsB Fp.u8s22 Fp.isStr9 rfl ?_; clear hS; intro a hS
  refine Sq.guardYes hS rfl rfl rfl ?_; refine r_fieldAddr hS hH.kp0 rfl Fp.fo26_2 rfl ?_; clear hS; intro a hS
  refine Sq.guardYes hS rfl rfl rfl ?_; refine r_load_sc hS hH (by repeat (first | exact Sub.nil | refine Sub.cons ?_ ?_ | exact In.here | refine In.there ?_)) rfl (by repeat (first | exact In.here | refine In.there ?_)) Fp.sc22 (by rfl) rfl ?_; clear hS; intro a hS
  refine Sq.guardYes hS rfl rfl rfl ?_; refine r_bytesStr (l := dst) hS hH.kp0 rfl (hd.ext hH.mod) Fp.u8s22 Fp.isStr9 rfl ?_; clear hS; intro a hS
  refine Sq.guardYes hS rfl rfl rfl ?_; refine r_strNeq hS hH.kp0 rfl rfl rfl ?_; clear hS; intro a hS
  refine r_pickF hS hH.kp0 rfl rfl rfl rfl ?_; clear hS; intro a hS
  refine r_move hS hH.kp0 rfl rfl ?_; clear hS; intro a hS
  refine Sq.guardYes hS rfl rfl (congrArg not (beq_self_eq_true _)) ?_; refine r_fieldAddr hS hH.kp0 rfl Fp.fo26_0 rfl ?_; clear hS; intro a hS
  refine Sq.guardYes hS rfl rfl (congrArg not (beq_self_eq_true _)) ?_; refine r_load_sc hS hH (by repeat (first | exact Sub.nil | refine Sub.cons ?_ ?_ | exact In.here | refine In.there ?_)) rfl (by repeat (first | exact In.here | refine In.there ?_)) Fp.sc3 (by rfl) rfl ?_; clear hS; intro a hS
  refine Sq.guardYes hS rfl rfl (congrArg not (beq_self_eq_true _)) ?_; refine r_neq hS hH.kp0 rfl rfl rfl ?_; clear hS; intro a hS
  refine Sq.guardYes hS rfl rfl (congrArg not (beq_self_eq_true _)) ?_; refine r_move hS hH.kp0 rfl rfl ?_; clear hS; intro a hS
  refine Sq.guardYes hS rfl rfl rfl ?_; refine r_fieldAddr hS hH.kp0 rfl Fp.fo26_3 rfl ?_; clear hS; intro a hS
  refine Sq.guardYes hS rfl rfl rfl ?_; refine r_load_sc hS hH (by repeat (first | exact Sub.nil | refine Sub.cons ?_ ?_ | exact In.here | refine In.there ?_)) rfl (by repeat (first | exact In.here | refine In.there ?_)) Fp.sc22 (by rfl) rfl ?_; clear hS; intro a hS
  refine Sq.guardYes hS rfl rfl rfl ?_; refine r_bytesStr (l := src) hS hH.kp0 rfl hsv.bsB Fp.u8s22 Fp.isStr9 rfl ?_; clear hS; intro a hS
  refine Sq.guardYes hS rfl rfl rfl ?_; refine r_fieldAddr hS hH.kp0 rfl Fp.fo26_3 rfl ?_; clear hS; intro a hS
  refine Sq.guardYes hS rfl rfl rfl ?_; refine r_load_sc hS hH (by repeat (first | exact Sub.nil | refine Sub.cons ?_ ?_ | exact In.here | refine In.there ?_)) rfl (by repeat (first | exact In.here | refine In.there ?_)) Fp.sc22 (by rfl) rfl ?_; clear hS; intro a hS
  refine Sq.guardYes hS rfl rfl rfl ?_; refine r_bytesStr (l := src) hS hH.kp0 rfl (hs.ext hH.mod) Fp.u8s22 Fp.isStr9 rfl ?_; clear hS; intro a hS
  refine Sq.guardYes hS rfl rfl rfl ?_; refine r_strNeq hS hH.kp0 rfl rfl rfl ?_; clear hS; intro a hS
  refine Sq.guardYes hS rfl rfl (congrArg not (beq_self_eq_true _)) ?_; refine r_pickT hS hH.kp0 rfl rfl rfl rfl ?_; clear hS; intro a hS
  refine r_pickF hS hH.kp0 rfl (congrArg not (beq_self_eq_true _)) rfl rfl ?_; clear hS; intro a hS
  refine Sq.nil ?_
  refine then_n ?_
  refine c_condF hS rfl (congrArg not (beq_self_eq_true _)) ?_
  refine wp_skip ?_
  refine then_n ?_
  refine c_seq ?_
  refine c_seq ?_
  refine reg_plain w0 (Nobody) ?_
  refine r_fieldAddr hS hH.kp0 rfl Fp.fo26_0 rfl ?_; clear hS; intro a hS
  refine r_load_sc hS hH (by repeat (first | exact Sub.nil | refine Sub.cons ?_ ?_ | exact In.here | refine In.there ?_)) rfl (by repeat (first | exact In.here | refine In.there ?_)) Fp.sc3 (by rfl) rfl ?_; clear hS; intro a hS
  refine r_eql hS hH.kp0 rfl rfl rfl ?_; clear hS; intro a hS
  refine r_move hS hH.kp0 rfl rfl ?_; clear hS; intro a hS
  refine Sq.guardYes hS rfl rfl rfl ?_; refine r_fieldAddr hS hH.kp0 rfl Fp.fo26_0 rfl ?_; clear hS; intro a hS
  refine Sq.guardYes hS rfl rfl rfl ?_; refine r_load_sc hS hH (by repeat (first | exact Sub.nil | refine Sub.cons ?_ ?_ | exact In.here | refine In.there ?_)) rfl (by repeat (first | exact In.here | refine In.there ?_)) Fp.sc3 (by rfl) rfl ?_; clear hS; intro a hS
  refine Sq.guardYes hS rfl rfl rfl ?_; refine r_eql hS hH.kp0 rfl rfl rfl ?_; clear hS; intro a hS
  refine r_pickF hS hH.kp0 rfl rfl rfl rfl ?_; clear hS; intro a hS
  refine Sq.nil ?_
  refine then_n ?_
  refine c_condF hS rfl rfl ?_
  refine wp_skip ?_
  refine then_n ?_
  refine c_seq ?_
  refine reg_plain w0 (Nobody) ?_
  refine r_move hS hH.kp0 rfl rfl ?_; clear hS; intro a hS
  refine r_move hS hH.kp0 rfl rfl ?_; clear hS; intro a hS
  refine r_call (l := [.tmp 160, .tmp 161]) hS rfl rfl Fp.fn17 rfl ?_
  refine Calls.mono (number_long (UInt8.ofNat (191 + n)) (some ⟨bz, 0, none⟩) cz ((Hb ++ beB low n) ++ List.replicate ln 0) Hb.length n (by simp only [List.length_append, beB_len, List.length_replicate]; omega) (by rw [hHe]; rfl) (by omega) (by simp only [List.length_append, beB_len, List.length_replicate]; omega) (by omega) (by omega) ((by have h := bits_l (k := 0) (n := n) (by decide) (by omega) (by omega); simpa using h : UInt8.ofNat (191 + n) &&& 3 = UInt8.ofNat (n - 1) ∧ UInt8.ofNat (191 + n) &&& 128 = 128 ∧ UInt8.ofNat (191 + n) &&& 12 = 0)).1 ((by have h := bits_l (k := 0) (n := n) (by decide) (by omega) (by omega); simpa using h : UInt8.ofNat (191 + n) &&& 3 = UInt8.ofNat (n - 1) ∧ UInt8.ofNat (191 + n) &&& 128 = 128 ∧ UInt8.ofNat (191 + n) &&& 12 = 0)).2.1 ((by have h := bits_l (k := 0) (n := n) (by decide) (by omega) (by omega); simpa using h : UInt8.ofNat (191 + n) &&& 3 = UInt8.ofNat (n - 1) ∧ UInt8.ofNat (191 + n) &&& 128 = 128 ∧ UInt8.ofNat (191 + n) &&& 12 = 0)).2.2 _ (hBz.bs (hH.get (b := bz) (by repeat (first | exact In.here | refine In.there ?_))))) ?_
  rintro e w1 ⟨rfl, hE⟩
  have hlow9 : ((((Hb ++ beB low n) ++ List.replicate ln 0).drop Hb.length).take n) = beB low n := take_low
  rw [hlow9, beN_beB]
  have htv := htv.extB hE
  replace hH := hH.ext hE
  refine ⟨_, rfl, hH.kp0, ?_⟩
  clear hS; intro a hS
  refine r_move hS hH.kp0 rfl rfl ?_; clear hS; intro a hS
  refine r_extract hS hH.kp0 rfl rfl rfl ?_; clear hS; intro a hS
  refine r_extract hS hH.kp0 rfl rfl rfl ?_; clear hS; intro a hS
  refine r_extract hS hH.kp0 rfl rfl rfl ?_; clear hS; intro a hS
  refine r_extract hS hH.kp0 rfl rfl rfl ?_; clear hS; intro a hS
  refine r_assign hS hH.kp0 rfl rfl ?_; clear hS; intro a hS
  refine r_assign hS hH.kp0 rfl rfl ?_; clear hS; intro a hS
  refine r_assign hS hH.kp0 rfl rfl ?_; clear hS; intro a hS
  refine r_assign hS hH.kp0 rfl rfl ?_; clear hS; intro a hS
  refine Sq.nil ?_
  refine then_n ?_
  refine c_seq ?_
  refine reg_plain w0 (Nobody) ?_
  refine r_move hS hH.kp0 rfl rfl ?_; clear hS; intro a hS
  refine r_eql hS hH.kp0 rfl rfl rfl ?_; clear hS; intro a hS
  refine r_move hS hH.kp0 rfl rfl ?_; clear hS; intro a hS
  refine Sq.guardYes hS rfl rfl rfl ?_; refine r_move hS hH.kp0 rfl rfl ?_; clear hS; intro a hS
  refine Sq.guardYes hS rfl rfl rfl ?_; refine r_move hS hH.kp0 rfl rfl ?_; clear hS; intro a hS
  refine Sq.guardYes hS rfl rfl rfl ?_; refine r_eql hS hH.kp0 rfl rfl rfl ?_; clear hS; intro a hS
  refine r_pickT hS hH.kp0 rfl rfl rfl rfl ?_; clear hS; intro a hS
  refine r_move hS hH.kp0 rfl rfl ?_; clear hS; intro a hS
  refine Sq.guardYes hS rfl rfl (DT (by omega)) ?_; refine r_move hS hH.kp0 rfl rfl ?_; clear hS; intro a hS
  refine r_pickT hS hH.kp0 rfl (DT (by omega)) rfl rfl ?_; clear hS; intro a hS
  refine r_move hS hH.kp0 rfl rfl ?_; clear hS; intro a hS
  refine Sq.guardYes hS rfl rfl rfl ?_; refine r_move hS hH.kp0 rfl rfl ?_; clear hS; intro a hS
  refine Sq.guardYes hS rfl rfl rfl ?_; refine r_move hS hH.kp0 rfl rfl ?_; clear hS; intro a hS
  refine Sq.guardYes hS rfl rfl rfl ?_; refine r_move hS hH.kp0 rfl rfl ?_; clear hS; intro a hS
  refine Sq.guardYes hS rfl rfl rfl ?_; (first | refine r_mul hS hH.kp0 rfl rfl rfl (by omega) ?_ | refine r_mulw hS hH.kp0 rfl rfl rfl ?_); clear hS; intro a hS
  refine Sq.guardYes hS rfl rfl rfl ?_; refine r_toU64 (8 * n) hS hH.kp0 rfl Fp.ui30 Fp.us3 rfl (by omega) (by omega) ?_; clear hS; intro a hS
  refine Sq.guardYes hS rfl rfl rfl ?_; refine r_shlN (m := 1) (8 * n) (2 ^ (8 * n)) hS hH.kp0 rfl rfl rfl rfl (by omega) (shl8 (by omega)) ?_; clear hS; intro a hS
  refine Sq.guardYes hS rfl rfl rfl ?_; refine r_subN (m := 2 ^ (8 * n)) (m' := 1) (2 ^ (8 * n) - 1) hS hH.kp0 rfl rfl rfl (by decide) (sub8 (by omega)) ?_; clear hS; intro a hS
  refine Sq.guardYes hS rfl rfl rfl ?_; refine r_and hS hH.kp0 rfl rfl rfl ?_; clear hS; intro a hS; rw [low_and hlow (by omega) (by omega)] at hS
  refine Sq.guardYes hS rfl rfl rfl ?_; refine r_eql hS hH.kp0 rfl rfl rfl ?_; clear hS; intro a hS
  refine r_pickT hS hH.kp0 rfl rfl rfl rfl ?_; clear hS; intro a hS
  refine r_move hS hH.kp0 rfl rfl ?_; clear hS; intro a hS
  refine Sq.guardYes hS rfl rfl (DT (by omega)) ?_; refine r_fieldAddr hS hH.kp0 rfl Fp.fo26_0 rfl ?_; clear hS; intro a hS
  refine Sq.guardYes hS rfl rfl (DT (by omega)) ?_; refine r_load_sc hS hH (by repeat (first | exact Sub.nil | refine Sub.cons ?_ ?_ | exact In.here | refine In.there ?_)) rfl (by repeat (first | exact In.here | refine In.there ?_)) Fp.sc3 (by rfl) rfl ?_; clear hS; intro a hS
  refine Sq.guardYes hS rfl rfl (DT (by omega)) ?_; refine r_neq hS hH.kp0 rfl rfl rfl ?_; clear hS; intro a hS
  refine Sq.guardYes hS rfl rfl (DT (by omega)) ?_; refine r_move hS hH.kp0 rfl rfl ?_; clear hS; intro a hS
  refine Sq.guardNo hS rfl rfl rfl hH.kp0 rfl ?_; clear hS; intro a hS
  refine Sq.guardNo hS rfl rfl rfl hH.kp0 rfl ?_; clear hS; intro a hS
  refine Sq.guardNo hS rfl rfl rfl hH.kp0 rfl ?_; clear hS; intro a hS
  refine Sq.guardNo hS rfl rfl rfl hH.kp0 rfl ?_; clear hS; intro a hS
  refine Sq.guardNo hS rfl rfl rfl hH.kp0 rfl ?_; clear hS; intro a hS
  refine Sq.guardYes hS rfl rfl (DT (by omega)) ?_; refine r_pickT hS hH.kp0 rfl rfl rfl rfl ?_; clear hS; intro a hS
  refine r_pickT hS hH.kp0 rfl (DT (by omega)) rfl rfl ?_; clear hS; intro a hS
  refine r_move hS hH.kp0 rfl rfl ?_; clear hS; intro a hS
  refine Sq.guardYes hS rfl rfl rfl ?_; refine r_fieldAddr hS hH.kp0 rfl Fp.fo26_0 rfl ?_; clear hS; intro a hS
  refine Sq.guardYes hS rfl rfl rfl ?_; refine r_load_sc hS hH (by repeat (first | exact Sub.nil | refine Sub.cons ?_ ?_ | exact In.here | refine In.there ?_)) rfl (by repeat (first | exact In.here | refine In.there ?_)) Fp.sc3 (by rfl) rfl ?_; clear hS; intro a hS
  refine Sq.guardYes hS rfl rfl rfl ?_; refine r_eql hS hH.kp0 rfl rfl rfl ?_; clear hS; intro a hS
  refine Sq.guardYes hS rfl rfl rfl ?_; refine r_move hS hH.kp0 rfl rfl ?_; clear hS; intro a hS
  refine Sq.guardYes hS rfl rfl rfl ?_; refine r_fieldAddr hS hH.kp0 rfl Fp.fo26_5 rfl ?_; clear hS; intro a hS
  refine Sq.guardYes hS rfl rfl rfl ?_; refine r_load_sc hS hH (by repeat (first | exact Sub.nil | refine Sub.cons ?_ ?_ | exact In.here | refine In.there ?_)) rfl (by repeat (first | exact In.here | refine In.there ?_)) Fp.sc3 (by rfl) rfl ?_; clear hS; intro a hS
  refine Sq.guardYes hS rfl rfl rfl ?_; refine r_fieldAddr hS hH.kp0 rfl Fp.fo26_5 rfl ?_; clear hS; intro a hS
  refine Sq.guardYes hS rfl rfl rfl ?_; refine r_load_sc hS hH (by repeat (first | exact Sub.nil | refine Sub.cons ?_ ?_ | exact In.here | refine In.there ?_)) rfl (by repeat (first | exact In.here | refine In.there ?_)) Fp.sc3 (by rfl) rfl ?_; clear hS; intro a hS
  refine Sq.guardYes hS rfl rfl rfl ?_; refine r_eql hS hH.kp0 rfl rfl rfl ?_; clear hS; intro a hS
  refine Sq.guardYes hS rfl rfl rfl ?_; refine r_pickF hS hH.kp0 rfl rfl rfl rfl ?_; clear hS; intro a hS
  refine r_pickT hS hH.kp0 rfl rfl rfl rfl ?_; clear hS; intro a hS
  refine r_move hS hH.kp0 rfl rfl ?_; clear hS; intro a hS
  refine Sq.guardYes hS rfl rfl (beq_self_eq_true _) ?_; refine r_fieldAddr hS hH.kp0 rfl Fp.fo26_0 rfl ?_; clear hS; intro a hS
  refine Sq.guardYes hS rfl rfl (beq_self_eq_true _) ?_; refine r_load_sc hS hH (by repeat (first | exact Sub.nil | refine Sub.cons ?_ ?_ | exact In.here | refine In.there ?_)) rfl (by repeat (first | exact In.here | refine In.there ?_)) Fp.sc3 (by rfl) rfl ?_; clear hS; intro a hS
  refine Sq.guardYes hS rfl rfl (beq_self_eq_true _) ?_; refine r_neq hS hH.kp0 rfl rfl rfl ?_; clear hS; intro a hS
  refine Sq.guardYes hS rfl rfl (beq_self_eq_true _) ?_; refine r_move hS hH.kp0 rfl rfl ?_; clear hS; intro a hS
  refine Sq.guardYes hS rfl rfl rfl ?_; refine r_fieldAddr hS hH.kp0 rfl Fp.fo26_4 rfl ?_; clear hS; intro a hS
  refine Sq.guardYes hS rfl rfl rfl ?_; refine r_load_sc hS hH (by repeat (first | exact Sub.nil | refine Sub.cons ?_ ?_ | exact In.here | refine In.there ?_)) rfl (by repeat (first | exact In.here | refine In.there ?_)) Fp.sc22 (by rfl) rfl ?_; clear hS; intro a hS
  refine Sq.guardYes hS rfl rfl rfl ?_; refine r_bytesStr (l := tok) hS hH.kp0 rfl htv.bsB Fp.u8s22 Fp.isStr9 rfl ?_; clear hS; intro a hS
  refine Sq.guardYes hS rfl rfl rfl ?_; refine r_fieldAddr hS hH.kp0 rfl Fp.fo26_4 rfl ?_; clear hS; intro a hS
  refine Sq.guardYes hS rfl rfl rfl ?_; refine r_load_sc hS hH (by repeat (first | exact Sub.nil | refine Sub.cons ?_ ?_ | exact In.here | refine In.there ?_)) rfl (by repeat (first | exact In.here | refine In.there ?_)) Fp.sc22 (by rfl) rfl ?_; clear hS; intro a hS
  refine Sq.guardYes hS rfl rfl rfl ?_; refine r_bytesStr (l := tok) hS hH.kp0 rfl (ht.ext hH.mod) Fp.u8s22 Fp.isStr9 rfl ?_; clear hS; intro a hS
  refine Sq.guardYes hS rfl rfl rfl ?_; refine r_strEql hS hH.kp0 rfl rfl rfl ?_; clear hS; intro a hS
  refine Sq.guardYes hS rfl rfl (beq_self_eq_true _) ?_; refine r_pickF hS hH.kp0 rfl rfl rfl rfl ?_; clear hS; intro a hS
  refine r_pickT hS hH.kp0 rfl (beq_self_eq_true _) rfl rfl ?_; clear hS; intro a hS
  refine r_assign hS hH.kp0 rfl rfl ?_; clear hS; intro a hS
  refine Sq.nil ?_
  refine then_n ?_
  refine wp_ret ?_
  refine leave (.inl rfl) hS rfl (Res.tmp rfl Res.nil) ⟨?_, hH.mod⟩
  first | rfl | exact congrArg (fun z => Ending.returned (Value.bool z)) (by first | exact beq_self_eq_true _ | simp [words])

set_option maxRecDepth 100000 in
set_option maxHeartbeats 6000000 in
theorem back1_law (ve : Int) (q1 q2 q3 q4 : Option Addr) (c1 c2 c3 c4 : Nat) (dst src tok tag : List UInt8) (lst : List Int) (ln : Nat) (ph : Bool) (htag : tag.length = 16) (n : Nat) (low : Nat) (hlow : low < 18446744073709551616) (w0 : World) (WT : TypeId) (WF : Nat × Nat) (hw0 : w0.heap[0]? = some (.cells [.int .i64 6, .int .i64 14, .int .i64 30, .int .i64 62].toArray WT WF)) (hll : lst.length ≤ 1048576) (hlst : IsA w0 q4 c4 lst) (hd : Bs w0 (.slice q1 dst.length c1) dst) (hs : Bs w0 (.slice q2 src.length c2) src) (ht : Bs w0 (.slice q3 tok.length c3) tok) (hm : mayP 1 dst.length src.length tok.length (ln : Int) (n : Int) lst.length (badN lst)) : Calls Tryd.prog 7 #[.agg ([.int .i64 1, .int .i64 ve, .slice q1 dst.length c1, .slice q2 src.length c2, .slice q3 tok.length c3, .int .i64 (ln : Int), .bool ph, .slice q4 lst.length c4] ++ hcells tag : List Value).toArray, .int .u64 (low : Int), .int .i64 (n : Int)] w0 fun e w' => e = .returned (.bool true) ∧ Ext w0 w' := by
  refine enter Tryd.func7 rfl rfl rfl ?_
  intro a hS
  have hH := Hp.start w0 (Nobody)
  have hm2 := hm
  unfold mayP at hm2
  have hwl := wideB_le tok.length
  have hfk8 : 2 ^ formK tok.length ≤ 8 := by rw [← wideB_len tok.length]; exact hwl
  have hfk0 : 0 < 2 ^ formK tok.length := Nat.pow_pos (by decide)
  have hw2 : (wideB ln 1).length = 2 := wideB_len _ _
  obtain ⟨t0, t1, t2, t3, t4, t5, t6, t7, t8, t9, ta, tb, tc, td, te, tf, rfl⟩ := len16 htag
  replace hH := hH.know hw0 (fun p hp => by simp at hp)
  refine c_seq ?_
  refine reg_plain w0 (Nobody) ?_
  refine r_box hS hH (by repeat (first | exact Sub.nil | refine Sub.cons ?_ ?_ | exact In.here | refine In.there ?_)) rfl rfl rfl ?_
  clear hS hH; intro a w b3 hb3 hwb3 hS hH
  refine r_assign hS hH.kp0 rfl rfl ?_; clear hS; intro a hS
  refine Sq.nil ?_
  refine then_n ?_
  refine c_seq ?_
  refine reg_plain w0 (Nobody) ?_
  refine r_load_row hS hH (by repeat (first | exact Sub.nil | refine Sub.cons ?_ ?_ | exact In.here | refine In.there ?_)) rfl (by repeat (first | exact In.here | refine In.there ?_)) Fp.ag26 (by rfl) rfl ?_; clear hS; intro a hS
  refine r_move hS hH.kp0 rfl rfl ?_; clear hS; intro a hS
  refine r_move hS hH.kp0 rfl rfl ?_; clear hS; intro a hS
  refine r_call (l := [.tmp 20, .tmp 21, .tmp 22]) hS rfl rfl Fp.fn12 rfl ?_
  refine Calls.mono (Put_1 ve q1 q2 q3 q4 c1 c2 c3 c4 dst src tok _ lst ln ph htag n low hlow _ WT WF (hH.get (b := 0) (by repeat (first | exact In.here | refine In.there ?_))) hll (hlst.ext hH.mod) (hd.ext hH.mod) (hs.ext hH.mod) (ht.ext hH.mod) hm) ?_
  rintro e w1 ⟨rx, rfl, hN, hE⟩
  obtain ⟨bx, cx, kx, hvx, hrx, hrkx, hBx⟩ := hN
  subst hvx
  have hwx := Nat.le_trans hH.mod.size hrx
  replace hH := hH.knowN hE hrx hrkx
  refine ⟨_, rfl, hH.kp0, ?_⟩
  clear hS; intro a hS
  generalize hHb : headB 1 n dst src tok ln ph lst [t0, t1, t2, t3, t4, t5, t6, t7, t8, t9, ta, tb, tc, td, te, tf] = Hb at hBx hS
  have hHe : Hb = startB (191 + 16 * 1 + n) 1 dst src ++ wideB ln 1 := hHb.symm
  have hHl : Hb.length = 7 + dst.length + src.length + 2 := by rw [hHe]; simp only [List.length_append, startB_len, wideB_len] <;> omega
  clear hHb
  refine r_move hS hH.kp0 rfl rfl ?_; clear hS; intro a hS
  refine r_extract hS hH.kp0 rfl rfl rfl ?_; clear hS; intro a hS
  refine r_extract hS hH.kp0 rfl rfl rfl ?_; clear hS; intro a hS
  refine r_extract hS hH.kp0 rfl rfl rfl ?_; clear hS; intro a hS
  refine r_assign hS hH.kp0 rfl rfl ?_; clear hS; intro a hS
  refine r_assign hS hH.kp0 rfl rfl ?_; clear hS; intro a hS
  refine r_assign hS hH.kp0 rfl rfl ?_; clear hS; intro a hS
  refine Sq.nil ?_
  refine then_n ?_
  refine c_seq ?_
  refine reg_plain w0 (Nobody) ?_
  refine r_buildSlice (parts := [(0, .const (.int .u8 7))]) hS hH (by repeat (first | exact Sub.nil | refine Sub.cons ?_ ?_ | exact In.here | refine In.there ?_)) rfl Fp.bsl22_1 (by rfl) rfl ?_
  clear hS hH; intro a w b28 hb28 hwb28 hS hH
  refine r_buildS (parts := [(0, .const (.int .i64 5)), (2, .tmp 28), (6, .const (.bool true))]) hS hH.kp0 rfl rfl Fp.zc26 Fp.pl26 (by rfl) ?_; clear hS; intro a hS
  refine r_call (l := [.tmp 29, .const (.int .u64 5), .const (.int .i64 1)]) hS rfl rfl Fp.fn12 rfl ?_
  refine Calls.mono (Put_5t 0 (some ⟨b28, 0, none⟩) none none none 1 0 0 0 [7] [] [] z16 [] 0 rfl 1 5 (by decide) _ WT WF (hH.get (b := 0) (by repeat (first | exact In.here | refine In.there ?_))) (by decide) ⟨rfl, by simp, Nat.le_refl _, fun i u h => by simp at h, fun _ => rfl⟩ ((BB.lit [7] rfl rfl).bs (hH.get (b := b28) (by repeat (first | exact In.here | refine In.there ?_)))) (Bs.nil _) (Bs.nil _) (by decide)) ?_
  rintro e w1 ⟨ro, rfl, hN, hE⟩
  rw [show headB 5 1 [7] [] [] (0 : Int).toNat true [] z16 ++ beB 5 1 = [68, 7, 5] from by decide] at hN
  obtain ⟨bo, co, ko, hvo, hro, hrko, hBo⟩ := hN
  subst hvo
  have hwo := Nat.le_trans hH.mod.size hro
  replace hH := hH.knowN hE hro hrko
  refine ⟨_, rfl, hH.kp0, ?_⟩
  clear hS; intro a hS
  refine r_move hS hH.kp0 rfl rfl ?_; clear hS; intro a hS
  refine r_extract hS hH.kp0 rfl rfl rfl ?_; clear hS; intro a hS
  refine r_extract hS hH.kp0 rfl rfl rfl ?_; clear hS; intro a hS
  refine r_extract hS hH.kp0 rfl rfl rfl ?_; clear hS; intro a hS
  refine r_assign hS hH.kp0 rfl rfl ?_; clear hS; intro a hS
  refine r_assign hS hH.kp0 rfl rfl ?_; clear hS; intro a hS
  refine r_assign hS hH.kp0 rfl rfl ?_; clear hS; intro a hS
  refine Sq.nil ?_
  refine then_n ?_
  refine c_seq ?_
  refine c_seq ?_
  refine reg_plain w0 (Nobody) ?_
  refine r_move hS hH.kp0 rfl rfl ?_; clear hS; intro a hS
  refine r_bytesStr (l := [68, 7, 5]) hS hH.kp0 rfl (hBo.bs (hH.get (b := bo) (by repeat (first | exact In.here | refine In.there ?_)))) Fp.u8s22 Fp.isStr9 rfl ?_; clear hS; intro a hS
  refine r_strNeq hS hH.kp0 rfl rfl rfl ?_; clear hS; intro a hS
  rw [s447] at hS
  refine r_move hS hH.kp0 rfl rfl ?_; clear hS; intro a hS
  refine Sq.guardYes hS rfl rfl rfl ?_; refine r_move hS hH.kp0 rfl rfl ?_; clear hS; intro a hS
  refine Sq.guardYes hS rfl rfl rfl ?_; refine r_neq hS hH.kp0 rfl rfl rfl ?_; clear hS; intro a hS
  refine r_pickF hS hH.kp0 rfl rfl rfl rfl ?_; clear hS; intro a hS
  refine Sq.nil ?_
  refine then_n ?_
  refine c_condF hS rfl rfl ?_
  refine wp_skip ?_
  refine then_n ?_
  refine c_seq ?_
  refine c_seq ?_
  refine reg_plain w0 (Nobody) ?_
  refine r_move hS hH.kp0 rfl rfl ?_; clear hS; intro a hS
  refine r_neq hS hH.kp0 rfl rfl rfl ?_; clear hS; intro a hS
  refine Sq.nil ?_
  refine then_n ?_
  refine c_condF hS rfl rfl ?_
  refine wp_skip ?_
  refine then_n ?_
  refine c_seq ?_
  refine reg_plain w0 (Nobody) ?_
  refine r_assign hS hH.kp0 rfl rfl ?_; clear hS; intro a hS
  refine Sq.nil ?_
  refine then_n ?_
  refine c_seq ?_
  refine c_seq ?_
  refine reg_plain w0 (Nobody) ?_
  refine r_fieldAddr hS hH.kp0 rfl Fp.fo26_0 rfl ?_; clear hS; intro a hS
  refine r_load_sc hS hH (by repeat (first | exact Sub.nil | refine Sub.cons ?_ ?_ | exact In.here | refine In.there ?_)) rfl (by repeat (first | exact In.here | refine In.there ?_)) Fp.sc3 (by rfl) rfl ?_; clear hS; intro a hS
  refine r_eql hS hH.kp0 rfl rfl rfl ?_; clear hS; intro a hS
  refine Sq.nil ?_
  refine then_n ?_
  refine c_condF hS rfl rfl ?_
  refine wp_skip ?_
  refine then_n ?_
  refine c_seq ?_
  refine c_seq ?_
  refine reg_plain w0 (Nobody) ?_
  refine r_fieldAddr hS hH.kp0 rfl Fp.fo26_0 rfl ?_; clear hS; intro a hS
  refine r_load_sc hS hH (by repeat (first | exact Sub.nil | refine Sub.cons ?_ ?_ | exact In.here | refine In.there ?_)) rfl (by repeat (first | exact In.here | refine In.there ?_)) Fp.sc3 (by rfl) rfl ?_; clear hS; intro a hS
  refine r_leq hS hH.kp0 rfl rfl rfl ?_; clear hS; intro a hS
  refine Sq.nil ?_
  refine then_n ?_
  refine c_condT hS rfl rfl ?_
  refine reg_plain w0 (Nobody) ?_
  refine r_move hS hH.kp0 rfl rfl ?_; clear hS; intro a hS
  refine r_fieldAddr hS hH.kp0 rfl Fp.fo26_5 rfl ?_; clear hS; intro a hS
  refine r_load_sc hS hH (by repeat (first | exact Sub.nil | refine Sub.cons ?_ ?_ | exact In.here | refine In.there ?_)) rfl (by repeat (first | exact In.here | refine In.there ?_)) Fp.sc3 (by rfl) rfl ?_; clear hS; intro a hS
  refine r_appZB (Hb ++ beB low n) ln hS hH rfl rfl rfl (by first | exact .here | exact .there .here | exact .there (.there .here) | exact .there (.there (.there .here)) | exact .there (.there (.there (.there .here))) | exact .there (.there (.there (.there (.there .here)))) | exact .there (.there (.there (.there (.there (.there .here))))) | exact .there (.there (.there (.there (.there (.there (.there .here)))))) | exact .there (.there (.there (.there (.there (.there (.there (.there .here))))))) | exact .there (.there (.there (.there (.there (.there (.there (.there (.there .here)))))))) | exact .there (.there (.there (.there (.there (.there (.there (.there (.there (.there .here))))))))) | exact .there (.there (.there (.there (.there (.there (.there (.there (.there (.there (.there .here)))))))))) | exact .there (.there (.there (.there (.there (.there (.there (.there (.there (.there (.there (.there .here))))))))))) | exact .there (.there (.there (.there (.there (.there (.there (.there (.there (.there (.there (.there (.there .here)))))))))))) | exact .there (.there (.there (.there (.there (.there (.there (.there (.there (.there (.there (.there (.there (.there .here))))))))))))) | exact .there (.there (.there (.there (.there (.there (.there (.there (.there (.there (.there (.there (.there (.there (.there .here))))))))))))))) (by repeat (first | exact Sub.nil | refine Sub.cons ?_ ?_ | exact In.here | refine In.there ?_)) Fp.el22 Fp.zc5 Fp.i64_3 hBx (by omega) (by simp only [List.length_append, beB_len]; omega) hwx rfl ?_
  clear hS hH; intro a w bz cz kz hwz hBz hS hH
  refine r_assign hS hH.kp0 rfl rfl ?_; clear hS; intro a hS
  refine Sq.nil ?_
  refine then_n ?_
  refine c_seq ?_
  refine c_seq ?_
  refine reg_plain w0 (Nobody) ?_
  refine r_fieldAddr hS hH.kp0 rfl Fp.fo26_0 rfl ?_; clear hS; intro a hS
  refine r_load_sc hS hH (by repeat (first | exact Sub.nil | refine Sub.cons ?_ ?_ | exact In.here | refine In.there ?_)) rfl (by repeat (first | exact In.here | refine In.there ?_)) Fp.sc3 (by rfl) rfl ?_; clear hS; intro a hS
  refine r_eql hS hH.kp0 rfl rfl rfl ?_; clear hS; intro a hS
  refine r_move hS hH.kp0 rfl rfl ?_; clear hS; intro a hS
  refine Sq.guardYes hS rfl rfl rfl ?_; refine r_fieldAddr hS hH.kp0 rfl Fp.fo26_0 rfl ?_; clear hS; intro a hS
  refine Sq.guardYes hS rfl rfl rfl ?_; refine r_load_sc hS hH (by repeat (first | exact Sub.nil | refine Sub.cons ?_ ?_ | exact In.here | refine In.there ?_)) rfl (by repeat (first | exact In.here | refine In.there ?_)) Fp.sc3 (by rfl) rfl ?_; clear hS; intro a hS
  refine Sq.guardYes hS rfl rfl rfl ?_; refine r_eql hS hH.kp0 rfl rfl rfl ?_; clear hS; intro a hS
  refine r_pickF hS hH.kp0 rfl rfl rfl rfl ?_; clear hS; intro a hS
  refine Sq.nil ?_
  refine then_n ?_
  refine c_condF hS rfl rfl ?_
  refine wp_skip ?_
  refine then_n ?_
  refine c_seq ?_
  refine reg_plain w0 (Nobody) ?_
  refine r_move hS hH.kp0 rfl rfl ?_; clear hS; intro a hS
  refine r_move hS hH.kp0 rfl rfl ?_; clear hS; intro a hS
  refine r_call (l := [.tmp 75, .tmp 76]) hS rfl rfl Fp.fn8 rfl ?_
  refine Calls.mono (Read_c (some ⟨bz, 0, none⟩) cz ((Hb ++ beB low n) ++ List.replicate ln 0) (by simp only [List.length_append, beB_len, List.length_replicate]; omega) 0 _ WT WF (hH.get (b := 0) (by repeat (first | exact In.here | refine In.there ?_))) (hBz.bs (hH.get (b := bz) (by repeat (first | exact In.here | refine In.there ?_))))) ?_
  rintro e w1 ⟨cs, y, z, rfl, hrd, hE⟩
  rw [← refQ_eq, back_12 (kd := 1) (l := (Hb ++ beB low n) ++ List.replicate ln 0) (dst := dst) (src := src) (n := n) (ln := ln) (r := beB low n ++ List.replicate ln 0) (by rw [hHe]; simp only [List.append_assoc]) (by omega) (by omega) (by omega) (by omega) (by omega) (by omega) (by simp)] at hrd
  obtain ⟨⟨dv, sv, tv, gv, hcs, hdv, hsv, htv, hgv, _⟩, hy9, hz9⟩ := hrd
  subst hcs hy9 hz9
  replace hH := hH.ext hE
  refine ⟨_, rfl, hH.kp0, ?_⟩
  clear hS; intro a hS
  refine r_move hS hH.kp0 rfl rfl ?_; clear hS; intro a hS
  refine r_extract hS hH.kp0 rfl rfl rfl ?_; clear hS; intro a hS
  refine r_extract hS hH.kp0 rfl rfl rfl ?_; clear hS; intro a hS
  refine r_extract hS hH.kp0 rfl rfl rfl ?_; clear hS; intro a hS
  refine r_allocE hS hH (by repeat (first | exact Sub.nil | refine Sub.cons ?_ ?_ | exact In.here | refine In.there ?_)) Fp.zc26 rfl ?_; clear hS hH; intro a w bh hbh hwbh hE2 hS hH
  refine r_store_rowM hS hH rfl rfl (by first | exact .here | exact .there .here | exact .there (.there .here) | exact .there (.there (.there .here)) | exact .there (.there (.there (.there .here))) | exact .there (.there (.there (.there (.there .here)))) | exact .there (.there (.there (.there (.there (.there .here))))) | exact .there (.there (.there (.there (.there (.there (.there .here)))))) | exact .there (.there (.there (.there (.there (.there (.there (.there .here))))))) | exact .there (.there (.there (.there (.there (.there (.there (.there (.there .here)))))))) | exact .there (.there (.there (.there (.there (.there (.there (.there (.there (.there .here))))))))) | exact .there (.there (.there (.there (.there (.there (.there (.there (.there (.there (.there .here)))))))))) | exact .there (.there (.there (.there (.there (.there (.there (.there (.there (.there (.there (.there .here))))))))))) | exact .there (.there (.there (.there (.there (.there (.there (.there (.there (.there (.there (.there (.there .here)))))))))))) | exact .there (.there (.there (.there (.there (.there (.there (.there (.there (.there (.there (.there (.there (.there .here))))))))))))) | exact .there (.there (.there (.there (.there (.there (.there (.there (.there (.there (.there (.there (.there (.there (.there .here))))))))))))))) (by repeat (first | exact Sub.nil | refine Sub.cons ?_ ?_ | exact In.here | refine In.there ?_)) Fp.sz26 (hdr_one hdv.oneB hsv.oneB htv.oneB (Own.one' hgv)) (by rfl) (.inr hbh) ?_; clear hH; intro w hM2 hH
  have hdv := hdv.new hE2 hM2 hwbh
  have hsv := hsv.new hE2 hM2 hwbh
  have htv := htv.new hE2 hM2 hwbh
  refine r_assign hS hH.kp0 rfl rfl ?_; clear hS; intro a hS
  refine r_assign hS hH.kp0 rfl rfl ?_; clear hS; intro a hS
  refine Sq.nil ?_
  refine then_n ?_
  refine c_seq ?_
  refine c_seq ?_
  refine reg_plain w0 (Nobody) ?_
  refine r_move hS hH.kp0 rfl rfl ?_; clear hS; intro a hS
  refine r_neq hS hH.kp0 rfl rfl rfl ?_; clear hS; intro a hS
  refine r_move hS hH.kp0 rfl rfl ?_; clear hS; intro a hS
  refine Sq.guardYes hS rfl rfl rfl ?_; refine r_move hS hH.kp0 rfl rfl ?_; clear hS; intro a hS
  refine Sq.guardYes hS rfl rfl rfl ?_; refine r_move hS hH.kp0 rfl rfl ?_; clear hS; intro a hS
  refine Sq.guardYes hS rfl rfl rfl ?_; refine r_neq hS hH.kp0 rfl rfl rfl ?_; clear hS; intro a hS
  refine r_pickF hS hH.kp0 rfl rfl rfl rfl ?_; clear hS; intro a hS
  refine r_move hS hH.kp0 rfl rfl ?_; clear hS; intro a hS
  refine Sq.guardYes hS rfl rfl (bne_eq_false_iff_eq.2 (by omega)) ?_; refine r_fieldAddr hS hH.kp0 rfl Fp.fo26_0 rfl ?_; clear hS; intro a hS
  refine Sq.guardYes hS rfl rfl (bne_eq_false_iff_eq.2 (by omega)) ?_; refine r_load_sc hS hH (by repeat (first | exact Sub.nil | refine Sub.cons ?_ ?_ | exact In.here | refine In.there ?_)) rfl (by repeat (first | exact In.here | refine In.there ?_)) Fp.sc3 (by rfl) rfl ?_; clear hS; intro a hS
  refine Sq.guardYes hS rfl rfl (bne_eq_false_iff_eq.2 (by omega)) ?_; refine r_fieldAddr hS hH.kp0 rfl Fp.fo26_0 rfl ?_; clear hS; intro a hS
  refine Sq.guardYes hS rfl rfl (bne_eq_false_iff_eq.2 (by omega)) ?_; refine r_load_sc hS hH (by repeat (first | exact Sub.nil | refine Sub.cons ?_ ?_ | exact In.here | refine In.there ?_)) rfl (by repeat (first | exact In.here | refine In.there ?_)) Fp.sc3 (by rfl) rfl ?_; clear hS; intro a hS
  refine Sq.guardYes hS rfl rfl (bne_eq_false_iff_eq.2 (by omega)) ?_; refine r_neq hS hH.kp0 rfl rfl rfl ?_; clear hS; intro a hS
  refine r_pickF hS hH.kp0 rfl (bne_eq_false_iff_eq.2 (by omega)) rfl rfl ?_; clear hS; intro a hS
  refine r_move hS hH.kp0 rfl rfl ?_; clear hS; intro a hS
  refine Sq.guardYes hS rfl rfl rfl ?_; refine r_fieldAddr hS hH.kp0 rfl Fp.fo26_2 rfl ?_; clear hS; intro a hS
  refine Sq.guardYes hS rfl rfl rfl ?_; refine r_load_sc hS hH (by repeat (first | exact Sub.nil | refine Sub.cons ?_ ?_ | exact In.here | refine In.there ?_)) rfl (by repeat (first | exact In.here | refine In.there ?_)) Fp.sc22 (by rfl) rfl ?_; clear hS; intro a hS
  refine Sq.guardYes hS rfl rfl rfl ?_; refine r_bytesStr (l := dst) hS hH.kp0 rfl hdv.bsB Fp.u8s22 Fp.isStr9 rfl ?_; clear hS; intro a hS
  refine Sq.guardYes hS rfl rfl rfl ?_; refine r_fieldAddr hS hH.kp0 rfl Fp.fo26_2 rfl ?_; clear hS; intro a hS
  refine Sq.guardYes hS rfl rfl rfl ?_; refine r_load_sc hS hH (by repeat (first | exact Sub.nil | refine Sub.cons ?_ ?_ | exact In.here | refine In.there ?_)) rfl (by repeat (first | exact In.here | refine In.there ?_)) Fp.sc22 (by rfl) rfl ?_; clear hS; intro a hS
  refine Sq.guardYes hS rfl rfl rfl ?_; refine r_bytesStr (l := dst) hS hH.kp0 rfl (hd.ext hH.mod) Fp.u8s22 Fp.isStr9 rfl ?_; clear hS; intro a hS
  refine Sq.guardYes hS rfl rfl rfl ?_; refine r_strNeq hS hH.kp0 rfl rfl rfl ?_; clear hS; intro a hS
  refine r_pickF hS hH.kp0 rfl rfl rfl rfl ?_; clear hS; intro a hS
  refine r_move hS hH.kp0 rfl rfl ?_; clear hS; intro a hS
  refine Sq.guardYes hS rfl rfl (congrArg not (beq_self_eq_true _)) ?_; refine r_fieldAddr hS hH.kp0 rfl Fp.fo26_0 rfl ?_; clear hS; intro a hS
  refine Sq.guardYes hS rfl rfl (congrArg not (beq_self_eq_true _)) ?_; refine r_load_sc hS hH (by repeat (first | exact Sub.nil | refine Sub.cons ?_ ?_ | exact In.here | refine In.there ?_)) rfl (by repeat (first | exact In.here | refine In.there ?_)) Fp.sc3 (by rfl) rfl ?_; clear hS; intro a hS
  refine Sq.guardYes hS rfl rfl (congrArg not (beq_self_eq_true _)) ?_; refine r_neq hS hH.kp0 rfl rfl rfl ?_; clear hS; intro a hS
  refine Sq.guardYes hS rfl rfl (congrArg not (beq_self_eq_true _)) ?_; refine r_move hS hH.kp0 rfl rfl ?_; clear hS; intro a hS
  refine Sq.guardYes hS rfl rfl rfl ?_; refine r_fieldAddr hS hH.kp0 rfl Fp.fo26_3 rfl ?_; clear hS; intro a hS
  refine Sq.guardYes hS rfl rfl rfl ?_; refine r_load_sc hS hH (by repeat (first | exact Sub.nil | refine Sub.cons ?_ ?_ | exact In.here | refine In.there ?_)) rfl (by repeat (first | exact In.here | refine In.there ?_)) Fp.sc22 (by rfl) rfl ?_; clear hS; intro a hS
  refine Sq.guardYes hS rfl rfl rfl ?_; refine r_bytesStr (l := src) hS hH.kp0 rfl hsv.bsB Fp.u8s22 Fp.isStr9 rfl ?_; clear hS; intro a hS
  refine Sq.guardYes hS rfl rfl rfl ?_; refine r_fieldAddr hS hH.kp0 rfl Fp.fo26_3 rfl ?_; clear hS; intro a hS
  refine Sq.guardYes hS rfl rfl rfl ?_; refine r_load_sc hS hH (by repeat (first | exact Sub.nil | refine Sub.cons ?_ ?_ | exact In.here | refine In.there ?_)) rfl (by repeat (first | exact In.here | refine In.there ?_)) Fp.sc22 (by rfl) rfl ?_; clear hS; intro a hS
  refine Sq.guardYes hS rfl rfl rfl ?_; refine r_bytesStr (l := src) hS hH.kp0 rfl (hs.ext hH.mod) Fp.u8s22 Fp.isStr9 rfl ?_; clear hS; intro a hS
  refine Sq.guardYes hS rfl rfl rfl ?_; refine r_strNeq hS hH.kp0 rfl rfl rfl ?_; clear hS; intro a hS
  refine Sq.guardYes hS rfl rfl (congrArg not (beq_self_eq_true _)) ?_; refine r_pickT hS hH.kp0 rfl rfl rfl rfl ?_; clear hS; intro a hS
  refine r_pickF hS hH.kp0 rfl (congrArg not (beq_self_eq_true _)) rfl rfl ?_; clear hS; intro a hS
  refine Sq.nil ?_
  refine then_n ?_
  refine c_condF hS rfl (congrArg not (beq_self_eq_true _)) ?_
  refine wp_skip ?_
  refine then_n ?_
  refine c_seq ?_
  refine c_seq ?_
  refine reg_plain w0 (Nobody) ?_
  refine r_fieldAddr hS hH.kp0 rfl Fp.fo26_0 rfl ?_; clear hS; intro a hS
  refine r_load_sc hS hH (by repeat (first | exact Sub.nil | refine Sub.cons ?_ ?_ | exact In.here | refine In.there ?_)) rfl (by repeat (first | exact In.here | refine In.there ?_)) Fp.sc3 (by rfl) rfl ?_; clear hS; intro a hS
  refine r_eql hS hH.kp0 rfl rfl rfl ?_; clear hS; intro a hS
  refine r_move hS hH.kp0 rfl rfl ?_; clear hS; intro a hS
  refine Sq.guardYes hS rfl rfl rfl ?_; refine r_fieldAddr hS hH.kp0 rfl Fp.fo26_0 rfl ?_; clear hS; intro a hS
  refine Sq.guardYes hS rfl rfl rfl ?_; refine r_load_sc hS hH (by repeat (first | exact Sub.nil | refine Sub.cons ?_ ?_ | exact In.here | refine In.there ?_)) rfl (by repeat (first | exact In.here | refine In.there ?_)) Fp.sc3 (by rfl) rfl ?_; clear hS; intro a hS
  refine Sq.guardYes hS rfl rfl rfl ?_; refine r_eql hS hH.kp0 rfl rfl rfl ?_; clear hS; intro a hS
  refine r_pickF hS hH.kp0 rfl rfl rfl rfl ?_; clear hS; intro a hS
  refine Sq.nil ?_
  refine then_n ?_
  refine c_condF hS rfl rfl ?_
  refine wp_skip ?_
  refine then_n ?_
  refine c_seq ?_
  refine reg_plain w0 (Nobody) ?_
  refine r_move hS hH.kp0 rfl rfl ?_; clear hS; intro a hS
  refine r_move hS hH.kp0 rfl rfl ?_; clear hS; intro a hS
  refine r_call (l := [.tmp 160, .tmp 161]) hS rfl rfl Fp.fn17 rfl ?_
  refine Calls.mono (number_long (UInt8.ofNat (191 + 16 * 1 + n)) (some ⟨bz, 0, none⟩) cz ((Hb ++ beB low n) ++ List.replicate ln 0) Hb.length n (by simp only [List.length_append, beB_len, List.length_replicate]; omega) (by rw [hHe]; rfl) (by omega) (by simp only [List.length_append, beB_len, List.length_replicate]; omega) (by omega) (by omega) (bits_l (k := 1) (n := n) (by decide) (by omega) (by omega)).1 (bits_l (k := 1) (n := n) (by decide) (by omega) (by omega)).2.1 (bits_l (k := 1) (n := n) (by decide) (by omega) (by omega)).2.2 _ (hBz.bs (hH.get (b := bz) (by repeat (first | exact In.here | refine In.there ?_))))) ?_
  rintro e w1 ⟨rfl, hE⟩
  have hlow9 : ((((Hb ++ beB low n) ++ List.replicate ln 0).drop Hb.length).take n) = beB low n := take_low
  rw [hlow9, beN_beB]
  have htv := htv.extB hE
  replace hH := hH.ext hE
  refine ⟨_, rfl, hH.kp0, ?_⟩
  clear hS; intro a hS
  refine r_move hS hH.kp0 rfl rfl ?_; clear hS; intro a hS
  refine r_extract hS hH.kp0 rfl rfl rfl ?_; clear hS; intro a hS
  refine r_extract hS hH.kp0 rfl rfl rfl ?_; clear hS; intro a hS
  refine r_extract hS hH.kp0 rfl rfl rfl ?_; clear hS; intro a hS
  refine r_extract hS hH.kp0 rfl rfl rfl ?_; clear hS; intro a hS
  refine r_assign hS hH.kp0 rfl rfl ?_; clear hS; intro a hS
  refine r_assign hS hH.kp0 rfl rfl ?_; clear hS; intro a hS
  refine r_assign hS hH.kp0 rfl rfl ?_; clear hS; intro a hS
  refine r_assign hS hH.kp0 rfl rfl ?_; clear hS; intro a hS
  refine Sq.nil ?_
  refine then_n ?_
  refine c_seq ?_
  refine reg_plain w0 (Nobody) ?_
  refine r_move hS hH.kp0 rfl rfl ?_; clear hS; intro a hS
  refine r_eql hS hH.kp0 rfl rfl rfl ?_; clear hS; intro a hS
  refine r_move hS hH.kp0 rfl rfl ?_; clear hS; intro a hS
  refine Sq.guardYes hS rfl rfl rfl ?_; refine r_move hS hH.kp0 rfl rfl ?_; clear hS; intro a hS
  refine Sq.guardYes hS rfl rfl rfl ?_; refine r_move hS hH.kp0 rfl rfl ?_; clear hS; intro a hS
  refine Sq.guardYes hS rfl rfl rfl ?_; refine r_eql hS hH.kp0 rfl rfl rfl ?_; clear hS; intro a hS
  refine r_pickT hS hH.kp0 rfl rfl rfl rfl ?_; clear hS; intro a hS
  refine r_move hS hH.kp0 rfl rfl ?_; clear hS; intro a hS
  refine Sq.guardYes hS rfl rfl (DT (by omega)) ?_; refine r_move hS hH.kp0 rfl rfl ?_; clear hS; intro a hS
  refine r_pickT hS hH.kp0 rfl (DT (by omega)) rfl rfl ?_; clear hS; intro a hS
  refine r_move hS hH.kp0 rfl rfl ?_; clear hS; intro a hS
  refine Sq.guardYes hS rfl rfl rfl ?_; refine r_move hS hH.kp0 rfl rfl ?_; clear hS; intro a hS
  refine Sq.guardYes hS rfl rfl rfl ?_; refine r_move hS hH.kp0 rfl rfl ?_; clear hS; intro a hS
  refine Sq.guardYes hS rfl rfl rfl ?_; refine r_move hS hH.kp0 rfl rfl ?_; clear hS; intro a hS
  refine Sq.guardYes hS rfl rfl rfl ?_; (first | refine r_mul hS hH.kp0 rfl rfl rfl (by omega) ?_ | refine r_mulw hS hH.kp0 rfl rfl rfl ?_); clear hS; intro a hS
  refine Sq.guardYes hS rfl rfl rfl ?_; refine r_toU64 (8 * n) hS hH.kp0 rfl Fp.ui30 Fp.us3 rfl (by omega) (by omega) ?_; clear hS; intro a hS
  refine Sq.guardYes hS rfl rfl rfl ?_; refine r_shlN (m := 1) (8 * n) (2 ^ (8 * n)) hS hH.kp0 rfl rfl rfl rfl (by omega) (shl8 (by omega)) ?_; clear hS; intro a hS
  refine Sq.guardYes hS rfl rfl rfl ?_; refine r_subN (m := 2 ^ (8 * n)) (m' := 1) (2 ^ (8 * n) - 1) hS hH.kp0 rfl rfl rfl (by decide) (sub8 (by omega)) ?_; clear hS; intro a hS
  refine Sq.guardYes hS rfl rfl rfl ?_; refine r_and hS hH.kp0 rfl rfl rfl ?_; clear hS; intro a hS; rw [low_and hlow (by omega) (by omega)] at hS
  refine Sq.guardYes hS rfl rfl rfl ?_; refine r_eql hS hH.kp0 rfl rfl rfl ?_; clear hS; intro a hS
  refine r_pickT hS hH.kp0 rfl rfl rfl rfl ?_; clear hS; intro a hS
  refine r_move hS hH.kp0 rfl rfl ?_; clear hS; intro a hS
  refine Sq.guardYes hS rfl rfl (DT (by omega)) ?_; refine r_fieldAddr hS hH.kp0 rfl Fp.fo26_0 rfl ?_; clear hS; intro a hS
  refine Sq.guardYes hS rfl rfl (DT (by omega)) ?_; refine r_load_sc hS hH (by repeat (first | exact Sub.nil | refine Sub.cons ?_ ?_ | exact In.here | refine In.there ?_)) rfl (by repeat (first | exact In.here | refine In.there ?_)) Fp.sc3 (by rfl) rfl ?_; clear hS; intro a hS
  refine Sq.guardYes hS rfl rfl (DT (by omega)) ?_; refine r_neq hS hH.kp0 rfl rfl rfl ?_; clear hS; intro a hS
  refine Sq.guardYes hS rfl rfl (DT (by omega)) ?_; refine r_move hS hH.kp0 rfl rfl ?_; clear hS; intro a hS
  refine Sq.guardNo hS rfl rfl rfl hH.kp0 rfl ?_; clear hS; intro a hS
  refine Sq.guardNo hS rfl rfl rfl hH.kp0 rfl ?_; clear hS; intro a hS
  refine Sq.guardNo hS rfl rfl rfl hH.kp0 rfl ?_; clear hS; intro a hS
  refine Sq.guardNo hS rfl rfl rfl hH.kp0 rfl ?_; clear hS; intro a hS
  refine Sq.guardNo hS rfl rfl rfl hH.kp0 rfl ?_; clear hS; intro a hS
  refine Sq.guardYes hS rfl rfl (DT (by omega)) ?_; refine r_pickT hS hH.kp0 rfl rfl rfl rfl ?_; clear hS; intro a hS
  refine r_pickT hS hH.kp0 rfl (DT (by omega)) rfl rfl ?_; clear hS; intro a hS
  refine r_move hS hH.kp0 rfl rfl ?_; clear hS; intro a hS
  refine Sq.guardYes hS rfl rfl rfl ?_; refine r_fieldAddr hS hH.kp0 rfl Fp.fo26_0 rfl ?_; clear hS; intro a hS
  refine Sq.guardYes hS rfl rfl rfl ?_; refine r_load_sc hS hH (by repeat (first | exact Sub.nil | refine Sub.cons ?_ ?_ | exact In.here | refine In.there ?_)) rfl (by repeat (first | exact In.here | refine In.there ?_)) Fp.sc3 (by rfl) rfl ?_; clear hS; intro a hS
  refine Sq.guardYes hS rfl rfl rfl ?_; refine r_eql hS hH.kp0 rfl rfl rfl ?_; clear hS; intro a hS
  refine Sq.guardYes hS rfl rfl rfl ?_; refine r_move hS hH.kp0 rfl rfl ?_; clear hS; intro a hS
  refine Sq.guardYes hS rfl rfl rfl ?_; refine r_fieldAddr hS hH.kp0 rfl Fp.fo26_5 rfl ?_; clear hS; intro a hS
  refine Sq.guardYes hS rfl rfl rfl ?_; refine r_load_sc hS hH (by repeat (first | exact Sub.nil | refine Sub.cons ?_ ?_ | exact In.here | refine In.there ?_)) rfl (by repeat (first | exact In.here | refine In.there ?_)) Fp.sc3 (by rfl) rfl ?_; clear hS; intro a hS
  refine Sq.guardYes hS rfl rfl rfl ?_; refine r_fieldAddr hS hH.kp0 rfl Fp.fo26_5 rfl ?_; clear hS; intro a hS
  refine Sq.guardYes hS rfl rfl rfl ?_; refine r_load_sc hS hH (by repeat (first | exact Sub.nil | refine Sub.cons ?_ ?_ | exact In.here | refine In.there ?_)) rfl (by repeat (first | exact In.here | refine In.there ?_)) Fp.sc3 (by rfl) rfl ?_; clear hS; intro a hS
  refine Sq.guardYes hS rfl rfl rfl ?_; refine r_eql hS hH.kp0 rfl rfl rfl ?_; clear hS; intro a hS
  refine Sq.guardYes hS rfl rfl rfl ?_; refine r_pickF hS hH.kp0 rfl rfl rfl rfl ?_; clear hS; intro a hS
  refine r_pickT hS hH.kp0 rfl rfl rfl rfl ?_; clear hS; intro a hS
  refine r_move hS hH.kp0 rfl rfl ?_; clear hS; intro a hS
  refine Sq.guardYes hS rfl rfl (beq_self_eq_true _) ?_; refine r_fieldAddr hS hH.kp0 rfl Fp.fo26_0 rfl ?_; clear hS; intro a hS
  refine Sq.guardYes hS rfl rfl (beq_self_eq_true _) ?_; refine r_load_sc hS hH (by repeat (first | exact Sub.nil | refine Sub.cons ?_ ?_ | exact In.here | refine In.there ?_)) rfl (by repeat (first | exact In.here | refine In.there ?_)) Fp.sc3 (by rfl) rfl ?_; clear hS; intro a hS
  refine Sq.guardYes hS rfl rfl (beq_self_eq_true _) ?_; refine r_neq hS hH.kp0 rfl rfl rfl ?_; clear hS; intro a hS
  refine Sq.guardYes hS rfl rfl (beq_self_eq_true _) ?_; refine r_move hS hH.kp0 rfl rfl ?_; clear hS; intro a hS
  refine Sq.guardNo hS rfl rfl rfl hH.kp0 rfl ?_; clear hS; intro a hS
  refine Sq.guardNo hS rfl rfl rfl hH.kp0 rfl ?_; clear hS; intro a hS
  refine Sq.guardNo hS rfl rfl rfl hH.kp0 rfl ?_; clear hS; intro a hS
  refine Sq.guardNo hS rfl rfl rfl hH.kp0 rfl ?_; clear hS; intro a hS
  refine Sq.guardNo hS rfl rfl rfl hH.kp0 rfl ?_; clear hS; intro a hS
  refine Sq.guardNo hS rfl rfl rfl hH.kp0 rfl ?_; clear hS; intro a hS
  refine Sq.guardNo hS rfl rfl rfl hH.kp0 rfl ?_; clear hS; intro a hS
  refine Sq.guardYes hS rfl rfl (beq_self_eq_true _) ?_; refine r_pickT hS hH.kp0 rfl rfl rfl rfl ?_; clear hS; intro a hS
  refine r_pickT hS hH.kp0 rfl (beq_self_eq_true _) rfl rfl ?_; clear hS; intro a hS
  refine r_assign hS hH.kp0 rfl rfl ?_; clear hS; intro a hS
  refine Sq.nil ?_
  refine then_n ?_
  refine wp_ret ?_
  refine leave (.inl rfl) hS rfl (Res.tmp rfl Res.nil) ⟨?_, hH.mod⟩
  first | rfl | exact congrArg (fun z => Ending.returned (Value.bool z)) (by first | exact beq_self_eq_true _ | simp [words])

set_option maxRecDepth 100000 in
set_option maxHeartbeats 6000000 in
theorem back2_law (ve : Int) (q1 q2 q3 q4 : Option Addr) (c1 c2 c3 c4 : Nat) (dst src tok tag : List UInt8) (lst : List Int) (ln : Nat) (ph : Bool) (htag : tag.length = 16) (n : Nat) (low : Nat) (hlow : low < 18446744073709551616) (w0 : World) (WT : TypeId) (WF : Nat × Nat) (hw0 : w0.heap[0]? = some (.cells [.int .i64 6, .int .i64 14, .int .i64 30, .int .i64 62].toArray WT WF)) (hll : lst.length ≤ 1048576) (hlst : IsA w0 q4 c4 lst) (hd : Bs w0 (.slice q1 dst.length c1) dst) (hs : Bs w0 (.slice q2 src.length c2) src) (ht : Bs w0 (.slice q3 tok.length c3) tok) (hm : mayP 2 dst.length src.length tok.length (ln : Int) (n : Int) lst.length (badN lst)) : Calls Tryd.prog 7 #[.agg ([.int .i64 2, .int .i64 ve, .slice q1 dst.length c1, .slice q2 src.length c2, .slice q3 tok.length c3, .int .i64 (ln : Int), .bool ph, .slice q4 lst.length c4] ++ hcells tag : List Value).toArray, .int .u64 (low : Int), .int .i64 (n : Int)] w0 fun e w' => e = .returned (.bool true) ∧ Ext w0 w' := by
  refine enter Tryd.func7 rfl rfl rfl ?_
  intro a hS
  have hH := Hp.start w0 (Nobody)
  have hm2 := hm
  unfold mayP at hm2
  have hwl := wideB_le tok.length
  have hfk8 : 2 ^ formK tok.length ≤ 8 := by rw [← wideB_len tok.length]; exact hwl
  have hfk0 : 0 < 2 ^ formK tok.length := Nat.pow_pos (by decide)
  have hw2 : (wideB ln 1).length = 2 := wideB_len _ _
  obtain ⟨t0, t1, t2, t3, t4, t5, t6, t7, t8, t9, ta, tb, tc, td, te, tf, rfl⟩ := len16 htag
  replace hH := hH.know hw0 (fun p hp => by simp at hp)
  refine c_seq ?_
  refine reg_plain w0 (Nobody) ?_
  refine r_box hS hH (by repeat (first | exact Sub.nil | refine Sub.cons ?_ ?_ | exact In.here | refine In.there ?_)) rfl rfl rfl ?_
  clear hS hH; intro a w b3 hb3 hwb3 hS hH
  refine r_assign hS hH.kp0 rfl rfl ?_; clear hS; intro a hS
  refine Sq.nil ?_
  refine then_n ?_
  refine c_seq ?_
  refine reg_plain w0 (Nobody) ?_
  refine r_load_row hS hH (by repeat (first | exact Sub.nil | refine Sub.cons ?_ ?_ | exact In.here | refine In.there ?_)) rfl (by repeat (first | exact In.here | refine In.there ?_)) Fp.ag26 (by rfl) rfl ?_; clear hS; intro a hS
  refine r_move hS hH.kp0 rfl rfl ?_; clear hS; intro a hS
  refine r_move hS hH.kp0 rfl rfl ?_; clear hS; intro a hS
  refine r_call (l := [.tmp 20, .tmp 21, .tmp 22]) hS rfl rfl Fp.fn12 rfl ?_
  refine Calls.mono (Put_2 ve q1 q2 q3 q4 c1 c2 c3 c4 dst src tok _ lst ln ph htag n low hlow _ WT WF (hH.get (b := 0) (by repeat (first | exact In.here | refine In.there ?_))) hll (hlst.ext hH.mod) (hd.ext hH.mod) (hs.ext hH.mod) (ht.ext hH.mod) hm) ?_
  rintro e w1 ⟨rx, rfl, hN, hE⟩
  obtain ⟨bx, cx, kx, hvx, hrx, hrkx, hBx⟩ := hN
  subst hvx
  have hwx := Nat.le_trans hH.mod.size hrx
  replace hH := hH.knowN hE hrx hrkx
  refine ⟨_, rfl, hH.kp0, ?_⟩
  clear hS; intro a hS
  generalize hHb : headB 2 n dst src tok ln ph lst [t0, t1, t2, t3, t4, t5, t6, t7, t8, t9, ta, tb, tc, td, te, tf] = Hb at hBx hS
  have hHe : Hb = startB (191 + 16 * 2 + n) 1 dst src ++ wideB ln 1 := hHb.symm
  have hHl : Hb.length = 7 + dst.length + src.length + 2 := by rw [hHe]; simp only [List.length_append, startB_len, wideB_len] <;> omega
  clear hHb
  refine r_move hS hH.kp0 rfl rfl ?_; clear hS; intro a hS
  refine r_extract hS hH.kp0 rfl rfl rfl ?_; clear hS; intro a hS
  refine r_extract hS hH.kp0 rfl rfl rfl ?_; clear hS; intro a hS
  refine r_extract hS hH.kp0 rfl rfl rfl ?_; clear hS; intro a hS
  refine r_assign hS hH.kp0 rfl rfl ?_; clear hS; intro a hS
  refine r_assign hS hH.kp0 rfl rfl ?_; clear hS; intro a hS
  refine r_assign hS hH.kp0 rfl rfl ?_; clear hS; intro a hS
  refine Sq.nil ?_
  refine then_n ?_
  refine c_seq ?_
  refine reg_plain w0 (Nobody) ?_
  refine r_buildSlice (parts := [(0, .const (.int .u8 7))]) hS hH (by repeat (first | exact Sub.nil | refine Sub.cons ?_ ?_ | exact In.here | refine In.there ?_)) rfl Fp.bsl22_1 (by rfl) rfl ?_
  clear hS hH; intro a w b28 hb28 hwb28 hS hH
  refine r_buildS (parts := [(0, .const (.int .i64 5)), (2, .tmp 28), (6, .const (.bool true))]) hS hH.kp0 rfl rfl Fp.zc26 Fp.pl26 (by rfl) ?_; clear hS; intro a hS
  refine r_call (l := [.tmp 29, .const (.int .u64 5), .const (.int .i64 1)]) hS rfl rfl Fp.fn12 rfl ?_
  refine Calls.mono (Put_5t 0 (some ⟨b28, 0, none⟩) none none none 1 0 0 0 [7] [] [] z16 [] 0 rfl 1 5 (by decide) _ WT WF (hH.get (b := 0) (by repeat (first | exact In.here | refine In.there ?_))) (by decide) ⟨rfl, by simp, Nat.le_refl _, fun i u h => by simp at h, fun _ => rfl⟩ ((BB.lit [7] rfl rfl).bs (hH.get (b := b28) (by repeat (first | exact In.here | refine In.there ?_)))) (Bs.nil _) (Bs.nil _) (by decide)) ?_
  rintro e w1 ⟨ro, rfl, hN, hE⟩
  rw [show headB 5 1 [7] [] [] (0 : Int).toNat true [] z16 ++ beB 5 1 = [68, 7, 5] from by decide] at hN
  obtain ⟨bo, co, ko, hvo, hro, hrko, hBo⟩ := hN
  subst hvo
  have hwo := Nat.le_trans hH.mod.size hro
  replace hH := hH.knowN hE hro hrko
  refine ⟨_, rfl, hH.kp0, ?_⟩
  clear hS; intro a hS
  refine r_move hS hH.kp0 rfl rfl ?_; clear hS; intro a hS
  refine r_extract hS hH.kp0 rfl rfl rfl ?_; clear hS; intro a hS
  refine r_extract hS hH.kp0 rfl rfl rfl ?_; clear hS; intro a hS
  refine r_extract hS hH.kp0 rfl rfl rfl ?_; clear hS; intro a hS
  refine r_assign hS hH.kp0 rfl rfl ?_; clear hS; intro a hS
  refine r_assign hS hH.kp0 rfl rfl ?_; clear hS; intro a hS
  refine r_assign hS hH.kp0 rfl rfl ?_; clear hS; intro a hS
  refine Sq.nil ?_
  refine then_n ?_
  refine c_seq ?_
  refine c_seq ?_
  refine reg_plain w0 (Nobody) ?_
  refine r_move hS hH.kp0 rfl rfl ?_; clear hS; intro a hS
  refine r_bytesStr (l := [68, 7, 5]) hS hH.kp0 rfl (hBo.bs (hH.get (b := bo) (by repeat (first | exact In.here | refine In.there ?_)))) Fp.u8s22 Fp.isStr9 rfl ?_; clear hS; intro a hS
  refine r_strNeq hS hH.kp0 rfl rfl rfl ?_; clear hS; intro a hS
  rw [s447] at hS
  refine r_move hS hH.kp0 rfl rfl ?_; clear hS; intro a hS
  refine Sq.guardYes hS rfl rfl rfl ?_; refine r_move hS hH.kp0 rfl rfl ?_; clear hS; intro a hS
  refine Sq.guardYes hS rfl rfl rfl ?_; refine r_neq hS hH.kp0 rfl rfl rfl ?_; clear hS; intro a hS
  refine r_pickF hS hH.kp0 rfl rfl rfl rfl ?_; clear hS; intro a hS
  refine Sq.nil ?_
  refine then_n ?_
  refine c_condF hS rfl rfl ?_
  refine wp_skip ?_
  refine then_n ?_
  refine c_seq ?_
  refine c_seq ?_
  refine reg_plain w0 (Nobody) ?_
  refine r_move hS hH.kp0 rfl rfl ?_; clear hS; intro a hS
  refine r_neq hS hH.kp0 rfl rfl rfl ?_; clear hS; intro a hS
  refine Sq.nil ?_
  refine then_n ?_
  refine c_condF hS rfl rfl ?_
  refine wp_skip ?_
  refine then_n ?_
  refine c_seq ?_
  refine reg_plain w0 (Nobody) ?_
  refine r_assign hS hH.kp0 rfl rfl ?_; clear hS; intro a hS
  refine Sq.nil ?_
  refine then_n ?_
  refine c_seq ?_
  refine c_seq ?_
  refine reg_plain w0 (Nobody) ?_
  refine r_fieldAddr hS hH.kp0 rfl Fp.fo26_0 rfl ?_; clear hS; intro a hS
  refine r_load_sc hS hH (by repeat (first | exact Sub.nil | refine Sub.cons ?_ ?_ | exact In.here | refine In.there ?_)) rfl (by repeat (first | exact In.here | refine In.there ?_)) Fp.sc3 (by rfl) rfl ?_; clear hS; intro a hS
  refine r_eql hS hH.kp0 rfl rfl rfl ?_; clear hS; intro a hS
  refine Sq.nil ?_
  refine then_n ?_
  refine c_condF hS rfl rfl ?_
  refine wp_skip ?_
  refine then_n ?_
  refine c_seq ?_
  refine c_seq ?_
  refine reg_plain w0 (Nobody) ?_
  refine r_fieldAddr hS hH.kp0 rfl Fp.fo26_0 rfl ?_; clear hS; intro a hS
  refine r_load_sc hS hH (by repeat (first | exact Sub.nil | refine Sub.cons ?_ ?_ | exact In.here | refine In.there ?_)) rfl (by repeat (first | exact In.here | refine In.there ?_)) Fp.sc3 (by rfl) rfl ?_; clear hS; intro a hS
  refine r_leq hS hH.kp0 rfl rfl rfl ?_; clear hS; intro a hS
  refine Sq.nil ?_
  refine then_n ?_
  refine c_condT hS rfl rfl ?_
  refine reg_plain w0 (Nobody) ?_
  refine r_move hS hH.kp0 rfl rfl ?_; clear hS; intro a hS
  refine r_fieldAddr hS hH.kp0 rfl Fp.fo26_5 rfl ?_; clear hS; intro a hS
  refine r_load_sc hS hH (by repeat (first | exact Sub.nil | refine Sub.cons ?_ ?_ | exact In.here | refine In.there ?_)) rfl (by repeat (first | exact In.here | refine In.there ?_)) Fp.sc3 (by rfl) rfl ?_; clear hS; intro a hS
  refine r_appZB (Hb ++ beB low n) ln hS hH rfl rfl rfl (by first | exact .here | exact .there .here | exact .there (.there .here) | exact .there (.there (.there .here)) | exact .there (.there (.there (.there .here))) | exact .there (.there (.there (.there (.there .here)))) | exact .there (.there (.there (.there (.there (.there .here))))) | exact .there (.there (.there (.there (.there (.there (.there .here)))))) | exact .there (.there (.there (.there (.there (.there (.there (.there .here))))))) | exact .there (.there (.there (.there (.there (.there (.there (.there (.there .here)))))))) | exact .there (.there (.there (.there (.there (.there (.there (.there (.there (.there .here))))))))) | exact .there (.there (.there (.there (.there (.there (.there (.there (.there (.there (.there .here)))))))))) | exact .there (.there (.there (.there (.there (.there (.there (.there (.there (.there (.there (.there .here))))))))))) | exact .there (.there (.there (.there (.there (.there (.there (.there (.there (.there (.there (.there (.there .here)))))))))))) | exact .there (.there (.there (.there (.there (.there (.there (.there (.there (.there (.there (.there (.there (.there .here))))))))))))) | exact .there (.there (.there (.there (.there (.there (.there (.there (.there (.there (.there (.there (.there (.there (.there .here))))))))))))))) (by repeat (first | exact Sub.nil | refine Sub.cons ?_ ?_ | exact In.here | refine In.there ?_)) Fp.el22 Fp.zc5 Fp.i64_3 hBx (by omega) (by simp only [List.length_append, beB_len]; omega) hwx rfl ?_
  clear hS hH; intro a w bz cz kz hwz hBz hS hH
  refine r_assign hS hH.kp0 rfl rfl ?_; clear hS; intro a hS
  refine Sq.nil ?_
  refine then_n ?_
  refine c_seq ?_
  refine c_seq ?_
  refine reg_plain w0 (Nobody) ?_
  refine r_fieldAddr hS hH.kp0 rfl Fp.fo26_0 rfl ?_; clear hS; intro a hS
  refine r_load_sc hS hH (by repeat (first | exact Sub.nil | refine Sub.cons ?_ ?_ | exact In.here | refine In.there ?_)) rfl (by repeat (first | exact In.here | refine In.there ?_)) Fp.sc3 (by rfl) rfl ?_; clear hS; intro a hS
  refine r_eql hS hH.kp0 rfl rfl rfl ?_; clear hS; intro a hS
  refine r_move hS hH.kp0 rfl rfl ?_; clear hS; intro a hS
  refine Sq.guardYes hS rfl rfl rfl ?_; refine r_fieldAddr hS hH.kp0 rfl Fp.fo26_0 rfl ?_; clear hS; intro a hS
  refine Sq.guardYes hS rfl rfl rfl ?_; refine r_load_sc hS hH (by repeat (first | exact Sub.nil | refine Sub.cons ?_ ?_ | exact In.here | refine In.there ?_)) rfl (by repeat (first | exact In.here | refine In.there ?_)) Fp.sc3 (by rfl) rfl ?_; clear hS; intro a hS
  refine Sq.guardYes hS rfl rfl rfl ?_; refine r_eql hS hH.kp0 rfl rfl rfl ?_; clear hS; intro a hS
  refine r_pickF hS hH.kp0 rfl rfl rfl rfl ?_; clear hS; intro a hS
  refine Sq.nil ?_
  refine then_n ?_
  refine c_condF hS rfl rfl ?_
  refine wp_skip ?_
  refine then_n ?_
  refine c_seq ?_
  refine reg_plain w0 (Nobody) ?_
  refine r_move hS hH.kp0 rfl rfl ?_; clear hS; intro a hS
  refine r_move hS hH.kp0 rfl rfl ?_; clear hS; intro a hS
  refine r_call (l := [.tmp 75, .tmp 76]) hS rfl rfl Fp.fn8 rfl ?_
  refine Calls.mono (Read_c (some ⟨bz, 0, none⟩) cz ((Hb ++ beB low n) ++ List.replicate ln 0) (by simp only [List.length_append, beB_len, List.length_replicate]; omega) 0 _ WT WF (hH.get (b := 0) (by repeat (first | exact In.here | refine In.there ?_))) (hBz.bs (hH.get (b := bz) (by repeat (first | exact In.here | refine In.there ?_))))) ?_
  rintro e w1 ⟨cs, y, z, rfl, hrd, hE⟩
  rw [← refQ_eq, back_12 (kd := 2) (l := (Hb ++ beB low n) ++ List.replicate ln 0) (dst := dst) (src := src) (n := n) (ln := ln) (r := beB low n ++ List.replicate ln 0) (by rw [hHe]; simp only [List.append_assoc]) (by omega) (by omega) (by omega) (by omega) (by omega) (by omega) (by simp)] at hrd
  obtain ⟨⟨dv, sv, tv, gv, hcs, hdv, hsv, htv, hgv, _⟩, hy9, hz9⟩ := hrd
  subst hcs hy9 hz9
  replace hH := hH.ext hE
  refine ⟨_, rfl, hH.kp0, ?_⟩
  clear hS; intro a hS
  refine r_move hS hH.kp0 rfl rfl ?_; clear hS; intro a hS
  refine r_extract hS hH.kp0 rfl rfl rfl ?_; clear hS; intro a hS
  refine r_extract hS hH.kp0 rfl rfl rfl ?_; clear hS; intro a hS
  refine r_extract hS hH.kp0 rfl rfl rfl ?_; clear hS; intro a hS
  refine r_allocE hS hH (by repeat (first | exact Sub.nil | refine Sub.cons ?_ ?_ | exact In.here | refine In.there ?_)) Fp.zc26 rfl ?_; clear hS hH; intro a w bh hbh hwbh hE2 hS hH
  refine r_store_rowM hS hH rfl rfl (by first | exact .here | exact .there .here | exact .there (.there .here) | exact .there (.there (.there .here)) | exact .there (.there (.there (.there .here))) | exact .there (.there (.there (.there (.there .here)))) | exact .there (.there (.there (.there (.there (.there .here))))) | exact .there (.there (.there (.there (.there (.there (.there .here)))))) | exact .there (.there (.there (.there (.there (.there (.there (.there .here))))))) | exact .there (.there (.there (.there (.there (.there (.there (.there (.there .here)))))))) | exact .there (.there (.there (.there (.there (.there (.there (.there (.there (.there .here))))))))) | exact .there (.there (.there (.there (.there (.there (.there (.there (.there (.there (.there .here)))))))))) | exact .there (.there (.there (.there (.there (.there (.there (.there (.there (.there (.there (.there .here))))))))))) | exact .there (.there (.there (.there (.there (.there (.there (.there (.there (.there (.there (.there (.there .here)))))))))))) | exact .there (.there (.there (.there (.there (.there (.there (.there (.there (.there (.there (.there (.there (.there .here))))))))))))) | exact .there (.there (.there (.there (.there (.there (.there (.there (.there (.there (.there (.there (.there (.there (.there .here))))))))))))))) (by repeat (first | exact Sub.nil | refine Sub.cons ?_ ?_ | exact In.here | refine In.there ?_)) Fp.sz26 (hdr_one hdv.oneB hsv.oneB htv.oneB (Own.one' hgv)) (by rfl) (.inr hbh) ?_; clear hH; intro w hM2 hH
  have hdv := hdv.new hE2 hM2 hwbh
  have hsv := hsv.new hE2 hM2 hwbh
  have htv := htv.new hE2 hM2 hwbh
  refine r_assign hS hH.kp0 rfl rfl ?_; clear hS; intro a hS
  refine r_assign hS hH.kp0 rfl rfl ?_; clear hS; intro a hS
  refine Sq.nil ?_
  refine then_n ?_
  refine c_seq ?_
  refine c_seq ?_
  refine reg_plain w0 (Nobody) ?_
  refine r_move hS hH.kp0 rfl rfl ?_; clear hS; intro a hS
  refine r_neq hS hH.kp0 rfl rfl rfl ?_; clear hS; intro a hS
  refine r_move hS hH.kp0 rfl rfl ?_; clear hS; intro a hS
  refine Sq.guardYes hS rfl rfl rfl ?_; refine r_move hS hH.kp0 rfl rfl ?_; clear hS; intro a hS
  refine Sq.guardYes hS rfl rfl rfl ?_; refine r_move hS hH.kp0 rfl rfl ?_; clear hS; intro a hS
  refine Sq.guardYes hS rfl rfl rfl ?_; refine r_neq hS hH.kp0 rfl rfl rfl ?_; clear hS; intro a hS
  refine r_pickF hS hH.kp0 rfl rfl rfl rfl ?_; clear hS; intro a hS
  refine r_move hS hH.kp0 rfl rfl ?_; clear hS; intro a hS
  refine Sq.guardYes hS rfl rfl (bne_eq_false_iff_eq.2 (by omega)) ?_; refine r_fieldAddr hS hH.kp0 rfl Fp.fo26_0 rfl ?_; clear hS; intro a hS
  refine Sq.guardYes hS rfl rfl (bne_eq_false_iff_eq.2 (by omega)) ?_; refine r_load_sc hS hH (by repeat (first | exact Sub.nil | refine Sub.cons ?_ ?_ | exact In.here | refine In.there ?_)) rfl (by repeat (first | exact In.here | refine In.there ?_)) Fp.sc3 (by rfl) rfl ?_; clear hS; intro a hS
  refine Sq.guardYes hS rfl rfl (bne_eq_false_iff_eq.2 (by omega)) ?_; refine r_fieldAddr hS hH.kp0 rfl Fp.fo26_0 rfl ?_; clear hS; intro a hS
  refine Sq.guardYes hS rfl rfl (bne_eq_false_iff_eq.2 (by omega)) ?_; refine r_load_sc hS hH (by repeat (first | exact Sub.nil | refine Sub.cons ?_ ?_ | exact In.here | refine In.there ?_)) rfl (by repeat (first | exact In.here | refine In.there ?_)) Fp.sc3 (by rfl) rfl ?_; clear hS; intro a hS
  refine Sq.guardYes hS rfl rfl (bne_eq_false_iff_eq.2 (by omega)) ?_; refine r_neq hS hH.kp0 rfl rfl rfl ?_; clear hS; intro a hS
  refine r_pickF hS hH.kp0 rfl (bne_eq_false_iff_eq.2 (by omega)) rfl rfl ?_; clear hS; intro a hS
  refine r_move hS hH.kp0 rfl rfl ?_; clear hS; intro a hS
  refine Sq.guardYes hS rfl rfl rfl ?_; refine r_fieldAddr hS hH.kp0 rfl Fp.fo26_2 rfl ?_; clear hS; intro a hS
  refine Sq.guardYes hS rfl rfl rfl ?_; refine r_load_sc hS hH (by repeat (first | exact Sub.nil | refine Sub.cons ?_ ?_ | exact In.here | refine In.there ?_)) rfl (by repeat (first | exact In.here | refine In.there ?_)) Fp.sc22 (by rfl) rfl ?_; clear hS; intro a hS
  refine Sq.guardYes hS rfl rfl rfl ?_; refine r_bytesStr (l := dst) hS hH.kp0 rfl hdv.bsB Fp.u8s22 Fp.isStr9 rfl ?_; clear hS; intro a hS
  refine Sq.guardYes hS rfl rfl rfl ?_; refine r_fieldAddr hS hH.kp0 rfl Fp.fo26_2 rfl ?_; clear hS; intro a hS
  refine Sq.guardYes hS rfl rfl rfl ?_; refine r_load_sc hS hH (by repeat (first | exact Sub.nil | refine Sub.cons ?_ ?_ | exact In.here | refine In.there ?_)) rfl (by repeat (first | exact In.here | refine In.there ?_)) Fp.sc22 (by rfl) rfl ?_; clear hS; intro a hS
  refine Sq.guardYes hS rfl rfl rfl ?_; refine r_bytesStr (l := dst) hS hH.kp0 rfl (hd.ext hH.mod) Fp.u8s22 Fp.isStr9 rfl ?_; clear hS; intro a hS
  refine Sq.guardYes hS rfl rfl rfl ?_; refine r_strNeq hS hH.kp0 rfl rfl rfl ?_; clear hS; intro a hS
  refine r_pickF hS hH.kp0 rfl rfl rfl rfl ?_; clear hS; intro a hS
  refine r_move hS hH.kp0 rfl rfl ?_; clear hS; intro a hS
  refine Sq.guardYes hS rfl rfl (congrArg not (beq_self_eq_true _)) ?_; refine r_fieldAddr hS hH.kp0 rfl Fp.fo26_0 rfl ?_; clear hS; intro a hS
  refine Sq.guardYes hS rfl rfl (congrArg not (beq_self_eq_true _)) ?_; refine r_load_sc hS hH (by repeat (first | exact Sub.nil | refine Sub.cons ?_ ?_ | exact In.here | refine In.there ?_)) rfl (by repeat (first | exact In.here | refine In.there ?_)) Fp.sc3 (by rfl) rfl ?_; clear hS; intro a hS
  refine Sq.guardYes hS rfl rfl (congrArg not (beq_self_eq_true _)) ?_; refine r_neq hS hH.kp0 rfl rfl rfl ?_; clear hS; intro a hS
  refine Sq.guardYes hS rfl rfl (congrArg not (beq_self_eq_true _)) ?_; refine r_move hS hH.kp0 rfl rfl ?_; clear hS; intro a hS
  refine Sq.guardYes hS rfl rfl rfl ?_; refine r_fieldAddr hS hH.kp0 rfl Fp.fo26_3 rfl ?_; clear hS; intro a hS
  refine Sq.guardYes hS rfl rfl rfl ?_; refine r_load_sc hS hH (by repeat (first | exact Sub.nil | refine Sub.cons ?_ ?_ | exact In.here | refine In.there ?_)) rfl (by repeat (first | exact In.here | refine In.there ?_)) Fp.sc22 (by rfl) rfl ?_; clear hS; intro a hS
  refine Sq.guardYes hS rfl rfl rfl ?_; refine r_bytesStr (l := src) hS hH.kp0 rfl hsv.bsB Fp.u8s22 Fp.isStr9 rfl ?_; clear hS; intro a hS
  refine Sq.guardYes hS rfl rfl rfl ?_; refine r_fieldAddr hS hH.kp0 rfl Fp.fo26_3 rfl ?_; clear hS; intro a hS
  refine Sq.guardYes hS rfl rfl rfl ?_; refine r_load_sc hS hH (by repeat (first | exact Sub.nil | refine Sub.cons ?_ ?_ | exact In.here | refine In.there ?_)) rfl (by repeat (first | exact In.here | refine In.there ?_)) Fp.sc22 (by rfl) rfl ?_; clear hS; intro a hS
  refine Sq.guardYes hS rfl rfl rfl ?_; refine r_bytesStr (l := src) hS hH.kp0 rfl (hs.ext hH.mod) Fp.u8s22 Fp.isStr9 rfl ?_; clear hS; intro a hS
  refine Sq.guardYes hS rfl rfl rfl ?_; refine r_strNeq hS hH.kp0 rfl rfl rfl ?_; clear hS; intro a hS
  refine Sq.guardYes hS rfl rfl (congrArg not (beq_self_eq_true _)) ?_; refine r_pickT hS hH.kp0 rfl rfl rfl rfl ?_; clear hS; intro a hS
  refine r_pickF hS hH.kp0 rfl (congrArg not (beq_self_eq_true _)) rfl rfl ?_; clear hS; intro a hS
  refine Sq.nil ?_
  refine then_n ?_
  refine c_condF hS rfl (congrArg not (beq_self_eq_true _)) ?_
  refine wp_skip ?_
  refine then_n ?_
  refine c_seq ?_
  refine c_seq ?_
  refine reg_plain w0 (Nobody) ?_
  refine r_fieldAddr hS hH.kp0 rfl Fp.fo26_0 rfl ?_; clear hS; intro a hS
  refine r_load_sc hS hH (by repeat (first | exact Sub.nil | refine Sub.cons ?_ ?_ | exact In.here | refine In.there ?_)) rfl (by repeat (first | exact In.here | refine In.there ?_)) Fp.sc3 (by rfl) rfl ?_; clear hS; intro a hS
  refine r_eql hS hH.kp0 rfl rfl rfl ?_; clear hS; intro a hS
  refine r_move hS hH.kp0 rfl rfl ?_; clear hS; intro a hS
  refine Sq.guardYes hS rfl rfl rfl ?_; refine r_fieldAddr hS hH.kp0 rfl Fp.fo26_0 rfl ?_; clear hS; intro a hS
  refine Sq.guardYes hS rfl rfl rfl ?_; refine r_load_sc hS hH (by repeat (first | exact Sub.nil | refine Sub.cons ?_ ?_ | exact In.here | refine In.there ?_)) rfl (by repeat (first | exact In.here | refine In.there ?_)) Fp.sc3 (by rfl) rfl ?_; clear hS; intro a hS
  refine Sq.guardYes hS rfl rfl rfl ?_; refine r_eql hS hH.kp0 rfl rfl rfl ?_; clear hS; intro a hS
  refine r_pickF hS hH.kp0 rfl rfl rfl rfl ?_; clear hS; intro a hS
  refine Sq.nil ?_
  refine then_n ?_
  refine c_condF hS rfl rfl ?_
  refine wp_skip ?_
  refine then_n ?_
  refine c_seq ?_
  refine reg_plain w0 (Nobody) ?_
  refine r_move hS hH.kp0 rfl rfl ?_; clear hS; intro a hS
  refine r_move hS hH.kp0 rfl rfl ?_; clear hS; intro a hS
  refine r_call (l := [.tmp 160, .tmp 161]) hS rfl rfl Fp.fn17 rfl ?_
  refine Calls.mono (number_long (UInt8.ofNat (191 + 16 * 2 + n)) (some ⟨bz, 0, none⟩) cz ((Hb ++ beB low n) ++ List.replicate ln 0) Hb.length n (by simp only [List.length_append, beB_len, List.length_replicate]; omega) (by rw [hHe]; rfl) (by omega) (by simp only [List.length_append, beB_len, List.length_replicate]; omega) (by omega) (by omega) (bits_l (k := 2) (n := n) (by decide) (by omega) (by omega)).1 (bits_l (k := 2) (n := n) (by decide) (by omega) (by omega)).2.1 (bits_l (k := 2) (n := n) (by decide) (by omega) (by omega)).2.2 _ (hBz.bs (hH.get (b := bz) (by repeat (first | exact In.here | refine In.there ?_))))) ?_
  rintro e w1 ⟨rfl, hE⟩
  have hlow9 : ((((Hb ++ beB low n) ++ List.replicate ln 0).drop Hb.length).take n) = beB low n := take_low
  rw [hlow9, beN_beB]
  have htv := htv.extB hE
  replace hH := hH.ext hE
  refine ⟨_, rfl, hH.kp0, ?_⟩
  clear hS; intro a hS
  refine r_move hS hH.kp0 rfl rfl ?_; clear hS; intro a hS
  refine r_extract hS hH.kp0 rfl rfl rfl ?_; clear hS; intro a hS
  refine r_extract hS hH.kp0 rfl rfl rfl ?_; clear hS; intro a hS
  refine r_extract hS hH.kp0 rfl rfl rfl ?_; clear hS; intro a hS
  refine r_extract hS hH.kp0 rfl rfl rfl ?_; clear hS; intro a hS
  refine r_assign hS hH.kp0 rfl rfl ?_; clear hS; intro a hS
  refine r_assign hS hH.kp0 rfl rfl ?_; clear hS; intro a hS
  refine r_assign hS hH.kp0 rfl rfl ?_; clear hS; intro a hS
  refine r_assign hS hH.kp0 rfl rfl ?_; clear hS; intro a hS
  refine Sq.nil ?_
  refine then_n ?_
  refine c_seq ?_
  refine reg_plain w0 (Nobody) ?_
  refine r_move hS hH.kp0 rfl rfl ?_; clear hS; intro a hS
  refine r_eql hS hH.kp0 rfl rfl rfl ?_; clear hS; intro a hS
  refine r_move hS hH.kp0 rfl rfl ?_; clear hS; intro a hS
  refine Sq.guardYes hS rfl rfl rfl ?_; refine r_move hS hH.kp0 rfl rfl ?_; clear hS; intro a hS
  refine Sq.guardYes hS rfl rfl rfl ?_; refine r_move hS hH.kp0 rfl rfl ?_; clear hS; intro a hS
  refine Sq.guardYes hS rfl rfl rfl ?_; refine r_eql hS hH.kp0 rfl rfl rfl ?_; clear hS; intro a hS
  refine r_pickT hS hH.kp0 rfl rfl rfl rfl ?_; clear hS; intro a hS
  refine r_move hS hH.kp0 rfl rfl ?_; clear hS; intro a hS
  refine Sq.guardYes hS rfl rfl (DT (by omega)) ?_; refine r_move hS hH.kp0 rfl rfl ?_; clear hS; intro a hS
  refine r_pickT hS hH.kp0 rfl (DT (by omega)) rfl rfl ?_; clear hS; intro a hS
  refine r_move hS hH.kp0 rfl rfl ?_; clear hS; intro a hS
  refine Sq.guardYes hS rfl rfl rfl ?_; refine r_move hS hH.kp0 rfl rfl ?_; clear hS; intro a hS
  refine Sq.guardYes hS rfl rfl rfl ?_; refine r_move hS hH.kp0 rfl rfl ?_; clear hS; intro a hS
  refine Sq.guardYes hS rfl rfl rfl ?_; refine r_move hS hH.kp0 rfl rfl ?_; clear hS; intro a hS
  refine Sq.guardYes hS rfl rfl rfl ?_; (first | refine r_mul hS hH.kp0 rfl rfl rfl (by omega) ?_ | refine r_mulw hS hH.kp0 rfl rfl rfl ?_); clear hS; intro a hS
  refine Sq.guardYes hS rfl rfl rfl ?_; refine r_toU64 (8 * n) hS hH.kp0 rfl Fp.ui30 Fp.us3 rfl (by omega) (by omega) ?_; clear hS; intro a hS
  refine Sq.guardYes hS rfl rfl rfl ?_; refine r_shlN (m := 1) (8 * n) (2 ^ (8 * n)) hS hH.kp0 rfl rfl rfl rfl (by omega) (shl8 (by omega)) ?_; clear hS; intro a hS
  refine Sq.guardYes hS rfl rfl rfl ?_; refine r_subN (m := 2 ^ (8 * n)) (m' := 1) (2 ^ (8 * n) - 1) hS hH.kp0 rfl rfl rfl (by decide) (sub8 (by omega)) ?_; clear hS; intro a hS
  refine Sq.guardYes hS rfl rfl rfl ?_; refine r_and hS hH.kp0 rfl rfl rfl ?_; clear hS; intro a hS; rw [low_and hlow (by omega) (by omega)] at hS
  refine Sq.guardYes hS rfl rfl rfl ?_; refine r_eql hS hH.kp0 rfl rfl rfl ?_; clear hS; intro a hS
  refine r_pickT hS hH.kp0 rfl rfl rfl rfl ?_; clear hS; intro a hS
  refine r_move hS hH.kp0 rfl rfl ?_; clear hS; intro a hS
  refine Sq.guardYes hS rfl rfl (DT (by omega)) ?_; refine r_fieldAddr hS hH.kp0 rfl Fp.fo26_0 rfl ?_; clear hS; intro a hS
  refine Sq.guardYes hS rfl rfl (DT (by omega)) ?_; refine r_load_sc hS hH (by repeat (first | exact Sub.nil | refine Sub.cons ?_ ?_ | exact In.here | refine In.there ?_)) rfl (by repeat (first | exact In.here | refine In.there ?_)) Fp.sc3 (by rfl) rfl ?_; clear hS; intro a hS
  refine Sq.guardYes hS rfl rfl (DT (by omega)) ?_; refine r_neq hS hH.kp0 rfl rfl rfl ?_; clear hS; intro a hS
  refine Sq.guardYes hS rfl rfl (DT (by omega)) ?_; refine r_move hS hH.kp0 rfl rfl ?_; clear hS; intro a hS
  refine Sq.guardNo hS rfl rfl rfl hH.kp0 rfl ?_; clear hS; intro a hS
  refine Sq.guardNo hS rfl rfl rfl hH.kp0 rfl ?_; clear hS; intro a hS
  refine Sq.guardNo hS rfl rfl rfl hH.kp0 rfl ?_; clear hS; intro a hS
  refine Sq.guardNo hS rfl rfl rfl hH.kp0 rfl ?_; clear hS; intro a hS
  refine Sq.guardNo hS rfl rfl rfl hH.kp0 rfl ?_; clear hS; intro a hS
  refine Sq.guardYes hS rfl rfl (DT (by omega)) ?_; refine r_pickT hS hH.kp0 rfl rfl rfl rfl ?_; clear hS; intro a hS
  refine r_pickT hS hH.kp0 rfl (DT (by omega)) rfl rfl ?_; clear hS; intro a hS
  refine r_move hS hH.kp0 rfl rfl ?_; clear hS; intro a hS
  refine Sq.guardYes hS rfl rfl rfl ?_; refine r_fieldAddr hS hH.kp0 rfl Fp.fo26_0 rfl ?_; clear hS; intro a hS
  refine Sq.guardYes hS rfl rfl rfl ?_; refine r_load_sc hS hH (by repeat (first | exact Sub.nil | refine Sub.cons ?_ ?_ | exact In.here | refine In.there ?_)) rfl (by repeat (first | exact In.here | refine In.there ?_)) Fp.sc3 (by rfl) rfl ?_; clear hS; intro a hS
  refine Sq.guardYes hS rfl rfl rfl ?_; refine r_eql hS hH.kp0 rfl rfl rfl ?_; clear hS; intro a hS
  refine Sq.guardYes hS rfl rfl rfl ?_; refine r_move hS hH.kp0 rfl rfl ?_; clear hS; intro a hS
  refine Sq.guardYes hS rfl rfl rfl ?_; refine r_fieldAddr hS hH.kp0 rfl Fp.fo26_5 rfl ?_; clear hS; intro a hS
  refine Sq.guardYes hS rfl rfl rfl ?_; refine r_load_sc hS hH (by repeat (first | exact Sub.nil | refine Sub.cons ?_ ?_ | exact In.here | refine In.there ?_)) rfl (by repeat (first | exact In.here | refine In.there ?_)) Fp.sc3 (by rfl) rfl ?_; clear hS; intro a hS
  refine Sq.guardYes hS rfl rfl rfl ?_; refine r_fieldAddr hS hH.kp0 rfl Fp.fo26_5 rfl ?_; clear hS; intro a hS
  refine Sq.guardYes hS rfl rfl rfl ?_; refine r_load_sc hS hH (by repeat (first | exact Sub.nil | refine Sub.cons ?_ ?_ | exact In.here | refine In.there ?_)) rfl (by repeat (first | exact In.here | refine In.there ?_)) Fp.sc3 (by rfl) rfl ?_; clear hS; intro a hS
  refine Sq.guardYes hS rfl rfl rfl ?_; refine r_eql hS hH.kp0 rfl rfl rfl ?_; clear hS; intro a hS
  refine Sq.guardYes hS rfl rfl rfl ?_; refine r_pickF hS hH.kp0 rfl rfl rfl rfl ?_; clear hS; intro a hS
  refine r_pickT hS hH.kp0 rfl rfl rfl rfl ?_; clear hS; intro a hS
  refine r_move hS hH.kp0 rfl rfl ?_; clear hS; intro a hS
  refine Sq.guardYes hS rfl rfl (beq_self_eq_true _) ?_; refine r_fieldAddr hS hH.kp0 rfl Fp.fo26_0 rfl ?_; clear hS; intro a hS
  refine Sq.guardYes hS rfl rfl (beq_self_eq_true _) ?_; refine r_load_sc hS hH (by repeat (first | exact Sub.nil | refine Sub.cons ?_ ?_ | exact In.here | refine In.there ?_)) rfl (by repeat (first | exact In.here | refine In.there ?_)) Fp.sc3 (by rfl) rfl ?_; clear hS; intro a hS
  refine Sq.guardYes hS rfl rfl (beq_self_eq_true _) ?_; refine r_neq hS hH.kp0 rfl rfl rfl ?_; clear hS; intro a hS
  refine Sq.guardYes hS rfl rfl (beq_self_eq_true _) ?_; refine r_move hS hH.kp0 rfl rfl ?_; clear hS; intro a hS
  refine Sq.guardNo hS rfl rfl rfl hH.kp0 rfl ?_; clear hS; intro a hS
  refine Sq.guardNo hS rfl rfl rfl hH.kp0 rfl ?_; clear hS; intro a hS
  refine Sq.guardNo hS rfl rfl rfl hH.kp0 rfl ?_; clear hS; intro a hS
  refine Sq.guardNo hS rfl rfl rfl hH.kp0 rfl ?_; clear hS; intro a hS
  refine Sq.guardNo hS rfl rfl rfl hH.kp0 rfl ?_; clear hS; intro a hS
  refine Sq.guardNo hS rfl rfl rfl hH.kp0 rfl ?_; clear hS; intro a hS
  refine Sq.guardNo hS rfl rfl rfl hH.kp0 rfl ?_; clear hS; intro a hS
  refine Sq.guardYes hS rfl rfl (beq_self_eq_true _) ?_; refine r_pickT hS hH.kp0 rfl rfl rfl rfl ?_; clear hS; intro a hS
  refine r_pickT hS hH.kp0 rfl (beq_self_eq_true _) rfl rfl ?_; clear hS; intro a hS
  refine r_assign hS hH.kp0 rfl rfl ?_; clear hS; intro a hS
  refine Sq.nil ?_
  refine then_n ?_
  refine wp_ret ?_
  refine leave (.inl rfl) hS rfl (Res.tmp rfl Res.nil) ⟨?_, hH.mod⟩
  first | rfl | exact congrArg (fun z => Ending.returned (Value.bool z)) (by first | exact beq_self_eq_true _ | simp [words])

set_option maxRecDepth 100000 in
set_option maxHeartbeats 6000000 in
theorem back3_law (ve : Int) (q1 q2 q3 q4 : Option Addr) (c1 c2 c3 c4 : Nat) (dst src tok tag : List UInt8) (lst : List Int) (ln : Int) (ph : Bool) (htag : tag.length = 16) (n : Int) (low : Nat) (hlow : low < 18446744073709551616) (w0 : World) (WT : TypeId) (WF : Nat × Nat) (hw0 : w0.heap[0]? = some (.cells [.int .i64 6, .int .i64 14, .int .i64 30, .int .i64 62].toArray WT WF)) (hll : lst.length ≤ 1048576) (hlst : IsA w0 q4 c4 lst) (hd : Bs w0 (.slice q1 dst.length c1) dst) (hs : Bs w0 (.slice q2 src.length c2) src) (ht : Bs w0 (.slice q3 tok.length c3) tok) (hm : mayP 3 dst.length src.length tok.length (ln : Int) (n : Int) lst.length (badN lst)) : Calls Tryd.prog 7 #[.agg ([.int .i64 3, .int .i64 ve, .slice q1 dst.length c1, .slice q2 src.length c2, .slice q3 tok.length c3, .int .i64 (ln : Int), .bool ph, .slice q4 lst.length c4] ++ hcells tag : List Value).toArray, .int .u64 (low : Int), .int .i64 (n : Int)] w0 fun e w' => e = .returned (.bool true) ∧ Ext w0 w' := by
  refine enter Tryd.func7 rfl rfl rfl ?_
  intro a hS
  have hH := Hp.start w0 (Nobody)
  have hm2 := hm
  unfold mayP at hm2
  have hwl := wideB_le tok.length
  have hfk8 : 2 ^ formK tok.length ≤ 8 := by rw [← wideB_len tok.length]; exact hwl
  have hfk0 : 0 < 2 ^ formK tok.length := Nat.pow_pos (by decide)
  obtain ⟨t0, t1, t2, t3, t4, t5, t6, t7, t8, t9, ta, tb, tc, td, te, tf, rfl⟩ := len16 htag
  replace hH := hH.know hw0 (fun p hp => by simp at hp)
  refine c_seq ?_
  refine reg_plain w0 (Nobody) ?_
  refine r_box hS hH (by repeat (first | exact Sub.nil | refine Sub.cons ?_ ?_ | exact In.here | refine In.there ?_)) rfl rfl rfl ?_
  clear hS hH; intro a w b3 hb3 hwb3 hS hH
  refine r_assign hS hH.kp0 rfl rfl ?_; clear hS; intro a hS
  refine Sq.nil ?_
  refine then_n ?_
  refine c_seq ?_
  refine reg_plain w0 (Nobody) ?_
  refine r_load_row hS hH (by repeat (first | exact Sub.nil | refine Sub.cons ?_ ?_ | exact In.here | refine In.there ?_)) rfl (by repeat (first | exact In.here | refine In.there ?_)) Fp.ag26 (by rfl) rfl ?_; clear hS; intro a hS
  refine r_move hS hH.kp0 rfl rfl ?_; clear hS; intro a hS
  refine r_move hS hH.kp0 rfl rfl ?_; clear hS; intro a hS
  refine r_call (l := [.tmp 20, .tmp 21, .tmp 22]) hS rfl rfl Fp.fn12 rfl ?_
  refine Calls.mono (Put_3 ve q1 q2 q3 q4 c1 c2 c3 c4 dst src tok _ lst ln ph htag n low hlow _ WT WF (hH.get (b := 0) (by repeat (first | exact In.here | refine In.there ?_))) hll (hlst.ext hH.mod) (hd.ext hH.mod) (hs.ext hH.mod) (ht.ext hH.mod) hm) ?_
  rintro e w1 ⟨rx, rfl, hN, hE⟩
  obtain ⟨bx, cx, kx, hvx, hrx, hrkx, hBx⟩ := hN
  subst hvx
  have hwx := Nat.le_trans hH.mod.size hrx
  replace hH := hH.knowN hE hrx hrkx
  refine ⟨_, rfl, hH.kp0, ?_⟩
  clear hS; intro a hS
  generalize hHb : headB 3 n.toNat dst src tok ln.toNat ph lst [t0, t1, t2, t3, t4, t5, t6, t7, t8, t9, ta, tb, tc, td, te, tf] = Hb at hBx hS
  rw [List.append_nil] at hBx hS
  have hHe : Hb = startB 240 1 dst src ++ tok ++ [t0, t1, t2, t3, t4, t5, t6, t7, t8, t9, ta, tb, tc, td, te, tf] := hHb.symm
  have hHl : Hb.length = 7 + dst.length + src.length + tok.length + 16 := by rw [hHe]; simp only [List.length_append, List.length_cons, List.length_nil, startB_len] <;> omega
  clear hHb
  refine r_move hS hH.kp0 rfl rfl ?_; clear hS; intro a hS
  refine r_extract hS hH.kp0 rfl rfl rfl ?_; clear hS; intro a hS
  refine r_extract hS hH.kp0 rfl rfl rfl ?_; clear hS; intro a hS
  refine r_extract hS hH.kp0 rfl rfl rfl ?_; clear hS; intro a hS
  refine r_assign hS hH.kp0 rfl rfl ?_; clear hS; intro a hS
  refine r_assign hS hH.kp0 rfl rfl ?_; clear hS; intro a hS
  refine r_assign hS hH.kp0 rfl rfl ?_; clear hS; intro a hS
  refine Sq.nil ?_
  refine then_n ?_
  refine c_seq ?_
  refine reg_plain w0 (Nobody) ?_
  refine r_buildSlice (parts := [(0, .const (.int .u8 7))]) hS hH (by repeat (first | exact Sub.nil | refine Sub.cons ?_ ?_ | exact In.here | refine In.there ?_)) rfl Fp.bsl22_1 (by rfl) rfl ?_
  clear hS hH; intro a w b28 hb28 hwb28 hS hH
  refine r_buildS (parts := [(0, .const (.int .i64 5)), (2, .tmp 28), (6, .const (.bool true))]) hS hH.kp0 rfl rfl Fp.zc26 Fp.pl26 (by rfl) ?_; clear hS; intro a hS
  refine r_call (l := [.tmp 29, .const (.int .u64 5), .const (.int .i64 1)]) hS rfl rfl Fp.fn12 rfl ?_
  refine Calls.mono (Put_5t 0 (some ⟨b28, 0, none⟩) none none none 1 0 0 0 [7] [] [] z16 [] 0 rfl 1 5 (by decide) _ WT WF (hH.get (b := 0) (by repeat (first | exact In.here | refine In.there ?_))) (by decide) ⟨rfl, by simp, Nat.le_refl _, fun i u h => by simp at h, fun _ => rfl⟩ ((BB.lit [7] rfl rfl).bs (hH.get (b := b28) (by repeat (first | exact In.here | refine In.there ?_)))) (Bs.nil _) (Bs.nil _) (by decide)) ?_
  rintro e w1 ⟨ro, rfl, hN, hE⟩
  rw [show headB 5 1 [7] [] [] (0 : Int).toNat true [] z16 ++ beB 5 1 = [68, 7, 5] from by decide] at hN
  obtain ⟨bo, co, ko, hvo, hro, hrko, hBo⟩ := hN
  subst hvo
  have hwo := Nat.le_trans hH.mod.size hro
  replace hH := hH.knowN hE hro hrko
  refine ⟨_, rfl, hH.kp0, ?_⟩
  clear hS; intro a hS
  refine r_move hS hH.kp0 rfl rfl ?_; clear hS; intro a hS
  refine r_extract hS hH.kp0 rfl rfl rfl ?_; clear hS; intro a hS
  refine r_extract hS hH.kp0 rfl rfl rfl ?_; clear hS; intro a hS
  refine r_extract hS hH.kp0 rfl rfl rfl ?_; clear hS; intro a hS
  refine r_assign hS hH.kp0 rfl rfl ?_; clear hS; intro a hS
  refine r_assign hS hH.kp0 rfl rfl ?_; clear hS; intro a hS
  refine r_assign hS hH.kp0 rfl rfl ?_; clear hS; intro a hS
  refine Sq.nil ?_
  refine then_n ?_
  refine c_seq ?_
  refine c_seq ?_
  refine reg_plain w0 (Nobody) ?_
  refine r_move hS hH.kp0 rfl rfl ?_; clear hS; intro a hS
  refine r_bytesStr (l := [68, 7, 5]) hS hH.kp0 rfl (hBo.bs (hH.get (b := bo) (by repeat (first | exact In.here | refine In.there ?_)))) Fp.u8s22 Fp.isStr9 rfl ?_; clear hS; intro a hS
  refine r_strNeq hS hH.kp0 rfl rfl rfl ?_; clear hS; intro a hS
  rw [s447] at hS
  refine r_move hS hH.kp0 rfl rfl ?_; clear hS; intro a hS
  refine Sq.guardYes hS rfl rfl rfl ?_; refine r_move hS hH.kp0 rfl rfl ?_; clear hS; intro a hS
  refine Sq.guardYes hS rfl rfl rfl ?_; refine r_neq hS hH.kp0 rfl rfl rfl ?_; clear hS; intro a hS
  refine r_pickF hS hH.kp0 rfl rfl rfl rfl ?_; clear hS; intro a hS
  refine Sq.nil ?_
  refine then_n ?_
  refine c_condF hS rfl rfl ?_
  refine wp_skip ?_
  refine then_n ?_
  refine c_seq ?_
  refine c_seq ?_
  refine reg_plain w0 (Nobody) ?_
  refine r_move hS hH.kp0 rfl rfl ?_; clear hS; intro a hS
  refine r_neq hS hH.kp0 rfl rfl rfl ?_; clear hS; intro a hS
  refine Sq.nil ?_
  refine then_n ?_
  refine c_condF hS rfl rfl ?_
  refine wp_skip ?_
  refine then_n ?_
  refine c_seq ?_
  refine reg_plain w0 (Nobody) ?_
  refine r_assign hS hH.kp0 rfl rfl ?_; clear hS; intro a hS
  refine Sq.nil ?_
  refine then_n ?_
  refine c_seq ?_
  refine c_seq ?_
  refine reg_plain w0 (Nobody) ?_
  refine r_fieldAddr hS hH.kp0 rfl Fp.fo26_0 rfl ?_; clear hS; intro a hS
  refine r_load_sc hS hH (by repeat (first | exact Sub.nil | refine Sub.cons ?_ ?_ | exact In.here | refine In.there ?_)) rfl (by repeat (first | exact In.here | refine In.there ?_)) Fp.sc3 (by rfl) rfl ?_; clear hS; intro a hS
  refine r_eql hS hH.kp0 rfl rfl rfl ?_; clear hS; intro a hS
  refine Sq.nil ?_
  refine then_n ?_
  refine c_condF hS rfl rfl ?_
  refine wp_skip ?_
  refine then_n ?_
  refine c_seq ?_
  refine c_seq ?_
  refine reg_plain w0 (Nobody) ?_
  refine r_fieldAddr hS hH.kp0 rfl Fp.fo26_0 rfl ?_; clear hS; intro a hS
  refine r_load_sc hS hH (by repeat (first | exact Sub.nil | refine Sub.cons ?_ ?_ | exact In.here | refine In.there ?_)) rfl (by repeat (first | exact In.here | refine In.there ?_)) Fp.sc3 (by rfl) rfl ?_; clear hS; intro a hS
  refine r_leq hS hH.kp0 rfl rfl rfl ?_; clear hS; intro a hS
  refine Sq.nil ?_
  refine then_n ?_
  refine c_condF hS rfl rfl ?_
  refine wp_skip ?_
  refine then_n ?_
  refine c_seq ?_
  refine c_seq ?_
  refine reg_plain w0 (Nobody) ?_
  refine r_fieldAddr hS hH.kp0 rfl Fp.fo26_0 rfl ?_; clear hS; intro a hS
  refine r_load_sc hS hH (by repeat (first | exact Sub.nil | refine Sub.cons ?_ ?_ | exact In.here | refine In.there ?_)) rfl (by repeat (first | exact In.here | refine In.there ?_)) Fp.sc3 (by rfl) rfl ?_; clear hS; intro a hS
  refine r_eql hS hH.kp0 rfl rfl rfl ?_; clear hS; intro a hS
  refine r_move hS hH.kp0 rfl rfl ?_; clear hS; intro a hS
  refine Sq.guardNo hS rfl rfl rfl hH.kp0 rfl ?_; clear hS; intro a hS
  refine Sq.guardNo hS rfl rfl rfl hH.kp0 rfl ?_; clear hS; intro a hS
  refine Sq.guardNo hS rfl rfl rfl hH.kp0 rfl ?_; clear hS; intro a hS
  refine r_pickT hS hH.kp0 rfl rfl rfl rfl ?_; clear hS; intro a hS
  refine Sq.nil ?_
  refine then_n ?_
  refine c_condT hS rfl rfl ?_
  refine reg_plain w0 (Nobody) ?_
  refine r_move hS hH.kp0 rfl rfl ?_; clear hS; intro a hS
  refine r_move hS hH.kp0 rfl rfl ?_; clear hS; intro a hS
  refine r_slHi (hh := Hb.length) hS hH.kp0 rfl rfl Fp.slb22 rfl hBx.le (by intro q h; cases h; rfl) rfl ?_; clear hS; intro a hS
  refine r_assign hS hH.kp0 rfl rfl ?_; clear hS; intro a hS
  refine Sq.nil ?_
  refine then_n ?_
  refine c_seq ?_
  refine reg_plain w0 (Nobody) ?_
  refine r_move hS hH.kp0 rfl rfl ?_; clear hS; intro a hS
  refine r_move hS hH.kp0 rfl rfl ?_; clear hS; intro a hS
  refine r_call (l := [.tmp 75, .tmp 76]) hS rfl rfl Fp.fn8 rfl ?_
  refine Calls.mono (Read_c (some ⟨bx, 0, none⟩) cx (Hb) (by omega) 0 _ WT WF (hH.get (b := 0) (by repeat (first | exact In.here | refine In.there ?_))) (hBx.bs (hH.get (b := bx) (by repeat (first | exact In.here | refine In.there ?_))))) ?_
  rintro e w1 ⟨cs, y, z, rfl, hrd, hE⟩
  rw [← refQ_eq, back_3 hHe (by omega) (by omega) (by omega) (by omega) rfl] at hrd
  obtain ⟨⟨dv, sv, tv, gv, hcs, hdv, hsv, htv, hgv, _⟩, hy9, hz9⟩ := hrd
  subst hcs hy9 hz9
  replace hH := hH.ext hE
  refine ⟨_, rfl, hH.kp0, ?_⟩
  clear hS; intro a hS
  refine r_move hS hH.kp0 rfl rfl ?_; clear hS; intro a hS
  refine r_extract hS hH.kp0 rfl rfl rfl ?_; clear hS; intro a hS
  refine r_extract hS hH.kp0 rfl rfl rfl ?_; clear hS; intro a hS
  refine r_extract hS hH.kp0 rfl rfl rfl ?_; clear hS; intro a hS
  refine r_allocE hS hH (by repeat (first | exact Sub.nil | refine Sub.cons ?_ ?_ | exact In.here | refine In.there ?_)) Fp.zc26 rfl ?_; clear hS hH; intro a w bh hbh hwbh hE2 hS hH
  refine r_store_rowM hS hH rfl rfl (by first | exact .here | exact .there .here | exact .there (.there .here) | exact .there (.there (.there .here)) | exact .there (.there (.there (.there .here))) | exact .there (.there (.there (.there (.there .here)))) | exact .there (.there (.there (.there (.there (.there .here))))) | exact .there (.there (.there (.there (.there (.there (.there .here)))))) | exact .there (.there (.there (.there (.there (.there (.there (.there .here))))))) | exact .there (.there (.there (.there (.there (.there (.there (.there (.there .here)))))))) | exact .there (.there (.there (.there (.there (.there (.there (.there (.there (.there .here))))))))) | exact .there (.there (.there (.there (.there (.there (.there (.there (.there (.there (.there .here)))))))))) | exact .there (.there (.there (.there (.there (.there (.there (.there (.there (.there (.there (.there .here))))))))))) | exact .there (.there (.there (.there (.there (.there (.there (.there (.there (.there (.there (.there (.there .here)))))))))))) | exact .there (.there (.there (.there (.there (.there (.there (.there (.there (.there (.there (.there (.there (.there .here))))))))))))) | exact .there (.there (.there (.there (.there (.there (.there (.there (.there (.there (.there (.there (.there (.there (.there .here))))))))))))))) (by repeat (first | exact Sub.nil | refine Sub.cons ?_ ?_ | exact In.here | refine In.there ?_)) Fp.sz26 (hdr_one hdv.oneB hsv.oneB htv.oneB (Own.one' hgv)) (by rfl) (.inr hbh) ?_; clear hH; intro w hM2 hH
  have hdv := hdv.new hE2 hM2 hwbh
  have hsv := hsv.new hE2 hM2 hwbh
  have htv := htv.new hE2 hM2 hwbh
  refine r_assign hS hH.kp0 rfl rfl ?_; clear hS; intro a hS
  refine r_assign hS hH.kp0 rfl rfl ?_; clear hS; intro a hS
  refine Sq.nil ?_
  refine then_n ?_
  refine c_seq ?_
  refine c_seq ?_
  refine reg_plain w0 (Nobody) ?_
  refine r_move hS hH.kp0 rfl rfl ?_; clear hS; intro a hS
  refine r_neq hS hH.kp0 rfl rfl rfl ?_; clear hS; intro a hS
  refine r_move hS hH.kp0 rfl rfl ?_; clear hS; intro a hS
  refine Sq.guardYes hS rfl rfl rfl ?_; refine r_move hS hH.kp0 rfl rfl ?_; clear hS; intro a hS
  refine Sq.guardYes hS rfl rfl rfl ?_; refine r_move hS hH.kp0 rfl rfl ?_; clear hS; intro a hS
  refine Sq.guardYes hS rfl rfl rfl ?_; refine r_neq hS hH.kp0 rfl rfl rfl ?_; clear hS; intro a hS
  refine r_pickF hS hH.kp0 rfl rfl rfl rfl ?_; clear hS; intro a hS
  refine r_move hS hH.kp0 rfl rfl ?_; clear hS; intro a hS
  refine Sq.guardYes hS rfl rfl (bne_eq_false_iff_eq.2 (by omega)) ?_; refine r_fieldAddr hS hH.kp0 rfl Fp.fo26_0 rfl ?_; clear hS; intro a hS
  refine Sq.guardYes hS rfl rfl (bne_eq_false_iff_eq.2 (by omega)) ?_; refine r_load_sc hS hH (by repeat (first | exact Sub.nil | refine Sub.cons ?_ ?_ | exact In.here | refine In.there ?_)) rfl (by repeat (first | exact In.here | refine In.there ?_)) Fp.sc3 (by rfl) rfl ?_; clear hS; intro a hS
  refine Sq.guardYes hS rfl rfl (bne_eq_false_iff_eq.2 (by omega)) ?_; refine r_fieldAddr hS hH.kp0 rfl Fp.fo26_0 rfl ?_; clear hS; intro a hS
  refine Sq.guardYes hS rfl rfl (bne_eq_false_iff_eq.2 (by omega)) ?_; refine r_load_sc hS hH (by repeat (first | exact Sub.nil | refine Sub.cons ?_ ?_ | exact In.here | refine In.there ?_)) rfl (by repeat (first | exact In.here | refine In.there ?_)) Fp.sc3 (by rfl) rfl ?_; clear hS; intro a hS
  refine Sq.guardYes hS rfl rfl (bne_eq_false_iff_eq.2 (by omega)) ?_; refine r_neq hS hH.kp0 rfl rfl rfl ?_; clear hS; intro a hS
  refine r_pickF hS hH.kp0 rfl (bne_eq_false_iff_eq.2 (by omega)) rfl rfl ?_; clear hS; intro a hS
  refine r_move hS hH.kp0 rfl rfl ?_; clear hS; intro a hS
  refine Sq.guardYes hS rfl rfl rfl ?_; refine r_fieldAddr hS hH.kp0 rfl Fp.fo26_2 rfl ?_; clear hS; intro a hS
  refine Sq.guardYes hS rfl rfl rfl ?_; refine r_load_sc hS hH (by repeat (first | exact Sub.nil | refine Sub.cons ?_ ?_ | exact In.here | refine In.there ?_)) rfl (by repeat (first | exact In.here | refine In.there ?_)) Fp.sc22 (by rfl) rfl ?_; clear hS; intro a hS
  refine Sq.guardYes hS rfl rfl rfl ?_; refine r_bytesStr (l := dst) hS hH.kp0 rfl hdv.bsB Fp.u8s22 Fp.isStr9 rfl ?_; clear hS; intro a hS
  refine Sq.guardYes hS rfl rfl rfl ?_; refine r_fieldAddr hS hH.kp0 rfl Fp.fo26_2 rfl ?_; clear hS; intro a hS
  refine Sq.guardYes hS rfl rfl rfl ?_; refine r_load_sc hS hH (by repeat (first | exact Sub.nil | refine Sub.cons ?_ ?_ | exact In.here | refine In.there ?_)) rfl (by repeat (first | exact In.here | refine In.there ?_)) Fp.sc22 (by rfl) rfl ?_; clear hS; intro a hS
  refine Sq.guardYes hS rfl rfl rfl ?_; refine r_bytesStr (l := dst) hS hH.kp0 rfl (hd.ext hH.mod) Fp.u8s22 Fp.isStr9 rfl ?_; clear hS; intro a hS
  refine Sq.guardYes hS rfl rfl rfl ?_; refine r_strNeq hS hH.kp0 rfl rfl rfl ?_; clear hS; intro a hS
  refine r_pickF hS hH.kp0 rfl rfl rfl rfl ?_; clear hS; intro a hS
  refine r_move hS hH.kp0 rfl rfl ?_; clear hS; intro a hS
  refine Sq.guardYes hS rfl rfl (congrArg not (beq_self_eq_true _)) ?_; refine r_fieldAddr hS hH.kp0 rfl Fp.fo26_0 rfl ?_; clear hS; intro a hS
  refine Sq.guardYes hS rfl rfl (congrArg not (beq_self_eq_true _)) ?_; refine r_load_sc hS hH (by repeat (first | exact Sub.nil | refine Sub.cons ?_ ?_ | exact In.here | refine In.there ?_)) rfl (by repeat (first | exact In.here | refine In.there ?_)) Fp.sc3 (by rfl) rfl ?_; clear hS; intro a hS
  refine Sq.guardYes hS rfl rfl (congrArg not (beq_self_eq_true _)) ?_; refine r_neq hS hH.kp0 rfl rfl rfl ?_; clear hS; intro a hS
  refine Sq.guardYes hS rfl rfl (congrArg not (beq_self_eq_true _)) ?_; refine r_move hS hH.kp0 rfl rfl ?_; clear hS; intro a hS
  refine Sq.guardYes hS rfl rfl rfl ?_; refine r_fieldAddr hS hH.kp0 rfl Fp.fo26_3 rfl ?_; clear hS; intro a hS
  refine Sq.guardYes hS rfl rfl rfl ?_; refine r_load_sc hS hH (by repeat (first | exact Sub.nil | refine Sub.cons ?_ ?_ | exact In.here | refine In.there ?_)) rfl (by repeat (first | exact In.here | refine In.there ?_)) Fp.sc22 (by rfl) rfl ?_; clear hS; intro a hS
  refine Sq.guardYes hS rfl rfl rfl ?_; refine r_bytesStr (l := src) hS hH.kp0 rfl hsv.bsB Fp.u8s22 Fp.isStr9 rfl ?_; clear hS; intro a hS
  refine Sq.guardYes hS rfl rfl rfl ?_; refine r_fieldAddr hS hH.kp0 rfl Fp.fo26_3 rfl ?_; clear hS; intro a hS
  refine Sq.guardYes hS rfl rfl rfl ?_; refine r_load_sc hS hH (by repeat (first | exact Sub.nil | refine Sub.cons ?_ ?_ | exact In.here | refine In.there ?_)) rfl (by repeat (first | exact In.here | refine In.there ?_)) Fp.sc22 (by rfl) rfl ?_; clear hS; intro a hS
  refine Sq.guardYes hS rfl rfl rfl ?_; refine r_bytesStr (l := src) hS hH.kp0 rfl (hs.ext hH.mod) Fp.u8s22 Fp.isStr9 rfl ?_; clear hS; intro a hS
  refine Sq.guardYes hS rfl rfl rfl ?_; refine r_strNeq hS hH.kp0 rfl rfl rfl ?_; clear hS; intro a hS
  refine Sq.guardYes hS rfl rfl (congrArg not (beq_self_eq_true _)) ?_; refine r_pickT hS hH.kp0 rfl rfl rfl rfl ?_; clear hS; intro a hS
  refine r_pickF hS hH.kp0 rfl (congrArg not (beq_self_eq_true _)) rfl rfl ?_; clear hS; intro a hS
  refine Sq.nil ?_
  refine then_n ?_
  refine c_condF hS rfl (congrArg not (beq_self_eq_true _)) ?_
  refine wp_skip ?_
  refine then_n ?_
  refine c_seq ?_
  refine c_seq ?_
  refine reg_plain w0 (Nobody) ?_
  refine r_fieldAddr hS hH.kp0 rfl Fp.fo26_0 rfl ?_; clear hS; intro a hS
  refine r_load_sc hS hH (by repeat (first | exact Sub.nil | refine Sub.cons ?_ ?_ | exact In.here | refine In.there ?_)) rfl (by repeat (first | exact In.here | refine In.there ?_)) Fp.sc3 (by rfl) rfl ?_; clear hS; intro a hS
  refine r_eql hS hH.kp0 rfl rfl rfl ?_; clear hS; intro a hS
  refine r_move hS hH.kp0 rfl rfl ?_; clear hS; intro a hS
  refine Sq.guardNo hS rfl rfl rfl hH.kp0 rfl ?_; clear hS; intro a hS
  refine Sq.guardNo hS rfl rfl rfl hH.kp0 rfl ?_; clear hS; intro a hS
  refine Sq.guardNo hS rfl rfl rfl hH.kp0 rfl ?_; clear hS; intro a hS
  refine r_pickT hS hH.kp0 rfl rfl rfl rfl ?_; clear hS; intro a hS
  refine Sq.nil ?_
  refine then_n ?_
  refine c_condT hS rfl rfl ?_
  refine c_seq ?_
  refine reg_plain w0 (Nobody) ?_
  refine r_fieldAddr hS hH.kp0 rfl Fp.fo26_0 rfl ?_; clear hS; intro a hS
  refine r_load_sc hS hH (by repeat (first | exact Sub.nil | refine Sub.cons ?_ ?_ | exact In.here | refine In.there ?_)) rfl (by repeat (first | exact In.here | refine In.there ?_)) Fp.sc3 (by rfl) rfl ?_; clear hS; intro a hS
  refine r_neq hS hH.kp0 rfl rfl rfl ?_; clear hS; intro a hS
  refine r_move hS hH.kp0 rfl rfl ?_; clear hS; intro a hS
  refine Sq.guardYes hS rfl rfl rfl ?_; refine r_fieldAddr hS hH.kp0 rfl Fp.fo26_4 rfl ?_; clear hS; intro a hS
  refine Sq.guardYes hS rfl rfl rfl ?_; refine r_load_sc hS hH (by repeat (first | exact Sub.nil | refine Sub.cons ?_ ?_ | exact In.here | refine In.there ?_)) rfl (by repeat (first | exact In.here | refine In.there ?_)) Fp.sc22 (by rfl) rfl ?_; clear hS; intro a hS
  refine Sq.guardYes hS rfl rfl rfl ?_; refine r_bytesStr (l := tok) hS hH.kp0 rfl htv.bsB Fp.u8s22 Fp.isStr9 rfl ?_; clear hS; intro a hS
  refine Sq.guardYes hS rfl rfl rfl ?_; refine r_fieldAddr hS hH.kp0 rfl Fp.fo26_4 rfl ?_; clear hS; intro a hS
  refine Sq.guardYes hS rfl rfl rfl ?_; refine r_load_sc hS hH (by repeat (first | exact Sub.nil | refine Sub.cons ?_ ?_ | exact In.here | refine In.there ?_)) rfl (by repeat (first | exact In.here | refine In.there ?_)) Fp.sc22 (by rfl) rfl ?_; clear hS; intro a hS
  refine Sq.guardYes hS rfl rfl rfl ?_; refine r_bytesStr (l := tok) hS hH.kp0 rfl (ht.ext hH.mod) Fp.u8s22 Fp.isStr9 rfl ?_; clear hS; intro a hS
  refine Sq.guardYes hS rfl rfl rfl ?_; refine r_strEql hS hH.kp0 rfl rfl rfl ?_; clear hS; intro a hS
  refine Sq.guardYes hS rfl rfl rfl ?_; refine r_move hS hH.kp0 rfl rfl ?_; clear hS; intro a hS
  refine Sq.guardYes hS rfl rfl (beq_self_eq_true _) ?_; refine r_fieldAddr hS hH.kp0 rfl Fp.fo26_8 rfl ?_; clear hS; intro a hS
  refine Sq.guardYes hS rfl rfl (beq_self_eq_true _) ?_; refine r_load_ag hS hH (by repeat (first | exact Sub.nil | refine Sub.cons ?_ ?_ | exact In.here | refine In.there ?_)) rfl (by repeat (first | exact In.here | refine In.there ?_)) Fp.ag24 (of_decide_eq_true rfl) rfl ?_; clear hS; intro a hS
  refine Sq.guardYes hS rfl rfl (beq_self_eq_true _) ?_; refine r_fieldAddr hS hH.kp0 rfl Fp.fo26_8 rfl ?_; clear hS; intro a hS
  refine Sq.guardYes hS rfl rfl (beq_self_eq_true _) ?_; refine r_load_ag hS hH (by repeat (first | exact Sub.nil | refine Sub.cons ?_ ?_ | exact In.here | refine In.there ?_)) rfl (by repeat (first | exact In.here | refine In.there ?_)) Fp.ag24 (of_decide_eq_true rfl) rfl ?_; clear hS; intro a hS
  refine Sq.guardYes hS rfl rfl (beq_self_eq_true _) ?_; refine r_arrEql (h := [t0, t1, t2, t3, t4, t5, t6, t7, t8, t9, ta, tb, tc, td, te, tf]) (g := [t0, t1, t2, t3, t4, t5, t6, t7, t8, t9, ta, tb, tc, td, te, tf]) Fp.arrT hS hH.kp0 rfl rfl rfl rfl rfl ?_; clear hS; intro a hS
  rw [show decide ([t0, t1, t2, t3, t4, t5, t6, t7, t8, t9, ta, tb, tc, td, te, tf] = [t0, t1, t2, t3, t4, t5, t6, t7, t8, t9, ta, tb, tc, td, te, tf]) = true from decide_eq_true rfl] at hS
  refine Sq.guardYes hS rfl rfl rfl ?_; refine r_pickT hS hH.kp0 rfl (beq_self_eq_true _) rfl rfl ?_; clear hS; intro a hS
  refine r_pickF hS hH.kp0 rfl rfl rfl rfl ?_; clear hS; intro a hS
  refine r_move hS hH.kp0 rfl rfl ?_; clear hS; intro a hS
  refine Sq.guardYes hS rfl rfl rfl ?_; refine r_fieldAddr hS hH.kp0 rfl Fp.fo26_0 rfl ?_; clear hS; intro a hS
  refine Sq.guardYes hS rfl rfl rfl ?_; refine r_load_sc hS hH (by repeat (first | exact Sub.nil | refine Sub.cons ?_ ?_ | exact In.here | refine In.there ?_)) rfl (by repeat (first | exact In.here | refine In.there ?_)) Fp.sc3 (by rfl) rfl ?_; clear hS; intro a hS
  refine Sq.guardYes hS rfl rfl rfl ?_; refine r_neq hS hH.kp0 rfl rfl rfl ?_; clear hS; intro a hS
  refine Sq.guardYes hS rfl rfl rfl ?_; refine r_move hS hH.kp0 rfl rfl ?_; clear hS; intro a hS
  refine Sq.guardNo hS rfl rfl rfl hH.kp0 rfl ?_; clear hS; intro a hS
  refine Sq.guardNo hS rfl rfl rfl hH.kp0 rfl ?_; clear hS; intro a hS
  refine Sq.guardNo hS rfl rfl rfl hH.kp0 rfl ?_; clear hS; intro a hS
  refine Sq.guardNo hS rfl rfl rfl hH.kp0 rfl ?_; clear hS; intro a hS
  refine Sq.guardNo hS rfl rfl rfl hH.kp0 rfl ?_; clear hS; intro a hS
  refine Sq.guardNo hS rfl rfl rfl hH.kp0 rfl ?_; clear hS; intro a hS
  refine Sq.guardNo hS rfl rfl rfl hH.kp0 rfl ?_; clear hS; intro a hS
  refine Sq.guardYes hS rfl rfl rfl ?_; refine r_pickT hS hH.kp0 rfl rfl rfl rfl ?_; clear hS; intro a hS
  refine r_pickT hS hH.kp0 rfl rfl rfl rfl ?_; clear hS; intro a hS
  refine r_assign hS hH.kp0 rfl rfl ?_; clear hS; intro a hS
  refine Sq.nil ?_
  refine then_n ?_
  refine wp_ret ?_
  refine then_r ?_
  refine leave (.inl rfl) hS rfl (Res.tmp rfl Res.nil) ⟨?_, hH.mod⟩
  first | rfl | exact congrArg (fun z => Ending.returned (Value.bool z)) (by first | exact beq_self_eq_true _ | simp [words])

set_option maxRecDepth 100000 in
set_option maxHeartbeats 6000000 in
theorem back4_law (ve : Int) (q1 q2 q3 q4 : Option Addr) (c1 c2 c3 c4 : Nat) (dst src tok tag : List UInt8) (lst : List Int) (ln : Int) (ph : Bool) (htag : tag.length = 16) (n : Int) (low : Nat) (hlow : low < 18446744073709551616) (w0 : World) (WT : TypeId) (WF : Nat × Nat) (hw0 : w0.heap[0]? = some (.cells [.int .i64 6, .int .i64 14, .int .i64 30, .int .i64 62].toArray WT WF)) (hll : lst.length ≤ 1048576) (hlst : IsA w0 q4 c4 lst) (hd : Bs w0 (.slice q1 dst.length c1) dst) (hs : Bs w0 (.slice q2 src.length c2) src) (ht : Bs w0 (.slice q3 tok.length c3) tok) (hm : mayP 4 dst.length src.length tok.length (ln : Int) (n : Int) lst.length (badN lst)) : Calls Tryd.prog 7 #[.agg ([.int .i64 4, .int .i64 ve, .slice q1 dst.length c1, .slice q2 src.length c2, .slice q3 tok.length c3, .int .i64 (ln : Int), .bool ph, .slice q4 lst.length c4] ++ hcells tag : List Value).toArray, .int .u64 (low : Int), .int .i64 (n : Int)] w0 fun e w' => e = .returned (.bool true) ∧ Ext w0 w' := by
  refine enter Tryd.func7 rfl rfl rfl ?_
  intro a hS
  have hH := Hp.start w0 (Nobody)
  have hm2 := hm
  unfold mayP at hm2
  have hwl := wideB_le tok.length
  have hfk8 : 2 ^ formK tok.length ≤ 8 := by rw [← wideB_len tok.length]; exact hwl
  have hfk0 : 0 < 2 ^ formK tok.length := Nat.pow_pos (by decide)
  obtain ⟨t0, t1, t2, t3, t4, t5, t6, t7, t8, t9, ta, tb, tc, td, te, tf, rfl⟩ := len16 htag
  replace hH := hH.know hw0 (fun p hp => by simp at hp)
  refine c_seq ?_
  refine reg_plain w0 (Nobody) ?_
  refine r_box hS hH (by repeat (first | exact Sub.nil | refine Sub.cons ?_ ?_ | exact In.here | refine In.there ?_)) rfl rfl rfl ?_
  clear hS hH; intro a w b3 hb3 hwb3 hS hH
  refine r_assign hS hH.kp0 rfl rfl ?_; clear hS; intro a hS
  refine Sq.nil ?_
  refine then_n ?_
  refine c_seq ?_
  refine reg_plain w0 (Nobody) ?_
  refine r_load_row hS hH (by repeat (first | exact Sub.nil | refine Sub.cons ?_ ?_ | exact In.here | refine In.there ?_)) rfl (by repeat (first | exact In.here | refine In.there ?_)) Fp.ag26 (by rfl) rfl ?_; clear hS; intro a hS
  refine r_move hS hH.kp0 rfl rfl ?_; clear hS; intro a hS
  refine r_move hS hH.kp0 rfl rfl ?_; clear hS; intro a hS
  refine r_call (l := [.tmp 20, .tmp 21, .tmp 22]) hS rfl rfl Fp.fn12 rfl ?_
  refine Calls.mono (Put_4 ve q1 q2 q3 q4 c1 c2 c3 c4 dst src tok _ lst ln ph htag n low hlow _ WT WF (hH.get (b := 0) (by repeat (first | exact In.here | refine In.there ?_))) hll (hlst.ext hH.mod) (hd.ext hH.mod) (hs.ext hH.mod) (ht.ext hH.mod) hm) ?_
  rintro e w1 ⟨rx, rfl, hN, hE⟩
  obtain ⟨bx, cx, kx, hvx, hrx, hrkx, hBx⟩ := hN
  subst hvx
  have hwx := Nat.le_trans hH.mod.size hrx
  replace hH := hH.knowN hE hrx hrkx
  refine ⟨_, rfl, hH.kp0, ?_⟩
  clear hS; intro a hS
  generalize hHb : headB 4 n.toNat dst src tok ln.toNat ph lst [t0, t1, t2, t3, t4, t5, t6, t7, t8, t9, ta, tb, tc, td, te, tf] = Hb at hBx hS
  rw [List.append_nil] at hBx hS
  have hHe : Hb = startB 192 0 dst src ++ listB lst := hHb.symm
  have hHl : Hb.length = 7 + dst.length + src.length + 4 * lst.length := by rw [hHe]; simp only [List.length_append, startB_len, listB_len] <;> omega
  clear hHb
  refine r_move hS hH.kp0 rfl rfl ?_; clear hS; intro a hS
  refine r_extract hS hH.kp0 rfl rfl rfl ?_; clear hS; intro a hS
  refine r_extract hS hH.kp0 rfl rfl rfl ?_; clear hS; intro a hS
  refine r_extract hS hH.kp0 rfl rfl rfl ?_; clear hS; intro a hS
  refine r_assign hS hH.kp0 rfl rfl ?_; clear hS; intro a hS
  refine r_assign hS hH.kp0 rfl rfl ?_; clear hS; intro a hS
  refine r_assign hS hH.kp0 rfl rfl ?_; clear hS; intro a hS
  refine Sq.nil ?_
  refine then_n ?_
  refine c_seq ?_
  refine reg_plain w0 (Nobody) ?_
  refine r_buildSlice (parts := [(0, .const (.int .u8 7))]) hS hH (by repeat (first | exact Sub.nil | refine Sub.cons ?_ ?_ | exact In.here | refine In.there ?_)) rfl Fp.bsl22_1 (by rfl) rfl ?_
  clear hS hH; intro a w b28 hb28 hwb28 hS hH
  refine r_buildS (parts := [(0, .const (.int .i64 5)), (2, .tmp 28), (6, .const (.bool true))]) hS hH.kp0 rfl rfl Fp.zc26 Fp.pl26 (by rfl) ?_; clear hS; intro a hS
  refine r_call (l := [.tmp 29, .const (.int .u64 5), .const (.int .i64 1)]) hS rfl rfl Fp.fn12 rfl ?_
  refine Calls.mono (Put_5t 0 (some ⟨b28, 0, none⟩) none none none 1 0 0 0 [7] [] [] z16 [] 0 rfl 1 5 (by decide) _ WT WF (hH.get (b := 0) (by repeat (first | exact In.here | refine In.there ?_))) (by decide) ⟨rfl, by simp, Nat.le_refl _, fun i u h => by simp at h, fun _ => rfl⟩ ((BB.lit [7] rfl rfl).bs (hH.get (b := b28) (by repeat (first | exact In.here | refine In.there ?_)))) (Bs.nil _) (Bs.nil _) (by decide)) ?_
  rintro e w1 ⟨ro, rfl, hN, hE⟩
  rw [show headB 5 1 [7] [] [] (0 : Int).toNat true [] z16 ++ beB 5 1 = [68, 7, 5] from by decide] at hN
  obtain ⟨bo, co, ko, hvo, hro, hrko, hBo⟩ := hN
  subst hvo
  have hwo := Nat.le_trans hH.mod.size hro
  replace hH := hH.knowN hE hro hrko
  refine ⟨_, rfl, hH.kp0, ?_⟩
  clear hS; intro a hS
  refine r_move hS hH.kp0 rfl rfl ?_; clear hS; intro a hS
  refine r_extract hS hH.kp0 rfl rfl rfl ?_; clear hS; intro a hS
  refine r_extract hS hH.kp0 rfl rfl rfl ?_; clear hS; intro a hS
  refine r_extract hS hH.kp0 rfl rfl rfl ?_; clear hS; intro a hS
  refine r_assign hS hH.kp0 rfl rfl ?_; clear hS; intro a hS
  refine r_assign hS hH.kp0 rfl rfl ?_; clear hS; intro a hS
  refine r_assign hS hH.kp0 rfl rfl ?_; clear hS; intro a hS
  refine Sq.nil ?_
  refine then_n ?_
  refine c_seq ?_
  refine c_seq ?_
  refine reg_plain w0 (Nobody) ?_
  refine r_move hS hH.kp0 rfl rfl ?_; clear hS; intro a hS
  refine r_bytesStr (l := [68, 7, 5]) hS hH.kp0 rfl (hBo.bs (hH.get (b := bo) (by repeat (first | exact In.here | refine In.there ?_)))) Fp.u8s22 Fp.isStr9 rfl ?_; clear hS; intro a hS
  refine r_strNeq hS hH.kp0 rfl rfl rfl ?_; clear hS; intro a hS
  rw [s447] at hS
  refine r_move hS hH.kp0 rfl rfl ?_; clear hS; intro a hS
  refine Sq.guardYes hS rfl rfl rfl ?_; refine r_move hS hH.kp0 rfl rfl ?_; clear hS; intro a hS
  refine Sq.guardYes hS rfl rfl rfl ?_; refine r_neq hS hH.kp0 rfl rfl rfl ?_; clear hS; intro a hS
  refine r_pickF hS hH.kp0 rfl rfl rfl rfl ?_; clear hS; intro a hS
  refine Sq.nil ?_
  refine then_n ?_
  refine c_condF hS rfl rfl ?_
  refine wp_skip ?_
  refine then_n ?_
  refine c_seq ?_
  refine c_seq ?_
  refine reg_plain w0 (Nobody) ?_
  refine r_move hS hH.kp0 rfl rfl ?_; clear hS; intro a hS
  refine r_neq hS hH.kp0 rfl rfl rfl ?_; clear hS; intro a hS
  refine Sq.nil ?_
  refine then_n ?_
  refine c_condF hS rfl rfl ?_
  refine wp_skip ?_
  refine then_n ?_
  refine c_seq ?_
  refine reg_plain w0 (Nobody) ?_
  refine r_assign hS hH.kp0 rfl rfl ?_; clear hS; intro a hS
  refine Sq.nil ?_
  refine then_n ?_
  refine c_seq ?_
  refine c_seq ?_
  refine reg_plain w0 (Nobody) ?_
  refine r_fieldAddr hS hH.kp0 rfl Fp.fo26_0 rfl ?_; clear hS; intro a hS
  refine r_load_sc hS hH (by repeat (first | exact Sub.nil | refine Sub.cons ?_ ?_ | exact In.here | refine In.there ?_)) rfl (by repeat (first | exact In.here | refine In.there ?_)) Fp.sc3 (by rfl) rfl ?_; clear hS; intro a hS
  refine r_eql hS hH.kp0 rfl rfl rfl ?_; clear hS; intro a hS
  refine Sq.nil ?_
  refine then_n ?_
  refine c_condF hS rfl rfl ?_
  refine wp_skip ?_
  refine then_n ?_
  refine c_seq ?_
  refine c_seq ?_
  refine reg_plain w0 (Nobody) ?_
  refine r_fieldAddr hS hH.kp0 rfl Fp.fo26_0 rfl ?_; clear hS; intro a hS
  refine r_load_sc hS hH (by repeat (first | exact Sub.nil | refine Sub.cons ?_ ?_ | exact In.here | refine In.there ?_)) rfl (by repeat (first | exact In.here | refine In.there ?_)) Fp.sc3 (by rfl) rfl ?_; clear hS; intro a hS
  refine r_leq hS hH.kp0 rfl rfl rfl ?_; clear hS; intro a hS
  refine Sq.nil ?_
  refine then_n ?_
  refine c_condF hS rfl rfl ?_
  refine wp_skip ?_
  refine then_n ?_
  refine c_seq ?_
  refine c_seq ?_
  refine reg_plain w0 (Nobody) ?_
  refine r_fieldAddr hS hH.kp0 rfl Fp.fo26_0 rfl ?_; clear hS; intro a hS
  refine r_load_sc hS hH (by repeat (first | exact Sub.nil | refine Sub.cons ?_ ?_ | exact In.here | refine In.there ?_)) rfl (by repeat (first | exact In.here | refine In.there ?_)) Fp.sc3 (by rfl) rfl ?_; clear hS; intro a hS
  refine r_eql hS hH.kp0 rfl rfl rfl ?_; clear hS; intro a hS
  refine r_move hS hH.kp0 rfl rfl ?_; clear hS; intro a hS
  refine Sq.guardYes hS rfl rfl rfl ?_; refine r_fieldAddr hS hH.kp0 rfl Fp.fo26_0 rfl ?_; clear hS; intro a hS
  refine Sq.guardYes hS rfl rfl rfl ?_; refine r_load_sc hS hH (by repeat (first | exact Sub.nil | refine Sub.cons ?_ ?_ | exact In.here | refine In.there ?_)) rfl (by repeat (first | exact In.here | refine In.there ?_)) Fp.sc3 (by rfl) rfl ?_; clear hS; intro a hS
  refine Sq.guardYes hS rfl rfl rfl ?_; refine r_eql hS hH.kp0 rfl rfl rfl ?_; clear hS; intro a hS
  refine r_pickF hS hH.kp0 rfl rfl rfl rfl ?_; clear hS; intro a hS
  refine Sq.nil ?_
  refine then_n ?_
  refine c_condT hS rfl rfl ?_
  refine reg_plain w0 (Nobody) ?_
  refine r_move hS hH.kp0 rfl rfl ?_; clear hS; intro a hS
  refine r_move hS hH.kp0 rfl rfl ?_; clear hS; intro a hS
  refine r_slHi (hh := Hb.length) hS hH.kp0 rfl rfl Fp.slb22 rfl hBx.le (by intro q h; cases h; rfl) rfl ?_; clear hS; intro a hS
  refine r_assign hS hH.kp0 rfl rfl ?_; clear hS; intro a hS
  refine Sq.nil ?_
  refine then_n ?_
  refine c_seq ?_
  refine reg_plain w0 (Nobody) ?_
  refine r_move hS hH.kp0 rfl rfl ?_; clear hS; intro a hS
  refine r_move hS hH.kp0 rfl rfl ?_; clear hS; intro a hS
  refine r_call (l := [.tmp 75, .tmp 76]) hS rfl rfl Fp.fn8 rfl ?_
  refine Calls.mono (Read_c (some ⟨bx, 0, none⟩) cx (Hb) (by omega) 0 _ WT WF (hH.get (b := 0) (by repeat (first | exact In.here | refine In.there ?_))) (hBx.bs (hH.get (b := bx) (by repeat (first | exact In.here | refine In.there ?_))))) ?_
  rintro e w1 ⟨cs, y, z, rfl, hrd, hE⟩
  rw [← refQ_eq, back_4 hHe (by omega) (by omega) (by omega)] at hrd
  obtain ⟨⟨dv, sv, tv, gv, hcs, hdv, hsv, htv, hgv, _⟩, hy9, hz9⟩ := hrd
  subst hcs hy9 hz9
  obtain ⟨bg, cg, lg, hvg, _⟩ := hgv.resolve_left (fun h => by have := h.2.1; rw [show (words Hb (7 + dst.length + src.length) lst.length).length = lst.length from by simp [words]] at this; omega)
  subst hvg
  replace hH := hH.ext hE
  refine ⟨_, rfl, hH.kp0, ?_⟩
  clear hS; intro a hS
  refine r_move hS hH.kp0 rfl rfl ?_; clear hS; intro a hS
  refine r_extract hS hH.kp0 rfl rfl rfl ?_; clear hS; intro a hS
  refine r_extract hS hH.kp0 rfl rfl rfl ?_; clear hS; intro a hS
  refine r_extract hS hH.kp0 rfl rfl rfl ?_; clear hS; intro a hS
  refine r_allocE hS hH (by repeat (first | exact Sub.nil | refine Sub.cons ?_ ?_ | exact In.here | refine In.there ?_)) Fp.zc26 rfl ?_; clear hS hH; intro a w bh hbh hwbh hE2 hS hH
  refine r_store_rowM hS hH rfl rfl (by first | exact .here | exact .there .here | exact .there (.there .here) | exact .there (.there (.there .here)) | exact .there (.there (.there (.there .here))) | exact .there (.there (.there (.there (.there .here)))) | exact .there (.there (.there (.there (.there (.there .here))))) | exact .there (.there (.there (.there (.there (.there (.there .here)))))) | exact .there (.there (.there (.there (.there (.there (.there (.there .here))))))) | exact .there (.there (.there (.there (.there (.there (.there (.there (.there .here)))))))) | exact .there (.there (.there (.there (.there (.there (.there (.there (.there (.there .here))))))))) | exact .there (.there (.there (.there (.there (.there (.there (.there (.there (.there (.there .here)))))))))) | exact .there (.there (.there (.there (.there (.there (.there (.there (.there (.there (.there (.there .here))))))))))) | exact .there (.there (.there (.there (.there (.there (.there (.there (.there (.there (.there (.there (.there .here)))))))))))) | exact .there (.there (.there (.there (.there (.there (.there (.there (.there (.there (.there (.there (.there (.there .here))))))))))))) | exact .there (.there (.there (.there (.there (.there (.there (.there (.there (.there (.there (.there (.there (.there (.there .here))))))))))))))) (by repeat (first | exact Sub.nil | refine Sub.cons ?_ ?_ | exact In.here | refine In.there ?_)) Fp.sz26 (hdr_one hdv.oneB hsv.oneB htv.oneB rfl) (by rfl) (.inr hbh) ?_; clear hH; intro w hM2 hH
  have hdv := hdv.new hE2 hM2 hwbh
  have hsv := hsv.new hE2 hM2 hwbh
  have htv := htv.new hE2 hM2 hwbh
  refine r_assign hS hH.kp0 rfl rfl ?_; clear hS; intro a hS
  refine r_assign hS hH.kp0 rfl rfl ?_; clear hS; intro a hS
  refine Sq.nil ?_
  refine then_n ?_
  refine c_seq ?_
  refine c_seq ?_
  refine reg_plain w0 (Nobody) ?_
  refine r_move hS hH.kp0 rfl rfl ?_; clear hS; intro a hS
  refine r_neq hS hH.kp0 rfl rfl rfl ?_; clear hS; intro a hS
  refine r_move hS hH.kp0 rfl rfl ?_; clear hS; intro a hS
  refine Sq.guardYes hS rfl rfl rfl ?_; refine r_move hS hH.kp0 rfl rfl ?_; clear hS; intro a hS
  refine Sq.guardYes hS rfl rfl rfl ?_; refine r_move hS hH.kp0 rfl rfl ?_; clear hS; intro a hS
  refine Sq.guardYes hS rfl rfl rfl ?_; refine r_neq hS hH.kp0 rfl rfl rfl ?_; clear hS; intro a hS
  refine r_pickF hS hH.kp0 rfl rfl rfl rfl ?_; clear hS; intro a hS
  refine r_move hS hH.kp0 rfl rfl ?_; clear hS; intro a hS
  refine Sq.guardYes hS rfl rfl (bne_eq_false_iff_eq.2 (by omega)) ?_; refine r_fieldAddr hS hH.kp0 rfl Fp.fo26_0 rfl ?_; clear hS; intro a hS
  refine Sq.guardYes hS rfl rfl (bne_eq_false_iff_eq.2 (by omega)) ?_; refine r_load_sc hS hH (by repeat (first | exact Sub.nil | refine Sub.cons ?_ ?_ | exact In.here | refine In.there ?_)) rfl (by repeat (first | exact In.here | refine In.there ?_)) Fp.sc3 (by rfl) rfl ?_; clear hS; intro a hS
  refine Sq.guardYes hS rfl rfl (bne_eq_false_iff_eq.2 (by omega)) ?_; refine r_fieldAddr hS hH.kp0 rfl Fp.fo26_0 rfl ?_; clear hS; intro a hS
  refine Sq.guardYes hS rfl rfl (bne_eq_false_iff_eq.2 (by omega)) ?_; refine r_load_sc hS hH (by repeat (first | exact Sub.nil | refine Sub.cons ?_ ?_ | exact In.here | refine In.there ?_)) rfl (by repeat (first | exact In.here | refine In.there ?_)) Fp.sc3 (by rfl) rfl ?_; clear hS; intro a hS
  refine Sq.guardYes hS rfl rfl (bne_eq_false_iff_eq.2 (by omega)) ?_; refine r_neq hS hH.kp0 rfl rfl rfl ?_; clear hS; intro a hS
  refine r_pickF hS hH.kp0 rfl (bne_eq_false_iff_eq.2 (by omega)) rfl rfl ?_; clear hS; intro a hS
  refine r_move hS hH.kp0 rfl rfl ?_; clear hS; intro a hS
  refine Sq.guardYes hS rfl rfl rfl ?_; refine r_fieldAddr hS hH.kp0 rfl Fp.fo26_2 rfl ?_; clear hS; intro a hS
  refine Sq.guardYes hS rfl rfl rfl ?_; refine r_load_sc hS hH (by repeat (first | exact Sub.nil | refine Sub.cons ?_ ?_ | exact In.here | refine In.there ?_)) rfl (by repeat (first | exact In.here | refine In.there ?_)) Fp.sc22 (by rfl) rfl ?_; clear hS; intro a hS
  refine Sq.guardYes hS rfl rfl rfl ?_; refine r_bytesStr (l := dst) hS hH.kp0 rfl hdv.bsB Fp.u8s22 Fp.isStr9 rfl ?_; clear hS; intro a hS
  refine Sq.guardYes hS rfl rfl rfl ?_; refine r_fieldAddr hS hH.kp0 rfl Fp.fo26_2 rfl ?_; clear hS; intro a hS
  refine Sq.guardYes hS rfl rfl rfl ?_; refine r_load_sc hS hH (by repeat (first | exact Sub.nil | refine Sub.cons ?_ ?_ | exact In.here | refine In.there ?_)) rfl (by repeat (first | exact In.here | refine In.there ?_)) Fp.sc22 (by rfl) rfl ?_; clear hS; intro a hS
  refine Sq.guardYes hS rfl rfl rfl ?_; refine r_bytesStr (l := dst) hS hH.kp0 rfl (hd.ext hH.mod) Fp.u8s22 Fp.isStr9 rfl ?_; clear hS; intro a hS
  refine Sq.guardYes hS rfl rfl rfl ?_; refine r_strNeq hS hH.kp0 rfl rfl rfl ?_; clear hS; intro a hS
  refine r_pickF hS hH.kp0 rfl rfl rfl rfl ?_; clear hS; intro a hS
  refine r_move hS hH.kp0 rfl rfl ?_; clear hS; intro a hS
  refine Sq.guardYes hS rfl rfl (congrArg not (beq_self_eq_true _)) ?_; refine r_fieldAddr hS hH.kp0 rfl Fp.fo26_0 rfl ?_; clear hS; intro a hS
  refine Sq.guardYes hS rfl rfl (congrArg not (beq_self_eq_true _)) ?_; refine r_load_sc hS hH (by repeat (first | exact Sub.nil | refine Sub.cons ?_ ?_ | exact In.here | refine In.there ?_)) rfl (by repeat (first | exact In.here | refine In.there ?_)) Fp.sc3 (by rfl) rfl ?_; clear hS; intro a hS
  refine Sq.guardYes hS rfl rfl (congrArg not (beq_self_eq_true _)) ?_; refine r_neq hS hH.kp0 rfl rfl rfl ?_; clear hS; intro a hS
  refine Sq.guardYes hS rfl rfl (congrArg not (beq_self_eq_true _)) ?_; refine r_move hS hH.kp0 rfl rfl ?_; clear hS; intro a hS
  refine Sq.guardYes hS rfl rfl rfl ?_; refine r_fieldAddr hS hH.kp0 rfl Fp.fo26_3 rfl ?_; clear hS; intro a hS
  refine Sq.guardYes hS rfl rfl rfl ?_; refine r_load_sc hS hH (by repeat (first | exact Sub.nil | refine Sub.cons ?_ ?_ | exact In.here | refine In.there ?_)) rfl (by repeat (first | exact In.here | refine In.there ?_)) Fp.sc22 (by rfl) rfl ?_; clear hS; intro a hS
  refine Sq.guardYes hS rfl rfl rfl ?_; refine r_bytesStr (l := src) hS hH.kp0 rfl hsv.bsB Fp.u8s22 Fp.isStr9 rfl ?_; clear hS; intro a hS
  refine Sq.guardYes hS rfl rfl rfl ?_; refine r_fieldAddr hS hH.kp0 rfl Fp.fo26_3 rfl ?_; clear hS; intro a hS
  refine Sq.guardYes hS rfl rfl rfl ?_; refine r_load_sc hS hH (by repeat (first | exact Sub.nil | refine Sub.cons ?_ ?_ | exact In.here | refine In.there ?_)) rfl (by repeat (first | exact In.here | refine In.there ?_)) Fp.sc22 (by rfl) rfl ?_; clear hS; intro a hS
  refine Sq.guardYes hS rfl rfl rfl ?_; refine r_bytesStr (l := src) hS hH.kp0 rfl (hs.ext hH.mod) Fp.u8s22 Fp.isStr9 rfl ?_; clear hS; intro a hS
  refine Sq.guardYes hS rfl rfl rfl ?_; refine r_strNeq hS hH.kp0 rfl rfl rfl ?_; clear hS; intro a hS
  refine Sq.guardYes hS rfl rfl (congrArg not (beq_self_eq_true _)) ?_; refine r_pickT hS hH.kp0 rfl rfl rfl rfl ?_; clear hS; intro a hS
  refine r_pickF hS hH.kp0 rfl (congrArg not (beq_self_eq_true _)) rfl rfl ?_; clear hS; intro a hS
  refine Sq.nil ?_
  refine then_n ?_
  refine c_condF hS rfl (congrArg not (beq_self_eq_true _)) ?_
  refine wp_skip ?_
  refine then_n ?_
  refine c_seq ?_
  refine c_seq ?_
  refine reg_plain w0 (Nobody) ?_
  refine r_fieldAddr hS hH.kp0 rfl Fp.fo26_0 rfl ?_; clear hS; intro a hS
  refine r_load_sc hS hH (by repeat (first | exact Sub.nil | refine Sub.cons ?_ ?_ | exact In.here | refine In.there ?_)) rfl (by repeat (first | exact In.here | refine In.there ?_)) Fp.sc3 (by rfl) rfl ?_; clear hS; intro a hS
  refine r_eql hS hH.kp0 rfl rfl rfl ?_; clear hS; intro a hS
  refine r_move hS hH.kp0 rfl rfl ?_; clear hS; intro a hS
  refine Sq.guardYes hS rfl rfl rfl ?_; refine r_fieldAddr hS hH.kp0 rfl Fp.fo26_0 rfl ?_; clear hS; intro a hS
  refine Sq.guardYes hS rfl rfl rfl ?_; refine r_load_sc hS hH (by repeat (first | exact Sub.nil | refine Sub.cons ?_ ?_ | exact In.here | refine In.there ?_)) rfl (by repeat (first | exact In.here | refine In.there ?_)) Fp.sc3 (by rfl) rfl ?_; clear hS; intro a hS
  refine Sq.guardYes hS rfl rfl rfl ?_; refine r_eql hS hH.kp0 rfl rfl rfl ?_; clear hS; intro a hS
  refine r_pickF hS hH.kp0 rfl rfl rfl rfl ?_; clear hS; intro a hS
  refine Sq.nil ?_
  refine then_n ?_
  refine c_condT hS rfl rfl ?_
  refine c_seq ?_
  refine reg_plain w0 (Nobody) ?_
  refine r_fieldAddr hS hH.kp0 rfl Fp.fo26_0 rfl ?_; clear hS; intro a hS
  refine r_load_sc hS hH (by repeat (first | exact Sub.nil | refine Sub.cons ?_ ?_ | exact In.here | refine In.there ?_)) rfl (by repeat (first | exact In.here | refine In.there ?_)) Fp.sc3 (by rfl) rfl ?_; clear hS; intro a hS
  refine r_neq hS hH.kp0 rfl rfl rfl ?_; clear hS; intro a hS
  refine r_move hS hH.kp0 rfl rfl ?_; clear hS; intro a hS
  refine Sq.guardNo hS rfl rfl rfl hH.kp0 rfl ?_; clear hS; intro a hS
  refine Sq.guardNo hS rfl rfl rfl hH.kp0 rfl ?_; clear hS; intro a hS
  refine Sq.guardNo hS rfl rfl rfl hH.kp0 rfl ?_; clear hS; intro a hS
  refine Sq.guardNo hS rfl rfl rfl hH.kp0 rfl ?_; clear hS; intro a hS
  refine Sq.guardNo hS rfl rfl rfl hH.kp0 rfl ?_; clear hS; intro a hS
  refine Sq.guardNo hS rfl rfl rfl hH.kp0 rfl ?_; clear hS; intro a hS
  refine Sq.guardNo hS rfl rfl rfl hH.kp0 rfl ?_; clear hS; intro a hS
  refine Sq.guardNo hS rfl rfl rfl hH.kp0 rfl ?_; clear hS; intro a hS
  refine Sq.guardOff hS rfl rfl hH.kp0 rfl ?_; clear hS; intro a hS
  refine Sq.guardOff hS rfl rfl hH.kp0 rfl ?_; clear hS; intro a hS
  refine Sq.guardOff hS rfl rfl hH.kp0 rfl ?_; clear hS; intro a hS
  refine Sq.guardOff hS rfl rfl hH.kp0 rfl ?_; clear hS; intro a hS
  refine Sq.guardOff hS rfl rfl hH.kp0 rfl ?_; clear hS; intro a hS
  refine Sq.guardNo hS rfl rfl rfl hH.kp0 rfl ?_; clear hS; intro a hS
  refine r_pickT hS hH.kp0 rfl rfl rfl rfl ?_; clear hS; intro a hS
  refine r_move hS hH.kp0 rfl rfl ?_; clear hS; intro a hS
  refine Sq.guardYes hS rfl rfl rfl ?_; refine r_fieldAddr hS hH.kp0 rfl Fp.fo26_0 rfl ?_; clear hS; intro a hS
  refine Sq.guardYes hS rfl rfl rfl ?_; refine r_load_sc hS hH (by repeat (first | exact Sub.nil | refine Sub.cons ?_ ?_ | exact In.here | refine In.there ?_)) rfl (by repeat (first | exact In.here | refine In.there ?_)) Fp.sc3 (by rfl) rfl ?_; clear hS; intro a hS
  refine Sq.guardYes hS rfl rfl rfl ?_; refine r_neq hS hH.kp0 rfl rfl rfl ?_; clear hS; intro a hS
  refine Sq.guardYes hS rfl rfl rfl ?_; refine r_move hS hH.kp0 rfl rfl ?_; clear hS; intro a hS
  refine Sq.guardYes hS rfl rfl rfl ?_; refine r_fieldAddr hS hH.kp0 rfl Fp.fo26_7 rfl ?_; clear hS; intro a hS
  refine Sq.guardYes hS rfl rfl rfl ?_; refine r_load_sc hS hH (by repeat (first | exact Sub.nil | refine Sub.cons ?_ ?_ | exact In.here | refine In.there ?_)) rfl (by repeat (first | exact In.here | refine In.there ?_)) Fp.sc23 (by rfl) rfl ?_; clear hS; intro a hS
  refine Sq.guardYes hS rfl rfl rfl ?_; refine r_lenSl hS hH.kp0 rfl Fp.isSlice23 rfl ?_; clear hS; intro a hS
  refine Sq.guardYes hS rfl rfl rfl ?_; refine r_fieldAddr hS hH.kp0 rfl Fp.fo26_7 rfl ?_; clear hS; intro a hS
  refine Sq.guardYes hS rfl rfl rfl ?_; refine r_load_sc hS hH (by repeat (first | exact Sub.nil | refine Sub.cons ?_ ?_ | exact In.here | refine In.there ?_)) rfl (by repeat (first | exact In.here | refine In.there ?_)) Fp.sc23 (by rfl) rfl ?_; clear hS; intro a hS
  refine Sq.guardYes hS rfl rfl rfl ?_; refine r_lenSl hS hH.kp0 rfl Fp.isSlice23 rfl ?_; clear hS; intro a hS
  refine Sq.guardYes hS rfl rfl rfl ?_; refine r_eql hS hH.kp0 rfl rfl rfl ?_; clear hS; intro a hS
  refine Sq.guardYes hS rfl rfl rfl ?_; refine r_pickF hS hH.kp0 rfl rfl rfl rfl ?_; clear hS; intro a hS
  refine r_pickT hS hH.kp0 rfl rfl rfl rfl ?_; clear hS; intro a hS
  refine r_assign hS hH.kp0 rfl rfl ?_; clear hS; intro a hS
  refine Sq.nil ?_
  refine then_n ?_
  refine wp_ret ?_
  refine then_r ?_
  refine leave (.inl rfl) hS rfl (Res.tmp rfl Res.nil) ⟨?_, hH.mod⟩
  first | rfl | exact congrArg (fun z => Ending.returned (Value.bool z)) (by first | exact beq_self_eq_true _ | simp [words])

set_option maxRecDepth 100000 in
set_option maxHeartbeats 2000000 in
theorem back_bad (kd ve : Int) (q1 q2 q3 q4 : Option Addr) (c1 c2 c3 c4 : Nat) (dst src tok tag : List UInt8) (lst : List Int) (ln : Int) (ph : Bool) (htag : tag.length = 16) (n : Int) (low : Nat) (hlow : low < 18446744073709551616) (w0 : World) (WT : TypeId) (WF : Nat × Nat) (hw0 : w0.heap[0]? = some (.cells [.int .i64 6, .int .i64 14, .int .i64 30, .int .i64 62].toArray WT WF)) (hll : lst.length ≤ 1048576) (hlst : IsA w0 q4 c4 lst) (hm : ¬ mayP kd dst.length src.length tok.length ln n lst.length (badN lst)) : Calls Tryd.prog 7 #[.agg ([.int .i64 kd, .int .i64 ve, .slice q1 dst.length c1, .slice q2 src.length c2, .slice q3 tok.length c3, .int .i64 ln, .bool ph, .slice q4 lst.length c4] ++ hcells tag : List Value).toArray, .int .u64 (low : Int), .int .i64 n] w0 fun e w' => e = .returned (.bool true) ∧ Ext w0 w' := by
  refine enter Tryd.func7 rfl rfl rfl ?_
  intro a hS
  have hH := Hp.start w0 (Nobody)
  obtain ⟨t0, t1, t2, t3, t4, t5, t6, t7, t8, t9, ta, tb, tc, td, te, tf, rfl⟩ := len16 htag
  replace hH := hH.know hw0 (fun p hp => by simp at hp)
  refine c_seq ?_
  refine reg_plain w0 (Nobody) ?_
  refine r_box hS hH (by repeat (first | exact Sub.nil | refine Sub.cons ?_ ?_ | exact In.here | refine In.there ?_)) rfl rfl rfl ?_
  clear hS hH; intro a w b3 hb3 hwb3 hS hH
  refine r_assign hS hH.kp0 rfl rfl ?_; clear hS; intro a hS
  refine Sq.nil ?_
  refine then_n ?_
  refine c_seq ?_
  refine reg_plain w0 (Nobody) ?_
  refine r_load_row hS hH (by repeat (first | exact Sub.nil | refine Sub.cons ?_ ?_ | exact In.here | refine In.there ?_)) rfl (by repeat (first | exact In.here | refine In.there ?_)) Fp.ag26 (by rfl) rfl ?_; clear hS; intro a hS
  refine r_move hS hH.kp0 rfl rfl ?_; clear hS; intro a hS
  refine r_move hS hH.kp0 rfl rfl ?_; clear hS; intro a hS
  refine r_call (l := [.tmp 20, .tmp 21, .tmp 22]) hS rfl rfl Fp.fn12 rfl ?_
  refine Calls.mono (Put_bad kd ve q1 q2 q3 q4 c1 c2 c3 c4 dst src tok _ lst ln ph htag n low _ (by omega) (hlst.ext hH.mod) hm) ?_
  rintro e w1 ⟨rfl, hE⟩
  replace hH := hH.ext hE
  refine ⟨_, rfl, hH.kp0, ?_⟩
  clear hS; intro a hS
  refine r_move hS hH.kp0 rfl rfl ?_; clear hS; intro a hS
  refine r_extract hS hH.kp0 rfl rfl rfl ?_; clear hS; intro a hS
  refine r_extract hS hH.kp0 rfl rfl rfl ?_; clear hS; intro a hS
  refine r_extract hS hH.kp0 rfl rfl rfl ?_; clear hS; intro a hS
  refine r_assign hS hH.kp0 rfl rfl ?_; clear hS; intro a hS
  refine r_assign hS hH.kp0 rfl rfl ?_; clear hS; intro a hS
  refine r_assign hS hH.kp0 rfl rfl ?_; clear hS; intro a hS
  refine Sq.nil ?_
  refine then_n ?_
  refine c_seq ?_
  refine reg_plain w0 (Nobody) ?_
  refine r_buildSlice (parts := [(0, .const (.int .u8 7))]) hS hH (by repeat (first | exact Sub.nil | refine Sub.cons ?_ ?_ | exact In.here | refine In.there ?_)) rfl Fp.bsl22_1 (by rfl) rfl ?_
  clear hS hH; intro a w b28 hb28 hwb28 hS hH
  refine r_buildS (parts := [(0, .const (.int .i64 5)), (2, .tmp 28), (6, .const (.bool true))]) hS hH.kp0 rfl rfl Fp.zc26 Fp.pl26 (by rfl) ?_; clear hS; intro a hS
  refine r_call (l := [.tmp 29, .const (.int .u64 5), .const (.int .i64 1)]) hS rfl rfl Fp.fn12 rfl ?_
  refine Calls.mono (Put_5t 0 (some ⟨b28, 0, none⟩) none none none 1 0 0 0 [7] [] [] z16 [] 0 rfl 1 5 (by decide) _ WT WF (hH.get (b := 0) (by repeat (first | exact In.here | refine In.there ?_))) (by decide) ⟨rfl, by simp, Nat.le_refl _, fun i u h => by simp at h, fun _ => rfl⟩ ((BB.lit [7] rfl rfl).bs (hH.get (b := b28) (by repeat (first | exact In.here | refine In.there ?_)))) (Bs.nil _) (Bs.nil _) (by decide)) ?_
  rintro e w1 ⟨ro, rfl, hN, hE⟩
  rw [show headB 5 1 [7] [] [] (0 : Int).toNat true [] z16 ++ beB 5 1 = [68, 7, 5] from by decide] at hN
  obtain ⟨bo, co, ko, hvo, hro, hrko, hBo⟩ := hN
  subst hvo
  have hwo := Nat.le_trans hH.mod.size hro
  replace hH := hH.knowN hE hro hrko
  refine ⟨_, rfl, hH.kp0, ?_⟩
  clear hS; intro a hS
  refine r_move hS hH.kp0 rfl rfl ?_; clear hS; intro a hS
  refine r_extract hS hH.kp0 rfl rfl rfl ?_; clear hS; intro a hS
  refine r_extract hS hH.kp0 rfl rfl rfl ?_; clear hS; intro a hS
  refine r_extract hS hH.kp0 rfl rfl rfl ?_; clear hS; intro a hS
  refine r_assign hS hH.kp0 rfl rfl ?_; clear hS; intro a hS
  refine r_assign hS hH.kp0 rfl rfl ?_; clear hS; intro a hS
  refine r_assign hS hH.kp0 rfl rfl ?_; clear hS; intro a hS
  refine Sq.nil ?_
  refine then_n ?_
  refine c_seq ?_
  refine c_seq ?_
  refine reg_plain w0 (Nobody) ?_
  refine r_move hS hH.kp0 rfl rfl ?_; clear hS; intro a hS
  refine r_bytesStr (l := [68, 7, 5]) hS hH.kp0 rfl (hBo.bs (hH.get (b := bo) (by repeat (first | exact In.here | refine In.there ?_)))) Fp.u8s22 Fp.isStr9 rfl ?_; clear hS; intro a hS
  refine r_strNeq hS hH.kp0 rfl rfl rfl ?_; clear hS; intro a hS
  rw [s447] at hS
  refine r_move hS hH.kp0 rfl rfl ?_; clear hS; intro a hS
  refine Sq.guardYes hS rfl rfl rfl ?_; refine r_move hS hH.kp0 rfl rfl ?_; clear hS; intro a hS
  refine Sq.guardYes hS rfl rfl rfl ?_; refine r_neq hS hH.kp0 rfl rfl rfl ?_; clear hS; intro a hS
  refine r_pickF hS hH.kp0 rfl rfl rfl rfl ?_; clear hS; intro a hS
  refine Sq.nil ?_
  refine then_n ?_
  refine c_condF hS rfl rfl ?_
  refine wp_skip ?_
  refine then_n ?_
  refine c_seq ?_
  refine c_seq ?_
  refine reg_plain w0 (Nobody) ?_
  refine r_move hS hH.kp0 rfl rfl ?_; clear hS; intro a hS
  refine r_neq hS hH.kp0 rfl rfl rfl ?_; clear hS; intro a hS
  refine Sq.nil ?_
  refine then_n ?_
  refine c_condT hS rfl rfl ?_
  refine c_seq ?_
  refine reg_plain w0 (Nobody) ?_
  refine r_move hS hH.kp0 rfl rfl ?_; clear hS; intro a hS
  refine r_lenSl hS hH.kp0 rfl Fp.isSlice22 rfl ?_; clear hS; intro a hS
  refine r_eql hS hH.kp0 rfl rfl rfl ?_; clear hS; intro a hS
  refine r_move hS hH.kp0 rfl rfl ?_; clear hS; intro a hS
  refine Sq.guardYes hS rfl rfl rfl ?_; refine r_move hS hH.kp0 rfl rfl ?_; clear hS; intro a hS
  refine Sq.guardYes hS rfl rfl rfl ?_; refine r_eql hS hH.kp0 rfl rfl rfl ?_; clear hS; intro a hS
  refine r_pickT hS hH.kp0 rfl rfl rfl rfl ?_; clear hS; intro a hS
  refine r_assign hS hH.kp0 rfl rfl ?_; clear hS; intro a hS
  refine Sq.nil ?_
  refine then_n ?_
  refine wp_ret ?_
  refine then_r ?_
  exact leave (.inl rfl) hS rfl (Res.tmp rfl Res.nil) ⟨rfl, hH.mod⟩


theorem back_law (kd ve : Int) (q1 q2 q3 q4 : Option Addr) (c1 c2 c3 c4 : Nat) (dst src tok tag : List UInt8) (lst : List Int) (ln : Int) (ph : Bool) (htag : tag.length = 16) (n : Int) (low : Nat) (hlow : low < 18446744073709551616) (w0 : World) (WT : TypeId) (WF : Nat × Nat) (hw0 : w0.heap[0]? = some (.cells [.int .i64 6, .int .i64 14, .int .i64 30, .int .i64 62].toArray WT WF)) (hll : lst.length ≤ 1048576) (hlst : IsA w0 q4 c4 lst) (hd : Bs w0 (.slice q1 dst.length c1) dst) (hs : Bs w0 (.slice q2 src.length c2) src) (ht : Bs w0 (.slice q3 tok.length c3) tok) : Calls Tryd.prog 7 #[.agg ([.int .i64 kd, .int .i64 ve, .slice q1 dst.length c1, .slice q2 src.length c2, .slice q3 tok.length c3, .int .i64 ln, .bool ph, .slice q4 lst.length c4] ++ hcells tag : List Value).toArray, .int .u64 (low : Int), .int .i64 n] w0 fun e w' => e = .returned (.bool true) ∧ Ext w0 w' := by
  by_cases hm : mayP kd dst.length src.length tok.length ln n lst.length (badN lst)
  · have hm2 := hm
    unfold mayP at hm2
    rcases (by omega : kd = 0 ∨ kd = 1 ∨ kd = 2 ∨ kd = 3 ∨ kd = 4 ∨ kd = 5) with rfl | rfl | rfl | rfl | rfl | rfl
    · obtain ⟨n', rfl⟩ := Int.eq_ofNat_of_zero_le (show 0 ≤ n by omega)
      obtain ⟨ln', rfl⟩ := Int.eq_ofNat_of_zero_le (show 0 ≤ ln by omega)
      exact back0_law ve q1 q2 q3 q4 c1 c2 c3 c4 dst src tok tag lst ln' ph htag n' low hlow w0 WT WF hw0 hll hlst hd hs ht hm
    · obtain ⟨n', rfl⟩ := Int.eq_ofNat_of_zero_le (show 0 ≤ n by omega)
      obtain ⟨ln', rfl⟩ := Int.eq_ofNat_of_zero_le (show 0 ≤ ln by omega)
      exact back1_law ve q1 q2 q3 q4 c1 c2 c3 c4 dst src tok tag lst ln' ph htag n' low hlow w0 WT WF hw0 hll hlst hd hs ht hm
    · obtain ⟨n', rfl⟩ := Int.eq_ofNat_of_zero_le (show 0 ≤ n by omega)
      obtain ⟨ln', rfl⟩ := Int.eq_ofNat_of_zero_le (show 0 ≤ ln by omega)
      exact back2_law ve q1 q2 q3 q4 c1 c2 c3 c4 dst src tok tag lst ln' ph htag n' low hlow w0 WT WF hw0 hll hlst hd hs ht hm
    · exact back3_law ve q1 q2 q3 q4 c1 c2 c3 c4 dst src tok tag lst ln ph htag n low hlow w0 WT WF hw0 hll hlst hd hs ht hm
    · exact back4_law ve q1 q2 q3 q4 c1 c2 c3 c4 dst src tok tag lst ln ph htag n low hlow w0 WT WF hw0 hll hlst hd hs ht hm
    · obtain ⟨n', rfl⟩ := Int.eq_ofNat_of_zero_le (show 0 ≤ n by omega)
      cases ph
      · exact back5f_law ve q1 q2 q3 q4 c1 c2 c3 c4 dst src tok tag lst ln htag n' low hlow w0 WT WF hw0 hll hlst hd hs ht hm
      · exact back5t_law ve q1 q2 q3 q4 c1 c2 c3 c4 dst src tok tag lst ln htag n' low hlow w0 WT WF hw0 hll hlst hd hs ht hm
  · exact back_bad kd ve q1 q2 q3 q4 c1 c2 c3 c4 dst src tok tag lst ln ph htag n low hlow w0 WT WF hw0 hll hlst hm

end Go.Proofs.YtcenionnedgadaaDoor
