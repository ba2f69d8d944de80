/- HeaderSplits: any datagram is cut into the packets that the document says. Conditions: those of the given row (arguments of at most 1048576 values and letters; the listed variables hold what the text lays). Part HeaderOthers: walks and lemmas of the proof. -/
import Derived.Test.YtcenionnedgadaaDoorHeaderWhole
import Derived.Test.YtcenionnedgadaaDoorSymHdr5
namespace Go.Proofs.YtcenionnedgadaaDoor
open Go.Sym

def othB (V : Nat) (dst : List UInt8) : List UInt8 := [128, UInt8.ofNat (V / 2 ^ 24), UInt8.ofNat (V / 2 ^ 16), UInt8.ofNat (V / 2 ^ 8), UInt8.ofNat V, UInt8.ofNat dst.length]
theorem oth_read (V : Nat) (dst rest : List UInt8) (hV : V < 4294967296) (h0 : V ≠ 0) (h1 : V ≠ 1) (hd : dst.length ≤ 20) :
    readQ ((othB V dst ++ dst ++ [2, 8, 9]) ++ rest) 0 = .inr (⟨6, (V : Int), dst, [8, 9], [], 0, false, [], z16⟩, 9 + dst.length) := by
  have hl : (othB V dst ++ dst ++ [2, 8, 9]) ++ rest = [128] ++ ([UInt8.ofNat (V / 2 ^ 24), UInt8.ofNat (V / 2 ^ 16), UInt8.ofNat (V / 2 ^ 8), UInt8.ofNat V] ++ (UInt8.ofNat dst.length :: (dst ++ (UInt8.ofNat ([8, 9] : List UInt8).length :: ([8, 9] ++ rest))))) := by simp [othB]
  rw [hl]
  generalize hL : [128] ++ ([UInt8.ofNat (V / 2 ^ 24), UInt8.ofNat (V / 2 ^ 16), UInt8.ofNat (V / 2 ^ 8), UInt8.ofNat V] ++ (UInt8.ofNat dst.length :: (dst ++ (UInt8.ofNat ([8, 9] : List UInt8).length :: ([8, 9] ++ rest))))) = L
  have e1 : numC L 4 ⟨1, 0⟩ = (V, ⟨5, 0⟩) := by
    rw [numC_at (l := L) (n := 4) (p := 1) [128] [UInt8.ofNat (V / 2 ^ 24), UInt8.ofNat (V / 2 ^ 16), UInt8.ofNat (V / 2 ^ 8), UInt8.ofNat V] _ hL.symm rfl rfl, be4 hV]
  have e2 : idC L ⟨5, 0⟩ = (dst, ⟨6 + dst.length, 0⟩) := by
    rw [idC_at (l := L) (p := 5) ([128] ++ [UInt8.ofNat (V / 2 ^ 24), UInt8.ofNat (V / 2 ^ 16), UInt8.ofNat (V / 2 ^ 8), UInt8.ofNat V]) dst _ (by rw [← hL, List.append_assoc]) rfl hd]
  have e3 : idC L ⟨6 + dst.length, 0⟩ = ([8, 9], ⟨9 + dst.length, 0⟩) := by
    rw [idC_at (l := L) (p := 6 + dst.length) ([128] ++ [UInt8.ofNat (V / 2 ^ 24), UInt8.ofNat (V / 2 ^ 16), UInt8.ofNat (V / 2 ^ 8), UInt8.ofNat V] ++ (UInt8.ofNat dst.length :: dst)) [8, 9] rest (by rw [← hL]; simp) (by simp; omega) (by decide)]
    show (_, (⟨6 + dst.length + 1 + 2, 0⟩ : Cu)) = _
    rw [show 6 + dst.length + 1 + 2 = 9 + dst.length by omega]
  have hx : L[0]? = some 128 := by rw [← hL]; rfl
  rw [readQ_cons hx (by decide) (by decide), if_pos (by decide)]
  have eR : longR L (128 : UInt8).toNat = ⟨6, [], 0, [], z16, ⟨9 + dst.length, 0⟩⟩ := by
    unfold longR
    rw [e1]
    simp only
    rw [e2]
    simp only
    rw [e3]
    simp only
    unfold hlongC
    rw [if_pos rfl, if_neg (by omega), if_neg (by omega)]
  unfold longQ
  rw [eR]
  simp only [if_true]
  rw [e1]
  simp only
  rw [e2]
  simp only
  rw [e3]
theorem OwnB.bs {B : Nat} {T : TypeId} {w : World} {v : Value} {u : List UInt8} (h : OwnB B T w v u) : Bs w v u := by
  rcases h with ⟨rfl, rfl⟩ | ⟨rb, cap, l2, rfl, _, h3, h4, h5, h6⟩
  · exact Bs.nil w
  · exact (BB.bs ⟨h5, h4, h6⟩ h3)
theorem OwnB.mod {B : Nat} {T : TypeId} {w w' : World} {v : Value} {u : List UInt8} {F : Nat → Prop} (h : OwnB B T w v u) (k : Mod F w w') (hF : ∀ x, F x → x < B) : OwnB B T w' v u := by
  rcases h with h | ⟨rb, cap, l2, h1, h2, h3, h4⟩
  · exact .inl h
  · exact .inr ⟨rb, cap, l2, h1, h2, k.heap_some h3 (fun e => by have := hF _ e; omega), h4⟩
theorem OwnB.bsM {B : Nat} {T : TypeId} {w w0 w' : World} {v : Value} {u : List UInt8} (h : OwnB B T w v u) (k : Ext w w') : Bs w' v u := (h.mod k (fun _ h => h.elim)).bs

theorem Fc.bsl22_3 : bslB Tryd.prog 22 3 = some (5, 1, [.int .u8 0, .int .u8 0, .int .u8 0]) := by kernel_rfl
theorem Fc.bsl22_6 : bslB Tryd.prog 22 6 = some (5, 1, [.int .u8 0, .int .u8 0, .int .u8 0, .int .u8 0, .int .u8 0, .int .u8 0]) := by kernel_rfl
set_option maxRecDepth 100000 in
set_option maxHeartbeats 4000000 in
theorem others_law (ve : Int) (q1 : Option Addr) (qc1 : Nat) (l1 : List UInt8) (hl1 : l1.length ≤ 1048576) (q2 : Option Addr) (qc2 : Nat) (l2 : List UInt8) (hl2 : l2.length ≤ 1048576) (w0 : World) (WT : TypeId) (WF : Nat × Nat) (hw0 : w0.heap[0]? = some (.cells [.int .i64 6, .int .i64 14, .int .i64 30, .int .i64 62].toArray WT WF)) (hb1 : Bs w0 (.slice q1 l1.length qc1) l1) (hb2 : Bs w0 (.slice q2 l2.length qc2) l2) : Calls Tryd.prog 3 #[.int .i64 ve, .slice q1 l1.length qc1, .slice q2 l2.length qc2] w0 fun e w' => e = .returned (.bool true) ∧ Ext w0 w' := by
  refine enter Tryd.func3 rfl rfl rfl ?_
  intro a hS
  have hH := Hp.start w0 (Nobody)
  have hlt0 := lt_of_block hw0
  replace hH := hH.know hw0 (fun p hp => by simp at hp)
  obtain ⟨V, hV⟩ : ∃ V : Nat, ve % (2 ^ 32 : Nat) = (V : Int) := ⟨(ve % (2 ^ 32 : Nat)).toNat, by omega⟩
  refine c_seq ?_
  refine reg_plain w0 (Nobody) ?_
  refine r_assign hS hH.kp0 rfl rfl ?_; clear hS; intro a hS
  refine Sq.nil ?_
  refine then_n ?_
  refine c_seq ?_
  refine reg_plain w0 (Nobody) ?_
  refine r_move hS hH.kp0 rfl rfl ?_; clear hS; intro a hS
  refine r_maskI 32 V hS hH.kp0 rfl rfl rfl rfl (by decide) hV ?_
  clear hS; intro a hS hVl
  refine r_assign hS hH.kp0 rfl rfl ?_; clear hS; intro a hS
  refine Sq.nil ?_
  refine then_n ?_
  refine c_seq ?_
  refine c_seq ?_
  refine reg_plain w0 (Nobody) ?_
  refine r_move hS hH.kp0 rfl rfl ?_; clear hS; intro a hS
  refine r_eql hS hH.kp0 rfl rfl rfl ?_; clear hS; intro a hS
  refine r_move hS hH.kp0 rfl rfl ?_; clear hS; intro a hS
  have hcase : V = 0 ∨ (V ≠ 0 ∧ V = 1) ∨ (V ≠ 0 ∧ V ≠ 1 ∧ 20 < l1.length) ∨ (V ≠ 0 ∧ V ≠ 1 ∧ l1.length ≤ 20) := by omega
  rcases hcase with hV0 | ⟨hV0, hV1⟩ | ⟨hV0, hV1, hd20⟩ | ⟨hV0, hV1, hd20⟩
  · refine Sq.guardNo hS rfl rfl (beq_iff_eq.2 (by omega)) hH.kp0 rfl ?_; clear hS; intro a hS
    refine Sq.guardNo hS rfl rfl (beq_iff_eq.2 (by omega)) hH.kp0 rfl ?_; clear hS; intro a hS
    refine r_pickT hS hH.kp0 rfl (beq_iff_eq.2 (by omega)) rfl rfl ?_; clear hS; intro a hS
    refine r_move hS hH.kp0 rfl rfl ?_; clear hS; intro a hS
    refine Sq.guardNo hS rfl rfl rfl hH.kp0 rfl ?_; clear hS; intro a hS
    refine Sq.guardNo hS rfl rfl rfl hH.kp0 rfl ?_; clear hS; intro a hS
    refine Sq.guardNo hS rfl rfl rfl hH.kp0 rfl ?_; clear hS; intro a hS
    refine r_pickT hS hH.kp0 rfl rfl rfl rfl ?_; clear hS; intro a hS
    refine Sq.nil ?_
    refine then_n ?_
    refine c_condT hS rfl rfl ?_
    refine c_seq ?_
    refine reg_plain w0 (Nobody) ?_
    refine r_call (l := [.const (.slice none 0 0), .const (.int .i64 0)]) hS rfl rfl Fc.fn8 rfl ?_
    refine Calls.mono ((by have hn := Read_c none 0 [] (by decide) 0 _ WT WF (hH.get (b := 0) (by repeat (first | exact In.here | refine In.there ?_))) (Bs.nil _); exact hn)) ?_
    rintro e w1 ⟨cs, x, y, rfl, hrr, hE⟩
    obtain ⟨rfl, rfl, rfl, _⟩ : cs = zHd ∧ x = 0 ∧ y = 10 ∧ (10 : Int) ≠ 0 := hrr
    replace hH := hH.ext hE
    refine ⟨_, rfl, hH.kp0, ?_⟩
    clear hS; intro a hS
    refine r_move hS hH.kp0 rfl rfl ?_; clear hS; intro a hS
    refine r_extract hS hH.kp0 rfl rfl rfl ?_; clear hS; intro a hS
    refine r_extract hS hH.kp0 rfl rfl rfl ?_; clear hS; intro a hS
    refine r_extract hS hH.kp0 rfl rfl rfl ?_; clear hS; intro a hS
    refine r_alloc hS hH (by repeat (first | exact Sub.nil | refine Sub.cons ?_ ?_ | exact In.here | refine In.there ?_)) Fc.zc26 rfl ?_
    clear hS hH; intro a w b7 hb7 hwb7 hS hH
    refine r_store_row hS hH rfl rfl (by first | exact .here | exact .there .here | exact .there (.there .here) | exact .there (.there (.there .here)) | exact .there (.there (.there (.there .here))) | exact .there (.there (.there (.there (.there .here)))) | exact .there (.there (.there (.there (.there (.there .here))))) | exact .there (.there (.there (.there (.there (.there (.there .here)))))) | exact .there (.there (.there (.there (.there (.there (.there (.there .here))))))) | exact .there (.there (.there (.there (.there (.there (.there (.there (.there .here)))))))) | exact .there (.there (.there (.there (.there (.there (.there (.there (.there (.there .here))))))))) | exact .there (.there (.there (.there (.there (.there (.there (.there (.there (.there (.there .here)))))))))) | exact .there (.there (.there (.there (.there (.there (.there (.there (.there (.there (.there (.there .here))))))))))) | exact .there (.there (.there (.there (.there (.there (.there (.there (.there (.there (.there (.there (.there .here)))))))))))) | exact .there (.there (.there (.there (.there (.there (.there (.there (.there (.there (.there (.there (.there (.there .here))))))))))))) | exact .there (.there (.there (.there (.there (.there (.there (.there (.there (.there (.there (.there (.there (.there (.there .here))))))))))))))) (by repeat (first | exact Sub.nil | refine Sub.cons ?_ ?_ | exact In.here | refine In.there ?_)) Fc.sz26 (by first | exact hcells_one _ | exact of_decide_eq_true rfl) (by rfl) (.inr (by assumption)) ?_
    clear hH; intro w hH
    refine r_assign hS hH.kp0 rfl rfl ?_; clear hS; intro a hS
    refine r_assign hS hH.kp0 rfl rfl ?_; clear hS; intro a hS
    refine Sq.nil ?_
    refine then_n ?_
    refine c_seq ?_
    refine reg_plain w0 (Nobody) ?_
    refine r_move hS hH.kp0 rfl rfl ?_; clear hS; intro a hS
    refine r_eql hS hH.kp0 rfl rfl rfl ?_; clear hS; intro a hS
    refine r_assign hS hH.kp0 rfl rfl ?_; clear hS; intro a hS
    refine Sq.nil ?_
    refine then_n ?_
    refine wp_ret ?_
    refine then_r ?_
    exact leave (.inl rfl) hS rfl (Res.tmp rfl Res.nil) ⟨rfl, hH.mod⟩
  · refine Sq.guardYes hS rfl rfl (beq_false_of_ne (by omega)) ?_
    refine r_move hS hH.kp0 rfl rfl ?_; clear hS; intro a hS
    refine Sq.guardYes hS rfl rfl (beq_false_of_ne (by omega)) ?_
    refine r_eql hS hH.kp0 rfl rfl rfl ?_; clear hS; intro a hS
    refine r_pickF hS hH.kp0 rfl (beq_false_of_ne (by omega)) rfl rfl ?_; clear hS; intro a hS
    refine r_move hS hH.kp0 rfl rfl ?_; clear hS; intro a hS
    refine Sq.guardNo hS rfl rfl (beq_iff_eq.2 (by omega)) hH.kp0 rfl ?_; clear hS; intro a hS
    refine Sq.guardNo hS rfl rfl (beq_iff_eq.2 (by omega)) hH.kp0 rfl ?_; clear hS; intro a hS
    refine Sq.guardNo hS rfl rfl (beq_iff_eq.2 (by omega)) hH.kp0 rfl ?_; clear hS; intro a hS
    refine r_pickT hS hH.kp0 rfl (beq_iff_eq.2 (by omega)) rfl rfl ?_; clear hS; intro a hS
    refine Sq.nil ?_
    refine then_n ?_
    refine c_condT hS rfl rfl ?_
    refine c_seq ?_
    refine reg_plain w0 (Nobody) ?_
    refine r_call (l := [.const (.slice none 0 0), .const (.int .i64 0)]) hS rfl rfl Fc.fn8 rfl ?_
    refine Calls.mono ((by have hn := Read_c none 0 [] (by decide) 0 _ WT WF (hH.get (b := 0) (by repeat (first | exact In.here | refine In.there ?_))) (Bs.nil _); exact hn)) ?_
    rintro e w1 ⟨cs, x, y, rfl, hrr, hE⟩
    obtain ⟨rfl, rfl, rfl, _⟩ : cs = zHd ∧ x = 0 ∧ y = 10 ∧ (10 : Int) ≠ 0 := hrr
    replace hH := hH.ext hE
    refine ⟨_, rfl, hH.kp0, ?_⟩
    clear hS; intro a hS
    refine r_move hS hH.kp0 rfl rfl ?_; clear hS; intro a hS
    refine r_extract hS hH.kp0 rfl rfl rfl ?_; clear hS; intro a hS
    refine r_extract hS hH.kp0 rfl rfl rfl ?_; clear hS; intro a hS
    refine r_extract hS hH.kp0 rfl rfl rfl ?_; clear hS; intro a hS
    refine r_alloc hS hH (by repeat (first | exact Sub.nil | refine Sub.cons ?_ ?_ | exact In.here | refine In.there ?_)) Fc.zc26 rfl ?_
    clear hS hH; intro a w b7 hb7 hwb7 hS hH
    refine r_store_row hS hH rfl rfl (by first | exact .here | exact .there .here | exact .there (.there .here) | exact .there (.there (.there .here)) | exact .there (.there (.there (.there .here))) | exact .there (.there (.there (.there (.there .here)))) | exact .there (.there (.there (.there (.there (.there .here))))) | exact .there (.there (.there (.there (.there (.there (.there .here)))))) | exact .there (.there (.there (.there (.there (.there (.there (.there .here))))))) | exact .there (.there (.there (.there (.there (.there (.there (.there (.there .here)))))))) | exact .there (.there (.there (.there (.there (.there (.there (.there (.there (.there .here))))))))) | exact .there (.there (.there (.there (.there (.there (.there (.there (.there (.there (.there .here)))))))))) | exact .there (.there (.there (.there (.there (.there (.there (.there (.there (.there (.there (.there .here))))))))))) | exact .there (.there (.there (.there (.there (.there (.there (.there (.there (.there (.there (.there (.there .here)))))))))))) | exact .there (.there (.there (.there (.there (.there (.there (.there (.there (.there (.there (.there (.there (.there .here))))))))))))) | exact .there (.there (.there (.there (.there (.there (.there (.there (.there (.there (.there (.there (.there (.there (.there .here))))))))))))))) (by repeat (first | exact Sub.nil | refine Sub.cons ?_ ?_ | exact In.here | refine In.there ?_)) Fc.sz26 (by first | exact hcells_one _ | exact of_decide_eq_true rfl) (by rfl) (.inr (by assumption)) ?_
    clear hH; intro w hH
    refine r_assign hS hH.kp0 rfl rfl ?_; clear hS; intro a hS
    refine r_assign hS hH.kp0 rfl rfl ?_; clear hS; intro a hS
    refine Sq.nil ?_
    refine then_n ?_
    refine c_seq ?_
    refine reg_plain w0 (Nobody) ?_
    refine r_move hS hH.kp0 rfl rfl ?_; clear hS; intro a hS
    refine r_eql hS hH.kp0 rfl rfl rfl ?_; clear hS; intro a hS
    refine r_assign hS hH.kp0 rfl rfl ?_; clear hS; intro a hS
    refine Sq.nil ?_
    refine then_n ?_
    refine wp_ret ?_
    refine then_r ?_
    exact leave (.inl rfl) hS rfl (Res.tmp rfl Res.nil) ⟨rfl, hH.mod⟩
  · refine Sq.guardYes hS rfl rfl (beq_false_of_ne (by omega)) ?_
    refine r_move hS hH.kp0 rfl rfl ?_; clear hS; intro a hS
    refine Sq.guardYes hS rfl rfl (beq_false_of_ne (by omega)) ?_
    refine r_eql hS hH.kp0 rfl rfl rfl ?_; clear hS; intro a hS
    refine r_pickF hS hH.kp0 rfl (beq_false_of_ne (by omega)) rfl rfl ?_; clear hS; intro a hS
    refine r_move hS hH.kp0 rfl rfl ?_; clear hS; intro a hS
    refine Sq.guardYes hS rfl rfl (beq_false_of_ne (by omega)) ?_
    refine r_move hS hH.kp0 rfl rfl ?_; clear hS; intro a hS
    refine Sq.guardYes hS rfl rfl (beq_false_of_ne (by omega)) ?_
    refine r_lenSl hS hH.kp0 rfl Fc.isSlice22 rfl ?_; clear hS; intro a hS
    refine Sq.guardYes hS rfl rfl (beq_false_of_ne (by omega)) ?_
    refine r_gtr hS hH.kp0 rfl rfl rfl ?_; clear hS; intro a hS
    refine r_pickF hS hH.kp0 rfl (beq_false_of_ne (by omega)) rfl rfl ?_; clear hS; intro a hS
    refine Sq.nil ?_
    refine then_n ?_
    refine c_condT hS rfl (DT (by omega)) ?_
    refine c_seq ?_
    refine reg_plain w0 (Nobody) ?_
    refine r_call (l := [.const (.slice none 0 0), .const (.int .i64 0)]) hS rfl rfl Fc.fn8 rfl ?_
    refine Calls.mono ((by have hn := Read_c none 0 [] (by decide) 0 _ WT WF (hH.get (b := 0) (by repeat (first | exact In.here | refine In.there ?_))) (Bs.nil _); exact hn)) ?_
    rintro e w1 ⟨cs, x, y, rfl, hrr, hE⟩
    obtain ⟨rfl, rfl, rfl, _⟩ : cs = zHd ∧ x = 0 ∧ y = 10 ∧ (10 : Int) ≠ 0 := hrr
    replace hH := hH.ext hE
    refine ⟨_, rfl, hH.kp0, ?_⟩
    clear hS; intro a hS
    refine r_move hS hH.kp0 rfl rfl ?_; clear hS; intro a hS
    refine r_extract hS hH.kp0 rfl rfl rfl ?_; clear hS; intro a hS
    refine r_extract hS hH.kp0 rfl rfl rfl ?_; clear hS; intro a hS
    refine r_extract hS hH.kp0 rfl rfl rfl ?_; clear hS; intro a hS
    refine r_alloc hS hH (by repeat (first | exact Sub.nil | refine Sub.cons ?_ ?_ | exact In.here | refine In.there ?_)) Fc.zc26 rfl ?_
    clear hS hH; intro a w b7 hb7 hwb7 hS hH
    refine r_store_row hS hH rfl rfl (by first | exact .here | exact .there .here | exact .there (.there .here) | exact .there (.there (.there .here)) | exact .there (.there (.there (.there .here))) | exact .there (.there (.there (.there (.there .here)))) | exact .there (.there (.there (.there (.there (.there .here))))) | exact .there (.there (.there (.there (.there (.there (.there .here)))))) | exact .there (.there (.there (.there (.there (.there (.there (.there .here))))))) | exact .there (.there (.there (.there (.there (.there (.there (.there (.there .here)))))))) | exact .there (.there (.there (.there (.there (.there (.there (.there (.there (.there .here))))))))) | exact .there (.there (.there (.there (.there (.there (.there (.there (.there (.there (.there .here)))))))))) | exact .there (.there (.there (.there (.there (.there (.there (.there (.there (.there (.there (.there .here))))))))))) | exact .there (.there (.there (.there (.there (.there (.there (.there (.there (.there (.there (.there (.there .here)))))))))))) | exact .there (.there (.there (.there (.there (.there (.there (.there (.there (.there (.there (.there (.there (.there .here))))))))))))) | exact .there (.there (.there (.there (.there (.there (.there (.there (.there (.there (.there (.there (.there (.there (.there .here))))))))))))))) (by repeat (first | exact Sub.nil | refine Sub.cons ?_ ?_ | exact In.here | refine In.there ?_)) Fc.sz26 (by first | exact hcells_one _ | exact of_decide_eq_true rfl) (by rfl) (.inr (by assumption)) ?_
    clear hH; intro w hH
    refine r_assign hS hH.kp0 rfl rfl ?_; clear hS; intro a hS
    refine r_assign hS hH.kp0 rfl rfl ?_; clear hS; intro a hS
    refine Sq.nil ?_
    refine then_n ?_
    refine c_seq ?_
    refine reg_plain w0 (Nobody) ?_
    refine r_move hS hH.kp0 rfl rfl ?_; clear hS; intro a hS
    refine r_eql hS hH.kp0 rfl rfl rfl ?_; clear hS; intro a hS
    refine r_assign hS hH.kp0 rfl rfl ?_; clear hS; intro a hS
    refine Sq.nil ?_
    refine then_n ?_
    refine wp_ret ?_
    refine then_r ?_
    exact leave (.inl rfl) hS rfl (Res.tmp rfl Res.nil) ⟨rfl, hH.mod⟩
  · refine Sq.guardYes hS rfl rfl (beq_false_of_ne (by omega)) ?_
    refine r_move hS hH.kp0 rfl rfl ?_; clear hS; intro a hS
    refine Sq.guardYes hS rfl rfl (beq_false_of_ne (by omega)) ?_
    refine r_eql hS hH.kp0 rfl rfl rfl ?_; clear hS; intro a hS
    refine r_pickF hS hH.kp0 rfl (beq_false_of_ne (by omega)) rfl rfl ?_; clear hS; intro a hS
    refine r_move hS hH.kp0 rfl rfl ?_; clear hS; intro a hS
    refine Sq.guardYes hS rfl rfl (beq_false_of_ne (by omega)) ?_
    refine r_move hS hH.kp0 rfl rfl ?_; clear hS; intro a hS
    refine Sq.guardYes hS rfl rfl (beq_false_of_ne (by omega)) ?_
    refine r_lenSl hS hH.kp0 rfl Fc.isSlice22 rfl ?_; clear hS; intro a hS
    refine Sq.guardYes hS rfl rfl (beq_false_of_ne (by omega)) ?_
    refine r_gtr hS hH.kp0 rfl rfl rfl ?_; clear hS; intro a hS
    refine r_pickF hS hH.kp0 rfl (beq_false_of_ne (by omega)) rfl rfl ?_; clear hS; intro a hS
    refine Sq.nil ?_
    refine then_n ?_
    refine c_condF hS rfl (DF (by omega)) ?_
    refine wp_skip ?_
    refine then_n ?_
    refine c_seq ?_
    refine reg_plain w0 (Nobody) ?_
    refine r_move hS hH.kp0 rfl rfl ?_; clear hS; intro a hS
    refine r_shrI V 24 hS hH.kp0 rfl rfl rfl rfl (by decide) ?_; clear hS; intro a hS
    refine r_toU8 (q := V / 2 ^ 24) (UInt8.ofNat (V / 2 ^ 24)) hS hH.kp0 rfl Fc.ui5 Fc.us3 rfl rfl ?_; clear hS; intro a hS
    refine r_move hS hH.kp0 rfl rfl ?_; clear hS; intro a hS
    refine r_shrI V 16 hS hH.kp0 rfl rfl rfl rfl (by decide) ?_; clear hS; intro a hS
    refine r_toU8 (q := V / 2 ^ 16) (UInt8.ofNat (V / 2 ^ 16)) hS hH.kp0 rfl Fc.ui5 Fc.us3 rfl rfl ?_; clear hS; intro a hS
    refine r_move hS hH.kp0 rfl rfl ?_; clear hS; intro a hS
    refine r_shrI V 8 hS hH.kp0 rfl rfl rfl rfl (by decide) ?_; clear hS; intro a hS
    refine r_toU8 (q := V / 2 ^ 8) (UInt8.ofNat (V / 2 ^ 8)) hS hH.kp0 rfl Fc.ui5 Fc.us3 rfl rfl ?_; clear hS; intro a hS
    refine r_move hS hH.kp0 rfl rfl ?_; clear hS; intro a hS
    refine r_toU8 (q := V) (UInt8.ofNat (V)) hS hH.kp0 rfl Fc.ui5 Fc.us3 rfl rfl ?_; clear hS; intro a hS
    refine r_move hS hH.kp0 rfl rfl ?_; clear hS; intro a hS
    refine r_lenSl hS hH.kp0 rfl Fc.isSlice22 rfl ?_; clear hS; intro a hS
    refine r_toU8 (q := l1.length) (UInt8.ofNat (l1.length)) hS hH.kp0 rfl Fc.ui5 Fc.us3 rfl rfl ?_; clear hS; intro a hS
    refine r_buildSlice (parts := [(0, .const (.int .u8 128)), (1, .tmp 36), (2, .tmp 39), (3, .tmp 42), (4, .tmp 44), (5, .tmp 47)]) hS hH (by repeat (first | exact Sub.nil | refine Sub.cons ?_ ?_ | exact In.here | refine In.there ?_)) rfl Fc.bsl22_6 (by rfl) rfl ?_
    clear hS hH; intro a w b0 hb0 hwb0 hS hH
    refine r_assign hS hH.kp0 rfl rfl ?_; clear hS; intro a hS
    refine Sq.nil ?_
    refine then_n ?_
    refine c_seq ?_
    refine reg_plain w0 (Nobody) ?_
    refine r_move hS hH.kp0 rfl rfl ?_; clear hS; intro a hS
    refine r_move hS hH.kp0 rfl rfl ?_; clear hS; intro a hS
    refine r_appB (l := [.int .u8 128, byteV (UInt8.ofNat (V / 2 ^ 24)), byteV (UInt8.ofNat (V / 2 ^ 16)), byteV (UInt8.ofNat (V / 2 ^ 8)), byteV (UInt8.ofNat V), byteV (UInt8.ofNat l1.length)]) (othB V l1) (l1) hS hH rfl rfl (by first | exact .here | exact .there .here | exact .there (.there .here) | exact .there (.there (.there .here)) | exact .there (.there (.there (.there .here))) | exact .there (.there (.there (.there (.there .here)))) | exact .there (.there (.there (.there (.there (.there .here))))) | exact .there (.there (.there (.there (.there (.there (.there .here)))))) | exact .there (.there (.there (.there (.there (.there (.there (.there .here))))))) | exact .there (.there (.there (.there (.there (.there (.there (.there (.there .here)))))))) | exact .there (.there (.there (.there (.there (.there (.there (.there (.there (.there .here))))))))) | exact .there (.there (.there (.there (.there (.there (.there (.there (.there (.there (.there .here)))))))))) | exact .there (.there (.there (.there (.there (.there (.there (.there (.there (.there (.there (.there .here))))))))))) | exact .there (.there (.there (.there (.there (.there (.there (.there (.there (.there (.there (.there (.there .here)))))))))))) | exact .there (.there (.there (.there (.there (.there (.there (.there (.there (.there (.there (.there (.there (.there .here))))))))))))) | exact .there (.there (.there (.there (.there (.there (.there (.there (.there (.there (.there (.there (.there (.there (.there .here))))))))))))))) (by repeat (first | exact Sub.nil | refine Sub.cons ?_ ?_ | exact In.here | refine In.there ?_)) Fc.el22 Fc.ni22 (BB.lit _ rfl rfl) (hb1.ext hH.mod) (by simp only [List.length_append, othB, List.length_cons, List.length_nil]; omega) (by assumption) rfl ?_
    clear hS hH; intro a w b1 c1 k1 hw1 hB1 hS hH
    refine r_buildSlice (parts := [(0, .const (.int .u8 2)), (1, .const (.int .u8 8)), (2, .const (.int .u8 9))]) hS hH (by repeat (first | exact Sub.nil | refine Sub.cons ?_ ?_ | exact In.here | refine In.there ?_)) rfl Fc.bsl22_3 (by rfl) rfl ?_
    clear hS hH; intro a w bl hbl hwbl hS hH
    refine r_appB (l := k1) (othB V l1 ++ l1) ([2, 8, 9]) hS hH rfl rfl (by first | exact .here | exact .there .here | exact .there (.there .here) | exact .there (.there (.there .here)) | exact .there (.there (.there (.there .here))) | exact .there (.there (.there (.there (.there .here)))) | exact .there (.there (.there (.there (.there (.there .here))))) | exact .there (.there (.there (.there (.there (.there (.there .here)))))) | exact .there (.there (.there (.there (.there (.there (.there (.there .here))))))) | exact .there (.there (.there (.there (.there (.there (.there (.there (.there .here)))))))) | exact .there (.there (.there (.there (.there (.there (.there (.there (.there (.there .here))))))))) | exact .there (.there (.there (.there (.there (.there (.there (.there (.there (.there (.there .here)))))))))) | exact .there (.there (.there (.there (.there (.there (.there (.there (.there (.there (.there (.there .here))))))))))) | exact .there (.there (.there (.there (.there (.there (.there (.there (.there (.there (.there (.there (.there .here)))))))))))) | exact .there (.there (.there (.there (.there (.there (.there (.there (.there (.there (.there (.there (.there (.there .here))))))))))))) | exact .there (.there (.there (.there (.there (.there (.there (.there (.there (.there (.there (.there (.there (.there (.there .here))))))))))))))) (by repeat (first | exact Sub.nil | refine Sub.cons ?_ ?_ | exact In.here | refine In.there ?_)) Fc.el22 Fc.ni22 hB1 ((BB.lit [2, 8, 9] rfl rfl).bs (hH.get (b := bl) (by repeat (first | exact In.here | refine In.there ?_)))) (by simp only [List.length_append, othB, List.length_cons, List.length_nil]; omega) (by assumption) rfl ?_
    clear hS hH; intro a w b2 c2 k2 hw2 hB2 hS hH
    refine r_assign hS hH.kp0 rfl rfl ?_; clear hS; intro a hS
    refine Sq.nil ?_
    refine then_n ?_
    refine c_seq ?_
    refine reg_plain w0 (Nobody) ?_
    refine r_buildSlice0 hS hH (by repeat (first | exact Sub.nil | refine Sub.cons ?_ ?_ | exact In.here | refine In.there ?_)) Fc.uls22 Fc.inf5 rfl ?_
    clear hS hH; intro a w bz hbz hwbz hS hH
    refine r_move hS hH.kp0 rfl rfl ?_; clear hS; intro a hS
    refine r_appB (l := []) ([]) (othB V l1 ++ l1 ++ [2, 8, 9]) hS hH rfl rfl (by first | exact .here | exact .there .here | exact .there (.there .here) | exact .there (.there (.there .here)) | exact .there (.there (.there (.there .here))) | exact .there (.there (.there (.there (.there .here)))) | exact .there (.there (.there (.there (.there (.there .here))))) | exact .there (.there (.there (.there (.there (.there (.there .here)))))) | exact .there (.there (.there (.there (.there (.there (.there (.there .here))))))) | exact .there (.there (.there (.there (.there (.there (.there (.there (.there .here)))))))) | exact .there (.there (.there (.there (.there (.there (.there (.there (.there (.there .here))))))))) | exact .there (.there (.there (.there (.there (.there (.there (.there (.there (.there (.there .here)))))))))) | exact .there (.there (.there (.there (.there (.there (.there (.there (.there (.there (.there (.there .here))))))))))) | exact .there (.there (.there (.there (.there (.there (.there (.there (.there (.there (.there (.there (.there .here)))))))))))) | exact .there (.there (.there (.there (.there (.there (.there (.there (.there (.there (.there (.there (.there (.there .here))))))))))))) | exact .there (.there (.there (.there (.there (.there (.there (.there (.there (.there (.there (.there (.there (.there (.there .here))))))))))))))) (by repeat (first | exact Sub.nil | refine Sub.cons ?_ ?_ | exact In.here | refine In.there ?_)) Fc.el22 Fc.ni22 BB.nil (hB2.bs (hH.get (b := b2) (by repeat (first | exact In.here | refine In.there ?_)))) (by simp only [List.length_append, othB, List.length_cons, List.length_nil]; omega) (by assumption) rfl ?_
    clear hS hH; intro a w b3 c3 k3 hw3 hB3 hS hH
    refine r_move hS hH.kp0 rfl rfl ?_; clear hS; intro a hS
    refine r_appB (l := k3) ([] ++ (othB V l1 ++ l1 ++ [2, 8, 9])) (l2) hS hH rfl rfl (by first | exact .here | exact .there .here | exact .there (.there .here) | exact .there (.there (.there .here)) | exact .there (.there (.there (.there .here))) | exact .there (.there (.there (.there (.there .here)))) | exact .there (.there (.there (.there (.there (.there .here))))) | exact .there (.there (.there (.there (.there (.there (.there .here)))))) | exact .there (.there (.there (.there (.there (.there (.there (.there .here))))))) | exact .there (.there (.there (.there (.there (.there (.there (.there (.there .here)))))))) | exact .there (.there (.there (.there (.there (.there (.there (.there (.there (.there .here))))))))) | exact .there (.there (.there (.there (.there (.there (.there (.there (.there (.there (.there .here)))))))))) | exact .there (.there (.there (.there (.there (.there (.there (.there (.there (.there (.there (.there .here))))))))))) | exact .there (.there (.there (.there (.there (.there (.there (.there (.there (.there (.there (.there (.there .here)))))))))))) | exact .there (.there (.there (.there (.there (.there (.there (.there (.there (.there (.there (.there (.there (.there .here))))))))))))) | exact .there (.there (.there (.there (.there (.there (.there (.there (.there (.there (.there (.there (.there (.there (.there .here))))))))))))))) (by repeat (first | exact Sub.nil | refine Sub.cons ?_ ?_ | exact In.here | refine In.there ?_)) Fc.el22 Fc.ni22 hB3 (hb2.ext hH.mod) (by simp only [List.length_append, othB, List.length_cons, List.length_nil]; omega) (by assumption) rfl ?_
    clear hS hH; intro a w b4 c4 k4 hw4 hB4 hS hH
    refine r_call (l := [.tmp 59, .const (.int .i64 0)]) hS rfl rfl Fc.fn8 rfl ?_
    refine Calls.mono ((by have hn := Read_c (some ⟨b4, 0, none⟩) c4 _ (by simp only [List.length_append, othB, List.length_cons, List.length_nil]; omega) 0 _ WT WF (hH.get (b := 0) (by repeat (first | exact In.here | refine In.there ?_))) (hB4.bs (hH.get (b := b4) (by repeat (first | exact In.here | refine In.there ?_)))); exact hn)) ?_
    rintro e w1 ⟨cs, x, y, rfl, hrr, hE⟩
    rw [List.nil_append, oth_read V l1 l2 hVl hV0 hV1 hd20] at hrr
    obtain ⟨⟨dv, sv, tv, gv, hcs, hdv, hsv, htv, hgv, _⟩, hx, hy⟩ := hrr
    subst hcs hx hy
    have hlow := hH.lt
    obtain ⟨rs, caps, l2s, hsvv, hrs, hrbks, hcaps, hl2s, htks⟩ := hsv.resolve_left (fun h => by have := h.2; cases this)
    subst hsvv
    replace hH := hH.ext hE
    replace hH := hH.know hrbks (fun p hp e => by have := hlow p hp; omega)
    have hone : ∀ u ∈ ([.int .i64 6, .int .i64 (V : Int), dv, .slice (some ⟨rs, 0, none⟩) ([8, 9] : List UInt8).length caps, tv, .int .i64 ((0 : Nat) : Int), .bool false, gv] ++ hcells z16 : List Value), u.oneCell' = true := by intro u hu; simp only [List.mem_append, List.mem_cons, List.not_mem_nil, or_false] at hu; rcases hu with (rfl | rfl | rfl | rfl | rfl | rfl | rfl | rfl) | hu; rfl; rfl; exact hdv.one; rfl; exact htv.one; rfl; rfl; exact hgv.one; exact hcells_one _ u hu
    refine ⟨_, rfl, hH.kp0, ?_⟩
    clear hS; intro a hS
    rcases hdv with ⟨rfl, hd0⟩ | ⟨rd, capd, l2d, rfl, hrd, hrbkd, hcapd, hl2d, htkd⟩
    rotate_left
    by_cases hds : rd = rs
    · subst hds
      have hsm : l2d = l2s := by have e := hrbkd.symm.trans hrbks; simpa using e
      subst hsm
      refine r_move hS hH.kp0 rfl rfl ?_; clear hS; intro a hS
      refine r_extract hS hH.kp0 rfl rfl rfl ?_; clear hS; intro a hS
      refine r_extract hS hH.kp0 rfl rfl rfl ?_; clear hS; intro a hS
      refine r_extract hS hH.kp0 rfl rfl rfl ?_; clear hS; intro a hS
      refine r_alloc hS hH (by repeat (first | exact Sub.nil | refine Sub.cons ?_ ?_ | exact In.here | refine In.there ?_)) Fc.zc26 rfl ?_
      clear hS hH; intro a w bh hbh hwbh hS hH
      refine r_store_row hS hH rfl rfl (by first | exact .here | exact .there .here | exact .there (.there .here) | exact .there (.there (.there .here)) | exact .there (.there (.there (.there .here))) | exact .there (.there (.there (.there (.there .here)))) | exact .there (.there (.there (.there (.there (.there .here))))) | exact .there (.there (.there (.there (.there (.there (.there .here)))))) | exact .there (.there (.there (.there (.there (.there (.there (.there .here))))))) | exact .there (.there (.there (.there (.there (.there (.there (.there (.there .here)))))))) | exact .there (.there (.there (.there (.there (.there (.there (.there (.there (.there .here))))))))) | exact .there (.there (.there (.there (.there (.there (.there (.there (.there (.there (.there .here)))))))))) | exact .there (.there (.there (.there (.there (.there (.there (.there (.there (.there (.there (.there .here))))))))))) | exact .there (.there (.there (.there (.there (.there (.there (.there (.there (.there (.there (.there (.there .here)))))))))))) | exact .there (.there (.there (.there (.there (.there (.there (.there (.there (.there (.there (.there (.there (.there .here))))))))))))) | exact .there (.there (.there (.there (.there (.there (.there (.there (.there (.there (.there (.there (.there (.there (.there .here))))))))))))))) (by repeat (first | exact Sub.nil | refine Sub.cons ?_ ?_ | exact In.here | refine In.there ?_)) Fc.sz26 hone (by rfl) (.inr (by assumption)) ?_; clear hH; intro w hH
      refine r_assign hS hH.kp0 rfl rfl ?_; clear hS; intro a hS
      refine r_assign hS hH.kp0 rfl rfl ?_; clear hS; intro a hS
      refine Sq.nil ?_
      refine then_n ?_
      refine c_seq ?_
      refine reg_plain w0 (Nobody) ?_
      refine r_move hS hH.kp0 rfl rfl ?_; clear hS; intro a hS
      refine r_eql hS hH.kp0 rfl rfl rfl ?_; clear hS; intro a hS
      refine r_move hS hH.kp0 rfl rfl ?_; clear hS; intro a hS
      refine Sq.guardYes hS rfl rfl rfl ?_
      refine r_move hS hH.kp0 rfl rfl ?_; clear hS; intro a hS
      refine Sq.guardYes hS rfl rfl rfl ?_
      refine r_move hS hH.kp0 rfl rfl ?_; clear hS; intro a hS
      refine Sq.guardYes hS rfl rfl rfl ?_
      refine r_lenSl hS hH.kp0 rfl Fc.isSlice22 rfl ?_; clear hS; intro a hS
      refine Sq.guardYes hS rfl rfl rfl ?_
      refine r_eql hS hH.kp0 rfl rfl rfl ?_; clear hS; intro a hS
      have hq9 : (((9 + l1.length : Nat) : Int) == ((othB V l1 ++ l1 ++ [2, 8, 9]).length : Int)) = true := beq_iff_eq.2 (by simp only [List.length_append, othB, List.length_cons, List.length_nil]; omega)
      rw [hq9] at hS
      refine r_pickT hS hH.kp0 rfl rfl rfl rfl ?_; clear hS; intro a hS
      refine r_move hS hH.kp0 rfl rfl ?_; clear hS; intro a hS
      refine Sq.guardYes hS rfl rfl rfl ?_
      refine r_fieldAddr hS hH.kp0 rfl Fc.fo26_0 rfl ?_; clear hS; intro a hS
      refine Sq.guardYes hS rfl rfl rfl ?_
      refine r_load_sc hS hH (by repeat (first | exact Sub.nil | refine Sub.cons ?_ ?_ | exact In.here | refine In.there ?_)) rfl (by repeat (first | exact In.here | refine In.there ?_)) Fc.sc3 (by rfl) rfl ?_; clear hS; intro a hS
      refine Sq.guardYes hS rfl rfl rfl ?_
      refine r_eql hS hH.kp0 rfl rfl rfl ?_; clear hS; intro a hS
      refine r_pickT hS hH.kp0 rfl rfl rfl rfl ?_; clear hS; intro a hS
      refine r_move hS hH.kp0 rfl rfl ?_; clear hS; intro a hS
      refine Sq.guardYes hS rfl rfl rfl ?_
      refine r_fieldAddr hS hH.kp0 rfl Fc.fo26_1 rfl ?_; clear hS; intro a hS
      refine Sq.guardYes hS rfl rfl rfl ?_
      refine r_load_sc hS hH (by repeat (first | exact Sub.nil | refine Sub.cons ?_ ?_ | exact In.here | refine In.there ?_)) rfl (by repeat (first | exact In.here | refine In.there ?_)) Fc.sc3 (by rfl) rfl ?_; clear hS; intro a hS
      refine Sq.guardYes hS rfl rfl rfl ?_
      refine r_move hS hH.kp0 rfl rfl ?_; clear hS; intro a hS
      refine Sq.guardYes hS rfl rfl rfl ?_
      refine r_eql hS hH.kp0 rfl rfl rfl ?_; clear hS; intro a hS
      refine r_pickT hS hH.kp0 rfl rfl rfl rfl ?_; clear hS; intro a hS
      refine r_move hS hH.kp0 rfl rfl ?_; clear hS; intro a hS
      refine Sq.guardYes hS rfl rfl (beq_self_eq_true _) ?_
      refine r_fieldAddr hS hH.kp0 rfl Fc.fo26_2 rfl ?_; clear hS; intro a hS
      refine Sq.guardYes hS rfl rfl (beq_self_eq_true _) ?_
      refine r_load_sc hS hH (by repeat (first | exact Sub.nil | refine Sub.cons ?_ ?_ | exact In.here | refine In.there ?_)) rfl (by repeat (first | exact In.here | refine In.there ?_)) Fc.sc22 (by rfl) rfl ?_; clear hS; intro a hS
      refine Sq.guardYes hS rfl rfl (beq_self_eq_true _) ?_
      refine r_bytesStr (l := l1) hS hH.kp0 rfl ((BB.mk hl2d hcapd htkd).bs (hH.get (b := rd) (by repeat (first | exact In.here | refine In.there ?_)))) Fc.u8s22 Fc.isStr9 rfl ?_; clear hS; intro a hS
      refine Sq.guardYes hS rfl rfl (beq_self_eq_true _) ?_
      refine r_move hS hH.kp0 rfl rfl ?_; clear hS; intro a hS
      refine Sq.guardYes hS rfl rfl (beq_self_eq_true _) ?_
      refine r_bytesStr (l := l1) hS hH.kp0 rfl (hb1.ext hH.mod) Fc.u8s22 Fc.isStr9 rfl ?_; clear hS; intro a hS
      refine Sq.guardYes hS rfl rfl (beq_self_eq_true _) ?_
      refine r_strEql hS hH.kp0 rfl rfl rfl ?_; clear hS; intro a hS
      refine r_pickT hS hH.kp0 rfl (beq_self_eq_true _) rfl rfl ?_; clear hS; intro a hS
      refine r_move hS hH.kp0 rfl rfl ?_; clear hS; intro a hS
      refine Sq.guardYes hS rfl rfl (beq_self_eq_true _) ?_
      refine r_fieldAddr hS hH.kp0 rfl Fc.fo26_3 rfl ?_; clear hS; intro a hS
      refine Sq.guardYes hS rfl rfl (beq_self_eq_true _) ?_
      refine r_load_sc hS hH (by repeat (first | exact Sub.nil | refine Sub.cons ?_ ?_ | exact In.here | refine In.there ?_)) rfl (by repeat (first | exact In.here | refine In.there ?_)) Fc.sc22 (by rfl) rfl ?_; clear hS; intro a hS
      refine Sq.guardYes hS rfl rfl (beq_self_eq_true _) ?_
      refine r_bytesStr (l := [8, 9]) hS hH.kp0 rfl ((BB.mk hl2s hcaps htks).bs (hH.get (b := rd) (by repeat (first | exact In.here | refine In.there ?_)))) Fc.u8s22 Fc.isStr9 rfl ?_; clear hS; intro a hS
      refine Sq.guardYes hS rfl rfl (beq_self_eq_true _) ?_
      refine r_strEql hS hH.kp0 rfl rfl rfl ?_; clear hS; intro a hS
      have h9s : ((strOf [8, 9]).toList == (⟨#[8, 9]⟩ : ByteArray).toList) = true := beq_self_eq_true _
      rw [h9s] at hS
      refine r_pickT hS hH.kp0 rfl (beq_self_eq_true _) rfl rfl ?_; clear hS; intro a hS
      refine r_assign hS hH.kp0 rfl rfl ?_; clear hS; intro a hS
      refine Sq.nil ?_
      refine then_n ?_
      refine wp_ret ?_
      exact leave (.inl rfl) hS rfl (Res.tmp rfl Res.nil) ⟨rfl, hH.mod⟩
    · replace hH := hH.know hrbkd (fun p hp e => by rcases List.mem_cons.1 hp with rfl | hp; exact hds e.symm; have := hlow p hp; omega)
      refine r_move hS hH.kp0 rfl rfl ?_; clear hS; intro a hS
      refine r_extract hS hH.kp0 rfl rfl rfl ?_; clear hS; intro a hS
      refine r_extract hS hH.kp0 rfl rfl rfl ?_; clear hS; intro a hS
      refine r_extract hS hH.kp0 rfl rfl rfl ?_; clear hS; intro a hS
      refine r_alloc hS hH (by repeat (first | exact Sub.nil | refine Sub.cons ?_ ?_ | exact In.here | refine In.there ?_)) Fc.zc26 rfl ?_
      clear hS hH; intro a w bh hbh hwbh hS hH
      refine r_store_row hS hH rfl rfl (by first | exact .here | exact .there .here | exact .there (.there .here) | exact .there (.there (.there .here)) | exact .there (.there (.there (.there .here))) | exact .there (.there (.there (.there (.there .here)))) | exact .there (.there (.there (.there (.there (.there .here))))) | exact .there (.there (.there (.there (.there (.there (.there .here)))))) | exact .there (.there (.there (.there (.there (.there (.there (.there .here))))))) | exact .there (.there (.there (.there (.there (.there (.there (.there (.there .here)))))))) | exact .there (.there (.there (.there (.there (.there (.there (.there (.there (.there .here))))))))) | exact .there (.there (.there (.there (.there (.there (.there (.there (.there (.there (.there .here)))))))))) | exact .there (.there (.there (.there (.there (.there (.there (.there (.there (.there (.there (.there .here))))))))))) | exact .there (.there (.there (.there (.there (.there (.there (.there (.there (.there (.there (.there (.there .here)))))))))))) | exact .there (.there (.there (.there (.there (.there (.there (.there (.there (.there (.there (.there (.there (.there .here))))))))))))) | exact .there (.there (.there (.there (.there (.there (.there (.there (.there (.there (.there (.there (.there (.there (.there .here))))))))))))))) (by repeat (first | exact Sub.nil | refine Sub.cons ?_ ?_ | exact In.here | refine In.there ?_)) Fc.sz26 hone (by rfl) (.inr (by assumption)) ?_; clear hH; intro w hH
      refine r_assign hS hH.kp0 rfl rfl ?_; clear hS; intro a hS
      refine r_assign hS hH.kp0 rfl rfl ?_; clear hS; intro a hS
      refine Sq.nil ?_
      refine then_n ?_
      refine c_seq ?_
      refine reg_plain w0 (Nobody) ?_
      refine r_move hS hH.kp0 rfl rfl ?_; clear hS; intro a hS
      refine r_eql hS hH.kp0 rfl rfl rfl ?_; clear hS; intro a hS
      refine r_move hS hH.kp0 rfl rfl ?_; clear hS; intro a hS
      refine Sq.guardYes hS rfl rfl rfl ?_
      refine r_move hS hH.kp0 rfl rfl ?_; clear hS; intro a hS
      refine Sq.guardYes hS rfl rfl rfl ?_
      refine r_move hS hH.kp0 rfl rfl ?_; clear hS; intro a hS
      refine Sq.guardYes hS rfl rfl rfl ?_
      refine r_lenSl hS hH.kp0 rfl Fc.isSlice22 rfl ?_; clear hS; intro a hS
      refine Sq.guardYes hS rfl rfl rfl ?_
      refine r_eql hS hH.kp0 rfl rfl rfl ?_; clear hS; intro a hS
      have hq9 : (((9 + l1.length : Nat) : Int) == ((othB V l1 ++ l1 ++ [2, 8, 9]).length : Int)) = true := beq_iff_eq.2 (by simp only [List.length_append, othB, List.length_cons, List.length_nil]; omega)
      rw [hq9] at hS
      refine r_pickT hS hH.kp0 rfl rfl rfl rfl ?_; clear hS; intro a hS
      refine r_move hS hH.kp0 rfl rfl ?_; clear hS; intro a hS
      refine Sq.guardYes hS rfl rfl rfl ?_
      refine r_fieldAddr hS hH.kp0 rfl Fc.fo26_0 rfl ?_; clear hS; intro a hS
      refine Sq.guardYes hS rfl rfl rfl ?_
      refine r_load_sc hS hH (by repeat (first | exact Sub.nil | refine Sub.cons ?_ ?_ | exact In.here | refine In.there ?_)) rfl (by repeat (first | exact In.here | refine In.there ?_)) Fc.sc3 (by rfl) rfl ?_; clear hS; intro a hS
      refine Sq.guardYes hS rfl rfl rfl ?_
      refine r_eql hS hH.kp0 rfl rfl rfl ?_; clear hS; intro a hS
      refine r_pickT hS hH.kp0 rfl rfl rfl rfl ?_; clear hS; intro a hS
      refine r_move hS hH.kp0 rfl rfl ?_; clear hS; intro a hS
      refine Sq.guardYes hS rfl rfl rfl ?_
      refine r_fieldAddr hS hH.kp0 rfl Fc.fo26_1 rfl ?_; clear hS; intro a hS
      refine Sq.guardYes hS rfl rfl rfl ?_
      refine r_load_sc hS hH (by repeat (first | exact Sub.nil | refine Sub.cons ?_ ?_ | exact In.here | refine In.there ?_)) rfl (by repeat (first | exact In.here | refine In.there ?_)) Fc.sc3 (by rfl) rfl ?_; clear hS; intro a hS
      refine Sq.guardYes hS rfl rfl rfl ?_
      refine r_move hS hH.kp0 rfl rfl ?_; clear hS; intro a hS
      refine Sq.guardYes hS rfl rfl rfl ?_
      refine r_eql hS hH.kp0 rfl rfl rfl ?_; clear hS; intro a hS
      refine r_pickT hS hH.kp0 rfl rfl rfl rfl ?_; clear hS; intro a hS
      refine r_move hS hH.kp0 rfl rfl ?_; clear hS; intro a hS
      refine Sq.guardYes hS rfl rfl (beq_self_eq_true _) ?_
      refine r_fieldAddr hS hH.kp0 rfl Fc.fo26_2 rfl ?_; clear hS; intro a hS
      refine Sq.guardYes hS rfl rfl (beq_self_eq_true _) ?_
      refine r_load_sc hS hH (by repeat (first | exact Sub.nil | refine Sub.cons ?_ ?_ | exact In.here | refine In.there ?_)) rfl (by repeat (first | exact In.here | refine In.there ?_)) Fc.sc22 (by rfl) rfl ?_; clear hS; intro a hS
      refine Sq.guardYes hS rfl rfl (beq_self_eq_true _) ?_
      refine r_bytesStr (l := l1) hS hH.kp0 rfl ((BB.mk hl2d hcapd htkd).bs (hH.get (b := rd) (by repeat (first | exact In.here | refine In.there ?_)))) Fc.u8s22 Fc.isStr9 rfl ?_; clear hS; intro a hS
      refine Sq.guardYes hS rfl rfl (beq_self_eq_true _) ?_
      refine r_move hS hH.kp0 rfl rfl ?_; clear hS; intro a hS
      refine Sq.guardYes hS rfl rfl (beq_self_eq_true _) ?_
      refine r_bytesStr (l := l1) hS hH.kp0 rfl (hb1.ext hH.mod) Fc.u8s22 Fc.isStr9 rfl ?_; clear hS; intro a hS
      refine Sq.guardYes hS rfl rfl (beq_self_eq_true _) ?_
      refine r_strEql hS hH.kp0 rfl rfl rfl ?_; clear hS; intro a hS
      refine r_pickT hS hH.kp0 rfl (beq_self_eq_true _) rfl rfl ?_; clear hS; intro a hS
      refine r_move hS hH.kp0 rfl rfl ?_; clear hS; intro a hS
      refine Sq.guardYes hS rfl rfl (beq_self_eq_true _) ?_
      refine r_fieldAddr hS hH.kp0 rfl Fc.fo26_3 rfl ?_; clear hS; intro a hS
      refine Sq.guardYes hS rfl rfl (beq_self_eq_true _) ?_
      refine r_load_sc hS hH (by repeat (first | exact Sub.nil | refine Sub.cons ?_ ?_ | exact In.here | refine In.there ?_)) rfl (by repeat (first | exact In.here | refine In.there ?_)) Fc.sc22 (by rfl) rfl ?_; clear hS; intro a hS
      refine Sq.guardYes hS rfl rfl (beq_self_eq_true _) ?_
      refine r_bytesStr (l := [8, 9]) hS hH.kp0 rfl ((BB.mk hl2s hcaps htks).bs (hH.get (b := rs) (by repeat (first | exact In.here | refine In.there ?_)))) Fc.u8s22 Fc.isStr9 rfl ?_; clear hS; intro a hS
      refine Sq.guardYes hS rfl rfl (beq_self_eq_true _) ?_
      refine r_strEql hS hH.kp0 rfl rfl rfl ?_; clear hS; intro a hS
      have h9s : ((strOf [8, 9]).toList == (⟨#[8, 9]⟩ : ByteArray).toList) = true := beq_self_eq_true _
      rw [h9s] at hS
      refine r_pickT hS hH.kp0 rfl (beq_self_eq_true _) rfl rfl ?_; clear hS; intro a hS
      refine r_assign hS hH.kp0 rfl rfl ?_; clear hS; intro a hS
      refine Sq.nil ?_
      refine then_n ?_
      refine wp_ret ?_
      exact leave (.inl rfl) hS rfl (Res.tmp rfl Res.nil) ⟨rfl, hH.mod⟩
    · refine r_move hS hH.kp0 rfl rfl ?_; clear hS; intro a hS
      refine r_extract hS hH.kp0 rfl rfl rfl ?_; clear hS; intro a hS
      refine r_extract hS hH.kp0 rfl rfl rfl ?_; clear hS; intro a hS
      refine r_extract hS hH.kp0 rfl rfl rfl ?_; clear hS; intro a hS
      refine r_alloc hS hH (by repeat (first | exact Sub.nil | refine Sub.cons ?_ ?_ | exact In.here | refine In.there ?_)) Fc.zc26 rfl ?_
      clear hS hH; intro a w bh hbh hwbh hS hH
      refine r_store_row hS hH rfl rfl (by first | exact .here | exact .there .here | exact .there (.there .here) | exact .there (.there (.there .here)) | exact .there (.there (.there (.there .here))) | exact .there (.there (.there (.there (.there .here)))) | exact .there (.there (.there (.there (.there (.there .here))))) | exact .there (.there (.there (.there (.there (.there (.there .here)))))) | exact .there (.there (.there (.there (.there (.there (.there (.there .here))))))) | exact .there (.there (.there (.there (.there (.there (.there (.there (.there .here)))))))) | exact .there (.there (.there (.there (.there (.there (.there (.there (.there (.there .here))))))))) | exact .there (.there (.there (.there (.there (.there (.there (.there (.there (.there (.there .here)))))))))) | exact .there (.there (.there (.there (.there (.there (.there (.there (.there (.there (.there (.there .here))))))))))) | exact .there (.there (.there (.there (.there (.there (.there (.there (.there (.there (.there (.there (.there .here)))))))))))) | exact .there (.there (.there (.there (.there (.there (.there (.there (.there (.there (.there (.there (.there (.there .here))))))))))))) | exact .there (.there (.there (.there (.there (.there (.there (.there (.there (.there (.there (.there (.there (.there (.there .here))))))))))))))) (by repeat (first | exact Sub.nil | refine Sub.cons ?_ ?_ | exact In.here | refine In.there ?_)) Fc.sz26 hone (by rfl) (.inr (by assumption)) ?_; clear hH; intro w hH
      refine r_assign hS hH.kp0 rfl rfl ?_; clear hS; intro a hS
      refine r_assign hS hH.kp0 rfl rfl ?_; clear hS; intro a hS
      refine Sq.nil ?_
      refine then_n ?_
      refine c_seq ?_
      refine reg_plain w0 (Nobody) ?_
      refine r_move hS hH.kp0 rfl rfl ?_; clear hS; intro a hS
      refine r_eql hS hH.kp0 rfl rfl rfl ?_; clear hS; intro a hS
      refine r_move hS hH.kp0 rfl rfl ?_; clear hS; intro a hS
      refine Sq.guardYes hS rfl rfl rfl ?_
      refine r_move hS hH.kp0 rfl rfl ?_; clear hS; intro a hS
      refine Sq.guardYes hS rfl rfl rfl ?_
      refine r_move hS hH.kp0 rfl rfl ?_; clear hS; intro a hS
      refine Sq.guardYes hS rfl rfl rfl ?_
      refine r_lenSl hS hH.kp0 rfl Fc.isSlice22 rfl ?_; clear hS; intro a hS
      refine Sq.guardYes hS rfl rfl rfl ?_
      refine r_eql hS hH.kp0 rfl rfl rfl ?_; clear hS; intro a hS
      have hq9 : (((9 + l1.length : Nat) : Int) == ((othB V l1 ++ l1 ++ [2, 8, 9]).length : Int)) = true := beq_iff_eq.2 (by simp only [List.length_append, othB, List.length_cons, List.length_nil]; omega)
      rw [hq9] at hS
      refine r_pickT hS hH.kp0 rfl rfl rfl rfl ?_; clear hS; intro a hS
      refine r_move hS hH.kp0 rfl rfl ?_; clear hS; intro a hS
      refine Sq.guardYes hS rfl rfl rfl ?_
      refine r_fieldAddr hS hH.kp0 rfl Fc.fo26_0 rfl ?_; clear hS; intro a hS
      refine Sq.guardYes hS rfl rfl rfl ?_
      refine r_load_sc hS hH (by repeat (first | exact Sub.nil | refine Sub.cons ?_ ?_ | exact In.here | refine In.there ?_)) rfl (by repeat (first | exact In.here | refine In.there ?_)) Fc.sc3 (by rfl) rfl ?_; clear hS; intro a hS
      refine Sq.guardYes hS rfl rfl rfl ?_
      refine r_eql hS hH.kp0 rfl rfl rfl ?_; clear hS; intro a hS
      refine r_pickT hS hH.kp0 rfl rfl rfl rfl ?_; clear hS; intro a hS
      refine r_move hS hH.kp0 rfl rfl ?_; clear hS; intro a hS
      refine Sq.guardYes hS rfl rfl rfl ?_
      refine r_fieldAddr hS hH.kp0 rfl Fc.fo26_1 rfl ?_; clear hS; intro a hS
      refine Sq.guardYes hS rfl rfl rfl ?_
      refine r_load_sc hS hH (by repeat (first | exact Sub.nil | refine Sub.cons ?_ ?_ | exact In.here | refine In.there ?_)) rfl (by repeat (first | exact In.here | refine In.there ?_)) Fc.sc3 (by rfl) rfl ?_; clear hS; intro a hS
      refine Sq.guardYes hS rfl rfl rfl ?_
      refine r_move hS hH.kp0 rfl rfl ?_; clear hS; intro a hS
      refine Sq.guardYes hS rfl rfl rfl ?_
      refine r_eql hS hH.kp0 rfl rfl rfl ?_; clear hS; intro a hS
      refine r_pickT hS hH.kp0 rfl rfl rfl rfl ?_; clear hS; intro a hS
      refine r_move hS hH.kp0 rfl rfl ?_; clear hS; intro a hS
      refine Sq.guardYes hS rfl rfl (beq_self_eq_true _) ?_
      refine r_fieldAddr hS hH.kp0 rfl Fc.fo26_2 rfl ?_; clear hS; intro a hS
      refine Sq.guardYes hS rfl rfl (beq_self_eq_true _) ?_
      refine r_load_sc hS hH (by repeat (first | exact Sub.nil | refine Sub.cons ?_ ?_ | exact In.here | refine In.there ?_)) rfl (by repeat (first | exact In.here | refine In.there ?_)) Fc.sc22 (by rfl) rfl ?_; clear hS; intro a hS
      refine Sq.guardYes hS rfl rfl (beq_self_eq_true _) ?_
      refine r_bytesStr (l := l1) hS hH.kp0 rfl (by have hd1 : l1 = [] := hd0; rw [hd1]; exact Bs.nil _) Fc.u8s22 Fc.isStr9 rfl ?_; clear hS; intro a hS
      refine Sq.guardYes hS rfl rfl (beq_self_eq_true _) ?_
      refine r_move hS hH.kp0 rfl rfl ?_; clear hS; intro a hS
      refine Sq.guardYes hS rfl rfl (beq_self_eq_true _) ?_
      refine r_bytesStr (l := l1) hS hH.kp0 rfl (hb1.ext hH.mod) Fc.u8s22 Fc.isStr9 rfl ?_; clear hS; intro a hS
      refine Sq.guardYes hS rfl rfl (beq_self_eq_true _) ?_
      refine r_strEql hS hH.kp0 rfl rfl rfl ?_; clear hS; intro a hS
      refine r_pickT hS hH.kp0 rfl (beq_self_eq_true _) rfl rfl ?_; clear hS; intro a hS
      refine r_move hS hH.kp0 rfl rfl ?_; clear hS; intro a hS
      refine Sq.guardYes hS rfl rfl (beq_self_eq_true _) ?_
      refine r_fieldAddr hS hH.kp0 rfl Fc.fo26_3 rfl ?_; clear hS; intro a hS
      refine Sq.guardYes hS rfl rfl (beq_self_eq_true _) ?_
      refine r_load_sc hS hH (by repeat (first | exact Sub.nil | refine Sub.cons ?_ ?_ | exact In.here | refine In.there ?_)) rfl (by repeat (first | exact In.here | refine In.there ?_)) Fc.sc22 (by rfl) rfl ?_; clear hS; intro a hS
      refine Sq.guardYes hS rfl rfl (beq_self_eq_true _) ?_
      refine r_bytesStr (l := [8, 9]) hS hH.kp0 rfl ((BB.mk hl2s hcaps htks).bs (hH.get (b := rs) (by repeat (first | exact In.here | refine In.there ?_)))) Fc.u8s22 Fc.isStr9 rfl ?_; clear hS; intro a hS
      refine Sq.guardYes hS rfl rfl (beq_self_eq_true _) ?_
      refine r_strEql hS hH.kp0 rfl rfl rfl ?_; clear hS; intro a hS
      have h9s : ((strOf [8, 9]).toList == (⟨#[8, 9]⟩ : ByteArray).toList) = true := beq_self_eq_true _
      rw [h9s] at hS
      refine r_pickT hS hH.kp0 rfl (beq_self_eq_true _) rfl rfl ?_; clear hS; intro a hS
      refine r_assign hS hH.kp0 rfl rfl ?_; clear hS; intro a hS
      refine Sq.nil ?_
      refine then_n ?_
      refine wp_ret ?_
      exact leave (.inl rfl) hS rfl (Res.tmp rfl Res.nil) ⟨rfl, hH.mod⟩

end Go.Proofs.YtcenionnedgadaaDoor
