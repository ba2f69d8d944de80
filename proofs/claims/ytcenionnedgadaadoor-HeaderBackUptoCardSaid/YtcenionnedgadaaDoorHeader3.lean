/- HeaderBack: a header that is put is read again, with the place and the lowest bytes of the number. Conditions: those of the given row (arguments of at most 1048576 values and letters; the listed variables hold what the text lays). Part Header3: walks and lemmas of the proof. -/
import Derived.Test.YtcenionnedgadaaDoorHeader2
namespace Go.Proofs.YtcenionnedgadaaDoor
open Go.Sym

/-- bytes in a block of their own, or none -/
def OwnB (B : Nat) (T : TypeId) (w : World) (v : Value) (u : List UInt8) : Prop := (v = .slice none 0 0 ∧ u = []) ∨ ∃ (rb cap : Nat) (l2 : List Value), v = .slice (some ⟨rb, 0, none⟩) u.length cap ∧ B ≤ rb ∧ w.heap[rb]? = some (.cells l2.toArray T (0, 0)) ∧ u.length ≤ cap ∧ l2.length = cap ∧ l2.take u.length = u.map byteV
theorem OwnB.nil (B : Nat) (T : TypeId) (w : World) : OwnB B T w (.slice none 0 0) [] := .inl ⟨rfl, rfl⟩
theorem okV_yes {l : List UInt8} {p : Nat} (hp : p ≤ l.length) (h : (l.length : Int) - p > 0) (h4 : (l.length - p) % 4 = 0) : (((l.length : Int) - p).tmod 4 == 0) = true ∧ okVers l p = true := by
  have e : (l.length : Int) - p = ((l.length - p : Nat) : Int) := by omega
  rw [e]
  have e2 : ((l.length - p : Nat) : Int).tmod 4 = (((l.length - p) % 4 : Nat) : Int) := by rw [Int.tmod_eq_emod_of_nonneg (by omega)]; omega
  refine ⟨by rw [e2, h4]; rfl, by unfold okVers; simp [h4]; omega⟩
theorem okV_no4 {l : List UInt8} {p : Nat} (hp : p ≤ l.length) (h : (l.length : Int) - p > 0) (h4 : ¬ (l.length - p) % 4 = 0) : (((l.length : Int) - p).tmod 4 == 0) = false ∧ okVers l p = false := by
  have e : (l.length : Int) - p = ((l.length - p : Nat) : Int) := by omega
  rw [e]
  have e2 : ((l.length - p : Nat) : Int).tmod 4 = (((l.length - p) % 4 : Nat) : Int) := by rw [Int.tmod_eq_emod_of_nonneg (by omega)]; omega
  refine ⟨by rw [e2]; simp; omega, by unfold okVers; simp [h4]⟩
theorem okV_no {l : List UInt8} {p : Nat} (hp : p ≤ l.length) (h : ¬ (l.length : Int) - p > 0) : okVers l p = false := by
  unfold okVers
  have : l.length - p = 0 := by omega
  simp [this]
theorem num4 {l : List UInt8} {p : Nat} (h : p + 4 ≤ l.length) : numC l 4 ⟨p, 0⟩ = (beN ((l.drop p).take 4), ⟨p + 4, 0⟩) := by
  unfold numC
  rw [if_pos rfl, if_pos (by simpa using h)]
theorem bit6 (x : Nat) : (((if x.testBit 6 then 2 ^ 6 else 0 : Nat) : Int) != 0) = x.testBit 6 := by cases x.testBit 6 <;> rfl
theorem byt_ok {l : List UInt8} {p n : Nat} (h : p + n ≤ l.length) : bytesC l n ⟨p, 0⟩ = ((l.drop p).take n, ⟨p + n, 0⟩) := by
  unfold bytesC
  rw [if_pos rfl, if_pos (by simpa using h)]
theorem byt16 {l : List UInt8} {c : Cu} : (bytesC l 16 c).1.length = 16 ∨ (bytesC l 16 c).1 = [] := by
  unfold bytesC
  split
  · split
    · left; simp; omega
    · right; rfl
  · right; rfl

theorem okT_yes {tok : List UInt8} (h : (tok.length : Int) > 0) : decide ((tok.length : Int) ≤ 512) = okTok tok := by
  unfold okTok
  have : 0 < tok.length := by omega
  simp [this]
  exact ⟨fun h => by omega, fun h => by omega⟩
theorem okT_no {tok : List UInt8} (h : ¬ (tok.length : Int) > 0) : okTok tok = false := by
  unfold okTok
  have : ¬ 0 < tok.length := by omega
  simp [this]
theorem words_len (l : List UInt8) (p k : Nat) : (words l p k).length = k := by simp [words]

theorem Fc.ar24 : arrB Tryd.prog 24 = some (16, 1) := by kernel_rfl
theorem Fc.bsl23_1 : bslB Tryd.prog 23 1 = some (3, 1, [.int .i64 0]) := by kernel_rfl
theorem Fc.el23 : elB Tryd.prog 23 = some (3, 1, 8) := by kernel_rfl
theorem Fc.fn36 : isFn Tryd.prog 36 = true := by kernel_rfl
theorem Fc.fn37 : isFn Tryd.prog 37 = true := by kernel_rfl
theorem Fc.fo26_0 : foff Tryd.prog 26 0 = some 0 := by kernel_rfl
theorem Fc.fo26_1 : foff Tryd.prog 26 1 = some 1 := by kernel_rfl
theorem Fc.fo26_4 : foff Tryd.prog 26 4 = some 4 := by kernel_rfl
theorem Fc.fo26_5 : foff Tryd.prog 26 5 = some 5 := by kernel_rfl
theorem Fc.fo26_7 : foff Tryd.prog 26 7 = some 7 := by kernel_rfl
theorem Fc.fo26_8 : foff Tryd.prog 26 8 = some 8 := by kernel_rfl
theorem Fc.ni23 : notInt Tryd.prog 23 = true := by kernel_rfl
theorem Fc.sc23 : scB Tryd.prog 23 = true := by kernel_rfl
theorem Fc.sz22 : sizeB Tryd.prog 22 1 = true := by kernel_rfl
theorem Fc.sz23 : sizeB Tryd.prog 23 1 = true := by kernel_rfl
theorem Fc.sz5 : sizeB Tryd.prog 5 1 = true := by kernel_rfl
set_option maxRecDepth 100000 in
set_option maxHeartbeats 8000000 in
theorem hlong_c (hb cb p qc : Nat) (q : Option Addr) (l : List UInt8) (bad ve : Int) (dv sv : Value) (hdv : dv.oneCell' = true) (hsv : sv.oneCell' = true) (ph : Bool) (x0 : UInt8) (hx0 : l[0]? = some x0) (hp : p ≤ l.length) (hl : l.length ≤ 1099511627776) (h1 : 0 < l.length) (hcz : cb ≠ 0) (hhz : hb ≠ 0) (hne : hb ≠ cb) (w0 : World) (WT : TypeId) (WF : Nat × Nat) (hw0 : w0.heap[0]? = some (.cells [.int .i64 6, .int .i64 14, .int .i64 30, .int .i64 62].toArray WT WF)) (h : w0.heap[cb]? = some (.cells [.slice q l.length qc, .int .i64 (p : Int), .int .i64 bad].toArray 50 (0, 0)))
    (hh : w0.heap[hb]? = some (.cells ([.int .i64 0, .int .i64 ve, dv, sv, .slice none 0 0, .int .i64 0, .bool ph, .slice none 0 0, .int .u8 0, .int .u8 0, .int .u8 0, .int .u8 0, .int .u8 0, .int .u8 0, .int .u8 0, .int .u8 0, .int .u8 0, .int .u8 0, .int .u8 0, .int .u8 0, .int .u8 0, .int .u8 0, .int .u8 0, .int .u8 0] : List Value).toArray 26 (0, 0))) (hb_ : BsF (fun x => x = cb ∨ x = hb) w0 (.slice q l.length qc) l) : Calls Tryd.prog 22 #[.pointer (some ⟨hb, 0, none⟩), .pointer (some ⟨cb, 0, none⟩)] w0 fun e w' => ∃ tv gv, e = .returned (.tuple #[]) ∧
    w'.heap[hb]? = some (.cells ([.int .i64 (hlongC l x0.toNat ve ⟨p, bad⟩).kind, .int .i64 ve, dv, sv, tv, .int .i64 ((hlongC l x0.toNat ve ⟨p, bad⟩).len : Int), .bool ph, gv] ++ hcells (hlongC l x0.toNat ve ⟨p, bad⟩).tag : List Value).toArray 26 (0, 0)) ∧ w'.heap[cb]? = some (.cells [.slice q l.length qc, .int .i64 ((hlongC l x0.toNat ve ⟨p, bad⟩).c.p : Int), .int .i64 (hlongC l x0.toNat ve ⟨p, bad⟩).c.bad].toArray 50 (0, 0)) ∧ OwnB w0.heap.size 5 w' tv (hlongC l x0.toNat ve ⟨p, bad⟩).token ∧ Own w0.heap.size 1 3 w' gv (hlongC l x0.toNat ve ⟨p, bad⟩).list.length ((hlongC l x0.toNat ve ⟨p, bad⟩).list.map (Value.int .i64)) ∧ Mod (fun x => x = cb ∨ x = hb) w0 w' := by
  refine enter Tryd.func22 rfl rfl rfl ?_
  intro a hS
  have hH := Hp.start w0 (fun x => x = cb ∨ x = hb)
  have hltc := lt_of_block h
  have hlth := lt_of_block hh
  have hlt0 := lt_of_block hw0
  obtain ⟨ba, bo, hq⟩ := hb_.addr h1
  subst hq
  replace hH := hH.know hw0 (fun p hp => by simp at hp)
  replace hH := hH.know h (fun p hp => by simp at hp; subst hp; exact Ne.symm hcz)
  replace hH := hH.know hh (fun p hp => by simp at hp; rcases hp with rfl | rfl; exact Ne.symm hne; exact Ne.symm hhz)
  refine c_seq ?_
  refine wp_block ?_
  refine c_seq ?_
  refine reg_plain w0 (fun x => x = cb ∨ x = hb) ?_
  refine r_move hS hH.kp0 rfl rfl ?_; clear hS; intro a hS
  refine r_nilCheck hS hH.kp0 rfl rfl ?_; clear hS; intro a hS
  refine r_fieldAddr hS hH.kp0 rfl Fc.fo50_2 rfl ?_; clear hS; intro a hS
  refine r_load_sc hS hH (by repeat (first | exact Sub.nil | refine Sub.cons ?_ ?_ | exact In.here | refine In.there ?_)) rfl (by repeat (first | exact In.here | refine In.there ?_)) Fc.sc27 (by rfl) rfl ?_; clear hS; intro a hS
  refine r_neq hS hH.kp0 rfl rfl rfl ?_; clear hS; intro a hS
  refine r_assign hS hH.kp0 rfl rfl ?_; clear hS; intro a hS
  refine Sq.nil ?_
  refine then_n ?_
  refine c_cond hS rfl (fun hc0 => ?_) (fun hc0 => ?_)
  · have hb0 : bad ≠ 0 := by simpa using hc0
    refine wp_ret ?_
    refine blk_r ?_
    refine then_r ?_
    have er : hlongC l x0.toNat ve ⟨p, bad⟩ = ⟨0, [], 0, [], z16, ⟨p, bad⟩⟩ := by unfold hlongC; exact if_neg hb0
    rw [er]
    refine leave (.inl rfl) hS rfl Res.nil ⟨.slice none 0 0, .slice none 0 0, rfl, ?_, ?_, ?_, ?_, hH.mod⟩
    · exact hH.get (b := hb) (by repeat (first | exact In.here | refine In.there ?_))
    · exact hH.get (b := cb) (by repeat (first | exact In.here | refine In.there ?_))
    · exact OwnB.nil _ _ _
    · exact Own.nil _ _ _ _
  · have hb0 : bad = 0 := by simpa using hc0
    subst hb0
    refine c_seq ?_
    refine reg_plain w0 (fun x => x = cb ∨ x = hb) ?_
    refine r_move hS hH.kp0 rfl rfl ?_; clear hS; intro a hS
    refine r_nilCheck hS hH.kp0 rfl rfl ?_; clear hS; intro a hS
    refine r_fieldAddr hS hH.kp0 rfl Fc.fo26_1 rfl ?_; clear hS; intro a hS
    refine r_load_sc hS hH (by repeat (first | exact Sub.nil | refine Sub.cons ?_ ?_ | exact In.here | refine In.there ?_)) rfl (by repeat (first | exact In.here | refine In.there ?_)) Fc.sc3 (by rfl) rfl ?_; clear hS; intro a hS
    refine r_eql hS hH.kp0 rfl rfl rfl ?_; clear hS; intro a hS
    refine r_assign hS hH.kp0 rfl rfl ?_; clear hS; intro a hS
    refine Sq.nil ?_
    refine then_n ?_
    refine c_cond hS rfl (fun hc1 => ?_) (fun hc1 => ?_)
    · have hv0 : ve = 0 := by simpa using hc1
      subst hv0
      refine wp_scope_straight ?_
      refine c_seq ?_
      refine reg_plain w0 (fun x => x = cb ∨ x = hb) ?_
      refine r_move hS hH.kp0 rfl rfl ?_; clear hS; intro a hS
      refine r_nilCheck hS hH.kp0 rfl rfl ?_; clear hS; intro a hS
      refine r_fieldAddr hS hH.kp0 rfl Fc.fo26_0 rfl ?_; clear hS; intro a hS
      refine r_store1 hS hH rfl rfl rfl (by first | exact .here | exact .there .here | exact .there (.there .here) | exact .there (.there (.there .here)) | exact .there (.there (.there (.there .here))) | exact .there (.there (.there (.there (.there .here)))) | exact .there (.there (.there (.there (.there (.there .here))))) | exact .there (.there (.there (.there (.there (.there (.there .here)))))) | exact .there (.there (.there (.there (.there (.there (.there (.there .here))))))) | exact .there (.there (.there (.there (.there (.there (.there (.there (.there .here)))))))) | exact .there (.there (.there (.there (.there (.there (.there (.there (.there (.there .here))))))))) | exact .there (.there (.there (.there (.there (.there (.there (.there (.there (.there (.there .here)))))))))) | exact .there (.there (.there (.there (.there (.there (.there (.there (.there (.there (.there (.there .here))))))))))) | exact .there (.there (.there (.there (.there (.there (.there (.there (.there (.there (.there (.there (.there .here)))))))))))) | exact .there (.there (.there (.there (.there (.there (.there (.there (.there (.there (.there (.there (.there (.there .here))))))))))))) | exact .there (.there (.there (.there (.there (.there (.there (.there (.there (.there (.there (.there (.there (.there (.there .here))))))))))))))) (by repeat (first | exact Sub.nil | refine Sub.cons ?_ ?_ | exact In.here | refine In.there ?_)) Fc.sz3 (of_decide_eq_true rfl) (.inl (.inr rfl)) ?_
      clear hH; intro w hH
      refine Sq.nil ?_
      refine then_n ?_
      refine c_seq ?_
      refine reg_plain w0 (fun x => x = cb ∨ x = hb) ?_
      refine r_move hS hH.kp0 rfl rfl ?_; clear hS; intro a hS
      refine r_move hS hH.kp0 rfl rfl ?_; clear hS; intro a hS
      refine r_call (l := [.tmp 21]) hS rfl rfl Fc.fn36 rfl ?_
      refine Calls.mono (left_c cb (p) qc _ l (0) hl (by omega) _ (hH.get (b := cb) (by repeat (first | exact In.here | refine In.there ?_)))) ?_
      rintro e w1 ⟨rfl, hE⟩
      replace hH := hH.ext hE
      refine ⟨_, rfl, hH.kp0, ?_⟩
      clear hS; intro a hS
      refine r_gtr hS hH.kp0 rfl rfl rfl ?_; clear hS; intro a hS
      by_cases h0 : (l.length : Int) - (p : Int) > 0
      · refine r_move hS hH.kp0 rfl rfl ?_; clear hS; intro a hS
        refine Sq.guardYes hS rfl rfl (DT h0) ?_
        refine r_move hS hH.kp0 rfl rfl ?_; clear hS; intro a hS
        refine Sq.guardYes hS rfl rfl (DT h0) ?_
        refine r_call (l := [.tmp 25]) hS rfl rfl Fc.fn36 rfl ?_
        refine Calls.mono (left_c cb (p) qc _ l (0) hl (by omega) _ (hH.get (b := cb) (by repeat (first | exact In.here | refine In.there ?_)))) ?_
        rintro e w1 ⟨rfl, hE⟩
        replace hH := hH.ext hE
        refine ⟨_, rfl, hH.kp0, ?_⟩
        clear hS; intro a hS
        refine Sq.guardYes hS rfl rfl (DT h0) ?_
        refine r_rem hS hH.kp0 rfl rfl rfl (by first | decide | omega) ?_; clear hS; intro a hS
        refine Sq.guardYes hS rfl rfl (DT h0) ?_
        refine r_eql hS hH.kp0 rfl rfl rfl ?_; clear hS; intro a hS
        refine r_pickT hS hH.kp0 rfl (DT h0) rfl rfl ?_; clear hS; intro a hS
        by_cases h4 : (l.length - p) % 4 = 0
        · obtain ⟨hV4, hV⟩ := okV_yes hp h0 h4
          rw [hV4] at hS
          refine r_call (l := [.tmp 20, .tmp 29, .const (.int .i64 11)]) hS rfl rfl Fc.fn19 rfl ?_
          refine Calls.mono (ok_c cb _ _ 0 11 true p rfl _ (hH.get (b := cb) (by repeat (first | exact In.here | refine In.there ?_)))) ?_
          rintro e w1 ⟨rfl, hcb2, hm2⟩
          rw [okC_yes (.inr rfl)] at hcb2
          replace hH := hH.modPut hm2 hcb2 (by first | exact .here | exact .there .here | exact .there (.there .here) | exact .there (.there (.there .here)) | exact .there (.there (.there (.there .here))) | exact .there (.there (.there (.there (.there .here)))) | exact .there (.there (.there (.there (.there (.there .here))))) | exact .there (.there (.there (.there (.there (.there (.there .here)))))) | exact .there (.there (.there (.there (.there (.there (.there (.there .here))))))) | exact .there (.there (.there (.there (.there (.there (.there (.there (.there .here)))))))) | exact .there (.there (.there (.there (.there (.there (.there (.there (.there (.there .here))))))))) | exact .there (.there (.there (.there (.there (.there (.there (.there (.there (.there (.there .here)))))))))) | exact .there (.there (.there (.there (.there (.there (.there (.there (.there (.there (.there (.there .here))))))))))) | exact .there (.there (.there (.there (.there (.there (.there (.there (.there (.there (.there (.there (.there .here)))))))))))) | exact .there (.there (.there (.there (.there (.there (.there (.there (.there (.there (.there (.there (.there (.there .here))))))))))))) | exact .there (.there (.there (.there (.there (.there (.there (.there (.there (.there (.there (.there (.there (.there (.there .here))))))))))))))) (.inl (.inl rfl))
          refine ⟨_, rfl, hH.kp0, ?_⟩
          clear hS; intro a hS
          refine Sq.nil ?_
          refine then_n ?_
          refine c_seq ?_
          refine wp_label ?_
          refine then_n ?_
          refine c_seq ?_
          refine wp_block ?_
          refine c_loop (fun m a w => ∃ (k : Nat) (gv : Value), m + k = (l.length - p) / 4 ∧ Own w0.heap.size 1 3 w gv k ((words l p k).map (Value.int .i64)) ∧ St 151 (lv [(0, .pointer (some ⟨hb, 0, none⟩)), (1, .pointer (some ⟨cb, 0, none⟩))]) a ∧ Hp w0 (fun x => x = cb ∨ x = hb) [(hb, .cells ([.int .i64 4, .int .i64 0, dv, sv, .slice none 0 0, .int .i64 0, .bool ph, gv, .int .u8 0, .int .u8 0, .int .u8 0, .int .u8 0, .int .u8 0, .int .u8 0, .int .u8 0, .int .u8 0, .int .u8 0, .int .u8 0, .int .u8 0, .int .u8 0, .int .u8 0, .int .u8 0, .int .u8 0, .int .u8 0] : List Value).toArray 26 (0, 0)), (cb, .cells [.slice (some ⟨ba, bo, none⟩) l.length qc, .int .i64 ((p + 4 * k : Nat) : Int), .int .i64 0].toArray 50 (0, 0)), (0, .cells [.int .i64 6, .int .i64 14, .int .i64 30, .int .i64 62].toArray WT WF)] w) ((l.length - p) / 4) ?_ ?_
          · exact ⟨0, _, rfl, Own.nil _ _ _ _, hS.live ⟨rfl, rfl, trivial⟩, hH⟩
          clear hS hH; intro m a w hI; obtain ⟨k, gv, hmk, hO, hS, hH⟩ := hI
          refine c_seq ?_
          refine c_seq ?_
          refine reg_plain w0 (fun x => x = cb ∨ x = hb) ?_
          refine r_move hS hH.kp0 rfl rfl ?_; clear hS; intro a hS
          refine r_nilCheck hS hH.kp0 rfl rfl ?_; clear hS; intro a hS
          refine r_fieldAddr hS hH.kp0 rfl Fc.fo50_2 rfl ?_; clear hS; intro a hS
          refine r_load_sc hS hH (by repeat (first | exact Sub.nil | refine Sub.cons ?_ ?_ | exact In.here | refine In.there ?_)) rfl (by repeat (first | exact In.here | refine In.there ?_)) Fc.sc27 (by rfl) rfl ?_; clear hS; intro a hS
          refine r_eql hS hH.kp0 rfl rfl rfl ?_; clear hS; intro a hS
          refine Sq.nil ?_
          refine then_n ?_
          refine c_condT hS rfl rfl ?_
          refine wp_skip ?_
          refine then_n ?_
          refine wp_block ?_
          refine c_seq ?_
          refine c_seq ?_
          refine reg_plain w0 (fun x => x = cb ∨ x = hb) ?_
          rcases hO with ⟨rfl, hk0, hxs⟩ | ⟨ob, c9, l9, rfl, hob0, hbo, hl9, hm9, htk9⟩
          · refine r_move hS hH.kp0 rfl rfl ?_; clear hS; intro a hS
            refine r_call (l := [.tmp 36]) hS rfl rfl Fc.fn36 rfl ?_
            refine Calls.mono (left_c cb (p + 4 * k) qc _ l (0) hl (by omega) _ (hH.get (b := cb) (by repeat (first | exact In.here | refine In.there ?_)))) ?_
            rintro e w1 ⟨rfl, hE⟩
            replace hH := hH.ext hE
            refine ⟨_, rfl, hH.kp0, ?_⟩
            clear hS; intro a hS
            refine r_eql hS hH.kp0 rfl rfl rfl ?_; clear hS; intro a hS
            refine Sq.nil ?_
            refine then_n ?_
            refine c_cond hS rfl (fun hc3 => ?_) (fun hc3 => ?_)
            · refine wp_exit ?_
              refine then_e ?_
              refine blk_e rfl ?_
              refine then_e ?_
              refine blk_hit ?_
              refine then_n ?_
              refine wp_ret ?_
              refine sc_r ?_
              refine blk_r ?_
              refine then_r ?_
              have hz := beq_iff_eq.1 hc3
              have hpk : p + 4 * k = l.length := by omega
              have hkk : (l.length - p) / 4 = k := by omega
              rw [hpk] at hH
              have er : hlongC l x0.toNat 0 ⟨p, 0⟩ = ⟨4, [], 0, words l p k, z16, ⟨l.length, 0⟩⟩ := by unfold hlongC; rw [if_pos rfl, if_pos rfl]; unfold versC; simp only [hV]; rw [hkk]; rfl
              rw [er]
              refine leave (.inl rfl) hS rfl Res.nil ⟨.slice none 0 0, .slice none 0 0, rfl, ?_, ?_, ?_, ?_, hH.mod⟩
              · exact hH.get (b := hb) (by repeat (first | exact In.here | refine In.there ?_))
              · exact hH.get (b := cb) (by repeat (first | exact In.here | refine In.there ?_))
              · exact OwnB.nil _ _ _
              · subst hk0; exact Own.nil _ _ _ _
            · have hz := ne_of_beq_false hc3
              refine wp_skip ?_
              refine then_n ?_
              refine reg_draw [(true, 0, [0, 1]), (true, 1, [0, 1]), (true, 2, [0, 1]), (true, 3, [0, 1]), (true, 4, [1]), (true, 5, [0, 1]), (false, 6, [1]), (false, 7, [1]), (false, 8, [1]), (true, 9, [0, 1]), (true, 10, [0, 1]), (false, 11, [0, 1])] Fc.mixed (by kernel_rfl) (by kernel_rfl) (by kernel_rfl) (by kernel_rfl) (by kernel_rfl) (by repeat (first | with_reducible exact steady_body | with_reducible apply steady_block | with_reducible apply steady_then | with_reducible apply steady_scope | exact steady_body)) hH ?_
              replace hH := hH.drew
              refine r_move hS trivial rfl rfl ?_; clear hS; intro a hS
              refine r_move hS trivial rfl rfl ?_; clear hS; intro a hS
              refine r_nilCheck hS trivial rfl rfl ?_; clear hS; intro a hS
              refine r_fieldAddr hS trivial rfl Fc.fo26_7 rfl ?_; clear hS; intro a hS
              refine r_load_scS hS rfl (by repeat (first | exact In.here | refine In.there ?_)) Fc.sc23 (by rfl) rfl ?_; clear hS; intro a hS
              refine r_move hS trivial rfl rfl ?_; clear hS; intro a hS
              refine r_call (l := [.tmp 44, .const (.int .i64 4)]) hS rfl rfl Fc.fn18 rfl ?_
              refine Calls.mono ((by have hn := number_c cb (p + 4 * k) qc _ l 0 4 (by omega) hl (by omega) _ (hH.get (b := cb) (by repeat (first | exact In.here | refine In.there ?_))) (hb_.go hH.mod (fun x hx => .inl (.inl hx))); rw [num4 (by omega)] at hn; exact hn)) ?_
              rintro e w1 ⟨rfl, hcb2, hm2⟩
              replace hH := hH.modPut hm2 hcb2 (by first | exact .here | exact .there .here | exact .there (.there .here) | exact .there (.there (.there .here)) | exact .there (.there (.there (.there .here))) | exact .there (.there (.there (.there (.there .here)))) | exact .there (.there (.there (.there (.there (.there .here))))) | exact .there (.there (.there (.there (.there (.there (.there .here)))))) | exact .there (.there (.there (.there (.there (.there (.there (.there .here))))))) | exact .there (.there (.there (.there (.there (.there (.there (.there (.there .here)))))))) | exact .there (.there (.there (.there (.there (.there (.there (.there (.there (.there .here))))))))) | exact .there (.there (.there (.there (.there (.there (.there (.there (.there (.there (.there .here)))))))))) | exact .there (.there (.there (.there (.there (.there (.there (.there (.there (.there (.there (.there .here))))))))))) | exact .there (.there (.there (.there (.there (.there (.there (.there (.there (.there (.there (.there (.there .here)))))))))))) | exact .there (.there (.there (.there (.there (.there (.there (.there (.there (.there (.there (.there (.there (.there .here))))))))))))) | exact .there (.there (.there (.there (.there (.there (.there (.there (.there (.there (.there (.there (.there (.there (.there .here))))))))))))))) (.inl (.inl rfl))
              refine ⟨_, rfl, hH.kp (by repeat (first | exact Sub.nil | refine Sub.cons ?_ ?_ | exact In.here | refine In.there ?_)), ?_⟩
              clear hS; intro a hS
              refine r_buildSlice (parts := [(0, .tmp 45)]) hS hH (by repeat (first | exact Sub.nil | refine Sub.cons ?_ ?_ | exact In.here | refine In.there ?_)) rfl Fc.bsl23_1 (by rfl) rfl ?_
              clear hS hH; intro a w b46 hb46 hwb46 hS hH
              refine r_append_nil hS hH (by repeat (first | exact Sub.nil | refine Sub.cons ?_ ?_ | exact In.here | refine In.there ?_)) rfl rfl Fc.el23 Fc.ni23 (src_one (hH.get .here) rfl) (by decide) (by decide) rfl ?_
              clear hS hH; intro a w ob c9 l9 hob0 hob1 hl9 hm9 htk9 hE9 hS hH
              refine r_nilCheck hS trivial rfl rfl ?_; clear hS; intro a hS
              refine r_fieldAddr hS trivial rfl Fc.fo26_7 rfl ?_; clear hS; intro a hS
              refine r_store1 hS hH rfl rfl rfl (by first | exact .here | exact .there .here | exact .there (.there .here) | exact .there (.there (.there .here)) | exact .there (.there (.there (.there .here))) | exact .there (.there (.there (.there (.there .here)))) | exact .there (.there (.there (.there (.there (.there .here))))) | exact .there (.there (.there (.there (.there (.there (.there .here)))))) | exact .there (.there (.there (.there (.there (.there (.there (.there .here))))))) | exact .there (.there (.there (.there (.there (.there (.there (.there (.there .here)))))))) | exact .there (.there (.there (.there (.there (.there (.there (.there (.there (.there .here))))))))) | exact .there (.there (.there (.there (.there (.there (.there (.there (.there (.there (.there .here)))))))))) | exact .there (.there (.there (.there (.there (.there (.there (.there (.there (.there (.there (.there .here))))))))))) | exact .there (.there (.there (.there (.there (.there (.there (.there (.there (.there (.there (.there (.there .here)))))))))))) | exact .there (.there (.there (.there (.there (.there (.there (.there (.there (.there (.there (.there (.there (.there .here))))))))))))) | exact .there (.there (.there (.there (.there (.there (.there (.there (.there (.there (.there (.there (.there (.there (.there .here))))))))))))))) (by repeat (first | exact Sub.nil | refine Sub.cons ?_ ?_ | exact In.here | refine In.there ?_)) Fc.sz23 (of_decide_eq_true rfl) (.inl (.inr rfl)) ?_
              clear hH; intro w hH
              refine Sq.nil ?_
              refine blk_n ?_
              refine then_n ?_
              subst hk0
              have hHz := hH.front (b := ob) (by first | exact .here | exact .there .here | exact .there (.there .here) | exact .there (.there (.there .here)) | exact .there (.there (.there (.there .here))) | exact .there (.there (.there (.there (.there .here)))) | exact .there (.there (.there (.there (.there (.there .here))))) | exact .there (.there (.there (.there (.there (.there (.there .here)))))) | exact .there (.there (.there (.there (.there (.there (.there (.there .here))))))) | exact .there (.there (.there (.there (.there (.there (.there (.there (.there .here)))))))) | exact .there (.there (.there (.there (.there (.there (.there (.there (.there (.there .here))))))))) | exact .there (.there (.there (.there (.there (.there (.there (.there (.there (.there (.there .here)))))))))) | exact .there (.there (.there (.there (.there (.there (.there (.there (.there (.there (.there (.there .here))))))))))) | exact .there (.there (.there (.there (.there (.there (.there (.there (.there (.there (.there (.there (.there .here)))))))))))) | exact .there (.there (.there (.there (.there (.there (.there (.there (.there (.there (.there (.there (.there (.there .here))))))))))))) | exact .there (.there (.there (.there (.there (.there (.there (.there (.there (.there (.there (.there (.there (.there (.there .here)))))))))))))))
              refine ⟨m - 1, by omega, 0 + 1, .slice (some ⟨ob, 0, none⟩) 1 c9, by omega, .inr ⟨ob, c9, l9, rfl, hob0, hHz.get .here, hl9, hm9, ?_⟩, hS.live ⟨rfl, rfl, trivial⟩, ?_⟩
              · rw [words_succ]; simpa [words] using htk9
              · exact hHz.sub (by repeat (first | exact Sub.nil | refine Sub.cons ?_ ?_ | exact In.here | refine In.there ?_)) (by have nd := hHz.nd; simp only [List.map_cons, List.map_nil, List.nodup_cons] at nd ⊢; simp_all)
          · replace hH := hH.know hbo (fun z hz e => by simp only [List.mem_cons, List.not_mem_nil, or_false] at hz; rcases hz with rfl | rfl | rfl <;> (simp only at e; omega))
            refine r_move hS hH.kp0 rfl rfl ?_; clear hS; intro a hS
            refine r_call (l := [.tmp 36]) hS rfl rfl Fc.fn36 rfl ?_
            refine Calls.mono (left_c cb (p + 4 * k) qc _ l (0) hl (by omega) _ (hH.get (b := cb) (by repeat (first | exact In.here | refine In.there ?_)))) ?_
            rintro e w1 ⟨rfl, hE⟩
            replace hH := hH.ext hE
            refine ⟨_, rfl, hH.kp0, ?_⟩
            clear hS; intro a hS
            refine r_eql hS hH.kp0 rfl rfl rfl ?_; clear hS; intro a hS
            refine Sq.nil ?_
            refine then_n ?_
            refine c_cond hS rfl (fun hc3 => ?_) (fun hc3 => ?_)
            · refine wp_exit ?_
              refine then_e ?_
              refine blk_e rfl ?_
              refine then_e ?_
              refine blk_hit ?_
              refine then_n ?_
              refine wp_ret ?_
              refine sc_r ?_
              refine blk_r ?_
              refine then_r ?_
              have hz := beq_iff_eq.1 hc3
              have hpk : p + 4 * k = l.length := by omega
              have hkk : (l.length - p) / 4 = k := by omega
              rw [hpk] at hH
              have er : hlongC l x0.toNat 0 ⟨p, 0⟩ = ⟨4, [], 0, words l p k, z16, ⟨l.length, 0⟩⟩ := by unfold hlongC; rw [if_pos rfl, if_pos rfl]; unfold versC; simp only [hV]; rw [hkk]; rfl
              rw [er]
              refine leave (.inl rfl) hS rfl Res.nil ⟨.slice none 0 0, (.slice (some ⟨ob, 0, none⟩) k c9), rfl, ?_, ?_, ?_, ?_, hH.mod⟩
              · exact hH.get (b := hb) (by repeat (first | exact In.here | refine In.there ?_))
              · exact hH.get (b := cb) (by repeat (first | exact In.here | refine In.there ?_))
              · exact OwnB.nil _ _ _
              · show Own _ _ _ _ _ (words l p k).length _; rw [words_len]; exact .inr ⟨ob, c9, l9, rfl, hob0, hH.get (b := ob) (by repeat (first | exact In.here | refine In.there ?_)), hl9, hm9, htk9⟩
            · have hz := ne_of_beq_false hc3
              refine wp_skip ?_
              refine then_n ?_
              refine reg_draw [(true, 0, [0, 1, 2]), (true, 1, [0, 1, 2]), (true, 2, [0, 1, 2]), (true, 3, [0, 1, 2]), (true, 4, [0, 2]), (true, 5, [0, 1, 2]), (false, 6, [2]), (false, 7, [2]), (false, 8, [0, 2]), (true, 9, [0, 1, 2]), (true, 10, [0, 1, 2]), (false, 11, [0, 1, 2])] Fc.mixed (by kernel_rfl) (by kernel_rfl) (by kernel_rfl) (by kernel_rfl) (by kernel_rfl) (by repeat (first | with_reducible exact steady_body | with_reducible apply steady_block | with_reducible apply steady_then | with_reducible apply steady_scope | exact steady_body)) hH ?_
              replace hH := hH.drew
              refine r_move hS trivial rfl rfl ?_; clear hS; intro a hS
              refine r_move hS trivial rfl rfl ?_; clear hS; intro a hS
              refine r_nilCheck hS trivial rfl rfl ?_; clear hS; intro a hS
              refine r_fieldAddr hS trivial rfl Fc.fo26_7 rfl ?_; clear hS; intro a hS
              refine r_load_scS hS rfl (by repeat (first | exact In.here | refine In.there ?_)) Fc.sc23 (by rfl) rfl ?_; clear hS; intro a hS
              refine r_move hS trivial rfl rfl ?_; clear hS; intro a hS
              refine r_call (l := [.tmp 44, .const (.int .i64 4)]) hS rfl rfl Fc.fn18 rfl ?_
              refine Calls.mono ((by have hn := number_c cb (p + 4 * k) qc _ l 0 4 (by omega) hl (by omega) _ (hH.get (b := cb) (by repeat (first | exact In.here | refine In.there ?_))) (hb_.go hH.mod (fun x hx => .inl (.inl hx))); rw [num4 (by omega)] at hn; exact hn)) ?_
              rintro e w1 ⟨rfl, hcb2, hm2⟩
              replace hH := hH.modPut hm2 hcb2 (by first | exact .here | exact .there .here | exact .there (.there .here) | exact .there (.there (.there .here)) | exact .there (.there (.there (.there .here))) | exact .there (.there (.there (.there (.there .here)))) | exact .there (.there (.there (.there (.there (.there .here))))) | exact .there (.there (.there (.there (.there (.there (.there .here)))))) | exact .there (.there (.there (.there (.there (.there (.there (.there .here))))))) | exact .there (.there (.there (.there (.there (.there (.there (.there (.there .here)))))))) | exact .there (.there (.there (.there (.there (.there (.there (.there (.there (.there .here))))))))) | exact .there (.there (.there (.there (.there (.there (.there (.there (.there (.there (.there .here)))))))))) | exact .there (.there (.there (.there (.there (.there (.there (.there (.there (.there (.there (.there .here))))))))))) | exact .there (.there (.there (.there (.there (.there (.there (.there (.there (.there (.there (.there (.there .here)))))))))))) | exact .there (.there (.there (.there (.there (.there (.there (.there (.there (.there (.there (.there (.there (.there .here))))))))))))) | exact .there (.there (.there (.there (.there (.there (.there (.there (.there (.there (.there (.there (.there (.there (.there .here))))))))))))))) (.inl (.inl rfl))
              refine ⟨_, rfl, hH.kp (by repeat (first | exact Sub.nil | refine Sub.cons ?_ ?_ | exact In.here | refine In.there ?_)), ?_⟩
              clear hS; intro a hS
              refine r_buildSlice (parts := [(0, .tmp 45)]) hS hH (by repeat (first | exact Sub.nil | refine Sub.cons ?_ ?_ | exact In.here | refine In.there ?_)) rfl Fc.bsl23_1 (by rfl) rfl ?_
              clear hS hH; intro a w b46 hb46 hwb46 hS hH
              refine r_append_own2 hS hH rfl rfl (by first | exact .here | exact .there .here | exact .there (.there .here) | exact .there (.there (.there .here)) | exact .there (.there (.there (.there .here))) | exact .there (.there (.there (.there (.there .here)))) | exact .there (.there (.there (.there (.there (.there .here))))) | exact .there (.there (.there (.there (.there (.there (.there .here)))))) | exact .there (.there (.there (.there (.there (.there (.there (.there .here))))))) | exact .there (.there (.there (.there (.there (.there (.there (.there (.there .here)))))))) | exact .there (.there (.there (.there (.there (.there (.there (.there (.there (.there .here))))))))) | exact .there (.there (.there (.there (.there (.there (.there (.there (.there (.there (.there .here)))))))))) | exact .there (.there (.there (.there (.there (.there (.there (.there (.there (.there (.there (.there .here))))))))))) | exact .there (.there (.there (.there (.there (.there (.there (.there (.there (.there (.there (.there (.there .here)))))))))))) | exact .there (.there (.there (.there (.there (.there (.there (.there (.there (.there (.there (.there (.there (.there .here))))))))))))) | exact .there (.there (.there (.there (.there (.there (.there (.there (.there (.there (.there (.there (.there (.there (.there .here))))))))))))))) (by repeat (first | exact Sub.nil | refine Sub.cons ?_ ?_ | exact In.here | refine In.there ?_)) Fc.el23 Fc.ni23 hl9 hm9 (src_one (hH.get .here) rfl) (by omega) hob0 rfl ?_
              clear hS hH; intro a w ob2 c10 l10 hob2 hl10 hm10 htk10 hmw10 hS hH
              refine r_nilCheck hS trivial rfl rfl ?_; clear hS; intro a hS
              refine r_fieldAddr hS trivial rfl Fc.fo26_7 rfl ?_; clear hS; intro a hS
              refine r_store1 hS hH rfl rfl rfl (by first | exact .here | exact .there .here | exact .there (.there .here) | exact .there (.there (.there .here)) | exact .there (.there (.there (.there .here))) | exact .there (.there (.there (.there (.there .here)))) | exact .there (.there (.there (.there (.there (.there .here))))) | exact .there (.there (.there (.there (.there (.there (.there .here)))))) | exact .there (.there (.there (.there (.there (.there (.there (.there .here))))))) | exact .there (.there (.there (.there (.there (.there (.there (.there (.there .here)))))))) | exact .there (.there (.there (.there (.there (.there (.there (.there (.there (.there .here))))))))) | exact .there (.there (.there (.there (.there (.there (.there (.there (.there (.there (.there .here)))))))))) | exact .there (.there (.there (.there (.there (.there (.there (.there (.there (.there (.there (.there .here))))))))))) | exact .there (.there (.there (.there (.there (.there (.there (.there (.there (.there (.there (.there (.there .here)))))))))))) | exact .there (.there (.there (.there (.there (.there (.there (.there (.there (.there (.there (.there (.there (.there .here))))))))))))) | exact .there (.there (.there (.there (.there (.there (.there (.there (.there (.there (.there (.there (.there (.there (.there .here))))))))))))))) (by repeat (first | exact Sub.nil | refine Sub.cons ?_ ?_ | exact In.here | refine In.there ?_)) Fc.sz23 (of_decide_eq_true rfl) (.inl (.inr rfl)) ?_
              clear hH; intro w hH
              refine Sq.nil ?_
              refine blk_n ?_
              refine then_n ?_
              have hHz := hH.front (b := ob2) (by first | exact .here | exact .there .here | exact .there (.there .here) | exact .there (.there (.there .here)) | exact .there (.there (.there (.there .here))) | exact .there (.there (.there (.there (.there .here)))) | exact .there (.there (.there (.there (.there (.there .here))))) | exact .there (.there (.there (.there (.there (.there (.there .here)))))) | exact .there (.there (.there (.there (.there (.there (.there (.there .here))))))) | exact .there (.there (.there (.there (.there (.there (.there (.there (.there .here)))))))) | exact .there (.there (.there (.there (.there (.there (.there (.there (.there (.there .here))))))))) | exact .there (.there (.there (.there (.there (.there (.there (.there (.there (.there (.there .here)))))))))) | exact .there (.there (.there (.there (.there (.there (.there (.there (.there (.there (.there (.there .here))))))))))) | exact .there (.there (.there (.there (.there (.there (.there (.there (.there (.there (.there (.there (.there .here)))))))))))) | exact .there (.there (.there (.there (.there (.there (.there (.there (.there (.there (.there (.there (.there (.there .here))))))))))))) | exact .there (.there (.there (.there (.there (.there (.there (.there (.there (.there (.there (.there (.there (.there (.there .here)))))))))))))))
              refine ⟨m - 1, by omega, k + 1, .slice (some ⟨ob2, 0, none⟩) (k + 1) c10, by omega, .inr ⟨ob2, c10, l10, rfl, hob2, hHz.get .here, hl10, hm10, ?_⟩, hS.live ⟨rfl, rfl, trivial⟩, ?_⟩
              · rw [words_succ, htk10, htk9, List.map_append]; rfl
              · exact hHz.sub (by repeat (first | exact Sub.nil | refine Sub.cons ?_ ?_ | exact In.here | refine In.there ?_)) (by have nd := hHz.nd; simp only [List.map_cons, List.map_nil, List.nodup_cons] at nd ⊢; simp_all)
        · obtain ⟨hV4, hV⟩ := okV_no4 hp h0 h4
          rw [hV4] at hS
          refine r_call (l := [.tmp 20, .tmp 29, .const (.int .i64 11)]) hS rfl rfl Fc.fn19 rfl ?_
          refine Calls.mono (ok_c cb _ _ 0 11 false p rfl _ (hH.get (b := cb) (by repeat (first | exact In.here | refine In.there ?_)))) ?_
          rintro e w1 ⟨rfl, hcb2, hm2⟩
          rw [okC_no rfl rfl] at hcb2
          replace hH := hH.modPut hm2 hcb2 (by first | exact .here | exact .there .here | exact .there (.there .here) | exact .there (.there (.there .here)) | exact .there (.there (.there (.there .here))) | exact .there (.there (.there (.there (.there .here)))) | exact .there (.there (.there (.there (.there (.there .here))))) | exact .there (.there (.there (.there (.there (.there (.there .here)))))) | exact .there (.there (.there (.there (.there (.there (.there (.there .here))))))) | exact .there (.there (.there (.there (.there (.there (.there (.there (.there .here)))))))) | exact .there (.there (.there (.there (.there (.there (.there (.there (.there (.there .here))))))))) | exact .there (.there (.there (.there (.there (.there (.there (.there (.there (.there (.there .here)))))))))) | exact .there (.there (.there (.there (.there (.there (.there (.there (.there (.there (.there (.there .here))))))))))) | exact .there (.there (.there (.there (.there (.there (.there (.there (.there (.there (.there (.there (.there .here)))))))))))) | exact .there (.there (.there (.there (.there (.there (.there (.there (.there (.there (.there (.there (.there (.there .here))))))))))))) | exact .there (.there (.there (.there (.there (.there (.there (.there (.there (.there (.there (.there (.there (.there (.there .here))))))))))))))) (.inl (.inl rfl))
          refine ⟨_, rfl, hH.kp0, ?_⟩
          clear hS; intro a hS
          refine Sq.nil ?_
          refine then_n ?_
          refine c_seq ?_
          refine wp_label ?_
          refine then_n ?_
          refine c_seq ?_
          refine wp_block ?_
          refine wp_loop_rounds 1 ?_
          refine rnd ?_
          refine c_seq ?_
          refine c_seq ?_
          refine reg_plain w0 (fun x => x = cb ∨ x = hb) ?_
          refine r_move hS hH.kp0 rfl rfl ?_; clear hS; intro a hS
          refine r_nilCheck hS hH.kp0 rfl rfl ?_; clear hS; intro a hS
          refine r_fieldAddr hS hH.kp0 rfl Fc.fo50_2 rfl ?_; clear hS; intro a hS
          refine r_load_sc hS hH (by repeat (first | exact Sub.nil | refine Sub.cons ?_ ?_ | exact In.here | refine In.there ?_)) rfl (by repeat (first | exact In.here | refine In.there ?_)) Fc.sc27 (by rfl) rfl ?_; clear hS; intro a hS
          refine r_eql hS hH.kp0 rfl rfl rfl ?_; clear hS; intro a hS
          refine Sq.nil ?_
          refine then_n ?_
          refine c_condF hS rfl rfl ?_
          refine wp_exit ?_
          refine then_e ?_
          refine then_e ?_
          refine blk_hit ?_
          refine then_n ?_
          refine wp_ret ?_
          refine sc_r ?_
          refine blk_r ?_
          refine then_r ?_
          have er : hlongC l x0.toNat 0 ⟨p, 0⟩ = ⟨4, [], 0, [], z16, ⟨p, 11⟩⟩ := by unfold hlongC; rw [if_pos rfl, if_pos rfl]; unfold versC; simp only [hV]; rfl
          rw [er]
          refine leave (.inl rfl) hS rfl Res.nil ⟨.slice none 0 0, .slice none 0 0, rfl, ?_, ?_, ?_, ?_, hH.mod⟩
          · exact hH.get (b := hb) (by repeat (first | exact In.here | refine In.there ?_))
          · exact hH.get (b := cb) (by repeat (first | exact In.here | refine In.there ?_))
          · exact OwnB.nil _ _ _
          · exact Own.nil _ _ _ _
      · have hV := okV_no hp h0
        refine r_move hS hH.kp0 rfl rfl ?_; clear hS; intro a hS
        refine Sq.guardNo hS rfl rfl (DF h0) hH.kp0 rfl ?_; clear hS; intro a hS
        refine Sq.guardNo hS rfl rfl (DF h0) hH.kp0 rfl ?_; clear hS; intro a hS
        refine Sq.guardNo hS rfl rfl (DF h0) hH.kp0 rfl ?_; clear hS; intro a hS
        refine Sq.guardNo hS rfl rfl (DF h0) hH.kp0 rfl ?_; clear hS; intro a hS
        refine r_pickF hS hH.kp0 rfl (DF h0) rfl rfl ?_; clear hS; intro a hS
        refine r_call (l := [.tmp 20, .tmp 29, .const (.int .i64 11)]) hS rfl rfl Fc.fn19 rfl ?_
        refine Calls.mono (ok_c cb _ _ 0 11 false p rfl _ (hH.get (b := cb) (by repeat (first | exact In.here | refine In.there ?_)))) ?_
        rintro e w1 ⟨rfl, hcb2, hm2⟩
        rw [okC_no rfl rfl] at hcb2
        replace hH := hH.modPut hm2 hcb2 (by first | exact .here | exact .there .here | exact .there (.there .here) | exact .there (.there (.there .here)) | exact .there (.there (.there (.there .here))) | exact .there (.there (.there (.there (.there .here)))) | exact .there (.there (.there (.there (.there (.there .here))))) | exact .there (.there (.there (.there (.there (.there (.there .here)))))) | exact .there (.there (.there (.there (.there (.there (.there (.there .here))))))) | exact .there (.there (.there (.there (.there (.there (.there (.there (.there .here)))))))) | exact .there (.there (.there (.there (.there (.there (.there (.there (.there (.there .here))))))))) | exact .there (.there (.there (.there (.there (.there (.there (.there (.there (.there (.there .here)))))))))) | exact .there (.there (.there (.there (.there (.there (.there (.there (.there (.there (.there (.there .here))))))))))) | exact .there (.there (.there (.there (.there (.there (.there (.there (.there (.there (.there (.there (.there .here)))))))))))) | exact .there (.there (.there (.there (.there (.there (.there (.there (.there (.there (.there (.there (.there (.there .here))))))))))))) | exact .there (.there (.there (.there (.there (.there (.there (.there (.there (.there (.there (.there (.there (.there (.there .here))))))))))))))) (.inl (.inl rfl))
        refine ⟨_, rfl, hH.kp0, ?_⟩
        clear hS; intro a hS
        refine Sq.nil ?_
        refine then_n ?_
        refine c_seq ?_
        refine wp_label ?_
        refine then_n ?_
        refine c_seq ?_
        refine wp_block ?_
        refine wp_loop_rounds 1 ?_
        refine rnd ?_
        refine c_seq ?_
        refine c_seq ?_
        refine reg_plain w0 (fun x => x = cb ∨ x = hb) ?_
        refine r_move hS hH.kp0 rfl rfl ?_; clear hS; intro a hS
        refine r_nilCheck hS hH.kp0 rfl rfl ?_; clear hS; intro a hS
        refine r_fieldAddr hS hH.kp0 rfl Fc.fo50_2 rfl ?_; clear hS; intro a hS
        refine r_load_sc hS hH (by repeat (first | exact Sub.nil | refine Sub.cons ?_ ?_ | exact In.here | refine In.there ?_)) rfl (by repeat (first | exact In.here | refine In.there ?_)) Fc.sc27 (by rfl) rfl ?_; clear hS; intro a hS
        refine r_eql hS hH.kp0 rfl rfl rfl ?_; clear hS; intro a hS
        refine Sq.nil ?_
        refine then_n ?_
        refine c_condF hS rfl rfl ?_
        refine wp_exit ?_
        refine then_e ?_
        refine then_e ?_
        refine blk_hit ?_
        refine then_n ?_
        refine wp_ret ?_
        refine sc_r ?_
        refine blk_r ?_
        refine then_r ?_
        have er : hlongC l x0.toNat 0 ⟨p, 0⟩ = ⟨4, [], 0, [], z16, ⟨p, 11⟩⟩ := by unfold hlongC; rw [if_pos rfl, if_pos rfl]; unfold versC; simp only [hV]; rfl
        rw [er]
        refine leave (.inl rfl) hS rfl Res.nil ⟨.slice none 0 0, .slice none 0 0, rfl, ?_, ?_, ?_, ?_, hH.mod⟩
        · exact hH.get (b := hb) (by repeat (first | exact In.here | refine In.there ?_))
        · exact hH.get (b := cb) (by repeat (first | exact In.here | refine In.there ?_))
        · exact OwnB.nil _ _ _
        · exact Own.nil _ _ _ _
    · have hv0 : ve ≠ 0 := by simpa using hc1
      refine c_seq ?_
      refine reg_plain w0 (fun x => x = cb ∨ x = hb) ?_
      refine r_move hS hH.kp0 rfl rfl ?_; clear hS; intro a hS
      refine r_nilCheck hS hH.kp0 rfl rfl ?_; clear hS; intro a hS
      refine r_fieldAddr hS hH.kp0 rfl Fc.fo26_1 rfl ?_; clear hS; intro a hS
      refine r_load_sc hS hH (by repeat (first | exact Sub.nil | refine Sub.cons ?_ ?_ | exact In.here | refine In.there ?_)) rfl (by repeat (first | exact In.here | refine In.there ?_)) Fc.sc3 (by rfl) rfl ?_; clear hS; intro a hS
      refine r_neq hS hH.kp0 rfl rfl rfl ?_; clear hS; intro a hS
      refine r_assign hS hH.kp0 rfl rfl ?_; clear hS; intro a hS
      refine Sq.nil ?_
      refine then_n ?_
      refine c_cond hS rfl (fun hc4 => ?_) (fun hc4 => ?_)
      · have hv1 : ve ≠ 1 := by simpa using hc4
        refine c_seq ?_
        refine reg_plain w0 (fun x => x = cb ∨ x = hb) ?_
        refine r_move hS hH.kp0 rfl rfl ?_; clear hS; intro a hS
        refine r_nilCheck hS hH.kp0 rfl rfl ?_; clear hS; intro a hS
        refine r_fieldAddr hS hH.kp0 rfl Fc.fo26_0 rfl ?_; clear hS; intro a hS
        refine r_store1 hS hH rfl rfl rfl (by first | exact .here | exact .there .here | exact .there (.there .here) | exact .there (.there (.there .here)) | exact .there (.there (.there (.there .here))) | exact .there (.there (.there (.there (.there .here)))) | exact .there (.there (.there (.there (.there (.there .here))))) | exact .there (.there (.there (.there (.there (.there (.there .here)))))) | exact .there (.there (.there (.there (.there (.there (.there (.there .here))))))) | exact .there (.there (.there (.there (.there (.there (.there (.there (.there .here)))))))) | exact .there (.there (.there (.there (.there (.there (.there (.there (.there (.there .here))))))))) | exact .there (.there (.there (.there (.there (.there (.there (.there (.there (.there (.there .here)))))))))) | exact .there (.there (.there (.there (.there (.there (.there (.there (.there (.there (.there (.there .here))))))))))) | exact .there (.there (.there (.there (.there (.there (.there (.there (.there (.there (.there (.there (.there .here)))))))))))) | exact .there (.there (.there (.there (.there (.there (.there (.there (.there (.there (.there (.there (.there (.there .here))))))))))))) | exact .there (.there (.there (.there (.there (.there (.there (.there (.there (.there (.there (.there (.there (.there (.there .here))))))))))))))) (by repeat (first | exact Sub.nil | refine Sub.cons ?_ ?_ | exact In.here | refine In.there ?_)) Fc.sz3 (of_decide_eq_true rfl) (.inl (.inr rfl)) ?_
        clear hH; intro w hH
        refine Sq.nil ?_
        refine then_n ?_
        refine wp_ret ?_
        refine blk_r ?_
        refine then_r ?_
        have er : hlongC l x0.toNat ve ⟨p, 0⟩ = ⟨6, [], 0, [], z16, ⟨p, 0⟩⟩ := by unfold hlongC; rw [if_pos rfl, if_neg hv0, if_neg hv1]
        rw [er]
        refine leave (.inl rfl) hS rfl Res.nil ⟨.slice none 0 0, .slice none 0 0, rfl, ?_, ?_, ?_, ?_, hH.mod⟩
        · exact hH.get (b := hb) (by repeat (first | exact In.here | refine In.there ?_))
        · exact hH.get (b := cb) (by repeat (first | exact In.here | refine In.there ?_))
        · exact OwnB.nil _ _ _
        · exact Own.nil _ _ _ _
      · have hv1 : ve = 1 := by simpa using hc4
        subst hv1
        refine wp_skip ?_
        refine blk_n ?_
        refine then_n ?_
        refine c_seq ?_
        refine reg_plain w0 (fun x => x = cb ∨ x = hb) ?_
        refine r_move hS hH.kp0 rfl rfl ?_; clear hS; intro a hS
        refine r_move hS hH.kp0 rfl rfl ?_; clear hS; intro a hS
        refine r_nilCheck hS hH.kp0 rfl rfl ?_; clear hS; intro a hS
        refine r_fieldAddr hS hH.kp0 rfl Fc.fo50_0 rfl ?_; clear hS; intro a hS
        refine r_load_sc hS hH (by repeat (first | exact Sub.nil | refine Sub.cons ?_ ?_ | exact In.here | refine In.there ?_)) rfl (by repeat (first | exact In.here | refine In.there ?_)) Fc.sc22 (by rfl) rfl ?_; clear hS; intro a hS
        refine r_indexAddrS (j := 0) hS hH.kp0 rfl rfl Fc.slb22 rfl (by omega) rfl ?_; clear hS; intro a hS
        refine r_load_cell (v := byteV x0) hS hH.kp0 rfl (by rw [Nat.zero_mul]; exact hb_.byte hH.mod hx0) Fc.sc5 rfl ?_; clear hS; intro a hS
        refine r_bitB x0.toNat 6 hS hH.kp0 rfl rfl rfl rfl (by decide) x0.toNat_lt ?_; clear hS; intro a hS
        refine r_neq hS hH.kp0 rfl rfl rfl ?_; clear hS; intro a hS
        rw [bit6] at hS
        refine r_call (l := [.tmp 59, .tmp 67, .const (.int .i64 11)]) hS rfl rfl Fc.fn19 rfl ?_
        refine Calls.mono (ok_c cb _ _ (0) (11) (x0.toNat.testBit 6) (p) rfl _ (hH.get (b := cb) (by repeat (first | exact In.here | refine In.there ?_)))) ?_
        rintro e w1 ⟨rfl, hcb3, hm3⟩
        obtain ⟨b1, hb1⟩ : ∃ z, (okC ⟨p, 0⟩ (x0.toNat.testBit 6) 11).bad = z := ⟨_, rfl⟩
        have hC1 : okC ⟨p, 0⟩ (x0.toNat.testBit 6) 11 = ⟨p, b1⟩ := by rw [ok_bad, hb1]
        rw [hb1] at hcb3
        replace hH := hH.modPut hm3 hcb3 (by first | exact .here | exact .there .here | exact .there (.there .here) | exact .there (.there (.there .here)) | exact .there (.there (.there (.there .here))) | exact .there (.there (.there (.there (.there .here)))) | exact .there (.there (.there (.there (.there (.there .here))))) | exact .there (.there (.there (.there (.there (.there (.there .here)))))) | exact .there (.there (.there (.there (.there (.there (.there (.there .here))))))) | exact .there (.there (.there (.there (.there (.there (.there (.there (.there .here)))))))) | exact .there (.there (.there (.there (.there (.there (.there (.there (.there (.there .here))))))))) | exact .there (.there (.there (.there (.there (.there (.there (.there (.there (.there (.there .here)))))))))) | exact .there (.there (.there (.there (.there (.there (.there (.there (.there (.there (.there (.there .here))))))))))) | exact .there (.there (.there (.there (.there (.there (.there (.there (.there (.there (.there (.there (.there .here)))))))))))) | exact .there (.there (.there (.there (.there (.there (.there (.there (.there (.there (.there (.there (.there (.there .here))))))))))))) | exact .there (.there (.there (.there (.there (.there (.there (.there (.there (.there (.there (.there (.there (.there (.there .here))))))))))))))) (.inl (.inl rfl))
        refine ⟨_, rfl, hH.kp0, ?_⟩
        clear hS; intro a hS
        refine Sq.nil ?_
        refine then_n ?_
        refine c_seq ?_
        refine reg_plain w0 (fun x => x = cb ∨ x = hb) ?_
        refine r_move hS hH.kp0 rfl rfl ?_; clear hS; intro a hS
        refine r_move hS hH.kp0 rfl rfl ?_; clear hS; intro a hS
        refine r_nilCheck hS hH.kp0 rfl rfl ?_; clear hS; intro a hS
        refine r_fieldAddr hS hH.kp0 rfl Fc.fo50_0 rfl ?_; clear hS; intro a hS
        refine r_load_sc hS hH (by repeat (first | exact Sub.nil | refine Sub.cons ?_ ?_ | exact In.here | refine In.there ?_)) rfl (by repeat (first | exact In.here | refine In.there ?_)) Fc.sc22 (by rfl) rfl ?_; clear hS; intro a hS
        refine r_indexAddrS (j := 0) hS hH.kp0 rfl rfl Fc.slb22 rfl (by omega) rfl ?_; clear hS; intro a hS
        refine r_load_cell (v := byteV x0) hS hH.kp0 rfl (by rw [Nat.zero_mul]; exact hb_.byte hH.mod hx0) Fc.sc5 rfl ?_; clear hS; intro a hS
        refine r_shrB x0.toNat 4 hS hH.kp0 rfl rfl rfl rfl (by decide) ?_; clear hS; intro a hS
        refine r_maskB (x0.toNat / 2 ^ 4) 2 hS hH.kp0 rfl rfl rfl rfl (by decide) (by have := x0.toNat_lt; omega) ?_; clear hS; intro a hS
        refine r_toI64 (x0.toNat / 2 ^ 4 % 2 ^ 2) hS hH.kp0 rfl Fc.ui3 Fc.us5 rfl rfl (by omega) ?_; clear hS; intro a hS
        obtain ⟨kd, hkd⟩ : ∃ z, x0.toNat / 2 ^ 4 % 2 ^ 2 = z := ⟨_, rfl⟩
        rw [hkd] at hS
        refine r_nilCheck hS hH.kp0 rfl rfl ?_; clear hS; intro a hS
        refine r_fieldAddr hS hH.kp0 rfl Fc.fo26_0 rfl ?_; clear hS; intro a hS
        refine r_store1 hS hH rfl rfl rfl (by first | exact .here | exact .there .here | exact .there (.there .here) | exact .there (.there (.there .here)) | exact .there (.there (.there (.there .here))) | exact .there (.there (.there (.there (.there .here)))) | exact .there (.there (.there (.there (.there (.there .here))))) | exact .there (.there (.there (.there (.there (.there (.there .here)))))) | exact .there (.there (.there (.there (.there (.there (.there (.there .here))))))) | exact .there (.there (.there (.there (.there (.there (.there (.there (.there .here)))))))) | exact .there (.there (.there (.there (.there (.there (.there (.there (.there (.there .here))))))))) | exact .there (.there (.there (.there (.there (.there (.there (.there (.there (.there (.there .here)))))))))) | exact .there (.there (.there (.there (.there (.there (.there (.there (.there (.there (.there (.there .here))))))))))) | exact .there (.there (.there (.there (.there (.there (.there (.there (.there (.there (.there (.there (.there .here)))))))))))) | exact .there (.there (.there (.there (.there (.there (.there (.there (.there (.there (.there (.there (.there (.there .here))))))))))))) | exact .there (.there (.there (.there (.there (.there (.there (.there (.there (.there (.there (.there (.there (.there (.there .here))))))))))))))) (by repeat (first | exact Sub.nil | refine Sub.cons ?_ ?_ | exact In.here | refine In.there ?_)) Fc.sz3 (of_decide_eq_true rfl) (.inl (.inr rfl)) ?_
        clear hH; intro w hH
        refine Sq.nil ?_
        refine then_n ?_
        refine c_seq ?_
        refine reg_plain w0 (fun x => x = cb ∨ x = hb) ?_
        refine r_move hS hH.kp0 rfl rfl ?_; clear hS; intro a hS
        refine r_nilCheck hS hH.kp0 rfl rfl ?_; clear hS; intro a hS
        refine r_fieldAddr hS hH.kp0 rfl Fc.fo26_0 rfl ?_; clear hS; intro a hS
        refine r_load_sc hS hH (by repeat (first | exact Sub.nil | refine Sub.cons ?_ ?_ | exact In.here | refine In.there ?_)) rfl (by repeat (first | exact In.here | refine In.there ?_)) Fc.sc3 (by rfl) rfl ?_; clear hS; intro a hS
        refine Sq.nil ?_
        refine then_n ?_
        refine wp_block ?_
        refine c_seq ?_
        refine wp_block ?_
        refine c_seq ?_
        refine wp_block ?_
        refine c_seq ?_
        refine wp_block ?_
        refine c_seq ?_
        refine c_seq ?_
        refine c_seq ?_
        refine reg_plain w0 (fun x => x = cb ∨ x = hb) ?_
        refine r_eql hS hH.kp0 rfl rfl rfl ?_; clear hS; intro a hS
        refine r_assign hS hH.kp0 rfl rfl ?_; clear hS; intro a hS
        refine Sq.nil ?_
        refine then_n ?_
        refine c_cond hS rfl (fun hc5 => ?_) (fun hc5 => ?_)
        · have hk3 : kd = 3 := by have := beq_iff_eq.1 hc5; omega
          refine wp_exit ?_
          refine then_e ?_
          refine then_e ?_
          refine blk_hit ?_
          refine then_n ?_
          refine c_seq ?_
          refine c_seq ?_
          refine reg_plain w0 (fun x => x = cb ∨ x = hb) ?_
          refine r_move hS hH.kp0 rfl rfl ?_; clear hS; intro a hS
          refine r_move hS hH.kp0 rfl rfl ?_; clear hS; intro a hS
          refine r_call (l := [.tmp 90]) hS rfl rfl Fc.fn36 rfl ?_
          refine Calls.mono (left_c cb (p) qc _ l (b1) hl (by omega) _ (hH.get (b := cb) (by repeat (first | exact In.here | refine In.there ?_)))) ?_
          rintro e w1 ⟨rfl, hE⟩
          replace hH := hH.ext hE
          refine ⟨_, rfl, hH.kp0, ?_⟩
          clear hS; intro a hS
          refine r_geq hS hH.kp0 rfl rfl rfl ?_; clear hS; intro a hS
          refine r_call (l := [.tmp 89, .tmp 92, .const (.int .i64 10)]) hS rfl rfl Fc.fn19 rfl ?_
          refine Calls.mono (ok_c cb _ _ (b1) (10) (decide ((l.length : Int) - (p : Int) ≥ 16)) (p) rfl _ (hH.get (b := cb) (by repeat (first | exact In.here | refine In.there ?_)))) ?_
          rintro e w1 ⟨rfl, hcb4, hm4⟩
          replace hH := hH.modPut hm4 hcb4 (by first | exact .here | exact .there .here | exact .there (.there .here) | exact .there (.there (.there .here)) | exact .there (.there (.there (.there .here))) | exact .there (.there (.there (.there (.there .here)))) | exact .there (.there (.there (.there (.there (.there .here))))) | exact .there (.there (.there (.there (.there (.there (.there .here)))))) | exact .there (.there (.there (.there (.there (.there (.there (.there .here))))))) | exact .there (.there (.there (.there (.there (.there (.there (.there (.there .here)))))))) | exact .there (.there (.there (.there (.there (.there (.there (.there (.there (.there .here))))))))) | exact .there (.there (.there (.there (.there (.there (.there (.there (.there (.there (.there .here)))))))))) | exact .there (.there (.there (.there (.there (.there (.there (.there (.there (.there (.there (.there .here))))))))))) | exact .there (.there (.there (.there (.there (.there (.there (.there (.there (.there (.there (.there (.there .here)))))))))))) | exact .there (.there (.there (.there (.there (.there (.there (.there (.there (.there (.there (.there (.there (.there .here))))))))))))) | exact .there (.there (.there (.there (.there (.there (.there (.there (.there (.there (.there (.there (.there (.there (.there .here))))))))))))))) (.inl (.inl rfl))
          refine ⟨_, rfl, hH.kp0, ?_⟩
          clear hS; intro a hS
          refine Sq.nil ?_
          refine then_n ?_
          refine c_cond hS rfl (fun hc7 => ?_) (fun hc7 => ?_)
          · obtain ⟨hb10, h16⟩ := ok_true (of_decide_eq_true hc7) (by decide)
            have h16 := of_decide_eq_true h16
            subst hb10
            have hpn : p + (l.length - p - 16) ≤ l.length := by omega
            have hok7 : okC ⟨p, 0⟩ (decide ((l.length : Int) - (p : Int) ≥ 16)) 10 = ⟨p, 0⟩ := okC_yes (.inr (DT h16))
            rw [hok7] at hH
            refine c_seq ?_
            refine reg_plain w0 (fun x => x = cb ∨ x = hb) ?_
            refine r_move hS hH.kp0 rfl rfl ?_; clear hS; intro a hS
            refine r_move hS hH.kp0 rfl rfl ?_; clear hS; intro a hS
            refine r_move hS hH.kp0 rfl rfl ?_; clear hS; intro a hS
            refine r_call (l := [.tmp 96]) hS rfl rfl Fc.fn36 rfl ?_
            refine Calls.mono (left_c cb (p) qc _ l (0) hl (by omega) _ (hH.get (b := cb) (by repeat (first | exact In.here | refine In.there ?_)))) ?_
            rintro e w1 ⟨rfl, hE⟩
            replace hH := hH.ext hE
            refine ⟨_, rfl, hH.kp0, ?_⟩
            clear hS; intro a hS
            refine r_sub hS hH.kp0 rfl rfl rfl (by omega) ?_; clear hS; intro a hS
            refine r_call (l := [.tmp 95, .tmp 98]) hS rfl rfl Fc.fn20 rfl ?_
            refine Calls.mono ((by have hn := bytes_c cb p qc _ l 0 (l.length - p - 16) ((l.length : Int) - (p : Int) - 16) (by omega) hp hl h1 (by omega) _ (hH.get (b := cb) (by repeat (first | exact In.here | refine In.there ?_))) (hb_.go hH.mod (fun x hx => .inl (.inl hx))); rw [byt_ok hpn] at hn; exact hn)) ?_
            rintro e w1 ⟨r, rfl, hr, hcb5, hm5⟩
            have hsz5 := hH.mod.size
            generalize htok : (l.drop p).take (l.length - p - 16) = tok at hr
            obtain ⟨_, rb, cap, l2, hrv, hrb, hrbk, hcap, hl2, htk2⟩ := hr.resolve_left (fun h => h.1 rfl)
            subst hrv
            replace hH := (hH.modPut hm5 hcb5 (by first | exact .here | exact .there .here | exact .there (.there .here) | exact .there (.there (.there .here)) | exact .there (.there (.there (.there .here))) | exact .there (.there (.there (.there (.there .here)))) | exact .there (.there (.there (.there (.there (.there .here))))) | exact .there (.there (.there (.there (.there (.there (.there .here)))))) | exact .there (.there (.there (.there (.there (.there (.there (.there .here))))))) | exact .there (.there (.there (.there (.there (.there (.there (.there (.there .here)))))))) | exact .there (.there (.there (.there (.there (.there (.there (.there (.there (.there .here))))))))) | exact .there (.there (.there (.there (.there (.there (.there (.there (.there (.there (.there .here)))))))))) | exact .there (.there (.there (.there (.there (.there (.there (.there (.there (.there (.there (.there .here))))))))))) | exact .there (.there (.there (.there (.there (.there (.there (.there (.there (.there (.there (.there (.there .here)))))))))))) | exact .there (.there (.there (.there (.there (.there (.there (.there (.there (.there (.there (.there (.there (.there .here))))))))))))) | exact .there (.there (.there (.there (.there (.there (.there (.there (.there (.there (.there (.there (.there (.there (.there .here))))))))))))))) (.inl (.inl rfl))).know hrbk (fun z hz e => by simp only [List.mem_cons, List.not_mem_nil, or_false] at hz; rcases hz with rfl | rfl | rfl <;> (simp only at e; omega))
            refine ⟨_, rfl, hH.kp0, ?_⟩
            clear hS; intro a hS
            refine r_nilCheck hS hH.kp0 rfl rfl ?_; clear hS; intro a hS
            refine r_fieldAddr hS hH.kp0 rfl Fc.fo26_4 rfl ?_; clear hS; intro a hS
            refine r_store1 hS hH rfl rfl rfl (by first | exact .here | exact .there .here | exact .there (.there .here) | exact .there (.there (.there .here)) | exact .there (.there (.there (.there .here))) | exact .there (.there (.there (.there (.there .here)))) | exact .there (.there (.there (.there (.there (.there .here))))) | exact .there (.there (.there (.there (.there (.there (.there .here)))))) | exact .there (.there (.there (.there (.there (.there (.there (.there .here))))))) | exact .there (.there (.there (.there (.there (.there (.there (.there (.there .here)))))))) | exact .there (.there (.there (.there (.there (.there (.there (.there (.there (.there .here))))))))) | exact .there (.there (.there (.there (.there (.there (.there (.there (.there (.there (.there .here)))))))))) | exact .there (.there (.there (.there (.there (.there (.there (.there (.there (.there (.there (.there .here))))))))))) | exact .there (.there (.there (.there (.there (.there (.there (.there (.there (.there (.there (.there (.there .here)))))))))))) | exact .there (.there (.there (.there (.there (.there (.there (.there (.there (.there (.there (.there (.there (.there .here))))))))))))) | exact .there (.there (.there (.there (.there (.there (.there (.there (.there (.there (.there (.there (.there (.there (.there .here))))))))))))))) (by repeat (first | exact Sub.nil | refine Sub.cons ?_ ?_ | exact In.here | refine In.there ?_)) Fc.sz22 (of_decide_eq_true rfl) (.inl (.inr rfl)) ?_
            clear hH; intro w hH
            refine Sq.nil ?_
            refine then_n ?_
            refine c_seq ?_
            refine reg_plain w0 (fun x => x = cb ∨ x = hb) ?_
            refine r_move hS hH.kp0 rfl rfl ?_; clear hS; intro a hS
            refine r_move hS hH.kp0 rfl rfl ?_; clear hS; intro a hS
            refine r_nilCheck hS hH.kp0 rfl rfl ?_; clear hS; intro a hS
            refine r_fieldAddr hS hH.kp0 rfl Fc.fo26_4 rfl ?_; clear hS; intro a hS
            refine r_load_sc hS hH (by repeat (first | exact Sub.nil | refine Sub.cons ?_ ?_ | exact In.here | refine In.there ?_)) rfl (by repeat (first | exact In.here | refine In.there ?_)) Fc.sc22 (by rfl) rfl ?_; clear hS; intro a hS
            refine r_lenSl hS hH.kp0 rfl Fc.isSlice22 rfl ?_; clear hS; intro a hS
            refine r_gtr hS hH.kp0 rfl rfl rfl ?_; clear hS; intro a hS
            refine r_move hS hH.kp0 rfl rfl ?_; clear hS; intro a hS
            by_cases ht0 : (tok.length : Int) > 0
            · refine Sq.guardYes hS rfl rfl (DT ht0) ?_
              refine r_move hS hH.kp0 rfl rfl ?_; clear hS; intro a hS
              refine Sq.guardYes hS rfl rfl (DT ht0) ?_
              refine r_nilCheck hS hH.kp0 rfl rfl ?_; clear hS; intro a hS
              refine Sq.guardYes hS rfl rfl (DT ht0) ?_
              refine r_fieldAddr hS hH.kp0 rfl Fc.fo26_4 rfl ?_; clear hS; intro a hS
              refine Sq.guardYes hS rfl rfl (DT ht0) ?_
              refine r_load_sc hS hH (by repeat (first | exact Sub.nil | refine Sub.cons ?_ ?_ | exact In.here | refine In.there ?_)) rfl (by repeat (first | exact In.here | refine In.there ?_)) Fc.sc22 (by rfl) rfl ?_; clear hS; intro a hS
              refine Sq.guardYes hS rfl rfl (DT ht0) ?_
              refine r_lenSl hS hH.kp0 rfl Fc.isSlice22 rfl ?_; clear hS; intro a hS
              refine Sq.guardYes hS rfl rfl (DT ht0) ?_
              refine r_leq hS hH.kp0 rfl rfl rfl ?_; clear hS; intro a hS
              refine r_pickT hS hH.kp0 rfl (DT ht0) rfl rfl ?_; clear hS; intro a hS
              rw [okT_yes ht0] at hS
              refine r_call (l := [.tmp 102, .tmp 116, .const (.int .i64 11)]) hS rfl rfl Fc.fn19 rfl ?_
              refine Calls.mono (ok_c cb _ _ 0 11 (okTok tok) (p + (l.length - p - 16)) rfl _ (hH.get (b := cb) (by repeat (first | exact In.here | refine In.there ?_)))) ?_
              rintro e w1 ⟨rfl, hcb6, hm6⟩
              obtain ⟨b4, hb4⟩ : ∃ z, (okC ⟨p + (l.length - p - 16), 0⟩ (okTok tok) 11).bad = z := ⟨_, rfl⟩
              have hb4e : okC ⟨p + (l.length - p - 16), 0⟩ (okTok tok) 11 = ⟨p + (l.length - p - 16), b4⟩ := by rw [ok_bad, hb4]
              rw [hb4] at hcb6
              replace hH := hH.modPut hm6 hcb6 (by first | exact .here | exact .there .here | exact .there (.there .here) | exact .there (.there (.there .here)) | exact .there (.there (.there (.there .here))) | exact .there (.there (.there (.there (.there .here)))) | exact .there (.there (.there (.there (.there (.there .here))))) | exact .there (.there (.there (.there (.there (.there (.there .here)))))) | exact .there (.there (.there (.there (.there (.there (.there (.there .here))))))) | exact .there (.there (.there (.there (.there (.there (.there (.there (.there .here)))))))) | exact .there (.there (.there (.there (.there (.there (.there (.there (.there (.there .here))))))))) | exact .there (.there (.there (.there (.there (.there (.there (.there (.there (.there (.there .here)))))))))) | exact .there (.there (.there (.there (.there (.there (.there (.there (.there (.there (.there (.there .here))))))))))) | exact .there (.there (.there (.there (.there (.there (.there (.there (.there (.there (.there (.there (.there .here)))))))))))) | exact .there (.there (.there (.there (.there (.there (.there (.there (.there (.there (.there (.there (.there (.there .here))))))))))))) | exact .there (.there (.there (.there (.there (.there (.there (.there (.there (.there (.there (.there (.there (.there (.there .here))))))))))))))) (.inl (.inl rfl))
              refine ⟨_, rfl, hH.kp0, ?_⟩
              clear hS; intro a hS
              refine Sq.nil ?_
              refine then_n ?_
              refine reg_draw [(true, 0, [1, 2]), (true, 1, [1, 2]), (true, 2, [1, 2]), (true, 3, [1, 2]), (true, 4, [1, 2]), (false, 5, [2]), (false, 6, [1, 2])] Fc.mixed (by kernel_rfl) (by kernel_rfl) (by kernel_rfl) (by kernel_rfl) (by kernel_rfl) (by repeat (first | with_reducible exact steady_body | with_reducible apply steady_block | with_reducible apply steady_then | with_reducible apply steady_scope | exact steady_body)) hH ?_
              replace hH := hH.drew
              refine r_move hS trivial rfl rfl ?_; clear hS; intro a hS
              refine r_nilCheck hS trivial rfl rfl ?_; clear hS; intro a hS
              refine r_fieldAddr hS trivial rfl Fc.fo26_8 rfl ?_; clear hS; intro a hS
              refine r_slArr hS trivial rfl Fc.ar24 rfl ?_; clear hS; intro a hS
              refine r_move hS trivial rfl rfl ?_; clear hS; intro a hS
              refine r_call (l := [.tmp 122, .const (.int .i64 16)]) hS rfl rfl Fc.fn20 rfl ?_
              refine Calls.mono (bytes_c cb (p + (l.length - p - 16)) qc _ l b4 16 _ rfl (by omega) hl h1 (by decide) _ (hH.get (b := cb) (by repeat (first | exact In.here | refine In.there ?_))) (hb_.go hH.mod (fun x hx => .inl (.inl hx)))) ?_
              rintro e w1 ⟨r2, rfl, hr2, hcb7, hm7⟩
              replace hH := hH.modPut hm7 hcb7 (by first | exact .here | exact .there .here | exact .there (.there .here) | exact .there (.there (.there .here)) | exact .there (.there (.there (.there .here))) | exact .there (.there (.there (.there (.there .here)))) | exact .there (.there (.there (.there (.there (.there .here))))) | exact .there (.there (.there (.there (.there (.there (.there .here)))))) | exact .there (.there (.there (.there (.there (.there (.there (.there .here))))))) | exact .there (.there (.there (.there (.there (.there (.there (.there (.there .here)))))))) | exact .there (.there (.there (.there (.there (.there (.there (.there (.there (.there .here))))))))) | exact .there (.there (.there (.there (.there (.there (.there (.there (.there (.there (.there .here)))))))))) | exact .there (.there (.there (.there (.there (.there (.there (.there (.there (.there (.there (.there .here))))))))))) | exact .there (.there (.there (.there (.there (.there (.there (.there (.there (.there (.there (.there (.there .here)))))))))))) | exact .there (.there (.there (.there (.there (.there (.there (.there (.there (.there (.there (.there (.there (.there .here))))))))))))) | exact .there (.there (.there (.there (.there (.there (.there (.there (.there (.there (.there (.there (.there (.there (.there .here))))))))))))))) (.inl (.inl rfl))
              refine ⟨_, rfl, hH.kp (by repeat (first | exact Sub.nil | refine Sub.cons ?_ ?_ | exact In.here | refine In.there ?_)), ?_⟩
              clear hS; intro a hS
              refine r_copy hS hH rfl rfl (by first | exact .here | exact .there .here | exact .there (.there .here) | exact .there (.there (.there .here)) | exact .there (.there (.there (.there .here))) | exact .there (.there (.there (.there (.there .here)))) | exact .there (.there (.there (.there (.there (.there .here))))) | exact .there (.there (.there (.there (.there (.there (.there .here)))))) | exact .there (.there (.there (.there (.there (.there (.there (.there .here))))))) | exact .there (.there (.there (.there (.there (.there (.there (.there (.there .here)))))))) | exact .there (.there (.there (.there (.there (.there (.there (.there (.there (.there .here))))))))) | exact .there (.there (.there (.there (.there (.there (.there (.there (.there (.there (.there .here)))))))))) | exact .there (.there (.there (.there (.there (.there (.there (.there (.there (.there (.there (.there .here))))))))))) | exact .there (.there (.there (.there (.there (.there (.there (.there (.there (.there (.there (.there (.there .here)))))))))))) | exact .there (.there (.there (.there (.there (.there (.there (.there (.there (.there (.there (.there (.there (.there .here))))))))))))) | exact .there (.there (.there (.there (.there (.there (.there (.there (.there (.there (.there (.there (.there (.there (.there .here))))))))))))))) (by repeat (first | exact Sub.nil | refine Sub.cons ?_ ?_ | exact In.here | refine In.there ?_)) Fc.uls22 Fc.sz5 hr2.bs.src (by rcases byt16 (l := l) (c := ⟨p + (l.length - p - 16), b4⟩) with h | h <;> rw [h] <;> simp) (by have := byt16 (l := l) (c := ⟨p + (l.length - p - 16), b4⟩); simp only [List.length_cons, List.length_nil]; rcases this with h | h <;> rw [h] <;> simp [spl]) (.inl (.inr rfl)) rfl ?_; clear hS hH; intro a w hS hH
              refine Sq.nil ?_
              refine then_n ?_
              refine wp_exit ?_
              refine blk_e rfl ?_
              refine then_e ?_
              refine blk_e rfl ?_
              refine then_e ?_
              refine blk_hit ?_
              have er : hlongC l x0.toNat 1 ⟨p, 0⟩ = retryC2 l tok ⟨p + (l.length - p - 16), b4⟩ := by unfold hlongC; rw [if_pos rfl, if_neg (by decide), if_pos rfl]; unfold knownC; rw [show x0.toNat / 16 % 4 = kd from hkd, hC1]; rw [if_pos hk3]; unfold retryC; simp only [hok7, if_true, byt_ok hpn, htok, hb4e]
              rw [er]
              refine leave (.inr rfl) hS rfl Res.nil ⟨(.slice (some ⟨rb, 0, none⟩) tok.length cap), .slice none 0 0, rfl, ?_, ?_, ?_, ?_, hH.mod⟩
              · subst hk3
                refine Eq.trans (b := some (Obj.cells (spl ([.int .i64 3, .int .i64 1, dv, sv, .slice (some ⟨rb, 0, none⟩) tok.length cap, .int .i64 0, .bool ph, .slice none 0 0] ++ hcells z16) 8 ((bytesC l 16 ⟨p + (l.length - p - 16), b4⟩).1.map byteV)).toArray 26 (0, 0))) (hH.get (b := hb) (by repeat (first | exact In.here | refine In.there ?_))) ?_
                exact congrArg (fun z : List Value => some (Obj.cells z.toArray 26 (0, 0))) (spl_tag byt16)
              · exact hH.get (b := cb) (by repeat (first | exact In.here | refine In.there ?_))
              · exact .inr ⟨rb, cap, l2, rfl, by omega, hH.get (b := rb) (by repeat (first | exact In.here | refine In.there ?_)), hcap, hl2, htk2⟩
              · exact Own.nil _ _ _ _
            · refine Sq.guardNo hS rfl rfl (DF ht0) hH.kp0 rfl ?_; clear hS; intro a hS
              refine Sq.guardNo hS rfl rfl (DF ht0) hH.kp0 rfl ?_; clear hS; intro a hS
              refine Sq.guardNo hS rfl rfl (DF ht0) hH.kp0 rfl ?_; clear hS; intro a hS
              refine Sq.guardNo hS rfl rfl (DF ht0) hH.kp0 rfl ?_; clear hS; intro a hS
              refine Sq.guardNo hS rfl rfl (DF ht0) hH.kp0 rfl ?_; clear hS; intro a hS
              refine Sq.guardNo hS rfl rfl (DF ht0) hH.kp0 rfl ?_; clear hS; intro a hS
              refine r_pickF hS hH.kp0 rfl (DF ht0) rfl rfl ?_; clear hS; intro a hS
              refine r_call (l := [.tmp 102, .tmp 116, .const (.int .i64 11)]) hS rfl rfl Fc.fn19 rfl ?_
              refine Calls.mono (ok_c cb _ _ 0 11 (false) (p + (l.length - p - 16)) rfl _ (hH.get (b := cb) (by repeat (first | exact In.here | refine In.there ?_)))) ?_
              rintro e w1 ⟨rfl, hcb6, hm6⟩
              rw [← okT_no ht0] at hcb6
              obtain ⟨b4, hb4⟩ : ∃ z, (okC ⟨p + (l.length - p - 16), 0⟩ (okTok tok) 11).bad = z := ⟨_, rfl⟩
              have hb4e : okC ⟨p + (l.length - p - 16), 0⟩ (okTok tok) 11 = ⟨p + (l.length - p - 16), b4⟩ := by rw [ok_bad, hb4]
              rw [hb4] at hcb6
              replace hH := hH.modPut hm6 hcb6 (by first | exact .here | exact .there .here | exact .there (.there .here) | exact .there (.there (.there .here)) | exact .there (.there (.there (.there .here))) | exact .there (.there (.there (.there (.there .here)))) | exact .there (.there (.there (.there (.there (.there .here))))) | exact .there (.there (.there (.there (.there (.there (.there .here)))))) | exact .there (.there (.there (.there (.there (.there (.there (.there .here))))))) | exact .there (.there (.there (.there (.there (.there (.there (.there (.there .here)))))))) | exact .there (.there (.there (.there (.there (.there (.there (.there (.there (.there .here))))))))) | exact .there (.there (.there (.there (.there (.there (.there (.there (.there (.there (.there .here)))))))))) | exact .there (.there (.there (.there (.there (.there (.there (.there (.there (.there (.there (.there .here))))))))))) | exact .there (.there (.there (.there (.there (.there (.there (.there (.there (.there (.there (.there (.there .here)))))))))))) | exact .there (.there (.there (.there (.there (.there (.there (.there (.there (.there (.there (.there (.there (.there .here))))))))))))) | exact .there (.there (.there (.there (.there (.there (.there (.there (.there (.there (.there (.there (.there (.there (.there .here))))))))))))))) (.inl (.inl rfl))
              refine ⟨_, rfl, hH.kp0, ?_⟩
              clear hS; intro a hS
              refine Sq.nil ?_
              refine then_n ?_
              refine reg_draw [(true, 0, [1, 2]), (true, 1, [1, 2]), (true, 2, [1, 2]), (true, 3, [1, 2]), (true, 4, [1, 2]), (false, 5, [2]), (false, 6, [1, 2])] Fc.mixed (by kernel_rfl) (by kernel_rfl) (by kernel_rfl) (by kernel_rfl) (by kernel_rfl) (by repeat (first | with_reducible exact steady_body | with_reducible apply steady_block | with_reducible apply steady_then | with_reducible apply steady_scope | exact steady_body)) hH ?_
              replace hH := hH.drew
              refine r_move hS trivial rfl rfl ?_; clear hS; intro a hS
              refine r_nilCheck hS trivial rfl rfl ?_; clear hS; intro a hS
              refine r_fieldAddr hS trivial rfl Fc.fo26_8 rfl ?_; clear hS; intro a hS
              refine r_slArr hS trivial rfl Fc.ar24 rfl ?_; clear hS; intro a hS
              refine r_move hS trivial rfl rfl ?_; clear hS; intro a hS
              refine r_call (l := [.tmp 122, .const (.int .i64 16)]) hS rfl rfl Fc.fn20 rfl ?_
              refine Calls.mono (bytes_c cb (p + (l.length - p - 16)) qc _ l b4 16 _ rfl (by omega) hl h1 (by decide) _ (hH.get (b := cb) (by repeat (first | exact In.here | refine In.there ?_))) (hb_.go hH.mod (fun x hx => .inl (.inl hx)))) ?_
              rintro e w1 ⟨r2, rfl, hr2, hcb7, hm7⟩
              replace hH := hH.modPut hm7 hcb7 (by first | exact .here | exact .there .here | exact .there (.there .here) | exact .there (.there (.there .here)) | exact .there (.there (.there (.there .here))) | exact .there (.there (.there (.there (.there .here)))) | exact .there (.there (.there (.there (.there (.there .here))))) | exact .there (.there (.there (.there (.there (.there (.there .here)))))) | exact .there (.there (.there (.there (.there (.there (.there (.there .here))))))) | exact .there (.there (.there (.there (.there (.there (.there (.there (.there .here)))))))) | exact .there (.there (.there (.there (.there (.there (.there (.there (.there (.there .here))))))))) | exact .there (.there (.there (.there (.there (.there (.there (.there (.there (.there (.there .here)))))))))) | exact .there (.there (.there (.there (.there (.there (.there (.there (.there (.there (.there (.there .here))))))))))) | exact .there (.there (.there (.there (.there (.there (.there (.there (.there (.there (.there (.there (.there .here)))))))))))) | exact .there (.there (.there (.there (.there (.there (.there (.there (.there (.there (.there (.there (.there (.there .here))))))))))))) | exact .there (.there (.there (.there (.there (.there (.there (.there (.there (.there (.there (.there (.there (.there (.there .here))))))))))))))) (.inl (.inl rfl))
              refine ⟨_, rfl, hH.kp (by repeat (first | exact Sub.nil | refine Sub.cons ?_ ?_ | exact In.here | refine In.there ?_)), ?_⟩
              clear hS; intro a hS
              refine r_copy hS hH rfl rfl (by first | exact .here | exact .there .here | exact .there (.there .here) | exact .there (.there (.there .here)) | exact .there (.there (.there (.there .here))) | exact .there (.there (.there (.there (.there .here)))) | exact .there (.there (.there (.there (.there (.there .here))))) | exact .there (.there (.there (.there (.there (.there (.there .here)))))) | exact .there (.there (.there (.there (.there (.there (.there (.there .here))))))) | exact .there (.there (.there (.there (.there (.there (.there (.there (.there .here)))))))) | exact .there (.there (.there (.there (.there (.there (.there (.there (.there (.there .here))))))))) | exact .there (.there (.there (.there (.there (.there (.there (.there (.there (.there (.there .here)))))))))) | exact .there (.there (.there (.there (.there (.there (.there (.there (.there (.there (.there (.there .here))))))))))) | exact .there (.there (.there (.there (.there (.there (.there (.there (.there (.there (.there (.there (.there .here)))))))))))) | exact .there (.there (.there (.there (.there (.there (.there (.there (.there (.there (.there (.there (.there (.there .here))))))))))))) | exact .there (.there (.there (.there (.there (.there (.there (.there (.there (.there (.there (.there (.there (.there (.there .here))))))))))))))) (by repeat (first | exact Sub.nil | refine Sub.cons ?_ ?_ | exact In.here | refine In.there ?_)) Fc.uls22 Fc.sz5 hr2.bs.src (by rcases byt16 (l := l) (c := ⟨p + (l.length - p - 16), b4⟩) with h | h <;> rw [h] <;> simp) (by have := byt16 (l := l) (c := ⟨p + (l.length - p - 16), b4⟩); simp only [List.length_cons, List.length_nil]; rcases this with h | h <;> rw [h] <;> simp [spl]) (.inl (.inr rfl)) rfl ?_; clear hS hH; intro a w hS hH
              refine Sq.nil ?_
              refine then_n ?_
              refine wp_exit ?_
              refine blk_e rfl ?_
              refine then_e ?_
              refine blk_e rfl ?_
              refine then_e ?_
              refine blk_hit ?_
              have er : hlongC l x0.toNat 1 ⟨p, 0⟩ = retryC2 l tok ⟨p + (l.length - p - 16), b4⟩ := by unfold hlongC; rw [if_pos rfl, if_neg (by decide), if_pos rfl]; unfold knownC; rw [show x0.toNat / 16 % 4 = kd from hkd, hC1]; rw [if_pos hk3]; unfold retryC; simp only [hok7, if_true, byt_ok hpn, htok, hb4e]
              rw [er]
              refine leave (.inr rfl) hS rfl Res.nil ⟨(.slice (some ⟨rb, 0, none⟩) tok.length cap), .slice none 0 0, rfl, ?_, ?_, ?_, ?_, hH.mod⟩
              · subst hk3
                refine Eq.trans (b := some (Obj.cells (spl ([.int .i64 3, .int .i64 1, dv, sv, .slice (some ⟨rb, 0, none⟩) tok.length cap, .int .i64 0, .bool ph, .slice none 0 0] ++ hcells z16) 8 ((bytesC l 16 ⟨p + (l.length - p - 16), b4⟩).1.map byteV)).toArray 26 (0, 0))) (hH.get (b := hb) (by repeat (first | exact In.here | refine In.there ?_))) ?_
                exact congrArg (fun z : List Value => some (Obj.cells z.toArray 26 (0, 0))) (spl_tag byt16)
              · exact hH.get (b := cb) (by repeat (first | exact In.here | refine In.there ?_))
              · exact .inr ⟨rb, cap, l2, rfl, by omega, hH.get (b := rb) (by repeat (first | exact In.here | refine In.there ?_)), hcap, hl2, htk2⟩
              · exact Own.nil _ _ _ _
          · refine wp_skip ?_
            refine then_n ?_
            refine wp_exit ?_
            refine blk_e rfl ?_
            refine then_e ?_
            refine blk_e rfl ?_
            refine then_e ?_
            refine blk_hit ?_
            have hcp : (okC ⟨p, b1⟩ (decide ((l.length : Int) - (p : Int) ≥ 16)) 10).p = p := okC_p _ _ _
            have er : hlongC l x0.toNat 1 ⟨p, 0⟩ = ⟨3, [], 0, [], z16, ⟨p, (okC ⟨p, b1⟩ (decide ((l.length : Int) - (p : Int) ≥ 16)) 10).bad⟩⟩ := by unfold hlongC; rw [if_pos rfl, if_neg (by decide), if_pos rfl]; unfold knownC; rw [show x0.toNat / 16 % 4 = kd from hkd, hC1]; rw [if_pos hk3]; unfold retryC; refine (if_neg (of_decide_eq_false hc7)).trans ?_; rw [← ok_bad]
            rw [er]
            refine leave (.inr rfl) hS rfl Res.nil ⟨.slice none 0 0, .slice none 0 0, rfl, ?_, ?_, ?_, ?_, hH.mod⟩
            · subst hk3; exact hH.get (b := hb) (by repeat (first | exact In.here | refine In.there ?_))
            · exact hH.get (b := cb) (by repeat (first | exact In.here | refine In.there ?_))
            · exact OwnB.nil _ _ _
            · exact Own.nil _ _ _ _
        · have hk3 : ¬ kd = 3 := by have := ne_of_beq_false hc5; omega
          refine wp_skip ?_
          refine then_n ?_
          refine c_seq ?_
          refine reg_plain w0 (fun x => x = cb ∨ x = hb) ?_
          refine r_eql hS hH.kp0 rfl rfl rfl ?_; clear hS; intro a hS
          refine r_assign hS hH.kp0 rfl rfl ?_; clear hS; intro a hS
          refine Sq.nil ?_
          refine then_n ?_
          refine c_cond hS rfl (fun hc6 => ?_) (fun hc6 => ?_)
          · have hk0 : kd = 0 := by have := beq_iff_eq.1 hc6; omega
            refine wp_exit ?_
            refine then_e ?_
            refine blk_e rfl ?_
            refine then_e ?_
            refine blk_hit ?_
            refine then_n ?_
            refine c_seq ?_
            refine reg_plain w0 (fun x => x = cb ∨ x = hb) ?_
            refine r_move hS hH.kp0 rfl rfl ?_; clear hS; intro a hS
            refine r_call (l := [.tmp 125]) hS rfl rfl Fc.fn37 rfl ?_
            refine Calls.mono (long_c cb (p) qc _ l (b1) hp hl h1 hcz _ WT WF (hH.get (b := 0) (by repeat (first | exact In.here | refine In.there ?_))) (hH.get (b := cb) (by repeat (first | exact In.here | refine In.there ?_))) (hb_.go hH.mod (fun x hx => .inl (.inl hx)))) ?_
            rintro e w1 ⟨rfl, hcbl, hml⟩
            have hle8 := long_le (l := l) (c := ⟨p, b1⟩) hp
            generalize hL8 : longC l ⟨p, b1⟩ = zz at hle8 hcbl ⊢
            obtain ⟨n8, p8, b8⟩ := zz
            simp only at hle8 hcbl ⊢
            replace hH := hH.modPut hml hcbl (by first | exact .here | exact .there .here | exact .there (.there .here) | exact .there (.there (.there .here)) | exact .there (.there (.there (.there .here))) | exact .there (.there (.there (.there (.there .here)))) | exact .there (.there (.there (.there (.there (.there .here))))) | exact .there (.there (.there (.there (.there (.there (.there .here)))))) | exact .there (.there (.there (.there (.there (.there (.there (.there .here))))))) | exact .there (.there (.there (.there (.there (.there (.there (.there (.there .here)))))))) | exact .there (.there (.there (.there (.there (.there (.there (.there (.there (.there .here))))))))) | exact .there (.there (.there (.there (.there (.there (.there (.there (.there (.there (.there .here)))))))))) | exact .there (.there (.there (.there (.there (.there (.there (.there (.there (.there (.there (.there .here))))))))))) | exact .there (.there (.there (.there (.there (.there (.there (.there (.there (.there (.there (.there (.there .here)))))))))))) | exact .there (.there (.there (.there (.there (.there (.there (.there (.there (.there (.there (.there (.there (.there .here))))))))))))) | exact .there (.there (.there (.there (.there (.there (.there (.there (.there (.there (.there (.there (.there (.there (.there .here))))))))))))))) (.inl (.inl rfl))
            refine ⟨_, rfl, hH.kp0, ?_⟩
            clear hS; intro a hS
            refine r_assign hS hH.kp0 rfl rfl ?_; clear hS; intro a hS
            refine Sq.nil ?_
            refine then_n ?_
            refine c_seq ?_
            refine reg_plain w0 (fun x => x = cb ∨ x = hb) ?_
            refine r_move hS hH.kp0 rfl rfl ?_; clear hS; intro a hS
            refine r_move hS hH.kp0 rfl rfl ?_; clear hS; intro a hS
            refine r_leq hS hH.kp0 rfl rfl rfl ?_; clear hS; intro a hS
            refine r_call (l := [.tmp 127, .tmp 129, .const (.int .i64 11)]) hS rfl rfl Fc.fn19 rfl ?_
            refine Calls.mono (ok_c cb _ _ (b8) (11) (decide ((n8 : Int) ≤ 512)) (p8) rfl _ (hH.get (b := cb) (by repeat (first | exact In.here | refine In.there ?_)))) ?_
            rintro e w1 ⟨rfl, hcb9, hm9⟩
            replace hH := hH.modPut hm9 hcb9 (by first | exact .here | exact .there .here | exact .there (.there .here) | exact .there (.there (.there .here)) | exact .there (.there (.there (.there .here))) | exact .there (.there (.there (.there (.there .here)))) | exact .there (.there (.there (.there (.there (.there .here))))) | exact .there (.there (.there (.there (.there (.there (.there .here)))))) | exact .there (.there (.there (.there (.there (.there (.there (.there .here))))))) | exact .there (.there (.there (.there (.there (.there (.there (.there (.there .here)))))))) | exact .there (.there (.there (.there (.there (.there (.there (.there (.there (.there .here))))))))) | exact .there (.there (.there (.there (.there (.there (.there (.there (.there (.there (.there .here)))))))))) | exact .there (.there (.there (.there (.there (.there (.there (.there (.there (.there (.there (.there .here))))))))))) | exact .there (.there (.there (.there (.there (.there (.there (.there (.there (.there (.there (.there (.there .here)))))))))))) | exact .there (.there (.there (.there (.there (.there (.there (.there (.there (.there (.there (.there (.there (.there .here))))))))))))) | exact .there (.there (.there (.there (.there (.there (.there (.there (.there (.there (.there (.there (.there (.there (.there .here))))))))))))))) (.inl (.inl rfl))
            refine ⟨_, rfl, hH.kp0, ?_⟩
            clear hS; intro a hS
            refine Sq.nil ?_
            refine then_n ?_
            refine c_cond hS rfl (fun hc8 => ?_) (fun hc8 => ?_)
            · obtain ⟨hb80, h512⟩ := ok_true (of_decide_eq_true hc8) (by decide)
              have h512 := of_decide_eq_true h512
              subst hb80
              have hok9 : okC ⟨p8, 0⟩ (decide ((n8 : Int) ≤ 512)) 11 = ⟨p8, 0⟩ := okC_yes (.inr (DT h512))
              rw [hok9] at hH
              refine reg_plain w0 (fun x => x = cb ∨ x = hb) ?_
              refine r_move hS hH.kp0 rfl rfl ?_; clear hS; intro a hS
              refine r_move hS hH.kp0 rfl rfl ?_; clear hS; intro a hS
              refine r_move hS hH.kp0 rfl rfl ?_; clear hS; intro a hS
              refine r_call (l := [.tmp 132, .tmp 133]) hS rfl rfl Fc.fn20 rfl ?_
              refine Calls.mono (bytes_c cb p8 qc _ l 0 n8 _ rfl hle8.1 hl h1 (by omega) _ (hH.get (b := cb) (by repeat (first | exact In.here | refine In.there ?_))) (hb_.go hH.mod (fun x hx => .inl (.inl hx)))) ?_
              rintro e w1 ⟨r, rfl, hr, hcb5, hm5⟩
              have hsz5 := hH.mod.size
              have hbl9 := bytes_le (n := n8) (c := ⟨p8, 0⟩) hle8.1
              generalize hB9 : bytesC l n8 ⟨p8, 0⟩ = zz at hr hcb5 hbl9
              obtain ⟨tok, p9, b9⟩ := zz
              simp only at hr hcb5 hbl9
              replace hH := hH.modPut hm5 hcb5 (by first | exact .here | exact .there .here | exact .there (.there .here) | exact .there (.there (.there .here)) | exact .there (.there (.there (.there .here))) | exact .there (.there (.there (.there (.there .here)))) | exact .there (.there (.there (.there (.there (.there .here))))) | exact .there (.there (.there (.there (.there (.there (.there .here)))))) | exact .there (.there (.there (.there (.there (.there (.there (.there .here))))))) | exact .there (.there (.there (.there (.there (.there (.there (.there (.there .here)))))))) | exact .there (.there (.there (.there (.there (.there (.there (.there (.there (.there .here))))))))) | exact .there (.there (.there (.there (.there (.there (.there (.there (.there (.there (.there .here)))))))))) | exact .there (.there (.there (.there (.there (.there (.there (.there (.there (.there (.there (.there .here))))))))))) | exact .there (.there (.there (.there (.there (.there (.there (.there (.there (.there (.there (.there (.there .here)))))))))))) | exact .there (.there (.there (.there (.there (.there (.there (.there (.there (.there (.there (.there (.there (.there .here))))))))))))) | exact .there (.there (.there (.there (.there (.there (.there (.there (.there (.there (.there (.there (.there (.there (.there .here))))))))))))))) (.inl (.inl rfl))
              refine ⟨_, rfl, hH.kp0, ?_⟩
              clear hS; intro a hS
              rcases hr with ⟨_, rfl, rfl⟩ | ⟨_, rb, cap, l2, rfl, hrb, hrbk, hcap, hl2, htk2⟩
              · refine r_nilCheck hS hH.kp0 rfl rfl ?_; clear hS; intro a hS
                refine r_fieldAddr hS hH.kp0 rfl Fc.fo26_4 rfl ?_; clear hS; intro a hS
                refine r_store1 hS hH rfl rfl rfl (by first | exact .here | exact .there .here | exact .there (.there .here) | exact .there (.there (.there .here)) | exact .there (.there (.there (.there .here))) | exact .there (.there (.there (.there (.there .here)))) | exact .there (.there (.there (.there (.there (.there .here))))) | exact .there (.there (.there (.there (.there (.there (.there .here)))))) | exact .there (.there (.there (.there (.there (.there (.there (.there .here))))))) | exact .there (.there (.there (.there (.there (.there (.there (.there (.there .here)))))))) | exact .there (.there (.there (.there (.there (.there (.there (.there (.there (.there .here))))))))) | exact .there (.there (.there (.there (.there (.there (.there (.there (.there (.there (.there .here)))))))))) | exact .there (.there (.there (.there (.there (.there (.there (.there (.there (.there (.there (.there .here))))))))))) | exact .there (.there (.there (.there (.there (.there (.there (.there (.there (.there (.there (.there (.there .here)))))))))))) | exact .there (.there (.there (.there (.there (.there (.there (.there (.there (.there (.there (.there (.there (.there .here))))))))))))) | exact .there (.there (.there (.there (.there (.there (.there (.there (.there (.there (.there (.there (.there (.there (.there .here))))))))))))))) (by repeat (first | exact Sub.nil | refine Sub.cons ?_ ?_ | exact In.here | refine In.there ?_)) Fc.sz22 (of_decide_eq_true rfl) (.inl (.inr rfl)) ?_
                clear hH; intro w hH
                refine Sq.nil ?_
                refine blk_n ?_
                refine then_n ?_
                refine c_seq ?_
                refine c_seq ?_
                refine reg_plain w0 (fun x => x = cb ∨ x = hb) ?_
                refine r_move hS hH.kp0 rfl rfl ?_; clear hS; intro a hS
                refine r_move hS hH.kp0 rfl rfl ?_; clear hS; intro a hS
                refine r_call (l := [.tmp 138]) hS rfl rfl Fc.fn37 rfl ?_
                refine Calls.mono (long_c cb (p9) qc _ l (b9) (by first | exact hbl9 | exact hle8.1 | exact hp) hl h1 hcz _ WT WF (hH.get (b := 0) (by repeat (first | exact In.here | refine In.there ?_))) (hH.get (b := cb) (by repeat (first | exact In.here | refine In.there ?_))) (hb_.go hH.mod (fun x hx => .inl (.inl hx)))) ?_
                rintro e w1 ⟨rfl, hcbl, hml⟩
                have hle10 := long_le (l := l) (c := ⟨p9, b9⟩) (by first | exact hbl9 | exact hle8.1 | exact hp)
                generalize hL10 : longC l ⟨p9, b9⟩ = zz at hle10 hcbl ⊢
                obtain ⟨n10, p10, b10⟩ := zz
                simp only at hle10 hcbl ⊢
                replace hH := hH.modPut hml hcbl (by first | exact .here | exact .there .here | exact .there (.there .here) | exact .there (.there (.there .here)) | exact .there (.there (.there (.there .here))) | exact .there (.there (.there (.there (.there .here)))) | exact .there (.there (.there (.there (.there (.there .here))))) | exact .there (.there (.there (.there (.there (.there (.there .here)))))) | exact .there (.there (.there (.there (.there (.there (.there (.there .here))))))) | exact .there (.there (.there (.there (.there (.there (.there (.there (.there .here)))))))) | exact .there (.there (.there (.there (.there (.there (.there (.there (.there (.there .here))))))))) | exact .there (.there (.there (.there (.there (.there (.there (.there (.there (.there (.there .here)))))))))) | exact .there (.there (.there (.there (.there (.there (.there (.there (.there (.there (.there (.there .here))))))))))) | exact .there (.there (.there (.there (.there (.there (.there (.there (.there (.there (.there (.there (.there .here)))))))))))) | exact .there (.there (.there (.there (.there (.there (.there (.there (.there (.there (.there (.there (.there (.there .here))))))))))))) | exact .there (.there (.there (.there (.there (.there (.there (.there (.there (.there (.there (.there (.there (.there (.there .here))))))))))))))) (.inl (.inl rfl))
                refine ⟨_, rfl, hH.kp0, ?_⟩
                clear hS; intro a hS
                refine r_nilCheck hS hH.kp0 rfl rfl ?_; clear hS; intro a hS
                refine r_fieldAddr hS hH.kp0 rfl Fc.fo26_5 rfl ?_; clear hS; intro a hS
                refine r_store1 hS hH rfl rfl rfl (by first | exact .here | exact .there .here | exact .there (.there .here) | exact .there (.there (.there .here)) | exact .there (.there (.there (.there .here))) | exact .there (.there (.there (.there (.there .here)))) | exact .there (.there (.there (.there (.there (.there .here))))) | exact .there (.there (.there (.there (.there (.there (.there .here)))))) | exact .there (.there (.there (.there (.there (.there (.there (.there .here))))))) | exact .there (.there (.there (.there (.there (.there (.there (.there (.there .here)))))))) | exact .there (.there (.there (.there (.there (.there (.there (.there (.there (.there .here))))))))) | exact .there (.there (.there (.there (.there (.there (.there (.there (.there (.there (.there .here)))))))))) | exact .there (.there (.there (.there (.there (.there (.there (.there (.there (.there (.there (.there .here))))))))))) | exact .there (.there (.there (.there (.there (.there (.there (.there (.there (.there (.there (.there (.there .here)))))))))))) | exact .there (.there (.there (.there (.there (.there (.there (.there (.there (.there (.there (.there (.there (.there .here))))))))))))) | exact .there (.there (.there (.there (.there (.there (.there (.there (.there (.there (.there (.there (.there (.there (.there .here))))))))))))))) (by repeat (first | exact Sub.nil | refine Sub.cons ?_ ?_ | exact In.here | refine In.there ?_)) Fc.sz3 (of_decide_eq_true rfl) (.inl (.inr rfl)) ?_
                clear hH; intro w hH
                refine Sq.nil ?_
                refine then_n ?_
                refine reg_draw [(true, 0, [1]), (true, 1, [1]), (true, 3, [1]), (true, 4, [1]), (true, 5, [1]), (true, 6, [1]), (false, 2, []), (true, 7, [1]), (false, 8, [1])] Fc.mixed (by kernel_rfl) (by kernel_rfl) (by kernel_rfl) (by kernel_rfl) (by kernel_rfl) (by repeat (first | with_reducible exact steady_body | with_reducible apply steady_block | with_reducible apply steady_then | with_reducible apply steady_scope | exact steady_body)) hH ?_
                replace hH := hH.drew
                refine r_move hS trivial rfl rfl ?_; clear hS; intro a hS
                refine r_move hS trivial rfl rfl ?_; clear hS; intro a hS
                refine r_move hS trivial rfl rfl ?_; clear hS; intro a hS
                refine r_nilCheck hS trivial rfl rfl ?_; clear hS; intro a hS
                refine r_fieldAddr hS trivial rfl Fc.fo26_5 rfl ?_; clear hS; intro a hS
                refine r_load_scS hS rfl (by repeat (first | exact In.here | refine In.there ?_)) Fc.sc3 (by rfl) rfl ?_; clear hS; intro a hS
                refine r_call (l := [.tmp 143]) hS rfl rfl Fc.fn36 rfl ?_
                refine Calls.mono (left_c cb (p10) qc _ l (b10) hl (by omega) _ (hH.get (b := cb) (by repeat (first | exact In.here | refine In.there ?_)))) ?_
                rintro e w1 ⟨rfl, hE⟩
                replace hH := hH.ext hE
                refine ⟨_, rfl, hH.kp (by repeat (first | exact Sub.nil | refine Sub.cons ?_ ?_ | exact In.here | refine In.there ?_)), ?_⟩
                clear hS; intro a hS
                refine r_geq hS trivial rfl rfl rfl ?_; clear hS; intro a hS
                refine r_call (l := [.tmp 142, .tmp 149, .const (.int .i64 10)]) hS rfl rfl Fc.fn19 rfl ?_
                refine Calls.mono (ok_c cb _ _ (b10) (10) (decide ((l.length : Int) - (p10 : Int) ≥ (n10 : Int))) (p10) rfl _ (hH.get (b := cb) (by repeat (first | exact In.here | refine In.there ?_)))) ?_
                rintro e w1 ⟨rfl, hcb11, hm11⟩
                replace hH := hH.modPut hm11 hcb11 (by first | exact .here | exact .there .here | exact .there (.there .here) | exact .there (.there (.there .here)) | exact .there (.there (.there (.there .here))) | exact .there (.there (.there (.there (.there .here)))) | exact .there (.there (.there (.there (.there (.there .here))))) | exact .there (.there (.there (.there (.there (.there (.there .here)))))) | exact .there (.there (.there (.there (.there (.there (.there (.there .here))))))) | exact .there (.there (.there (.there (.there (.there (.there (.there (.there .here)))))))) | exact .there (.there (.there (.there (.there (.there (.there (.there (.there (.there .here))))))))) | exact .there (.there (.there (.there (.there (.there (.there (.there (.there (.there (.there .here)))))))))) | exact .there (.there (.there (.there (.there (.there (.there (.there (.there (.there (.there (.there .here))))))))))) | exact .there (.there (.there (.there (.there (.there (.there (.there (.there (.there (.there (.there (.there .here)))))))))))) | exact .there (.there (.there (.there (.there (.there (.there (.there (.there (.there (.there (.there (.there (.there .here))))))))))))) | exact .there (.there (.there (.there (.there (.there (.there (.there (.there (.there (.there (.there (.there (.there (.there .here))))))))))))))) (.inl (.inl rfl))
                refine ⟨_, rfl, hH.kp (by repeat (first | exact Sub.nil | refine Sub.cons ?_ ?_ | exact In.here | refine In.there ?_)), ?_⟩
                clear hS; intro a hS
                refine Sq.nil ?_
                refine then_n ?_
                refine wp_exit ?_
                refine blk_hit ?_
                have er : hlongC l x0.toNat 1 ⟨p, 0⟩ = ⟨0, [], n10, [], z16, ⟨p10, (okC ⟨p10, b10⟩ (decide ((l.length : Int) - (p10 : Int) ≥ (n10 : Int))) 10).bad⟩⟩ := by unfold hlongC; rw [if_pos rfl, if_neg (by decide), if_pos rfl]; unfold knownC; rw [show x0.toNat / 16 % 4 = kd from hkd, hC1]; rw [if_neg hk3, if_pos hk0]; unfold initC; simp only [hL8]; simp only [hok9, if_true, hB9]; unfold tailC; simp only [hL10]; rw [ok_bad]
                rw [er]
                refine leave (.inr rfl) hS rfl Res.nil ⟨.slice none 0 0, .slice none 0 0, rfl, ?_, ?_, ?_, ?_, hH.mod⟩
                · subst hk0; exact hH.get (b := hb) (by repeat (first | exact In.here | refine In.there ?_))
                · exact hH.get (b := cb) (by repeat (first | exact In.here | refine In.there ?_))
                · exact OwnB.nil _ _ _
                · exact Own.nil _ _ _ _
              · replace hH := hH.know hrbk (fun z hz e => by simp only [List.mem_cons, List.not_mem_nil, or_false] at hz; rcases hz with rfl | rfl | rfl <;> (simp only at e; omega))
                refine r_nilCheck hS hH.kp0 rfl rfl ?_; clear hS; intro a hS
                refine r_fieldAddr hS hH.kp0 rfl Fc.fo26_4 rfl ?_; clear hS; intro a hS
                refine r_store1 hS hH rfl rfl rfl (by first | exact .here | exact .there .here | exact .there (.there .here) | exact .there (.there (.there .here)) | exact .there (.there (.there (.there .here))) | exact .there (.there (.there (.there (.there .here)))) | exact .there (.there (.there (.there (.there (.there .here))))) | exact .there (.there (.there (.there (.there (.there (.there .here)))))) | exact .there (.there (.there (.there (.there (.there (.there (.there .here))))))) | exact .there (.there (.there (.there (.there (.there (.there (.there (.there .here)))))))) | exact .there (.there (.there (.there (.there (.there (.there (.there (.there (.there .here))))))))) | exact .there (.there (.there (.there (.there (.there (.there (.there (.there (.there (.there .here)))))))))) | exact .there (.there (.there (.there (.there (.there (.there (.there (.there (.there (.there (.there .here))))))))))) | exact .there (.there (.there (.there (.there (.there (.there (.there (.there (.there (.there (.there (.there .here)))))))))))) | exact .there (.there (.there (.there (.there (.there (.there (.there (.there (.there (.there (.there (.there (.there .here))))))))))))) | exact .there (.there (.there (.there (.there (.there (.there (.there (.there (.there (.there (.there (.there (.there (.there .here))))))))))))))) (by repeat (first | exact Sub.nil | refine Sub.cons ?_ ?_ | exact In.here | refine In.there ?_)) Fc.sz22 (of_decide_eq_true rfl) (.inl (.inr rfl)) ?_
                clear hH; intro w hH
                refine Sq.nil ?_
                refine blk_n ?_
                refine then_n ?_
                refine c_seq ?_
                refine c_seq ?_
                refine reg_plain w0 (fun x => x = cb ∨ x = hb) ?_
                refine r_move hS hH.kp0 rfl rfl ?_; clear hS; intro a hS
                refine r_move hS hH.kp0 rfl rfl ?_; clear hS; intro a hS
                refine r_call (l := [.tmp 138]) hS rfl rfl Fc.fn37 rfl ?_
                refine Calls.mono (long_c cb (p9) qc _ l (b9) (by first | exact hbl9 | exact hle8.1 | exact hp) hl h1 hcz _ WT WF (hH.get (b := 0) (by repeat (first | exact In.here | refine In.there ?_))) (hH.get (b := cb) (by repeat (first | exact In.here | refine In.there ?_))) (hb_.go hH.mod (fun x hx => .inl (.inl hx)))) ?_
                rintro e w1 ⟨rfl, hcbl, hml⟩
                have hle10 := long_le (l := l) (c := ⟨p9, b9⟩) (by first | exact hbl9 | exact hle8.1 | exact hp)
                generalize hL10 : longC l ⟨p9, b9⟩ = zz at hle10 hcbl ⊢
                obtain ⟨n10, p10, b10⟩ := zz
                simp only at hle10 hcbl ⊢
                replace hH := hH.modPut hml hcbl (by first | exact .here | exact .there .here | exact .there (.there .here) | exact .there (.there (.there .here)) | exact .there (.there (.there (.there .here))) | exact .there (.there (.there (.there (.there .here)))) | exact .there (.there (.there (.there (.there (.there .here))))) | exact .there (.there (.there (.there (.there (.there (.there .here)))))) | exact .there (.there (.there (.there (.there (.there (.there (.there .here))))))) | exact .there (.there (.there (.there (.there (.there (.there (.there (.there .here)))))))) | exact .there (.there (.there (.there (.there (.there (.there (.there (.there (.there .here))))))))) | exact .there (.there (.there (.there (.there (.there (.there (.there (.there (.there (.there .here)))))))))) | exact .there (.there (.there (.there (.there (.there (.there (.there (.there (.there (.there (.there .here))))))))))) | exact .there (.there (.there (.there (.there (.there (.there (.there (.there (.there (.there (.there (.there .here)))))))))))) | exact .there (.there (.there (.there (.there (.there (.there (.there (.there (.there (.there (.there (.there (.there .here))))))))))))) | exact .there (.there (.there (.there (.there (.there (.there (.there (.there (.there (.there (.there (.there (.there (.there .here))))))))))))))) (.inl (.inl rfl))
                refine ⟨_, rfl, hH.kp0, ?_⟩
                clear hS; intro a hS
                refine r_nilCheck hS hH.kp0 rfl rfl ?_; clear hS; intro a hS
                refine r_fieldAddr hS hH.kp0 rfl Fc.fo26_5 rfl ?_; clear hS; intro a hS
                refine r_store1 hS hH rfl rfl rfl (by first | exact .here | exact .there .here | exact .there (.there .here) | exact .there (.there (.there .here)) | exact .there (.there (.there (.there .here))) | exact .there (.there (.there (.there (.there .here)))) | exact .there (.there (.there (.there (.there (.there .here))))) | exact .there (.there (.there (.there (.there (.there (.there .here)))))) | exact .there (.there (.there (.there (.there (.there (.there (.there .here))))))) | exact .there (.there (.there (.there (.there (.there (.there (.there (.there .here)))))))) | exact .there (.there (.there (.there (.there (.there (.there (.there (.there (.there .here))))))))) | exact .there (.there (.there (.there (.there (.there (.there (.there (.there (.there (.there .here)))))))))) | exact .there (.there (.there (.there (.there (.there (.there (.there (.there (.there (.there (.there .here))))))))))) | exact .there (.there (.there (.there (.there (.there (.there (.there (.there (.there (.there (.there (.there .here)))))))))))) | exact .there (.there (.there (.there (.there (.there (.there (.there (.there (.there (.there (.there (.there (.there .here))))))))))))) | exact .there (.there (.there (.there (.there (.there (.there (.there (.there (.there (.there (.there (.there (.there (.there .here))))))))))))))) (by repeat (first | exact Sub.nil | refine Sub.cons ?_ ?_ | exact In.here | refine In.there ?_)) Fc.sz3 (of_decide_eq_true rfl) (.inl (.inr rfl)) ?_
                clear hH; intro w hH
                refine Sq.nil ?_
                refine then_n ?_
                refine reg_draw [(true, 0, [2]), (true, 1, [2]), (true, 3, [2]), (true, 4, [2]), (true, 5, [2]), (true, 6, [2]), (false, 2, []), (true, 7, [2]), (false, 8, [2])] Fc.mixed (by kernel_rfl) (by kernel_rfl) (by kernel_rfl) (by kernel_rfl) (by kernel_rfl) (by repeat (first | with_reducible exact steady_body | with_reducible apply steady_block | with_reducible apply steady_then | with_reducible apply steady_scope | exact steady_body)) hH ?_
                replace hH := hH.drew
                refine r_move hS trivial rfl rfl ?_; clear hS; intro a hS
                refine r_move hS trivial rfl rfl ?_; clear hS; intro a hS
                refine r_move hS trivial rfl rfl ?_; clear hS; intro a hS
                refine r_nilCheck hS trivial rfl rfl ?_; clear hS; intro a hS
                refine r_fieldAddr hS trivial rfl Fc.fo26_5 rfl ?_; clear hS; intro a hS
                refine r_load_scS hS rfl (by repeat (first | exact In.here | refine In.there ?_)) Fc.sc3 (by rfl) rfl ?_; clear hS; intro a hS
                refine r_call (l := [.tmp 143]) hS rfl rfl Fc.fn36 rfl ?_
                refine Calls.mono (left_c cb (p10) qc _ l (b10) hl (by omega) _ (hH.get (b := cb) (by repeat (first | exact In.here | refine In.there ?_)))) ?_
                rintro e w1 ⟨rfl, hE⟩
                replace hH := hH.ext hE
                refine ⟨_, rfl, hH.kp (by repeat (first | exact Sub.nil | refine Sub.cons ?_ ?_ | exact In.here | refine In.there ?_)), ?_⟩
                clear hS; intro a hS
                refine r_geq hS trivial rfl rfl rfl ?_; clear hS; intro a hS
                refine r_call (l := [.tmp 142, .tmp 149, .const (.int .i64 10)]) hS rfl rfl Fc.fn19 rfl ?_
                refine Calls.mono (ok_c cb _ _ (b10) (10) (decide ((l.length : Int) - (p10 : Int) ≥ (n10 : Int))) (p10) rfl _ (hH.get (b := cb) (by repeat (first | exact In.here | refine In.there ?_)))) ?_
                rintro e w1 ⟨rfl, hcb11, hm11⟩
                replace hH := hH.modPut hm11 hcb11 (by first | exact .here | exact .there .here | exact .there (.there .here) | exact .there (.there (.there .here)) | exact .there (.there (.there (.there .here))) | exact .there (.there (.there (.there (.there .here)))) | exact .there (.there (.there (.there (.there (.there .here))))) | exact .there (.there (.there (.there (.there (.there (.there .here)))))) | exact .there (.there (.there (.there (.there (.there (.there (.there .here))))))) | exact .there (.there (.there (.there (.there (.there (.there (.there (.there .here)))))))) | exact .there (.there (.there (.there (.there (.there (.there (.there (.there (.there .here))))))))) | exact .there (.there (.there (.there (.there (.there (.there (.there (.there (.there (.there .here)))))))))) | exact .there (.there (.there (.there (.there (.there (.there (.there (.there (.there (.there (.there .here))))))))))) | exact .there (.there (.there (.there (.there (.there (.there (.there (.there (.there (.there (.there (.there .here)))))))))))) | exact .there (.there (.there (.there (.there (.there (.there (.there (.there (.there (.there (.there (.there (.there .here))))))))))))) | exact .there (.there (.there (.there (.there (.there (.there (.there (.there (.there (.there (.there (.there (.there (.there .here))))))))))))))) (.inl (.inl rfl))
                refine ⟨_, rfl, hH.kp (by repeat (first | exact Sub.nil | refine Sub.cons ?_ ?_ | exact In.here | refine In.there ?_)), ?_⟩
                clear hS; intro a hS
                refine Sq.nil ?_
                refine then_n ?_
                refine wp_exit ?_
                refine blk_hit ?_
                have er : hlongC l x0.toNat 1 ⟨p, 0⟩ = ⟨0, tok, n10, [], z16, ⟨p10, (okC ⟨p10, b10⟩ (decide ((l.length : Int) - (p10 : Int) ≥ (n10 : Int))) 10).bad⟩⟩ := by unfold hlongC; rw [if_pos rfl, if_neg (by decide), if_pos rfl]; unfold knownC; rw [show x0.toNat / 16 % 4 = kd from hkd, hC1]; rw [if_neg hk3, if_pos hk0]; unfold initC; simp only [hL8]; simp only [hok9, if_true, hB9]; unfold tailC; simp only [hL10]; rw [ok_bad]
                rw [er]
                refine leave (.inr rfl) hS rfl Res.nil ⟨(.slice (some ⟨rb, 0, none⟩) tok.length cap), .slice none 0 0, rfl, ?_, ?_, ?_, ?_, hH.mod⟩
                · subst hk0; exact hH.get (b := hb) (by repeat (first | exact In.here | refine In.there ?_))
                · exact hH.get (b := cb) (by repeat (first | exact In.here | refine In.there ?_))
                · exact .inr ⟨rb, cap, l2, rfl, by omega, hH.get (b := rb) (by repeat (first | exact In.here | refine In.there ?_)), hcap, hl2, htk2⟩
                · exact Own.nil _ _ _ _
            · obtain ⟨b9, hb9⟩ : ∃ z, (okC ⟨p8, b8⟩ (decide ((n8 : Int) ≤ 512)) 11).bad = z := ⟨_, rfl⟩
              rw [hb9] at hH
              obtain ⟨p9, rfl⟩ : ∃ z, z = p8 := ⟨_, rfl⟩
              refine wp_skip ?_
              refine blk_n ?_
              refine then_n ?_
              refine c_seq ?_
              refine c_seq ?_
              refine reg_plain w0 (fun x => x = cb ∨ x = hb) ?_
              refine r_move hS hH.kp0 rfl rfl ?_; clear hS; intro a hS
              refine r_move hS hH.kp0 rfl rfl ?_; clear hS; intro a hS
              refine r_call (l := [.tmp 138]) hS rfl rfl Fc.fn37 rfl ?_
              refine Calls.mono (long_c cb (p9) qc _ l (b9) (by first | exact hbl9 | exact hle8.1 | exact hp) hl h1 hcz _ WT WF (hH.get (b := 0) (by repeat (first | exact In.here | refine In.there ?_))) (hH.get (b := cb) (by repeat (first | exact In.here | refine In.there ?_))) (hb_.go hH.mod (fun x hx => .inl (.inl hx)))) ?_
              rintro e w1 ⟨rfl, hcbl, hml⟩
              have hle10 := long_le (l := l) (c := ⟨p9, b9⟩) (by first | exact hbl9 | exact hle8.1 | exact hp)
              generalize hL10 : longC l ⟨p9, b9⟩ = zz at hle10 hcbl ⊢
              obtain ⟨n10, p10, b10⟩ := zz
              simp only at hle10 hcbl ⊢
              replace hH := hH.modPut hml hcbl (by first | exact .here | exact .there .here | exact .there (.there .here) | exact .there (.there (.there .here)) | exact .there (.there (.there (.there .here))) | exact .there (.there (.there (.there (.there .here)))) | exact .there (.there (.there (.there (.there (.there .here))))) | exact .there (.there (.there (.there (.there (.there (.there .here)))))) | exact .there (.there (.there (.there (.there (.there (.there (.there .here))))))) | exact .there (.there (.there (.there (.there (.there (.there (.there (.there .here)))))))) | exact .there (.there (.there (.there (.there (.there (.there (.there (.there (.there .here))))))))) | exact .there (.there (.there (.there (.there (.there (.there (.there (.there (.there (.there .here)))))))))) | exact .there (.there (.there (.there (.there (.there (.there (.there (.there (.there (.there (.there .here))))))))))) | exact .there (.there (.there (.there (.there (.there (.there (.there (.there (.there (.there (.there (.there .here)))))))))))) | exact .there (.there (.there (.there (.there (.there (.there (.there (.there (.there (.there (.there (.there (.there .here))))))))))))) | exact .there (.there (.there (.there (.there (.there (.there (.there (.there (.there (.there (.there (.there (.there (.there .here))))))))))))))) (.inl (.inl rfl))
              refine ⟨_, rfl, hH.kp0, ?_⟩
              clear hS; intro a hS
              refine r_nilCheck hS hH.kp0 rfl rfl ?_; clear hS; intro a hS
              refine r_fieldAddr hS hH.kp0 rfl Fc.fo26_5 rfl ?_; clear hS; intro a hS
              refine r_store1 hS hH rfl rfl rfl (by first | exact .here | exact .there .here | exact .there (.there .here) | exact .there (.there (.there .here)) | exact .there (.there (.there (.there .here))) | exact .there (.there (.there (.there (.there .here)))) | exact .there (.there (.there (.there (.there (.there .here))))) | exact .there (.there (.there (.there (.there (.there (.there .here)))))) | exact .there (.there (.there (.there (.there (.there (.there (.there .here))))))) | exact .there (.there (.there (.there (.there (.there (.there (.there (.there .here)))))))) | exact .there (.there (.there (.there (.there (.there (.there (.there (.there (.there .here))))))))) | exact .there (.there (.there (.there (.there (.there (.there (.there (.there (.there (.there .here)))))))))) | exact .there (.there (.there (.there (.there (.there (.there (.there (.there (.there (.there (.there .here))))))))))) | exact .there (.there (.there (.there (.there (.there (.there (.there (.there (.there (.there (.there (.there .here)))))))))))) | exact .there (.there (.there (.there (.there (.there (.there (.there (.there (.there (.there (.there (.there (.there .here))))))))))))) | exact .there (.there (.there (.there (.there (.there (.there (.there (.there (.there (.there (.there (.there (.there (.there .here))))))))))))))) (by repeat (first | exact Sub.nil | refine Sub.cons ?_ ?_ | exact In.here | refine In.there ?_)) Fc.sz3 (of_decide_eq_true rfl) (.inl (.inr rfl)) ?_
              clear hH; intro w hH
              refine Sq.nil ?_
              refine then_n ?_
              refine reg_draw [(true, 0, [1]), (true, 1, [1]), (true, 3, [1]), (true, 4, [1]), (true, 5, [1]), (true, 6, [1]), (false, 2, []), (true, 7, [1]), (false, 8, [1])] Fc.mixed (by kernel_rfl) (by kernel_rfl) (by kernel_rfl) (by kernel_rfl) (by kernel_rfl) (by repeat (first | with_reducible exact steady_body | with_reducible apply steady_block | with_reducible apply steady_then | with_reducible apply steady_scope | exact steady_body)) hH ?_
              replace hH := hH.drew
              refine r_move hS trivial rfl rfl ?_; clear hS; intro a hS
              refine r_move hS trivial rfl rfl ?_; clear hS; intro a hS
              refine r_move hS trivial rfl rfl ?_; clear hS; intro a hS
              refine r_nilCheck hS trivial rfl rfl ?_; clear hS; intro a hS
              refine r_fieldAddr hS trivial rfl Fc.fo26_5 rfl ?_; clear hS; intro a hS
              refine r_load_scS hS rfl (by repeat (first | exact In.here | refine In.there ?_)) Fc.sc3 (by rfl) rfl ?_; clear hS; intro a hS
              refine r_call (l := [.tmp 143]) hS rfl rfl Fc.fn36 rfl ?_
              refine Calls.mono (left_c cb (p10) qc _ l (b10) hl (by omega) _ (hH.get (b := cb) (by repeat (first | exact In.here | refine In.there ?_)))) ?_
              rintro e w1 ⟨rfl, hE⟩
              replace hH := hH.ext hE
              refine ⟨_, rfl, hH.kp (by repeat (first | exact Sub.nil | refine Sub.cons ?_ ?_ | exact In.here | refine In.there ?_)), ?_⟩
              clear hS; intro a hS
              refine r_geq hS trivial rfl rfl rfl ?_; clear hS; intro a hS
              refine r_call (l := [.tmp 142, .tmp 149, .const (.int .i64 10)]) hS rfl rfl Fc.fn19 rfl ?_
              refine Calls.mono (ok_c cb _ _ (b10) (10) (decide ((l.length : Int) - (p10 : Int) ≥ (n10 : Int))) (p10) rfl _ (hH.get (b := cb) (by repeat (first | exact In.here | refine In.there ?_)))) ?_
              rintro e w1 ⟨rfl, hcb11, hm11⟩
              replace hH := hH.modPut hm11 hcb11 (by first | exact .here | exact .there .here | exact .there (.there .here) | exact .there (.there (.there .here)) | exact .there (.there (.there (.there .here))) | exact .there (.there (.there (.there (.there .here)))) | exact .there (.there (.there (.there (.there (.there .here))))) | exact .there (.there (.there (.there (.there (.there (.there .here)))))) | exact .there (.there (.there (.there (.there (.there (.there (.there .here))))))) | exact .there (.there (.there (.there (.there (.there (.there (.there (.there .here)))))))) | exact .there (.there (.there (.there (.there (.there (.there (.there (.there (.there .here))))))))) | exact .there (.there (.there (.there (.there (.there (.there (.there (.there (.there (.there .here)))))))))) | exact .there (.there (.there (.there (.there (.there (.there (.there (.there (.there (.there (.there .here))))))))))) | exact .there (.there (.there (.there (.there (.there (.there (.there (.there (.there (.there (.there (.there .here)))))))))))) | exact .there (.there (.there (.there (.there (.there (.there (.there (.there (.there (.there (.there (.there (.there .here))))))))))))) | exact .there (.there (.there (.there (.there (.there (.there (.there (.there (.there (.there (.there (.there (.there (.there .here))))))))))))))) (.inl (.inl rfl))
              refine ⟨_, rfl, hH.kp (by repeat (first | exact Sub.nil | refine Sub.cons ?_ ?_ | exact In.here | refine In.there ?_)), ?_⟩
              clear hS; intro a hS
              refine Sq.nil ?_
              refine then_n ?_
              refine wp_exit ?_
              refine blk_hit ?_
              have er : hlongC l x0.toNat 1 ⟨p, 0⟩ = ⟨0, [], n10, [], z16, ⟨p10, (okC ⟨p10, b10⟩ (decide ((l.length : Int) - (p10 : Int) ≥ (n10 : Int))) 10).bad⟩⟩ := by unfold hlongC; rw [if_pos rfl, if_neg (by decide), if_pos rfl]; unfold knownC; rw [show x0.toNat / 16 % 4 = kd from hkd, hC1]; rw [if_neg hk3, if_pos hk0]; unfold initC; simp only [hL8]; rw [if_neg (of_decide_eq_false hc8)]; unfold tailC; rw [ok_bad (p := p9)]; simp only [hb9]; simp only [hL10]; rw [ok_bad]
              rw [er]
              refine leave (.inr rfl) hS rfl Res.nil ⟨.slice none 0 0, .slice none 0 0, rfl, ?_, ?_, ?_, ?_, hH.mod⟩
              · subst hk0; exact hH.get (b := hb) (by repeat (first | exact In.here | refine In.there ?_))
              · exact hH.get (b := cb) (by repeat (first | exact In.here | refine In.there ?_))
              · exact OwnB.nil _ _ _
              · exact Own.nil _ _ _ _
          · have hk0 : ¬ kd = 0 := by have := ne_of_beq_false hc6; omega
            obtain ⟨p9, rfl⟩ : ∃ z, z = p := ⟨_, rfl⟩
            obtain ⟨b9, rfl⟩ : ∃ z, z = b1 := ⟨_, rfl⟩
            refine wp_skip ?_
            refine then_n ?_
            refine wp_exit ?_
            refine blk_e rfl ?_
            refine then_e ?_
            refine blk_e rfl ?_
            refine then_e ?_
            refine blk_hit ?_
            refine then_n ?_
            refine c_seq ?_
            refine c_seq ?_
            refine reg_plain w0 (fun x => x = cb ∨ x = hb) ?_
            refine r_move hS hH.kp0 rfl rfl ?_; clear hS; intro a hS
            refine r_move hS hH.kp0 rfl rfl ?_; clear hS; intro a hS
            refine r_call (l := [.tmp 138]) hS rfl rfl Fc.fn37 rfl ?_
            refine Calls.mono (long_c cb (p9) qc _ l (b9) (by first | exact hbl9 | exact hle8.1 | exact hp) hl h1 hcz _ WT WF (hH.get (b := 0) (by repeat (first | exact In.here | refine In.there ?_))) (hH.get (b := cb) (by repeat (first | exact In.here | refine In.there ?_))) (hb_.go hH.mod (fun x hx => .inl (.inl hx)))) ?_
            rintro e w1 ⟨rfl, hcbl, hml⟩
            have hle10 := long_le (l := l) (c := ⟨p9, b9⟩) (by first | exact hbl9 | exact hle8.1 | exact hp)
            generalize hL10 : longC l ⟨p9, b9⟩ = zz at hle10 hcbl ⊢
            obtain ⟨n10, p10, b10⟩ := zz
            simp only at hle10 hcbl ⊢
            replace hH := hH.modPut hml hcbl (by first | exact .here | exact .there .here | exact .there (.there .here) | exact .there (.there (.there .here)) | exact .there (.there (.there (.there .here))) | exact .there (.there (.there (.there (.there .here)))) | exact .there (.there (.there (.there (.there (.there .here))))) | exact .there (.there (.there (.there (.there (.there (.there .here)))))) | exact .there (.there (.there (.there (.there (.there (.there (.there .here))))))) | exact .there (.there (.there (.there (.there (.there (.there (.there (.there .here)))))))) | exact .there (.there (.there (.there (.there (.there (.there (.there (.there (.there .here))))))))) | exact .there (.there (.there (.there (.there (.there (.there (.there (.there (.there (.there .here)))))))))) | exact .there (.there (.there (.there (.there (.there (.there (.there (.there (.there (.there (.there .here))))))))))) | exact .there (.there (.there (.there (.there (.there (.there (.there (.there (.there (.there (.there (.there .here)))))))))))) | exact .there (.there (.there (.there (.there (.there (.there (.there (.there (.there (.there (.there (.there (.there .here))))))))))))) | exact .there (.there (.there (.there (.there (.there (.there (.there (.there (.there (.there (.there (.there (.there (.there .here))))))))))))))) (.inl (.inl rfl))
            refine ⟨_, rfl, hH.kp0, ?_⟩
            clear hS; intro a hS
            refine r_nilCheck hS hH.kp0 rfl rfl ?_; clear hS; intro a hS
            refine r_fieldAddr hS hH.kp0 rfl Fc.fo26_5 rfl ?_; clear hS; intro a hS
            refine r_store1 hS hH rfl rfl rfl (by first | exact .here | exact .there .here | exact .there (.there .here) | exact .there (.there (.there .here)) | exact .there (.there (.there (.there .here))) | exact .there (.there (.there (.there (.there .here)))) | exact .there (.there (.there (.there (.there (.there .here))))) | exact .there (.there (.there (.there (.there (.there (.there .here)))))) | exact .there (.there (.there (.there (.there (.there (.there (.there .here))))))) | exact .there (.there (.there (.there (.there (.there (.there (.there (.there .here)))))))) | exact .there (.there (.there (.there (.there (.there (.there (.there (.there (.there .here))))))))) | exact .there (.there (.there (.there (.there (.there (.there (.there (.there (.there (.there .here)))))))))) | exact .there (.there (.there (.there (.there (.there (.there (.there (.there (.there (.there (.there .here))))))))))) | exact .there (.there (.there (.there (.there (.there (.there (.there (.there (.there (.there (.there (.there .here)))))))))))) | exact .there (.there (.there (.there (.there (.there (.there (.there (.there (.there (.there (.there (.there (.there .here))))))))))))) | exact .there (.there (.there (.there (.there (.there (.there (.there (.there (.there (.there (.there (.there (.there (.there .here))))))))))))))) (by repeat (first | exact Sub.nil | refine Sub.cons ?_ ?_ | exact In.here | refine In.there ?_)) Fc.sz3 (of_decide_eq_true rfl) (.inl (.inr rfl)) ?_
            clear hH; intro w hH
            refine Sq.nil ?_
            refine then_n ?_
            refine reg_draw [(true, 0, [1]), (true, 1, [1]), (true, 3, [1]), (true, 4, [1]), (true, 5, [1]), (true, 6, [1]), (false, 2, []), (true, 7, [1]), (false, 8, [1])] Fc.mixed (by kernel_rfl) (by kernel_rfl) (by kernel_rfl) (by kernel_rfl) (by kernel_rfl) (by repeat (first | with_reducible exact steady_body | with_reducible apply steady_block | with_reducible apply steady_then | with_reducible apply steady_scope | exact steady_body)) hH ?_
            replace hH := hH.drew
            refine r_move hS trivial rfl rfl ?_; clear hS; intro a hS
            refine r_move hS trivial rfl rfl ?_; clear hS; intro a hS
            refine r_move hS trivial rfl rfl ?_; clear hS; intro a hS
            refine r_nilCheck hS trivial rfl rfl ?_; clear hS; intro a hS
            refine r_fieldAddr hS trivial rfl Fc.fo26_5 rfl ?_; clear hS; intro a hS
            refine r_load_scS hS rfl (by repeat (first | exact In.here | refine In.there ?_)) Fc.sc3 (by rfl) rfl ?_; clear hS; intro a hS
            refine r_call (l := [.tmp 143]) hS rfl rfl Fc.fn36 rfl ?_
            refine Calls.mono (left_c cb (p10) qc _ l (b10) hl (by omega) _ (hH.get (b := cb) (by repeat (first | exact In.here | refine In.there ?_)))) ?_
            rintro e w1 ⟨rfl, hE⟩
            replace hH := hH.ext hE
            refine ⟨_, rfl, hH.kp (by repeat (first | exact Sub.nil | refine Sub.cons ?_ ?_ | exact In.here | refine In.there ?_)), ?_⟩
            clear hS; intro a hS
            refine r_geq hS trivial rfl rfl rfl ?_; clear hS; intro a hS
            refine r_call (l := [.tmp 142, .tmp 149, .const (.int .i64 10)]) hS rfl rfl Fc.fn19 rfl ?_
            refine Calls.mono (ok_c cb _ _ (b10) (10) (decide ((l.length : Int) - (p10 : Int) ≥ (n10 : Int))) (p10) rfl _ (hH.get (b := cb) (by repeat (first | exact In.here | refine In.there ?_)))) ?_
            rintro e w1 ⟨rfl, hcb11, hm11⟩
            replace hH := hH.modPut hm11 hcb11 (by first | exact .here | exact .there .here | exact .there (.there .here) | exact .there (.there (.there .here)) | exact .there (.there (.there (.there .here))) | exact .there (.there (.there (.there (.there .here)))) | exact .there (.there (.there (.there (.there (.there .here))))) | exact .there (.there (.there (.there (.there (.there (.there .here)))))) | exact .there (.there (.there (.there (.there (.there (.there (.there .here))))))) | exact .there (.there (.there (.there (.there (.there (.there (.there (.there .here)))))))) | exact .there (.there (.there (.there (.there (.there (.there (.there (.there (.there .here))))))))) | exact .there (.there (.there (.there (.there (.there (.there (.there (.there (.there (.there .here)))))))))) | exact .there (.there (.there (.there (.there (.there (.there (.there (.there (.there (.there (.there .here))))))))))) | exact .there (.there (.there (.there (.there (.there (.there (.there (.there (.there (.there (.there (.there .here)))))))))))) | exact .there (.there (.there (.there (.there (.there (.there (.there (.there (.there (.there (.there (.there (.there .here))))))))))))) | exact .there (.there (.there (.there (.there (.there (.there (.there (.there (.there (.there (.there (.there (.there (.there .here))))))))))))))) (.inl (.inl rfl))
            refine ⟨_, rfl, hH.kp (by repeat (first | exact Sub.nil | refine Sub.cons ?_ ?_ | exact In.here | refine In.there ?_)), ?_⟩
            clear hS; intro a hS
            refine Sq.nil ?_
            refine then_n ?_
            refine wp_exit ?_
            refine blk_hit ?_
            have er : hlongC l x0.toNat 1 ⟨p9, 0⟩ = ⟨(kd : Nat), [], n10, [], z16, ⟨p10, (okC ⟨p10, b10⟩ (decide ((l.length : Int) - (p10 : Int) ≥ (n10 : Int))) 10).bad⟩⟩ := by unfold hlongC; rw [if_pos rfl, if_neg (by decide), if_pos rfl]; unfold knownC; rw [show x0.toNat / 16 % 4 = kd from hkd, hC1]; rw [if_neg hk3, if_neg hk0]; unfold tailC; simp only [hL10]; rw [ok_bad]
            rw [er]
            refine leave (.inr rfl) hS rfl Res.nil ⟨.slice none 0 0, .slice none 0 0, rfl, ?_, ?_, ?_, ?_, hH.mod⟩
            · exact hH.get (b := hb) (by repeat (first | exact In.here | refine In.there ?_))
            · exact hH.get (b := cb) (by repeat (first | exact In.here | refine In.there ?_))
            · exact OwnB.nil _ _ _
            · exact Own.nil _ _ _ _

end Go.Proofs.YtcenionnedgadaaDoor
