/- HeaderBack: a header that is put is read again, with the place and the lowest bytes of the number. Conditions: those of the given row (arguments of at most 1048576 values and letters; the listed variables hold what the text lays). Part HeaderBackCard: walks and lemmas of the proof. -/
import Derived.Test.YtcenionnedgadaaDoorRows
import Derived.Test.YtcenionnedgadaaDoorHeaderBack
import Derived.Test.YtcenionnedgadaaDoorSymRow3
import Derived.Test.YtcenionnedgadaaDoorSymRow
import Derived.Test.YtcenionnedgadaaDoorCards
import Derived.Test.YtcenionnedgadaaDoorTie
import Derived.WalkKit
import Derived.ProofKit
import Derived.OpenShut
import Derived.Deep.DeepHandedRow
import Derived.Deep.DeepLaidRun
import Derived.Lib.LaidTab
namespace Go.Proofs.YtcenionnedgadaaDoor.headerBack
open Go.ChangeShapes Go.WideShapes Go.ChangeAt Go.RowKit Go.Joins Go.Sym

theorem own : ownKnob Tryd.prog.godebug = none := by kernel_rfl

theorem len_le {H : Type} (l : List (DataW H)) : l.length ≤ Rows.uptoBulkAll l := by
  induction l with
  | nil => simp [Rows.uptoBulkAll]
  | cons x r ih =>
    have : 1 ≤ Rows.uptoBulk x := by
      cases x with
      | lit l => cases l <;> simp [Rows.uptoBulk]
      | nil => simp [Rows.uptoBulk]
      | ptr d => simp [Rows.uptoBulk]
      | slice elems spare => simp [Rows.uptoBulk]
      | agg parts => simp [Rows.uptoBulk]
      | iface t d => simp [Rows.uptoBulk]
      | map entries => simp [Rows.uptoBulk]
      | held h => simp [Rows.uptoBulk]
    simp only [Rows.uptoBulkAll, List.length_cons]; omega



open Go.Lib in
theorem widths {W : World} (h : laidMetH Tryd.prog Rows.headerBackUptoRow.laid W) : ∃ WT WF, W.heap[0]? = some (.cells [.int .i64 6, .int .i64 14, .int .i64 30, .int .i64 62].toArray WT WF) := by
  have ht : TabIs Tryd.prog W "caravel/octet.widths" .i64 [6, 14, 30, 62] := tabIs_of_head (rest := []) (show Tryd.prog.globalNamed "caravel/octet.widths" = some 0 by kernel_rfl) (show (Tryd.prog.globals[0]?).map (·.type) = some 92 by kernel_rfl) Tryd.underlying92 Tryd.underlying3 (by kernel_rfl) (by kernel_rfl) h
  unfold TabIs World.var? at ht
  rw [show Tryd.prog.globalNamed "caravel/octet.widths" = some 0 by kernel_rfl] at ht
  simp only [Option.bind_some] at ht
  split at ht
  · rename_i cs t fz e
    simp only [Option.some.injEq] at ht
    subst ht
    exact ⟨t, fz, e⟩
  · cases ht

set_option maxRecDepth 100000 in
theorem contract (H : Type) (enc : TypeId × Value → H) (W : World) (base : Nat) (args : Array Value) (ds gs : List (DataW H)) (before : List MemPlace)
    (hval : ∀ (j : Nat) t v, Tryd.f7.params[j]? = some t → args[j]? = some v → Value.okWide Tryd.prog W .any base t v)
    (hW : DataW.Whole enc Tryd.prog Tryd.f7.params.toList Rows.headerBackSpec.vars false W args.toList ds gs before) (hk : Rows.uptoSmall H (ds ++ gs) = true) (hL : laidMetH Tryd.prog Rows.headerBackUptoRow.laid W) :
    Calls Tryd.prog 7 args W fun e W' => ∃ v, e = .returned v ∧ Rows.headerBackSpec.post enc Tryd.prog Tryd.f7 false true false false W args v W' := by
  have hW' := hW
  obtain ⟨p, q, hA0, hV, rfl, hfz, hnd⟩ := hW
  have hA : DataW.TrodAll enc Tryd.prog W 0 (fun _ => true) true Tryd.f7.params.toList args.toList ds p := hA0
  rw [Tryd.params7] at hA hval
  obtain ⟨WT, WF, hw0⟩ := widths hL
  obtain ⟨v0, vs0, d0, ds0, p0, q0, hargs, rfl, rfl, h0, r0⟩ := trodAll_cons hA
  obtain ⟨v1, vs1, d1, ds1, p1, q1, rfl, rfl, rfl, h1, r1⟩ := trodAll_cons r0
  obtain ⟨v2, vs2, d2, ds2, p2, q2, rfl, rfl, rfl, h2, r2⟩ := trodAll_cons r1
  obtain ⟨rfl, rfl, rfl⟩ := trodAll_nil r2
  obtain rfl : args = #[v0, v1, v2] := by cases args; simp_all
  obtain ⟨rfl, rfl⟩ := trodVars_none hV
  have ho0 := hv_of hval (j := 0) (t := 26) (v := v0) rfl rfl
  obtain ⟨u0, u1, u2, u3, u4, u5, u6, u7, tl, y0, y1, y2, y3, y4, y5, y6, y7, y8, n, rfl, rfl, t0, t1, t2, t3, t4, t5, t6, t7, t8⟩ := open_hdr (m := 16) Tryd.underlying26 (by kernel_rfl) (by kernel_rfl) (by kernel_rfl) (by kernel_rfl) (by kernel_rfl) (by kernel_rfl) (by kernel_rfl) (by kernel_rfl) (by kernel_rfl) (by kernel_rfl) ⟨rfl, rfl, rfl, rfl, rfl, rfl, rfl, rfl, rfl⟩ ho0 h0
  obtain ⟨k0, e0, _, _⟩ := DataW.trod_int Tryd.underlying3 t0
  obtain ⟨k1, e1, _, _⟩ := DataW.trod_int Tryd.underlying3 t1
  obtain ⟨k5, e5, _, _⟩ := DataW.trod_int Tryd.underlying3 t5
  obtain ⟨qq2, qc2, l2, e2, hb2, hbd2⟩ := open_bs Tryd.underlying22 Tryd.underlying5 (by kernel_rfl) t2
  obtain ⟨qq3, qc3, l3, e3, hb3, hbd3⟩ := open_bs Tryd.underlying22 Tryd.underlying5 (by kernel_rfl) t3
  obtain ⟨qq4, qc4, l4, e4, hb4, hbd4⟩ := open_bs Tryd.underlying22 Tryd.underlying5 (by kernel_rfl) t4
  obtain ⟨k6, e6, _⟩ := DataW.trod_bool Tryd.underlying4 t6
  obtain ⟨qq7, qc7, l7, e7, hb7, hbd7⟩ := open_is Tryd.underlying23 Tryd.underlying3 (by kernel_rfl) t7
  obtain ⟨tg, e8, htg⟩ := open_tag Tryd.underlying24 Tryd.underlying5 (by kernel_rfl) (by kernel_rfl) t8
  simp only [List.cons.injEq, and_true] at e0 e1 e5 e6
  subst e0 e1 e2 e3 e4 e5 e6 e7 e8
  have ho1 := hv_of hval (j := 1) (t := 36) (v := v1) rfl rfl
  obtain ⟨z1, rfl, rfl, rfl, hr1⟩ := open_int Tryd.underlying36 ho1 h1
  obtain ⟨a1, rfl, hu1⟩ := wf_u64 hr1
  have ho2 := hv_of hval (j := 2) (t := 3) (v := v2) rfl rfl
  obtain ⟨a2, rfl, rfl, rfl, hr2⟩ := open_int Tryd.underlying3 ho2 h2
  have hsm := hk
  simp only [Rows.uptoSmall, decide_eq_true_eq, List.append_nil, Rows.uptoBulkAll] at hsm
  simp only [Rows.uptoBulk, Rows.uptoBulkAll] at hsm
  have hl2 : l2.length ≤ 1048576 := by
    rcases hbd2 with ⟨_, rfl⟩ | ⟨es, sp, e1, e2⟩
    · simp
    · rw [e1] at hsm
      simp only [Rows.uptoBulk] at hsm
      have := len_le es
      omega
  have hl3 : l3.length ≤ 1048576 := by
    rcases hbd3 with ⟨_, rfl⟩ | ⟨es, sp, e1, e2⟩
    · simp
    · rw [e1] at hsm
      simp only [Rows.uptoBulk] at hsm
      have := len_le es
      omega
  have hl4 : l4.length ≤ 1048576 := by
    rcases hbd4 with ⟨_, rfl⟩ | ⟨es, sp, e1, e2⟩
    · simp
    · rw [e1] at hsm
      simp only [Rows.uptoBulk] at hsm
      have := len_le es
      omega
  have hl7 : l7.length ≤ 1048576 := by
    rcases hbd7 with ⟨_, rfl⟩ | ⟨es, sp, e1, e2⟩
    · simp
    · rw [e1] at hsm
      simp only [Rows.uptoBulk] at hsm
      have := len_le es
      omega
  refine (back_law _ _ _ _ _ _ _ _ _ _ l2 l3 l4 tg l7 _ _ htg _ _ hu1 W WT WF hw0 hl7 hb7 hb2 hb3 hb4).mono fun e W' ⟨he, hE⟩ => ?_
  subst he
  exact ⟨_, rfl, post_true Fc.laid rfl rfl Tryd.underlying4 (by kernel_rfl) ⟨rfl, rfl, rfl⟩ hW' hE⟩

/-- A WORLD FOR THE WITNESS: the settled one, the listed variables' blocks holding what the text lays. -/
noncomputable def laidWorld (os : Os) : World :=
  { World.holding Tryd.prog os ⟨#[], #[], []⟩ with heap := (World.holding Tryd.prog os ⟨#[], #[], []⟩).heap.mapIdx fun i o => match i, o with
      | 0, .cells _ t frozen => .cells (#[.int .i64 6, .int .i64 14, .int .i64 30, .int .i64 62]) t frozen
      | _, o => o }
set_option maxRecDepth 100000 in
theorem laid_met (os : Os) : laidMet Tryd.prog Rows.headerBackUptoRow.laid ((laidWorld os).forCall (fun _ _ => 0) ⟨#[], #[.agg #[.int .i64 0, .int .i64 0, .slice none 0 0, .slice none 0 0, .slice none 0 0, .int .i64 0, .bool false, .slice none 0 0, .int .u8 0, .int .u8 0, .int .u8 0, .int .u8 0, .int .u8 0, .int .u8 0, .int .u8 0, .int .u8 0, .int .u8 0, .int .u8 0, .int .u8 0, .int .u8 0, .int .u8 0, .int .u8 0, .int .u8 0, .int .u8 0], .int .u64 0, .int .i64 0], []⟩).memory :=
  laidMet_of_run3 8 (by kernel_rfl) (by kernel_rfl) (by kernel_rfl)
set_option maxRecDepth 100000 in
theorem reads (os : Os) {H : Type} (enc : TypeId × Value → H) : ∃ places, DataW.whole enc Tryd.prog ((laidWorld os).forCall (fun _ _ => 0) ⟨#[], #[.agg #[.int .i64 0, .int .i64 0, .slice none 0 0, .slice none 0 0, .slice none 0 0, .int .i64 0, .bool false, .slice none 0 0, .int .u8 0, .int .u8 0, .int .u8 0, .int .u8 0, .int .u8 0, .int .u8 0, .int .u8 0, .int .u8 0, .int .u8 0, .int .u8 0, .int .u8 0, .int .u8 0, .int .u8 0, .int .u8 0, .int .u8 0, .int .u8 0], .int .u64 0, .int .i64 0], []⟩).memory Tryd.f7.params.toList Rows.headerBackSpec.vars false (#[.agg #[.int .i64 0, .int .i64 0, .slice none 0 0, .slice none 0 0, .slice none 0 0, .int .i64 0, .bool false, .slice none 0 0, .int .u8 0, .int .u8 0, .int .u8 0, .int .u8 0, .int .u8 0, .int .u8 0, .int .u8 0, .int .u8 0, .int .u8 0, .int .u8 0, .int .u8 0, .int .u8 0, .int .u8 0, .int .u8 0, .int .u8 0, .int .u8 0], .int .u64 0, .int .i64 0] : Array Value).toList 8 = some ([.agg [.lit (.int .i64 0), .lit (.int .i64 0), .nil, .nil, .nil, .lit (.int .i64 0), .lit (.bool false), .nil, .agg [.lit (.int .u8 0), .lit (.int .u8 0), .lit (.int .u8 0), .lit (.int .u8 0), .lit (.int .u8 0), .lit (.int .u8 0), .lit (.int .u8 0), .lit (.int .u8 0), .lit (.int .u8 0), .lit (.int .u8 0), .lit (.int .u8 0), .lit (.int .u8 0), .lit (.int .u8 0), .lit (.int .u8 0), .lit (.int .u8 0), .lit (.int .u8 0)]], .lit (.int .u64 0), .lit (.int .i64 0)], [], places) :=
  ⟨[], by kernel_rfl⟩
set_option maxRecDepth 100000 in
theorem lifted (os : Os) (started : os.Started) (H : Type) (enc : TypeId × Value → H) (F : Stop.Interp) :
    ReturnsInHanded {} Tryd.checked os 7 .any ((Rows.OpenSpec.upto Rows.headerBackSpec).preRow enc Tryd.prog Tryd.f7 Rows.headerBackUptoRow.domain false Rows.headerBackUptoRow.laid) (((Rows.OpenSpec.upto Rows.headerBackSpec).at F).post enc Tryd.prog Tryd.f7 false true false false) := by
  obtain ⟨places, hx⟩ := reads os enc
  refine returnsInHanded_of_row (C := Tryd.checked) (s := Rows.OpenSpec.upto Rows.headerBackSpec) own started (by kernel_rfl) Tryd.func7
    (witness_row_at (enc := enc) (C := Tryd.checked) false (laidWorld os) #[.agg #[.int .i64 0, .int .i64 0, .slice none 0 0, .slice none 0 0, .slice none 0 0, .int .i64 0, .bool false, .slice none 0 0, .int .u8 0, .int .u8 0, .int .u8 0, .int .u8 0, .int .u8 0, .int .u8 0, .int .u8 0, .int .u8 0, .int .u8 0, .int .u8 0, .int .u8 0, .int .u8 0, .int .u8 0, .int .u8 0, .int .u8 0, .int .u8 0], .int .u64 0, .int .i64 0] rfl (by kernel_rfl) (by kernel_rfl) (by kernel_rfl)
      (OpenSpec.preRow_of_cond 8 hx (by kernel_rfl) (fun k hk => by cases hk; kernel_rfl) (by kernel_rfl) (laid_met os))) ?_
  intro W base args ds gs before hval hW _ hcond _ hL _ _
  exact contract H enc W base args ds gs before hval hW (hcond _ rfl) hL

theorem said : Rows.HeaderBackUptoSaid :=
  OpenClaim.holds_of_cond 7 Tryd.f7 rfl rfl rfl rfl rfl rfl rfl ⟨rfl, rfl, rfl, rfl, rfl⟩ rfl rfl rfl rfl rfl (by kernel_rfl) Tryd.func7 (by kernel_rfl)
    (of_decide_eq_true (by kernel_rfl)) (by unfold Func.isWrapper; first | (rw [if_pos (by decide +kernel)]; kernel_rfl) | (rw [if_neg (by decide +kernel)]; exact ⟨rfl, rfl⟩))
    (fun os started H enc _ F => by rw [OpenClaim.pre_eq_preRow]; exact lifted os started H enc F)
set_option maxRecDepth 100000 in
theorem plain (f : FuncId) (fn : Func) (hf : Tryd.pinned.checked.prog.funcNamed "caravel/caravellaw02.HeaderBack" = some f) (hfn : Tryd.pinned.checked.prog.funcs[f]? = some fn) :
    false = Tryd.pinned.checked.prog.looks [] ∧ ∀ (j : Nat) t, fn.params[j]? = some t → Tryd.pinned.checked.prog.wantsStandIn t = false := by
  obtain rfl : f = 7 := Option.some.inj ((show Tryd.prog.funcNamed "caravel/caravellaw02.HeaderBack" = some 7 by kernel_rfl).symm.trans hf) |>.symm
  obtain rfl : fn = Tryd.f7 := (Option.some.inj (Tryd.func7.symm.trans hfn)).symm
  refine ⟨by kernel_rfl, fun j t ht => ?_⟩
  rw [Tryd.params7] at ht
  have hm := Array.mem_of_getElem? ht
  simp only [List.mem_toArray, List.mem_cons, List.not_mem_nil, or_false] at hm
  rcases hm with rfl | rfl | rfl
  all_goals first | exact (show Tryd.prog.wantsStandIn 26 = false by kernel_rfl) | exact (show Tryd.prog.wantsStandIn 36 = false by kernel_rfl) | exact (show Tryd.prog.wantsStandIn 3 = false by kernel_rfl)
/-- THE SECOND FORM's CARD -/
theorem proved : Rows.HeaderBackUptoCardSaid :=
  Claim7.holds_tied_plain_at .later [] _ _ _ _ said (fun _ h => by cases h) (by kernel_rfl) (fun _ h => by cases h) headerBackUpto_row_tie rfl ⟨rfl, rfl⟩ (by kernel_rfl) rfl plain (by kernel_rfl)
end Go.Proofs.YtcenionnedgadaaDoor.headerBack
