/- A text that is written to an outbox arrives whole at an inbox, whatever is lost and comes twice. Part Arrives1: walks and lemmas of the proof. -/
import Derived.Test.YtkhcbllphdhbdaaInbox1
import Derived.Test.YtkhcbllphdhbdaaLost2
import Derived.Test.YtkhcbllphdhbdaaSymMapL
namespace Go.Proofs.Ytkhcbllphdhbdaa
open Go.Sym
/-- the blocks that an outbox may write to -/
def FP (ob gb hb : Nat) (v hv : Value) (z : Nat) : Prop := z = ob ∨ SF gb v z ∨ SF hb hv z
/-- an outbox to which a text was written: k bytes of it were let go, g sent, the bytes from a to g are lost -/
structure OB (X : Nat → Prop) (w : World) (ob gb hb : Nat) (text : List UInt8) (k a g : Nat) (en : Int) (v hv : Value) (q : Option Addr) (kc : Nat) : Prop where
  head : w.heap[ob]? = some (.cells ([.int .i64 (text.length : Int), .int .i64 (k : Int), .slice q (text.length - k) kc, .int .i64 (g : Int), .pointer (some ⟨gb, 0, none⟩), .pointer (some ⟨hb, 0, none⟩), .int .i64 en] : List Value).toArray 70 (0, 0))
  gone : SetIn 89 94 w gb v (if a < g then 1 else 0) (if a < g then span1 a (g - 1) else [])
  here : SetIn 89 94 w hb hv (if 0 < k then 1 else 0) (if 0 < k then span1 0 (k - 1) else [])
  kept : BsF (fun z => FP ob gb hb v hv z ∨ X z) w (.slice q (text.length - k) kc) (text.drop k)
  nil : text.length = 0 → q = none ∧ kc = 0 ∧ v = .slice none 0 0 ∧ hv = .slice none 0 0
  gob : ∀ z, SF gb v z → z ≠ ob
  hob : ∀ z, SF hb hv z → z ≠ ob
  dis : ∀ z, SF gb v z → ¬ SF hb hv z
theorem OB.lt {X : Nat → Prop} {w : World} {ob gb hb : Nat} {text : List UInt8} {k a g : Nat} {en : Int} {v hv : Value} {q : Option Addr} {kc : Nat} (h : OB X w ob gb hb text k a g en v hv q kc) : ∀ z, FP ob gb hb v hv z → z < w.heap.size := by
  rintro z (rfl | hz | hz)
  · exact lt_of_block h.head
  · exact h.gone.lt z hz
  · exact h.here.lt z hz
theorem OB.go {X X' F : Nat → Prop} {w w' : World} {ob gb hb : Nat} {text : List UInt8} {k a g : Nat} {en : Int} {v hv : Value} {q : Option Addr} {kc : Nat} (h : OB X w ob gb hb text k a g en v hv q kc) (hM : Mod F w w') (hF : ∀ z, F z → X z) (hd : ∀ z, FP ob gb hb v hv z → ¬ F z) (hX : ∀ z, X' z → X z ∨ w.heap.size ≤ z) : OB X' w' ob gb hb text k a g en v hv q kc :=
  ⟨hM.heap_some h.head (hd ob (.inl rfl)), h.gone.go hM (fun z hz => hd z (.inr (.inl hz))), h.here.go hM (fun z hz => hd z (.inr (.inr hz))),
   h.kept.go (hM.mono (fun z hz => .inr (hF z hz))) (fun z hz => hz.elim (fun h => .inl (.inl h)) (fun h => (hX z h).elim (fun h => .inl (.inr h)) .inr)), h.nil, h.gob, h.hob, h.dis⟩
theorem OB.far {X : Nat → Prop} {w : World} {ob gb hb : Nat} {text : List UInt8} {k a g : Nat} {en : Int} {v hv : Value} {q : Option Addr} {kc : Nat} (h : OB X w ob gb hb text k a g en v hv q kc) (hk : k < text.length) : ∃ ka ko, q = some ⟨ka, ko, none⟩ := h.kept.addr (by rw [List.length_drop]; omega)
theorem ifp {α : Type} {p : Prop} [Decidable p] {a b : α} (h : p) : (if p then a else b) = a := if_pos h
theorem ifn {α : Type} {p : Prop} [Decidable p] {a b : α} (h : ¬ p) : (if p then a else b) = b := if_neg h
section
variable {X : Nat → Prop} {ob gb hb k a g kc : Nat} {text : List UInt8} {en : Int} {v hv : Value} {q : Option Addr} {w0 : World}
theorem oNext1 (h : OB X w0 ob gb hb text k k g en v hv q kc) (hn : text.length ≤ 1048576) (hk : k < text.length) (hkg : k ≤ g) (hg : g ≤ text.length) (hen : en = 1 ∨ en = 3) (most : Nat) (h1 : 1 ≤ most) (hmost : most ≤ 1099511627776) :
    Calls Try.prog 8 #[.pointer (some ⟨ob, 0, none⟩), .int .i64 (most : Int), .int .i64 (text.length : Int)] w0 fun e w' => ∃ (m cb cap : Nat) (cl : List Value) (v2 : Value), 1 ≤ m ∧ k + m ≤ text.length ∧ e = .returned (.tuple #[.agg #[.int .i64 (k : Int), .slice (some ⟨cb, 0, none⟩) m cap, .bool (decide (k + m = text.length))], .bool true]) ∧ w0.heap.size ≤ cb ∧ w'.heap[cb]? = some (.cells cl.toArray 5 (0, 0)) ∧ BB cap cl ((text.drop k).take m) ∧
      OB X w' ob gb hb text k (k + m) (max g (k + m)) (if k + m = text.length then 2 else en) v2 hv q kc ∧ (∀ z, FP ob gb hb v2 hv z → FP ob gb hb v hv z ∨ w0.heap.size ≤ z) ∧ ¬ FP ob gb hb v2 hv cb ∧ Mod (FP ob gb hb v hv) w0 w' := by
  obtain ⟨ka, ko, rfl⟩ := h.far hk
  have hkl : k + (text.length - k) = text.length := by omega
  have hvlt : ∀ z, SF gb v z → z < w0.heap.size := h.gone.lt
  obtain ⟨m, hm⟩ : ∃ m, m = min most (if k < g then g - k else text.length - k) := ⟨_, rfl⟩
  have hm1 : 1 ≤ m := by rw [hm]; split <;> omega
  have hm2 : k + m ≤ text.length := by rw [hm]; split <;> omega
  have hkb : BsF (fun z => z = ob) w0 (.slice (some ⟨ka, ko, none⟩) (text.length - k) kc) (text.drop k) := h.kept.go (Mod.refl _ _) (fun z hz => .inl (.inl (.inl hz)))
  have hbs := h.gob
  refine (Next_g ob gb hb text.length k g (text.length - k) kc ka ko m (if k + m < max g (k + m) then 1 else 0) (text.drop k) en v (if k + m < max g (k + m) then span1 (k + m) (max g (k + m) - 1) else []) (text.length : Int) most
    (by rw [List.length_drop]) (by omega) hm1 (by omega) (by omega) hen w0 h.head hvlt h.gob hkb ?_ ?_).mono ?_
  · intro W hM hhd
    have hg' := h.gone.go hM (fun z hz e => h.gob z hz e)
    by_cases hlt : k < g
    · rw [ifp hlt, ifp hlt] at hg'
      rw [ifp hlt] at hm
      exact due_old ob gb hb text.length k g (text.length - k) kc _ en v k (g - 1) m most _ (by omega) (by omega) hmost h1 (by omega) W hhd hg' h.gob
    · rw [ifn hlt, ifn hlt] at hg'
      rw [ifn hlt] at hm
      have : g = k := by omega
      subst this
      exact due_new ob gb hb text.length g g (text.length - g) kc _ en most text.length m (by omega) (by omega) hmost (by omega) hk h1 (by rw [hkl]; omega) W hhd v hg' (h.gob gb (.inl rfl))
  · intro W hM
    have hg' := h.gone.go hM (fun z hz e => h.gob z hz e)
    by_cases hlt : k < g
    · rw [ifp hlt, ifp hlt] at hg'
      rw [ifp hlt] at hm
      have e1 : max g (k + m) = g := by omega
      rw [e1]
      by_cases hall : k + m = g
      · rw [ifn (by omega), ifn (by omega), show k + m - 1 = g - 1 from by omega]
        exact remSall gb k (g - 1) v (by omega) (by omega) W hg'
      · rw [ifp (by omega), ifp (by omega)]
        have := remSpart gb k (g - 1) (k + m - 1) v (by omega) (by omega) (by omega) (by omega) (by omega) W hg'
        rwa [show k + m - 1 + 1 = k + m from by omega] at this
    · rw [ifn hlt, ifn hlt] at hg'
      have e1 : max g (k + m) = k + m := by omega
      rw [e1, ifn (by omega), ifn (by omega)]
      exact remS0 gb k (k + m - 1) v (by omega) (by omega) W hg'
  · rintro e w' ⟨cb, cap, cl, v2, rfl, hcb, hck, hBc, hh, hg2, hnew, hco, hcg, hob2, hM⟩
    rw [hkl] at hh ⊢
    have hM' : Mod (FP ob gb hb v hv) w0 w' := hM.mono (fun z hz => hz.elim .inl (fun h => .inr (.inl h)))
    have hhl := h.here.lt
    have hdis : ∀ z, SF gb v2 z → ¬ SF hb hv z := fun z h1 h2 => (hnew z h1).elim (fun h3 => h.dis z h3 h2) (fun h3 => by have := hhl z h2; omega)
    refine ⟨m, cb, cap, cl, v2, hm1, hm2, rfl, hcb, hck, hBc, ⟨hh, hg2, h.here.go hM (fun z hz hs => hs.elim (fun e => h.hob z hz e) (fun e => h.dis z e hz)), h.kept.go (hM'.mono (fun z hz => .inl hz)) ?_, fun h0 => by omega, hob2, h.hob, hdis⟩, ?_, ?_, hM'⟩
    · rintro z ((hz | hz | hz) | hz)
      · exact .inl (.inl (.inl hz))
      · exact (hnew z hz).imp (fun e => .inl (.inr (.inl e))) id
      · exact .inl (.inl (.inr (.inr hz)))
      · exact .inl (.inr hz)
    · rintro z (hz | hz | hz)
      · exact .inl (.inl hz)
      · exact (hnew z hz).imp (fun e => .inr (.inl e)) id
      · exact .inl (.inr (.inr hz))
    · rintro (hz | hz | hz)
      · exact hco hz
      · exact hcg hz
      · have := hhl cb hz; omega
theorem oLost1 (m pc : Nat) (pq : Option Addr) (h : OB X w0 ob gb hb text k (k + m) g en v hv q kc) (hn : text.length ≤ 1048576) (hm1 : 1 ≤ m) (hm2 : k + m ≤ g) (hg : g ≤ text.length) (hen : k + m = text.length → en = 2) :
    Calls Try.prog 21 #[.pointer (some ⟨ob, 0, none⟩), .agg #[.int .i64 (k : Int), .slice pq m pc, .bool (decide (k + m = text.length))]] w0 fun e w' => ∃ v2, e = .returned (.int .i64 0) ∧
      OB X w' ob gb hb text k k g (if k + m = text.length then 3 else en) v2 hv q kc ∧ (∀ z, FP ob gb hb v2 hv z → FP ob gb hb v hv z ∨ w0.heap.size ≤ z) ∧ Mod (FP ob gb hb v hv) w0 w' := by
  have hkl : k + (text.length - k) = text.length := by omega
  refine (Lost_g ob gb hb text.length k g (text.length - k) kc q en k m pc pq (decide (k + m = text.length)) 1 v (span1 k (g - 1)) hm1 (by omega) hm2 (by omega) (fun e => by have := of_decide_eq_true e; exact ⟨by omega, hen this⟩) w0 h.head h.gone.lt h.gob ?_ ?_ ?_).mono ?_
  · intro W hE
    have hh := h.here.go hE (fun _ _ h => h)
    by_cases h0 : 0 < k
    · rw [ifp h0, ifp h0] at hh
      exact gapSlt hb 0 (k - 1) k hv (by omega) (by omega) (by omega) (by omega) W hh
    · rw [ifn h0, ifn h0] at hh
      exact gapS0 hb k hv (by omega) W hh
  · intro W i hE hi1 hi2
    have hh := h.here.go hE (fun _ _ h => h)
    by_cases h0 : 0 < k
    · rw [ifp h0, ifp h0] at hh
      exact hasSlt hb 0 (k - 1) i hv (by omega) (by omega) (by omega) (by omega) W hh
    · rw [ifn h0, ifn h0] at hh
      exact hasS0 hb i hv (by omega) W hh
  · intro W hE
    have hh := h.gone.go hE (fun _ _ h => h)
    by_cases h0 : k + m < g
    · rw [ifp h0, ifp h0] at hh
      have := addS1 gb (k + m) (g - 1) k (k + m - 1) v (by omega) (by omega) (by omega) (by omega) (by omega) (by omega) W hh
      rwa [show min k (k + m) = k from by omega, show max (k + m - 1) (g - 1) = g - 1 from by omega] at this
    · rw [ifn h0, ifn h0] at hh
      rw [show g - 1 = k + m - 1 from by omega]
      exact addS0 gb k (k + m - 1) v (by omega) (by omega) W hh
  · rintro e w' ⟨v2, rfl, hh, hg2, hnew, hob2, hM⟩
    have hM' : Mod (FP ob gb hb v hv) w0 w' := hM.mono (fun z hz => hz.elim .inl (fun h => .inr (.inl h)))
    have hhl := h.here.lt
    have hdis : ∀ z, SF gb v2 z → ¬ SF hb hv z := fun z h1 h2 => (hnew z h1).elim (fun h3 => h.dis z h3 h2) (fun h3 => by have := hhl z h2; omega)
    simp only [decide_eq_true_eq] at hh
    refine ⟨v2, rfl, ⟨hh, by rw [ifp (by omega), ifp (by omega)]; exact hg2, h.here.go hM (fun z hz hs => hs.elim (fun e => h.hob z hz e) (fun e => h.dis z e hz)), h.kept.go (hM'.mono (fun z hz => .inl hz)) ?_, fun h0 => by omega, hob2, h.hob, hdis⟩, ?_, hM'⟩
    · rintro z ((hz | hz | hz) | hz)
      · exact .inl (.inl (.inl hz))
      · exact (hnew z hz).imp (fun e => .inl (.inr (.inl e))) id
      · exact .inl (.inl (.inr (.inr hz)))
      · exact .inl (.inr hz)
    · rintro z (hz | hz | hz)
      · exact .inl (.inl hz)
      · exact (hnew z hz).imp (fun e => .inr (.inl e)) id
      · exact .inl (.inr (.inr hz))
theorem oAcked1 (m pc : Nat) (pq : Option Addr) (h : OB X w0 ob gb hb text k a g en v hv q kc) (hn : text.length ≤ 1048576) (hm1 : 1 ≤ m) (hm2 : k + m ≤ g) (hg : g ≤ text.length) (ha : a = k ∨ a = k + m) (hen : k + m = text.length → en = 2 ∨ en = 3) (hX : ∀ z, X z → z < w0.heap.size) :
    Calls Try.prog 19 #[.pointer (some ⟨ob, 0, none⟩), .agg #[.int .i64 (k : Int), .slice pq m pc, .bool (decide (k + m = text.length))]] w0 fun e w' => ∃ v2 hv2 q2 kc2, e = .returned (.int .i64 0) ∧
      OB X w' ob gb hb text (k + m) (k + m) g (if k + m = text.length then 4 else en) v2 hv2 q2 kc2 ∧ (∀ z, FP ob gb hb v2 hv2 z → FP ob gb hb v hv z ∨ w0.heap.size ≤ z) ∧ Mod (FP ob gb hb v hv) w0 w' := by
  obtain ⟨ka, ko, rfl⟩ := h.far (by omega)
  have hkl : k + (text.length - k) = text.length := by omega
  refine (Acked_g ob gb hb text.length k g (text.length - k) kc ka ko m pc (if a < g then 1 else 0) (if k + m < g then 1 else 0) pq (decide (k + m = text.length)) (text.drop k) en v hv (if a < g then span1 a (g - 1) else []) (if k + m < g then span1 (k + m) (g - 1) else []) (span1 0 (k + m - 1))
    (by rw [List.length_drop]) hm1 (by omega) (by omega) hm2 (by omega) (fun e => by have h9 := hen (of_decide_eq_true e); have h8 := of_decide_eq_true e; exact ⟨by omega, by omega, by omega⟩) w0 h.head h.gone h.gone.lt h.gob h.here.lt h.hob h.dis
    (h.kept.go (Mod.refl _ _) (fun z hz => .inl (.inl hz))) ?_ ?_ ?_).mono ?_
  · intro W hE
    have hh := h.here.go hE (fun _ _ h => h)
    by_cases h0 : 0 < k
    · rw [ifp h0, ifp h0] at hh
      have := addS1 hb 0 (k - 1) k (k + m - 1) hv (by omega) (by omega) (by omega) (by omega) (by omega) (by omega) W hh
      rwa [show min k 0 = 0 from by omega, show max (k + m - 1) (k - 1) = k + m - 1 from by omega] at this
    · rw [ifn h0, ifn h0] at hh
      have : k = 0 := by omega
      subst this
      exact addS0 hb 0 (0 + m - 1) hv (by omega) (by omega) W hh
  · intro W hh
    rcases ha with rfl | rfl
    · rw [ifp (show a < g by omega), ifp (show a < g by omega)] at hh
      by_cases hall : a + m = g
      · rw [ifn (by omega), ifn (by omega), show a + m - 1 = g - 1 from by omega]
        exact remSall gb a (g - 1) v (by omega) (by omega) W hh
      · rw [ifp (by omega), ifp (by omega)]
        have := remSpart gb a (g - 1) (a + m - 1) v (by omega) (by omega) (by omega) (by omega) (by omega) W hh
        rwa [show a + m - 1 + 1 = a + m from by omega] at this
    · by_cases h0 : k + m < g
      · rw [ifp h0, ifp h0] at hh ⊢
        exact remSfar gb (k + m) (g - 1) k (k + m - 1) v (by omega) (by omega) (by omega) (by omega) (by omega) W hh
      · rw [ifn h0, ifn h0] at hh ⊢
        exact remS0 gb k (k + m - 1) v (by omega) (by omega) W hh
  · intro W v2 hh
    have := gapSin hb 0 (k + m - 1) k v2 (by omega) (by omega) (by omega) (by omega) (by omega) W hh
    rwa [show k + m - 1 + 1 = k + m from by omega] at this
  · rintro e w' ⟨cb, c2, cl, v2, hv2, rfl, hh, hcb, hck, hBc, hg2, hh2, hnewg, hnewh, hg3, hh3, hco, hM⟩
    simp only [decide_eq_true_eq] at hh
    rw [show text.length - k - m = text.length - (k + m) from by omega] at hh
    have hnew : ∀ z, FP ob gb hb v2 hv2 z → FP ob gb hb v hv z ∨ w0.heap.size ≤ z := by
      rintro z (hz | hz | hz)
      · exact .inl (.inl hz)
      · exact (hnewg z hz).imp (fun e => .inr (.inl e)) id
      · exact (hnewh z hz).imp (fun e => .inr (.inr e)) id
    have hcbn : ¬ (FP ob gb hb v2 hv2 cb ∨ X cb) := by
      rintro ((hz | hz | hz) | hz)
      · exact hco hz
      · exact (hg3 cb hz).2.1 rfl
      · exact (hh3 cb hz).2 rfl
      · have := hX cb hz; omega
    have hkb := BsF.of_blk (F := fun z => FP ob gb hb v2 hv2 z ∨ X z) hck hcbn hBc.take hBc.le
    rw [List.drop_drop, List.length_drop] at hkb
    refine ⟨v2, hv2, _, _, rfl, ⟨hh, hg2, by rw [ifp (by omega), ifp (by omega)]; exact hh2, hkb, fun h0 => by omega, fun z hz => (hg3 z hz).1, fun z hz => (hh3 z hz).1, fun z hz => (hg3 z hz).2.2⟩, hnew, hM⟩
end
end Go.Proofs.Ytkhcbllphdhbdaa

namespace Go.Proofs.Ytkhcbllphdhbdaa
open Go.Sym


set_option maxRecDepth 100000 in
set_option maxHeartbeats 4000000 in
theorem Next_z1 (ob gb hb most : Nat) (hmost : most ≤ 1099511627776) (w0 : World) (hz : w0.heap[ob]? = some (.cells ([.int .i64 0, .int .i64 0, .slice none 0 0, .int .i64 0, .pointer (some ⟨gb, 0, none⟩), .pointer (some ⟨hb, 0, none⟩), .int .i64 1] : List Value).toArray 70 (0, 0))) (hg : w0.heap[gb]? = some (.cells ([.bool true, .slice none 0 0] : List Value).toArray 89 (0, 0))) (hne : gb ≠ ob) : Calls Try.prog 8 #[.pointer (some ⟨ob, 0, none⟩), .int .i64 (most : Int), .int .i64 0] w0 fun e w' => e = .returned (.tuple #[.agg #[.int .i64 0, .slice none 0 0, .bool true], .bool true]) ∧ w'.heap[ob]? = some (.cells ([.int .i64 0, .int .i64 0, .slice none 0 0, .int .i64 0, .pointer (some ⟨gb, 0, none⟩), .pointer (some ⟨hb, 0, none⟩), .int .i64 2] : List Value).toArray 70 (0, 0)) ∧ Mod (· = ob) w0 w' := by
  refine enter Try.func8 rfl rfl rfl ?_
  intro a hS
  have hH := Hp.start w0 ((· = ob))
  replace hH := (hH.know hg (by intro p hp; simp at hp)).know hz (by intro p hp; simp at hp; subst hp; exact hne)
  refine c_seq ?_
  refine reg_plain w0 ((· = ob)) ?_
  refine r_alloc hS hH (by repeat (first | exact Sub.nil | refine Sub.cons ?_ ?_ | exact In.here | refine In.there ?_)) Fc.zc30 rfl ?_
  clear hS hH; intro a w b6 hb6 hwb6 hS hH
  refine r_assign hS hH.kp0 rfl rfl ?_; clear hS; intro a hS
  refine Sq.nil ?_
  refine then_n ?_
  refine c_seq ?_
  refine c_seq ?_
  refine reg_plain w0 ((· = ob)) ?_
  refine r_move hS hH.kp0 rfl rfl ?_; clear hS; intro a hS
  refine r_call (l := [.tmp 12]) hS rfl rfl Fc.fn28 rfl ?_
  refine Calls.mono (none_c ob gb hb 0 0 0 0 0 none 1 _ (hH.get (b := ob) (by repeat (first | exact In.here | refine In.there ?_)))) ?_
  rintro e w1 ⟨rfl, hE⟩
  replace hH := hH.ext hE
  refine ⟨_, rfl, hH.kp0, ?_⟩
  clear hS; intro a hS
  refine Sq.nil ?_
  refine then_n ?_
  refine c_condF hS rfl rfl ?_
  refine wp_skip ?_
  refine then_n ?_
  refine c_seq ?_
  refine reg_plain w0 ((· = ob)) ?_
  refine r_move hS hH.kp0 rfl rfl ?_; clear hS; intro a hS
  refine r_move hS hH.kp0 rfl rfl ?_; clear hS; intro a hS
  refine r_move hS hH.kp0 rfl rfl ?_; clear hS; intro a hS
  refine r_call (l := [.tmp 16, .tmp 17, .tmp 18]) hS rfl rfl Fc.fn29 rfl ?_
  refine Calls.mono (due_c ob gb hb 0 0 0 0 0 none 1 most 0 (by omega) (by omega) hmost (by omega) _ (hH.get (b := ob) (by repeat (first | exact In.here | refine In.there ?_))) (hH.get (b := gb) (by repeat (first | exact In.here | refine In.there ?_))) hne) ?_
  rintro e w1 ⟨rfl, hE⟩
  replace hH := hH.ext hE
  refine ⟨_, rfl, hH.kp0, ?_⟩
  clear hS; intro a hS
  refine r_move hS hH.kp0 rfl rfl ?_; clear hS; intro a hS
  refine r_extract hS hH.kp0 rfl rfl rfl ?_; clear hS; intro a hS
  refine r_extract hS hH.kp0 rfl rfl rfl ?_; clear hS; intro a hS
  refine r_extract hS hH.kp0 rfl rfl rfl ?_; clear hS; intro a hS
  refine r_assign hS hH.kp0 rfl rfl ?_; clear hS; intro a hS
  refine r_assign hS hH.kp0 rfl rfl ?_; clear hS; intro a hS
  refine r_assign hS hH.kp0 rfl rfl ?_; clear hS; intro a hS
  refine Sq.nil ?_
  refine then_n ?_
  refine c_seq ?_
  refine c_seq ?_
  refine reg_plain w0 ((· = ob)) ?_
  refine r_move hS hH.kp0 rfl rfl ?_; clear hS; intro a hS
  refine r_not hS hH.kp0 rfl rfl ?_; clear hS; intro a hS
  refine Sq.nil ?_
  refine then_n ?_
  refine c_condF hS rfl rfl ?_
  refine wp_skip ?_
  refine then_n ?_
  refine c_seq ?_
  refine reg_tree [(true, 0, []), (true, 1, []), (true, 2, []), (true, 3, []), (true, 4, []), (true, 5, []), (true, 6, []), (true, 7, []), (true, 8, []), (true, 9, []), (true, 10, []), (true, 11, []), (true, 12, []), (true, 13, []), (true, 14, []), (true, 15, []), (true, 16, []), (true, 17, []), (false, 18, []), (true, 19, []), (false, 20, []), (false, 21, [])] (PT.ofPlan [(true, 0, []), (true, 1, []), (true, 2, []), (true, 3, []), (true, 4, []), (true, 5, []), (true, 6, []), (true, 7, []), (true, 8, []), (true, 9, []), (true, 10, []), (true, 11, []), (true, 12, []), (true, 13, []), (true, 14, []), (true, 15, []), (true, 16, []), (true, 17, [])] (.fork (PT.ofPlan [(false, 18, []), (true, 19, []), (false, 20, []), (false, 21, [])] .nil) (PT.ofPlan [(false, 20, []), (false, 18, []), (true, 19, []), (false, 21, [])] .nil))) Fc.mixed (by kernel_rfl) (by kernel_rfl) (by kernel_rfl) (by kernel_rfl) (by kernel_rfl) (by kernel_rfl) (by repeat (first | with_reducible exact steady_body | with_reducible exact steady_bodyQ | with_reducible exact steady_round | with_reducible apply steady_block | with_reducible apply steady_then | with_reducible apply steady_scope | exact steady_body)) hH ?_
  replace hH := hH.drew
  refine tr_seg ?_
  refine r_move hS trivial rfl rfl ?_; clear hS; intro a hS
  refine r_move hS trivial rfl rfl ?_; clear hS; intro a hS
  refine r_nilCheck hS trivial rfl rfl ?_; clear hS; intro a hS
  refine r_fieldAddr hS trivial rfl Fc.fo70_2 rfl ?_; clear hS; intro a hS
  refine r_load_scS hS rfl (by repeat (first | exact In.here | refine In.there ?_)) Fc.sc22 (by rfl) rfl ?_; clear hS; intro a hS
  refine r_move hS trivial rfl rfl ?_; clear hS; intro a hS
  refine r_move hS trivial rfl rfl ?_; clear hS; intro a hS
  refine r_nilCheck hS trivial rfl rfl ?_; clear hS; intro a hS
  refine r_fieldAddr hS trivial rfl Fc.fo70_1 rfl ?_; clear hS; intro a hS
  refine r_load_scS hS rfl (by repeat (first | exact In.here | refine In.there ?_)) Fc.sc3 (by rfl) rfl ?_; clear hS; intro a hS
  refine r_subN0 (m := 0) (k := 0) hS trivial rfl rfl (by omega) (by omega) rfl ?_; clear hS; intro a hS
  refine r_move hS trivial rfl rfl ?_; clear hS; intro a hS
  refine r_move hS trivial rfl rfl ?_; clear hS; intro a hS
  refine r_nilCheck hS trivial rfl rfl ?_; clear hS; intro a hS
  refine r_fieldAddr hS trivial rfl Fc.fo70_1 rfl ?_; clear hS; intro a hS
  refine r_load_scS hS rfl (by repeat (first | exact In.here | refine In.there ?_)) Fc.sc3 (by rfl) rfl ?_; clear hS; intro a hS
  refine r_subN0 (m := 0) (k := 0) hS trivial rfl rfl (by omega) (by omega) rfl ?_; clear hS; intro a hS
  refine r_slLoHiN hS trivial rfl rfl rfl Fc.slb22 rfl ?_; clear hS; intro a hS
  refine Sq.nil ?_
  refine then_n ?_
  refine tr_fork ?_ ?_
  · refine tr_seg ?_
    refine r_call (l := [.tmp 43]) hS rfl rfl Fc.fn30 rfl ?_
    refine Calls.mono (clone_nil _) ?_
    rintro e w1 ⟨rfl, hE⟩
    replace hH := hH.ext hE
    refine ⟨_, rfl, hH.kp (by repeat (first | exact Sub.nil | refine Sub.cons ?_ ?_ | exact In.here | refine In.there ?_)), ?_⟩
    clear hS; intro a hS
    refine r_buildS (parts := [(0, .tmp 26), (1, .tmp 44)]) hS trivial rfl rfl Fc.zc30 Fc.pl30 (by rfl) ?_; clear hS; intro a hS
    refine r_alloc hS hH (by repeat (first | exact Sub.nil | refine Sub.cons ?_ ?_ | exact In.here | refine In.there ?_)) Fc.zc30 rfl ?_
    clear hS hH; intro a w b11 hb11 hwb11 hS hH
    refine r_store_row hS hH rfl rfl (by repeat (first | exact .here | apply In.there | apply Put.there | apply Del.there)) (by repeat (first | exact Sub.nil | refine Sub.cons ?_ ?_ | exact In.here | refine In.there ?_)) Fc.sz30 (by first | exact hcells_one _ | exact of_decide_eq_true rfl) (by rfl) (by first | exact .inr (by assumption) | exact .inl rfl) ?_
    clear hH; intro w hH
    refine Sq.nil ?_
    refine then_n ?_
    refine tr_nil ?_
    refine then_n ?_
    refine c_seq ?_
    refine c_seq ?_
    refine reg_plain w0 ((· = ob)) ?_
    refine r_move hS hH.kp0 rfl rfl ?_; clear hS; intro a hS
    refine r_move hS hH.kp0 rfl rfl ?_; clear hS; intro a hS
    refine r_gtr hS hH.kp0 rfl rfl rfl ?_; clear hS; intro a hS
    refine Sq.nil ?_
    refine then_n ?_
    refine c_condF hS rfl rfl ?_
    refine wp_skip ?_
    refine then_n ?_
    refine c_seq ?_
    refine c_seq ?_
    refine reg_plain w0 ((· = ob)) ?_
    refine r_move hS hH.kp0 rfl rfl ?_; clear hS; intro a hS
    refine r_move hS hH.kp0 rfl rfl ?_; clear hS; intro a hS
    refine r_call (l := [.tmp 58]) hS rfl rfl Fc.fn32 rfl ?_
    refine Calls.mono (written_c ob gb hb 0 0 0 0 0 none 1 (by omega) _ (hH.get (b := ob) (by repeat (first | exact In.here | refine In.there ?_)))) ?_
    rintro e w1 ⟨rfl, hE⟩
    replace hH := hH.ext hE
    refine ⟨_, rfl, hH.kp0, ?_⟩
    clear hS; intro a hS
    refine r_eql hS hH.kp0 rfl rfl rfl ?_; clear hS; intro a hS
    refine r_move hS hH.kp0 rfl rfl ?_; clear hS; intro a hS
    refine Sq.guardYes hS rfl rfl rfl ?_
    refine r_move hS hH.kp0 rfl rfl ?_; clear hS; intro a hS
    refine Sq.guardYes hS rfl rfl rfl ?_
    refine r_nilCheck hS hH.kp0 rfl rfl ?_; clear hS; intro a hS
    refine Sq.guardYes hS rfl rfl rfl ?_
    refine r_fieldAddr hS hH.kp0 rfl Fc.fo70_6 rfl ?_; clear hS; intro a hS
    refine Sq.guardYes hS rfl rfl rfl ?_
    refine r_load_sc hS hH (by repeat (first | exact Sub.nil | refine Sub.cons ?_ ?_ | exact In.here | refine In.there ?_)) rfl (by repeat (first | exact In.here | refine In.there ?_)) Fc.sc3 (by rfl) rfl ?_; clear hS; intro a hS
    refine Sq.guardYes hS rfl rfl rfl ?_
    refine r_eql hS hH.kp0 rfl rfl rfl ?_; clear hS; intro a hS
    refine Sq.guardYes hS rfl rfl rfl ?_
    refine r_move hS hH.kp0 rfl rfl ?_; clear hS; intro a hS
    refine Sq.guardNo hS rfl rfl rfl hH.kp0 rfl ?_; clear hS; intro a hS
    refine Sq.guardNo hS rfl rfl rfl hH.kp0 rfl ?_; clear hS; intro a hS
    refine Sq.guardNo hS rfl rfl rfl hH.kp0 rfl ?_; clear hS; intro a hS
    refine Sq.guardNo hS rfl rfl rfl hH.kp0 rfl ?_; clear hS; intro a hS
    refine Sq.guardNo hS rfl rfl rfl hH.kp0 rfl ?_; clear hS; intro a hS
    refine Sq.guardYes hS rfl rfl rfl ?_
    refine r_pickT hS hH.kp0 rfl rfl rfl rfl ?_; clear hS; intro a hS
    refine r_pickT hS hH.kp0 rfl rfl rfl rfl ?_; clear hS; intro a hS
    refine Sq.nil ?_
    refine then_n ?_
    refine c_condT hS rfl rfl ?_
    refine reg_plain w0 ((· = ob)) ?_
    refine r_move hS hH.kp0 rfl rfl ?_; clear hS; intro a hS
    refine r_fieldAddr hS hH.kp0 rfl Fc.fo30_2 rfl ?_; clear hS; intro a hS
    refine r_store1 hS hH rfl rfl rfl (by repeat (first | exact .here | apply In.there | apply Put.there | apply Del.there)) (by repeat (first | exact Sub.nil | refine Sub.cons ?_ ?_ | exact In.here | refine In.there ?_)) Fc.sz4 (of_decide_eq_true rfl) (by first | exact .inr (by assumption) | exact .inl rfl) ?_
    clear hH; intro w hH
    refine r_nilCheck hS hH.kp0 rfl rfl ?_; clear hS; intro a hS
    refine r_fieldAddr hS hH.kp0 rfl Fc.fo70_6 rfl ?_; clear hS; intro a hS
    refine r_store1 hS hH rfl rfl rfl (by repeat (first | exact .here | apply In.there | apply Put.there | apply Del.there)) (by repeat (first | exact Sub.nil | refine Sub.cons ?_ ?_ | exact In.here | refine In.there ?_)) Fc.sz3 (of_decide_eq_true rfl) (by first | exact .inr (by assumption) | exact .inl rfl) ?_
    clear hH; intro w hH
    refine Sq.nil ?_
    refine then_n ?_
    refine c_seq ?_
    refine reg_plain w0 ((· = ob)) ?_
    refine r_move hS hH.kp0 rfl rfl ?_; clear hS; intro a hS
    refine r_move hS hH.kp0 rfl rfl ?_; clear hS; intro a hS
    refine r_nilCheck hS hH.kp0 rfl rfl ?_; clear hS; intro a hS
    refine r_fieldAddr hS hH.kp0 rfl Fc.fo70_3 rfl ?_; clear hS; intro a hS
    refine r_load_sc hS hH (by repeat (first | exact Sub.nil | refine Sub.cons ?_ ?_ | exact In.here | refine In.there ?_)) rfl (by repeat (first | exact In.here | refine In.there ?_)) Fc.sc3 (by rfl) rfl ?_; clear hS; intro a hS
    refine r_move hS hH.kp0 rfl rfl ?_; clear hS; intro a hS
    refine r_maxN (m := 0) (k := 0) hS hH.kp0 rfl rfl rfl ?_; clear hS; intro a hS
    refine r_nilCheck hS hH.kp0 rfl rfl ?_; clear hS; intro a hS
    refine r_fieldAddr hS hH.kp0 rfl Fc.fo70_3 rfl ?_; clear hS; intro a hS
    refine r_store1 hS hH rfl rfl rfl (by repeat (first | exact .here | apply In.there | apply Put.there | apply Del.there)) (by repeat (first | exact Sub.nil | refine Sub.cons ?_ ?_ | exact In.here | refine In.there ?_)) Fc.sz3 (of_decide_eq_true rfl) (by first | exact .inr (by assumption) | exact .inl rfl) ?_
    clear hH; intro w hH
    refine Sq.nil ?_
    refine then_n ?_
    refine c_seq ?_
    refine reg_plain w0 ((· = ob)) ?_
    refine r_load_row hS hH (by repeat (first | exact Sub.nil | refine Sub.cons ?_ ?_ | exact In.here | refine In.there ?_)) rfl (by repeat (first | exact In.here | refine In.there ?_)) Fc.ag30 (by rfl) rfl ?_; clear hS; intro a hS
    refine r_store_row hS hH rfl rfl (by repeat (first | exact .here | apply In.there | apply Put.there | apply Del.there)) (by repeat (first | exact Sub.nil | refine Sub.cons ?_ ?_ | exact In.here | refine In.there ?_)) Fc.sz30 (by first | exact hcells_one _ | exact of_decide_eq_true rfl) (by rfl) (by first | exact .inr (by assumption) | exact .inl rfl) ?_
    clear hH; intro w hH
    refine r_assign hS hH.kp0 rfl rfl ?_; clear hS; intro a hS
    refine Sq.nil ?_
    refine then_n ?_
    refine wp_ret ?_
    exact leave (.inl rfl) hS rfl (Res.cell rfl (hH.get (by repeat (first | exact In.here | refine In.there ?_))) Fc.ag30 (by rfl) rfl (Res.tmp rfl Res.nil)) ⟨rfl, hH.get (b := ob) (by repeat (first | exact In.here | refine In.there ?_)), hH.mod⟩
  · refine tr_seg ?_
    refine r_alloc hS hH (by repeat (first | exact Sub.nil | refine Sub.cons ?_ ?_ | exact In.here | refine In.there ?_)) Fc.zc30 rfl ?_
    clear hS hH; intro a w b11 hb11 hwb11 hS hH
    refine r_call (l := [.tmp 43]) hS rfl rfl Fc.fn30 rfl ?_
    refine Calls.mono (clone_nil _) ?_
    rintro e w1 ⟨rfl, hE⟩
    replace hH := hH.ext hE
    refine ⟨_, rfl, hH.kp (by repeat (first | exact Sub.nil | refine Sub.cons ?_ ?_ | exact In.here | refine In.there ?_)), ?_⟩
    clear hS; intro a hS
    refine r_buildS (parts := [(0, .tmp 26), (1, .tmp 44)]) hS trivial rfl rfl Fc.zc30 Fc.pl30 (by rfl) ?_; clear hS; intro a hS
    refine r_store_row hS hH rfl rfl (by repeat (first | exact .here | apply In.there | apply Put.there | apply Del.there)) (by repeat (first | exact Sub.nil | refine Sub.cons ?_ ?_ | exact In.here | refine In.there ?_)) Fc.sz30 (by first | exact hcells_one _ | exact of_decide_eq_true rfl) (by rfl) (by first | exact .inr (by assumption) | exact .inl rfl) ?_
    clear hH; intro w hH
    refine Sq.nil ?_
    refine then_n ?_
    refine tr_nil ?_
    refine then_n ?_
    refine c_seq ?_
    refine c_seq ?_
    refine reg_plain w0 ((· = ob)) ?_
    refine r_move hS hH.kp0 rfl rfl ?_; clear hS; intro a hS
    refine r_move hS hH.kp0 rfl rfl ?_; clear hS; intro a hS
    refine r_gtr hS hH.kp0 rfl rfl rfl ?_; clear hS; intro a hS
    refine Sq.nil ?_
    refine then_n ?_
    refine c_condF hS rfl rfl ?_
    refine wp_skip ?_
    refine then_n ?_
    refine c_seq ?_
    refine c_seq ?_
    refine reg_plain w0 ((· = ob)) ?_
    refine r_move hS hH.kp0 rfl rfl ?_; clear hS; intro a hS
    refine r_move hS hH.kp0 rfl rfl ?_; clear hS; intro a hS
    refine r_call (l := [.tmp 58]) hS rfl rfl Fc.fn32 rfl ?_
    refine Calls.mono (written_c ob gb hb 0 0 0 0 0 none 1 (by omega) _ (hH.get (b := ob) (by repeat (first | exact In.here | refine In.there ?_)))) ?_
    rintro e w1 ⟨rfl, hE⟩
    replace hH := hH.ext hE
    refine ⟨_, rfl, hH.kp0, ?_⟩
    clear hS; intro a hS
    refine r_eql hS hH.kp0 rfl rfl rfl ?_; clear hS; intro a hS
    refine r_move hS hH.kp0 rfl rfl ?_; clear hS; intro a hS
    refine Sq.guardYes hS rfl rfl rfl ?_
    refine r_move hS hH.kp0 rfl rfl ?_; clear hS; intro a hS
    refine Sq.guardYes hS rfl rfl rfl ?_
    refine r_nilCheck hS hH.kp0 rfl rfl ?_; clear hS; intro a hS
    refine Sq.guardYes hS rfl rfl rfl ?_
    refine r_fieldAddr hS hH.kp0 rfl Fc.fo70_6 rfl ?_; clear hS; intro a hS
    refine Sq.guardYes hS rfl rfl rfl ?_
    refine r_load_sc hS hH (by repeat (first | exact Sub.nil | refine Sub.cons ?_ ?_ | exact In.here | refine In.there ?_)) rfl (by repeat (first | exact In.here | refine In.there ?_)) Fc.sc3 (by rfl) rfl ?_; clear hS; intro a hS
    refine Sq.guardYes hS rfl rfl rfl ?_
    refine r_eql hS hH.kp0 rfl rfl rfl ?_; clear hS; intro a hS
    refine Sq.guardYes hS rfl rfl rfl ?_
    refine r_move hS hH.kp0 rfl rfl ?_; clear hS; intro a hS
    refine Sq.guardNo hS rfl rfl rfl hH.kp0 rfl ?_; clear hS; intro a hS
    refine Sq.guardNo hS rfl rfl rfl hH.kp0 rfl ?_; clear hS; intro a hS
    refine Sq.guardNo hS rfl rfl rfl hH.kp0 rfl ?_; clear hS; intro a hS
    refine Sq.guardNo hS rfl rfl rfl hH.kp0 rfl ?_; clear hS; intro a hS
    refine Sq.guardNo hS rfl rfl rfl hH.kp0 rfl ?_; clear hS; intro a hS
    refine Sq.guardYes hS rfl rfl rfl ?_
    refine r_pickT hS hH.kp0 rfl rfl rfl rfl ?_; clear hS; intro a hS
    refine r_pickT hS hH.kp0 rfl rfl rfl rfl ?_; clear hS; intro a hS
    refine Sq.nil ?_
    refine then_n ?_
    refine c_condT hS rfl rfl ?_
    refine reg_plain w0 ((· = ob)) ?_
    refine r_move hS hH.kp0 rfl rfl ?_; clear hS; intro a hS
    refine r_fieldAddr hS hH.kp0 rfl Fc.fo30_2 rfl ?_; clear hS; intro a hS
    refine r_store1 hS hH rfl rfl rfl (by repeat (first | exact .here | apply In.there | apply Put.there | apply Del.there)) (by repeat (first | exact Sub.nil | refine Sub.cons ?_ ?_ | exact In.here | refine In.there ?_)) Fc.sz4 (of_decide_eq_true rfl) (by first | exact .inr (by assumption) | exact .inl rfl) ?_
    clear hH; intro w hH
    refine r_nilCheck hS hH.kp0 rfl rfl ?_; clear hS; intro a hS
    refine r_fieldAddr hS hH.kp0 rfl Fc.fo70_6 rfl ?_; clear hS; intro a hS
    refine r_store1 hS hH rfl rfl rfl (by repeat (first | exact .here | apply In.there | apply Put.there | apply Del.there)) (by repeat (first | exact Sub.nil | refine Sub.cons ?_ ?_ | exact In.here | refine In.there ?_)) Fc.sz3 (of_decide_eq_true rfl) (by first | exact .inr (by assumption) | exact .inl rfl) ?_
    clear hH; intro w hH
    refine Sq.nil ?_
    refine then_n ?_
    refine c_seq ?_
    refine reg_plain w0 ((· = ob)) ?_
    refine r_move hS hH.kp0 rfl rfl ?_; clear hS; intro a hS
    refine r_move hS hH.kp0 rfl rfl ?_; clear hS; intro a hS
    refine r_nilCheck hS hH.kp0 rfl rfl ?_; clear hS; intro a hS
    refine r_fieldAddr hS hH.kp0 rfl Fc.fo70_3 rfl ?_; clear hS; intro a hS
    refine r_load_sc hS hH (by repeat (first | exact Sub.nil | refine Sub.cons ?_ ?_ | exact In.here | refine In.there ?_)) rfl (by repeat (first | exact In.here | refine In.there ?_)) Fc.sc3 (by rfl) rfl ?_; clear hS; intro a hS
    refine r_move hS hH.kp0 rfl rfl ?_; clear hS; intro a hS
    refine r_maxN (m := 0) (k := 0) hS hH.kp0 rfl rfl rfl ?_; clear hS; intro a hS
    refine r_nilCheck hS hH.kp0 rfl rfl ?_; clear hS; intro a hS
    refine r_fieldAddr hS hH.kp0 rfl Fc.fo70_3 rfl ?_; clear hS; intro a hS
    refine r_store1 hS hH rfl rfl rfl (by repeat (first | exact .here | apply In.there | apply Put.there | apply Del.there)) (by repeat (first | exact Sub.nil | refine Sub.cons ?_ ?_ | exact In.here | refine In.there ?_)) Fc.sz3 (of_decide_eq_true rfl) (by first | exact .inr (by assumption) | exact .inl rfl) ?_
    clear hH; intro w hH
    refine Sq.nil ?_
    refine then_n ?_
    refine c_seq ?_
    refine reg_plain w0 ((· = ob)) ?_
    refine r_load_row hS hH (by repeat (first | exact Sub.nil | refine Sub.cons ?_ ?_ | exact In.here | refine In.there ?_)) rfl (by repeat (first | exact In.here | refine In.there ?_)) Fc.ag30 (by rfl) rfl ?_; clear hS; intro a hS
    refine r_store_row hS hH rfl rfl (by repeat (first | exact .here | apply In.there | apply Put.there | apply Del.there)) (by repeat (first | exact Sub.nil | refine Sub.cons ?_ ?_ | exact In.here | refine In.there ?_)) Fc.sz30 (by first | exact hcells_one _ | exact of_decide_eq_true rfl) (by rfl) (by first | exact .inr (by assumption) | exact .inl rfl) ?_
    clear hH; intro w hH
    refine r_assign hS hH.kp0 rfl rfl ?_; clear hS; intro a hS
    refine Sq.nil ?_
    refine then_n ?_
    refine wp_ret ?_
    exact leave (.inl rfl) hS rfl (Res.cell rfl (hH.get (by repeat (first | exact In.here | refine In.there ?_))) Fc.ag30 (by rfl) rfl (Res.tmp rfl Res.nil)) ⟨rfl, hH.get (b := ob) (by repeat (first | exact In.here | refine In.there ?_)), hH.mod⟩

set_option maxRecDepth 100000 in
set_option maxHeartbeats 4000000 in
theorem Next_z3 (ob gb hb most : Nat) (hmost : most ≤ 1099511627776) (w0 : World) (hz : w0.heap[ob]? = some (.cells ([.int .i64 0, .int .i64 0, .slice none 0 0, .int .i64 0, .pointer (some ⟨gb, 0, none⟩), .pointer (some ⟨hb, 0, none⟩), .int .i64 3] : List Value).toArray 70 (0, 0))) (hg : w0.heap[gb]? = some (.cells ([.bool true, .slice none 0 0] : List Value).toArray 89 (0, 0))) (hne : gb ≠ ob) : Calls Try.prog 8 #[.pointer (some ⟨ob, 0, none⟩), .int .i64 (most : Int), .int .i64 0] w0 fun e w' => e = .returned (.tuple #[.agg #[.int .i64 0, .slice none 0 0, .bool true], .bool true]) ∧ w'.heap[ob]? = some (.cells ([.int .i64 0, .int .i64 0, .slice none 0 0, .int .i64 0, .pointer (some ⟨gb, 0, none⟩), .pointer (some ⟨hb, 0, none⟩), .int .i64 2] : List Value).toArray 70 (0, 0)) ∧ Mod (· = ob) w0 w' := by
  refine enter Try.func8 rfl rfl rfl ?_
  intro a hS
  have hH := Hp.start w0 ((· = ob))
  replace hH := (hH.know hg (by intro p hp; simp at hp)).know hz (by intro p hp; simp at hp; subst hp; exact hne)
  refine c_seq ?_
  refine reg_plain w0 ((· = ob)) ?_
  refine r_alloc hS hH (by repeat (first | exact Sub.nil | refine Sub.cons ?_ ?_ | exact In.here | refine In.there ?_)) Fc.zc30 rfl ?_
  clear hS hH; intro a w b6 hb6 hwb6 hS hH
  refine r_assign hS hH.kp0 rfl rfl ?_; clear hS; intro a hS
  refine Sq.nil ?_
  refine then_n ?_
  refine c_seq ?_
  refine c_seq ?_
  refine reg_plain w0 ((· = ob)) ?_
  refine r_move hS hH.kp0 rfl rfl ?_; clear hS; intro a hS
  refine r_call (l := [.tmp 12]) hS rfl rfl Fc.fn28 rfl ?_
  refine Calls.mono (none_c ob gb hb 0 0 0 0 0 none 3 _ (hH.get (b := ob) (by repeat (first | exact In.here | refine In.there ?_)))) ?_
  rintro e w1 ⟨rfl, hE⟩
  replace hH := hH.ext hE
  refine ⟨_, rfl, hH.kp0, ?_⟩
  clear hS; intro a hS
  refine Sq.nil ?_
  refine then_n ?_
  refine c_condF hS rfl rfl ?_
  refine wp_skip ?_
  refine then_n ?_
  refine c_seq ?_
  refine reg_plain w0 ((· = ob)) ?_
  refine r_move hS hH.kp0 rfl rfl ?_; clear hS; intro a hS
  refine r_move hS hH.kp0 rfl rfl ?_; clear hS; intro a hS
  refine r_move hS hH.kp0 rfl rfl ?_; clear hS; intro a hS
  refine r_call (l := [.tmp 16, .tmp 17, .tmp 18]) hS rfl rfl Fc.fn29 rfl ?_
  refine Calls.mono (due_c ob gb hb 0 0 0 0 0 none 3 most 0 (by omega) (by omega) hmost (by omega) _ (hH.get (b := ob) (by repeat (first | exact In.here | refine In.there ?_))) (hH.get (b := gb) (by repeat (first | exact In.here | refine In.there ?_))) hne) ?_
  rintro e w1 ⟨rfl, hE⟩
  replace hH := hH.ext hE
  refine ⟨_, rfl, hH.kp0, ?_⟩
  clear hS; intro a hS
  refine r_move hS hH.kp0 rfl rfl ?_; clear hS; intro a hS
  refine r_extract hS hH.kp0 rfl rfl rfl ?_; clear hS; intro a hS
  refine r_extract hS hH.kp0 rfl rfl rfl ?_; clear hS; intro a hS
  refine r_extract hS hH.kp0 rfl rfl rfl ?_; clear hS; intro a hS
  refine r_assign hS hH.kp0 rfl rfl ?_; clear hS; intro a hS
  refine r_assign hS hH.kp0 rfl rfl ?_; clear hS; intro a hS
  refine r_assign hS hH.kp0 rfl rfl ?_; clear hS; intro a hS
  refine Sq.nil ?_
  refine then_n ?_
  refine c_seq ?_
  refine c_seq ?_
  refine reg_plain w0 ((· = ob)) ?_
  refine r_move hS hH.kp0 rfl rfl ?_; clear hS; intro a hS
  refine r_not hS hH.kp0 rfl rfl ?_; clear hS; intro a hS
  refine Sq.nil ?_
  refine then_n ?_
  refine c_condF hS rfl rfl ?_
  refine wp_skip ?_
  refine then_n ?_
  refine c_seq ?_
  refine reg_tree [(true, 0, []), (true, 1, []), (true, 2, []), (true, 3, []), (true, 4, []), (true, 5, []), (true, 6, []), (true, 7, []), (true, 8, []), (true, 9, []), (true, 10, []), (true, 11, []), (true, 12, []), (true, 13, []), (true, 14, []), (true, 15, []), (true, 16, []), (true, 17, []), (false, 18, []), (true, 19, []), (false, 20, []), (false, 21, [])] (PT.ofPlan [(true, 0, []), (true, 1, []), (true, 2, []), (true, 3, []), (true, 4, []), (true, 5, []), (true, 6, []), (true, 7, []), (true, 8, []), (true, 9, []), (true, 10, []), (true, 11, []), (true, 12, []), (true, 13, []), (true, 14, []), (true, 15, []), (true, 16, []), (true, 17, [])] (.fork (PT.ofPlan [(false, 18, []), (true, 19, []), (false, 20, []), (false, 21, [])] .nil) (PT.ofPlan [(false, 20, []), (false, 18, []), (true, 19, []), (false, 21, [])] .nil))) Fc.mixed (by kernel_rfl) (by kernel_rfl) (by kernel_rfl) (by kernel_rfl) (by kernel_rfl) (by kernel_rfl) (by repeat (first | with_reducible exact steady_body | with_reducible exact steady_bodyQ | with_reducible exact steady_round | with_reducible apply steady_block | with_reducible apply steady_then | with_reducible apply steady_scope | exact steady_body)) hH ?_
  replace hH := hH.drew
  refine tr_seg ?_
  refine r_move hS trivial rfl rfl ?_; clear hS; intro a hS
  refine r_move hS trivial rfl rfl ?_; clear hS; intro a hS
  refine r_nilCheck hS trivial rfl rfl ?_; clear hS; intro a hS
  refine r_fieldAddr hS trivial rfl Fc.fo70_2 rfl ?_; clear hS; intro a hS
  refine r_load_scS hS rfl (by repeat (first | exact In.here | refine In.there ?_)) Fc.sc22 (by rfl) rfl ?_; clear hS; intro a hS
  refine r_move hS trivial rfl rfl ?_; clear hS; intro a hS
  refine r_move hS trivial rfl rfl ?_; clear hS; intro a hS
  refine r_nilCheck hS trivial rfl rfl ?_; clear hS; intro a hS
  refine r_fieldAddr hS trivial rfl Fc.fo70_1 rfl ?_; clear hS; intro a hS
  refine r_load_scS hS rfl (by repeat (first | exact In.here | refine In.there ?_)) Fc.sc3 (by rfl) rfl ?_; clear hS; intro a hS
  refine r_subN0 (m := 0) (k := 0) hS trivial rfl rfl (by omega) (by omega) rfl ?_; clear hS; intro a hS
  refine r_move hS trivial rfl rfl ?_; clear hS; intro a hS
  refine r_move hS trivial rfl rfl ?_; clear hS; intro a hS
  refine r_nilCheck hS trivial rfl rfl ?_; clear hS; intro a hS
  refine r_fieldAddr hS trivial rfl Fc.fo70_1 rfl ?_; clear hS; intro a hS
  refine r_load_scS hS rfl (by repeat (first | exact In.here | refine In.there ?_)) Fc.sc3 (by rfl) rfl ?_; clear hS; intro a hS
  refine r_subN0 (m := 0) (k := 0) hS trivial rfl rfl (by omega) (by omega) rfl ?_; clear hS; intro a hS
  refine r_slLoHiN hS trivial rfl rfl rfl Fc.slb22 rfl ?_; clear hS; intro a hS
  refine Sq.nil ?_
  refine then_n ?_
  refine tr_fork ?_ ?_
  · refine tr_seg ?_
    refine r_call (l := [.tmp 43]) hS rfl rfl Fc.fn30 rfl ?_
    refine Calls.mono (clone_nil _) ?_
    rintro e w1 ⟨rfl, hE⟩
    replace hH := hH.ext hE
    refine ⟨_, rfl, hH.kp (by repeat (first | exact Sub.nil | refine Sub.cons ?_ ?_ | exact In.here | refine In.there ?_)), ?_⟩
    clear hS; intro a hS
    refine r_buildS (parts := [(0, .tmp 26), (1, .tmp 44)]) hS trivial rfl rfl Fc.zc30 Fc.pl30 (by rfl) ?_; clear hS; intro a hS
    refine r_alloc hS hH (by repeat (first | exact Sub.nil | refine Sub.cons ?_ ?_ | exact In.here | refine In.there ?_)) Fc.zc30 rfl ?_
    clear hS hH; intro a w b11 hb11 hwb11 hS hH
    refine r_store_row hS hH rfl rfl (by repeat (first | exact .here | apply In.there | apply Put.there | apply Del.there)) (by repeat (first | exact Sub.nil | refine Sub.cons ?_ ?_ | exact In.here | refine In.there ?_)) Fc.sz30 (by first | exact hcells_one _ | exact of_decide_eq_true rfl) (by rfl) (by first | exact .inr (by assumption) | exact .inl rfl) ?_
    clear hH; intro w hH
    refine Sq.nil ?_
    refine then_n ?_
    refine tr_nil ?_
    refine then_n ?_
    refine c_seq ?_
    refine c_seq ?_
    refine reg_plain w0 ((· = ob)) ?_
    refine r_move hS hH.kp0 rfl rfl ?_; clear hS; intro a hS
    refine r_move hS hH.kp0 rfl rfl ?_; clear hS; intro a hS
    refine r_gtr hS hH.kp0 rfl rfl rfl ?_; clear hS; intro a hS
    refine Sq.nil ?_
    refine then_n ?_
    refine c_condF hS rfl rfl ?_
    refine wp_skip ?_
    refine then_n ?_
    refine c_seq ?_
    refine c_seq ?_
    refine reg_plain w0 ((· = ob)) ?_
    refine r_move hS hH.kp0 rfl rfl ?_; clear hS; intro a hS
    refine r_move hS hH.kp0 rfl rfl ?_; clear hS; intro a hS
    refine r_call (l := [.tmp 58]) hS rfl rfl Fc.fn32 rfl ?_
    refine Calls.mono (written_c ob gb hb 0 0 0 0 0 none 3 (by omega) _ (hH.get (b := ob) (by repeat (first | exact In.here | refine In.there ?_)))) ?_
    rintro e w1 ⟨rfl, hE⟩
    replace hH := hH.ext hE
    refine ⟨_, rfl, hH.kp0, ?_⟩
    clear hS; intro a hS
    refine r_eql hS hH.kp0 rfl rfl rfl ?_; clear hS; intro a hS
    refine r_move hS hH.kp0 rfl rfl ?_; clear hS; intro a hS
    refine Sq.guardYes hS rfl rfl rfl ?_
    refine r_move hS hH.kp0 rfl rfl ?_; clear hS; intro a hS
    refine Sq.guardYes hS rfl rfl rfl ?_
    refine r_nilCheck hS hH.kp0 rfl rfl ?_; clear hS; intro a hS
    refine Sq.guardYes hS rfl rfl rfl ?_
    refine r_fieldAddr hS hH.kp0 rfl Fc.fo70_6 rfl ?_; clear hS; intro a hS
    refine Sq.guardYes hS rfl rfl rfl ?_
    refine r_load_sc hS hH (by repeat (first | exact Sub.nil | refine Sub.cons ?_ ?_ | exact In.here | refine In.there ?_)) rfl (by repeat (first | exact In.here | refine In.there ?_)) Fc.sc3 (by rfl) rfl ?_; clear hS; intro a hS
    refine Sq.guardYes hS rfl rfl rfl ?_
    refine r_eql hS hH.kp0 rfl rfl rfl ?_; clear hS; intro a hS
    refine Sq.guardYes hS rfl rfl rfl ?_
    refine r_move hS hH.kp0 rfl rfl ?_; clear hS; intro a hS
    refine Sq.guardYes hS rfl rfl rfl ?_
    refine r_move hS hH.kp0 rfl rfl ?_; clear hS; intro a hS
    refine Sq.guardYes hS rfl rfl rfl ?_
    refine r_nilCheck hS hH.kp0 rfl rfl ?_; clear hS; intro a hS
    refine Sq.guardYes hS rfl rfl rfl ?_
    refine r_fieldAddr hS hH.kp0 rfl Fc.fo70_6 rfl ?_; clear hS; intro a hS
    refine Sq.guardYes hS rfl rfl rfl ?_
    refine r_load_sc hS hH (by repeat (first | exact Sub.nil | refine Sub.cons ?_ ?_ | exact In.here | refine In.there ?_)) rfl (by repeat (first | exact In.here | refine In.there ?_)) Fc.sc3 (by rfl) rfl ?_; clear hS; intro a hS
    refine Sq.guardYes hS rfl rfl rfl ?_
    refine r_eql hS hH.kp0 rfl rfl rfl ?_; clear hS; intro a hS
    refine Sq.guardYes hS rfl rfl rfl ?_
    refine r_pickF hS hH.kp0 rfl rfl rfl rfl ?_; clear hS; intro a hS
    refine r_pickT hS hH.kp0 rfl rfl rfl rfl ?_; clear hS; intro a hS
    refine Sq.nil ?_
    refine then_n ?_
    refine c_condT hS rfl rfl ?_
    refine reg_plain w0 ((· = ob)) ?_
    refine r_move hS hH.kp0 rfl rfl ?_; clear hS; intro a hS
    refine r_fieldAddr hS hH.kp0 rfl Fc.fo30_2 rfl ?_; clear hS; intro a hS
    refine r_store1 hS hH rfl rfl rfl (by repeat (first | exact .here | apply In.there | apply Put.there | apply Del.there)) (by repeat (first | exact Sub.nil | refine Sub.cons ?_ ?_ | exact In.here | refine In.there ?_)) Fc.sz4 (of_decide_eq_true rfl) (by first | exact .inr (by assumption) | exact .inl rfl) ?_
    clear hH; intro w hH
    refine r_nilCheck hS hH.kp0 rfl rfl ?_; clear hS; intro a hS
    refine r_fieldAddr hS hH.kp0 rfl Fc.fo70_6 rfl ?_; clear hS; intro a hS
    refine r_store1 hS hH rfl rfl rfl (by repeat (first | exact .here | apply In.there | apply Put.there | apply Del.there)) (by repeat (first | exact Sub.nil | refine Sub.cons ?_ ?_ | exact In.here | refine In.there ?_)) Fc.sz3 (of_decide_eq_true rfl) (by first | exact .inr (by assumption) | exact .inl rfl) ?_
    clear hH; intro w hH
    refine Sq.nil ?_
    refine then_n ?_
    refine c_seq ?_
    refine reg_plain w0 ((· = ob)) ?_
    refine r_move hS hH.kp0 rfl rfl ?_; clear hS; intro a hS
    refine r_move hS hH.kp0 rfl rfl ?_; clear hS; intro a hS
    refine r_nilCheck hS hH.kp0 rfl rfl ?_; clear hS; intro a hS
    refine r_fieldAddr hS hH.kp0 rfl Fc.fo70_3 rfl ?_; clear hS; intro a hS
    refine r_load_sc hS hH (by repeat (first | exact Sub.nil | refine Sub.cons ?_ ?_ | exact In.here | refine In.there ?_)) rfl (by repeat (first | exact In.here | refine In.there ?_)) Fc.sc3 (by rfl) rfl ?_; clear hS; intro a hS
    refine r_move hS hH.kp0 rfl rfl ?_; clear hS; intro a hS
    refine r_maxN (m := 0) (k := 0) hS hH.kp0 rfl rfl rfl ?_; clear hS; intro a hS
    refine r_nilCheck hS hH.kp0 rfl rfl ?_; clear hS; intro a hS
    refine r_fieldAddr hS hH.kp0 rfl Fc.fo70_3 rfl ?_; clear hS; intro a hS
    refine r_store1 hS hH rfl rfl rfl (by repeat (first | exact .here | apply In.there | apply Put.there | apply Del.there)) (by repeat (first | exact Sub.nil | refine Sub.cons ?_ ?_ | exact In.here | refine In.there ?_)) Fc.sz3 (of_decide_eq_true rfl) (by first | exact .inr (by assumption) | exact .inl rfl) ?_
    clear hH; intro w hH
    refine Sq.nil ?_
    refine then_n ?_
    refine c_seq ?_
    refine reg_plain w0 ((· = ob)) ?_
    refine r_load_row hS hH (by repeat (first | exact Sub.nil | refine Sub.cons ?_ ?_ | exact In.here | refine In.there ?_)) rfl (by repeat (first | exact In.here | refine In.there ?_)) Fc.ag30 (by rfl) rfl ?_; clear hS; intro a hS
    refine r_store_row hS hH rfl rfl (by repeat (first | exact .here | apply In.there | apply Put.there | apply Del.there)) (by repeat (first | exact Sub.nil | refine Sub.cons ?_ ?_ | exact In.here | refine In.there ?_)) Fc.sz30 (by first | exact hcells_one _ | exact of_decide_eq_true rfl) (by rfl) (by first | exact .inr (by assumption) | exact .inl rfl) ?_
    clear hH; intro w hH
    refine r_assign hS hH.kp0 rfl rfl ?_; clear hS; intro a hS
    refine Sq.nil ?_
    refine then_n ?_
    refine wp_ret ?_
    exact leave (.inl rfl) hS rfl (Res.cell rfl (hH.get (by repeat (first | exact In.here | refine In.there ?_))) Fc.ag30 (by rfl) rfl (Res.tmp rfl Res.nil)) ⟨rfl, hH.get (b := ob) (by repeat (first | exact In.here | refine In.there ?_)), hH.mod⟩
  · refine tr_seg ?_
    refine r_alloc hS hH (by repeat (first | exact Sub.nil | refine Sub.cons ?_ ?_ | exact In.here | refine In.there ?_)) Fc.zc30 rfl ?_
    clear hS hH; intro a w b11 hb11 hwb11 hS hH
    refine r_call (l := [.tmp 43]) hS rfl rfl Fc.fn30 rfl ?_
    refine Calls.mono (clone_nil _) ?_
    rintro e w1 ⟨rfl, hE⟩
    replace hH := hH.ext hE
    refine ⟨_, rfl, hH.kp (by repeat (first | exact Sub.nil | refine Sub.cons ?_ ?_ | exact In.here | refine In.there ?_)), ?_⟩
    clear hS; intro a hS
    refine r_buildS (parts := [(0, .tmp 26), (1, .tmp 44)]) hS trivial rfl rfl Fc.zc30 Fc.pl30 (by rfl) ?_; clear hS; intro a hS
    refine r_store_row hS hH rfl rfl (by repeat (first | exact .here | apply In.there | apply Put.there | apply Del.there)) (by repeat (first | exact Sub.nil | refine Sub.cons ?_ ?_ | exact In.here | refine In.there ?_)) Fc.sz30 (by first | exact hcells_one _ | exact of_decide_eq_true rfl) (by rfl) (by first | exact .inr (by assumption) | exact .inl rfl) ?_
    clear hH; intro w hH
    refine Sq.nil ?_
    refine then_n ?_
    refine tr_nil ?_
    refine then_n ?_
    refine c_seq ?_
    refine c_seq ?_
    refine reg_plain w0 ((· = ob)) ?_
    refine r_move hS hH.kp0 rfl rfl ?_; clear hS; intro a hS
    refine r_move hS hH.kp0 rfl rfl ?_; clear hS; intro a hS
    refine r_gtr hS hH.kp0 rfl rfl rfl ?_; clear hS; intro a hS
    refine Sq.nil ?_
    refine then_n ?_
    refine c_condF hS rfl rfl ?_
    refine wp_skip ?_
    refine then_n ?_
    refine c_seq ?_
    refine c_seq ?_
    refine reg_plain w0 ((· = ob)) ?_
    refine r_move hS hH.kp0 rfl rfl ?_; clear hS; intro a hS
    refine r_move hS hH.kp0 rfl rfl ?_; clear hS; intro a hS
    refine r_call (l := [.tmp 58]) hS rfl rfl Fc.fn32 rfl ?_
    refine Calls.mono (written_c ob gb hb 0 0 0 0 0 none 3 (by omega) _ (hH.get (b := ob) (by repeat (first | exact In.here | refine In.there ?_)))) ?_
    rintro e w1 ⟨rfl, hE⟩
    replace hH := hH.ext hE
    refine ⟨_, rfl, hH.kp0, ?_⟩
    clear hS; intro a hS
    refine r_eql hS hH.kp0 rfl rfl rfl ?_; clear hS; intro a hS
    refine r_move hS hH.kp0 rfl rfl ?_; clear hS; intro a hS
    refine Sq.guardYes hS rfl rfl rfl ?_
    refine r_move hS hH.kp0 rfl rfl ?_; clear hS; intro a hS
    refine Sq.guardYes hS rfl rfl rfl ?_
    refine r_nilCheck hS hH.kp0 rfl rfl ?_; clear hS; intro a hS
    refine Sq.guardYes hS rfl rfl rfl ?_
    refine r_fieldAddr hS hH.kp0 rfl Fc.fo70_6 rfl ?_; clear hS; intro a hS
    refine Sq.guardYes hS rfl rfl rfl ?_
    refine r_load_sc hS hH (by repeat (first | exact Sub.nil | refine Sub.cons ?_ ?_ | exact In.here | refine In.there ?_)) rfl (by repeat (first | exact In.here | refine In.there ?_)) Fc.sc3 (by rfl) rfl ?_; clear hS; intro a hS
    refine Sq.guardYes hS rfl rfl rfl ?_
    refine r_eql hS hH.kp0 rfl rfl rfl ?_; clear hS; intro a hS
    refine Sq.guardYes hS rfl rfl rfl ?_
    refine r_move hS hH.kp0 rfl rfl ?_; clear hS; intro a hS
    refine Sq.guardYes hS rfl rfl rfl ?_
    refine r_move hS hH.kp0 rfl rfl ?_; clear hS; intro a hS
    refine Sq.guardYes hS rfl rfl rfl ?_
    refine r_nilCheck hS hH.kp0 rfl rfl ?_; clear hS; intro a hS
    refine Sq.guardYes hS rfl rfl rfl ?_
    refine r_fieldAddr hS hH.kp0 rfl Fc.fo70_6 rfl ?_; clear hS; intro a hS
    refine Sq.guardYes hS rfl rfl rfl ?_
    refine r_load_sc hS hH (by repeat (first | exact Sub.nil | refine Sub.cons ?_ ?_ | exact In.here | refine In.there ?_)) rfl (by repeat (first | exact In.here | refine In.there ?_)) Fc.sc3 (by rfl) rfl ?_; clear hS; intro a hS
    refine Sq.guardYes hS rfl rfl rfl ?_
    refine r_eql hS hH.kp0 rfl rfl rfl ?_; clear hS; intro a hS
    refine Sq.guardYes hS rfl rfl rfl ?_
    refine r_pickF hS hH.kp0 rfl rfl rfl rfl ?_; clear hS; intro a hS
    refine r_pickT hS hH.kp0 rfl rfl rfl rfl ?_; clear hS; intro a hS
    refine Sq.nil ?_
    refine then_n ?_
    refine c_condT hS rfl rfl ?_
    refine reg_plain w0 ((· = ob)) ?_
    refine r_move hS hH.kp0 rfl rfl ?_; clear hS; intro a hS
    refine r_fieldAddr hS hH.kp0 rfl Fc.fo30_2 rfl ?_; clear hS; intro a hS
    refine r_store1 hS hH rfl rfl rfl (by repeat (first | exact .here | apply In.there | apply Put.there | apply Del.there)) (by repeat (first | exact Sub.nil | refine Sub.cons ?_ ?_ | exact In.here | refine In.there ?_)) Fc.sz4 (of_decide_eq_true rfl) (by first | exact .inr (by assumption) | exact .inl rfl) ?_
    clear hH; intro w hH
    refine r_nilCheck hS hH.kp0 rfl rfl ?_; clear hS; intro a hS
    refine r_fieldAddr hS hH.kp0 rfl Fc.fo70_6 rfl ?_; clear hS; intro a hS
    refine r_store1 hS hH rfl rfl rfl (by repeat (first | exact .here | apply In.there | apply Put.there | apply Del.there)) (by repeat (first | exact Sub.nil | refine Sub.cons ?_ ?_ | exact In.here | refine In.there ?_)) Fc.sz3 (of_decide_eq_true rfl) (by first | exact .inr (by assumption) | exact .inl rfl) ?_
    clear hH; intro w hH
    refine Sq.nil ?_
    refine then_n ?_
    refine c_seq ?_
    refine reg_plain w0 ((· = ob)) ?_
    refine r_move hS hH.kp0 rfl rfl ?_; clear hS; intro a hS
    refine r_move hS hH.kp0 rfl rfl ?_; clear hS; intro a hS
    refine r_nilCheck hS hH.kp0 rfl rfl ?_; clear hS; intro a hS
    refine r_fieldAddr hS hH.kp0 rfl Fc.fo70_3 rfl ?_; clear hS; intro a hS
    refine r_load_sc hS hH (by repeat (first | exact Sub.nil | refine Sub.cons ?_ ?_ | exact In.here | refine In.there ?_)) rfl (by repeat (first | exact In.here | refine In.there ?_)) Fc.sc3 (by rfl) rfl ?_; clear hS; intro a hS
    refine r_move hS hH.kp0 rfl rfl ?_; clear hS; intro a hS
    refine r_maxN (m := 0) (k := 0) hS hH.kp0 rfl rfl rfl ?_; clear hS; intro a hS
    refine r_nilCheck hS hH.kp0 rfl rfl ?_; clear hS; intro a hS
    refine r_fieldAddr hS hH.kp0 rfl Fc.fo70_3 rfl ?_; clear hS; intro a hS
    refine r_store1 hS hH rfl rfl rfl (by repeat (first | exact .here | apply In.there | apply Put.there | apply Del.there)) (by repeat (first | exact Sub.nil | refine Sub.cons ?_ ?_ | exact In.here | refine In.there ?_)) Fc.sz3 (of_decide_eq_true rfl) (by first | exact .inr (by assumption) | exact .inl rfl) ?_
    clear hH; intro w hH
    refine Sq.nil ?_
    refine then_n ?_
    refine c_seq ?_
    refine reg_plain w0 ((· = ob)) ?_
    refine r_load_row hS hH (by repeat (first | exact Sub.nil | refine Sub.cons ?_ ?_ | exact In.here | refine In.there ?_)) rfl (by repeat (first | exact In.here | refine In.there ?_)) Fc.ag30 (by rfl) rfl ?_; clear hS; intro a hS
    refine r_store_row hS hH rfl rfl (by repeat (first | exact .here | apply In.there | apply Put.there | apply Del.there)) (by repeat (first | exact Sub.nil | refine Sub.cons ?_ ?_ | exact In.here | refine In.there ?_)) Fc.sz30 (by first | exact hcells_one _ | exact of_decide_eq_true rfl) (by rfl) (by first | exact .inr (by assumption) | exact .inl rfl) ?_
    clear hH; intro w hH
    refine r_assign hS hH.kp0 rfl rfl ?_; clear hS; intro a hS
    refine Sq.nil ?_
    refine then_n ?_
    refine wp_ret ?_
    exact leave (.inl rfl) hS rfl (Res.cell rfl (hH.get (by repeat (first | exact In.here | refine In.there ?_))) Fc.ag30 (by rfl) rfl (Res.tmp rfl Res.nil)) ⟨rfl, hH.get (b := ob) (by repeat (first | exact In.here | refine In.there ?_)), hH.mod⟩

set_option maxRecDepth 100000 in
set_option maxHeartbeats 400000 in
theorem Lost_z (ob gb hb : Nat) (w0 : World) (hz : w0.heap[ob]? = some (.cells ([.int .i64 0, .int .i64 0, .slice none 0 0, .int .i64 0, .pointer (some ⟨gb, 0, none⟩), .pointer (some ⟨hb, 0, none⟩), .int .i64 2] : List Value).toArray 70 (0, 0))) : Calls Try.prog 21 #[.pointer (some ⟨ob, 0, none⟩), .agg #[.int .i64 0, .slice none 0 0, .bool true]] w0 fun e w' => e = .returned (.int .i64 0) ∧ w'.heap[ob]? = some (.cells ([.int .i64 0, .int .i64 0, .slice none 0 0, .int .i64 0, .pointer (some ⟨gb, 0, none⟩), .pointer (some ⟨hb, 0, none⟩), .int .i64 3] : List Value).toArray 70 (0, 0)) ∧ Mod (· = ob) w0 w' := by
  refine enter Try.func21 rfl rfl rfl ?_
  intro a hS
  have hH := Hp.start w0 ((· = ob))
  replace hH := hH.know hz (by intro p hp; simp at hp)
  refine c_seq ?_
  refine reg_plain w0 ((· = ob)) ?_
  refine r_box hS hH (by repeat (first | exact Sub.nil | refine Sub.cons ?_ ?_ | exact In.here | refine In.there ?_)) rfl rfl rfl ?_
  clear hS hH; intro a w b3 hb3 hwb3 hS hH
  refine r_assign hS hH.kp0 rfl rfl ?_; clear hS; intro a hS
  refine Sq.nil ?_
  refine then_n ?_
  refine c_seq ?_
  refine c_seq ?_
  refine reg_plain w0 ((· = ob)) ?_
  refine r_move hS hH.kp0 rfl rfl ?_; clear hS; intro a hS
  refine r_load_row hS hH (by repeat (first | exact Sub.nil | refine Sub.cons ?_ ?_ | exact In.here | refine In.there ?_)) rfl (by repeat (first | exact In.here | refine In.there ?_)) Fc.ag30 (by rfl) rfl ?_; clear hS; intro a hS
  refine r_call (l := [.tmp 8, .tmp 9]) hS rfl rfl Fc.fn35 rfl ?_
  refine Calls.mono (wrong_c ob gb hb 0 0 0 0 0 none 2 0 0 0 none true (by omega) (by omega) (by omega) (fun _ => ⟨by omega, by decide, by decide⟩) _ (hH.get (b := ob) (by repeat (first | exact In.here | refine In.there ?_)))) ?_
  rintro e w1 ⟨rfl, hE⟩
  replace hH := hH.ext hE
  refine ⟨_, rfl, hH.kp0, ?_⟩
  clear hS; intro a hS
  refine r_assign hS hH.kp0 rfl rfl ?_; clear hS; intro a hS
  refine Sq.nil ?_
  refine then_n ?_
  refine c_seq ?_
  refine reg_plain w0 ((· = ob)) ?_
  refine r_move hS hH.kp0 rfl rfl ?_; clear hS; intro a hS
  refine r_neq hS hH.kp0 rfl rfl rfl ?_; clear hS; intro a hS
  refine Sq.nil ?_
  refine then_n ?_
  refine c_condF hS rfl rfl ?_
  refine wp_skip ?_
  refine then_n ?_
  refine c_seq ?_
  refine c_seq ?_
  refine reg_plain w0 ((· = ob)) ?_
  refine r_fieldAddr hS hH.kp0 rfl Fc.fo30_0 rfl ?_; clear hS; intro a hS
  refine r_load_sc hS hH (by repeat (first | exact Sub.nil | refine Sub.cons ?_ ?_ | exact In.here | refine In.there ?_)) rfl (by repeat (first | exact In.here | refine In.there ?_)) Fc.sc3 (by rfl) rfl ?_; clear hS; intro a hS
  refine r_assign hS hH.kp0 rfl rfl ?_; clear hS; intro a hS
  refine Sq.nil ?_
  refine then_n ?_
  refine wp_block ?_
  refine wp_loop_rounds 1 ?_
  refine rnd ?_
  refine c_seq ?_
  refine c_seq ?_
  refine reg_plain w0 ((· = ob)) ?_
  refine r_move hS hH.kp0 rfl rfl ?_; clear hS; intro a hS
  refine r_fieldAddr hS hH.kp0 rfl Fc.fo30_0 rfl ?_; clear hS; intro a hS
  refine r_load_sc hS hH (by repeat (first | exact Sub.nil | refine Sub.cons ?_ ?_ | exact In.here | refine In.there ?_)) rfl (by repeat (first | exact In.here | refine In.there ?_)) Fc.sc3 (by rfl) rfl ?_; clear hS; intro a hS
  refine r_fieldAddr hS hH.kp0 rfl Fc.fo30_1 rfl ?_; clear hS; intro a hS
  refine r_load_sc hS hH (by repeat (first | exact Sub.nil | refine Sub.cons ?_ ?_ | exact In.here | refine In.there ?_)) rfl (by repeat (first | exact In.here | refine In.there ?_)) Fc.sc22 (by rfl) rfl ?_; clear hS; intro a hS
  refine r_lenSl hS hH.kp0 rfl Fc.isSlice22 rfl ?_; clear hS; intro a hS
  refine r_addN0 (m := 0) (k := 0) hS hH.kp0 rfl rfl (by omega) rfl ?_; clear hS; intro a hS
  refine r_lss hS hH.kp0 rfl rfl rfl ?_; clear hS; intro a hS
  refine Sq.nil ?_
  refine then_n ?_
  refine c_condF hS rfl rfl ?_
  refine wp_exit ?_
  refine then_e ?_
  refine then_e ?_
  refine blk_hit ?_
  refine then_n ?_
  refine c_seq ?_
  refine c_seq ?_
  refine reg_plain w0 ((· = ob)) ?_
  refine r_fieldAddr hS hH.kp0 rfl Fc.fo30_2 rfl ?_; clear hS; intro a hS
  refine r_load_sc hS hH (by repeat (first | exact Sub.nil | refine Sub.cons ?_ ?_ | exact In.here | refine In.there ?_)) rfl (by repeat (first | exact In.here | refine In.there ?_)) Fc.sc4 (by rfl) rfl ?_; clear hS; intro a hS
  refine r_move hS hH.kp0 rfl rfl ?_; clear hS; intro a hS
  refine Sq.guardYes hS rfl rfl rfl ?_
  refine r_move hS hH.kp0 rfl rfl ?_; clear hS; intro a hS
  refine Sq.guardYes hS rfl rfl rfl ?_
  refine r_nilCheck hS hH.kp0 rfl rfl ?_; clear hS; intro a hS
  refine Sq.guardYes hS rfl rfl rfl ?_
  refine r_fieldAddr hS hH.kp0 rfl Fc.fo70_6 rfl ?_; clear hS; intro a hS
  refine Sq.guardYes hS rfl rfl rfl ?_
  refine r_load_sc hS hH (by repeat (first | exact Sub.nil | refine Sub.cons ?_ ?_ | exact In.here | refine In.there ?_)) rfl (by repeat (first | exact In.here | refine In.there ?_)) Fc.sc3 (by rfl) rfl ?_; clear hS; intro a hS
  refine Sq.guardYes hS rfl rfl rfl ?_
  refine r_eql hS hH.kp0 rfl rfl rfl ?_; clear hS; intro a hS
  refine r_pickT hS hH.kp0 rfl rfl rfl rfl ?_; clear hS; intro a hS
  refine Sq.nil ?_
  refine then_n ?_
  refine c_condT hS rfl rfl ?_
  refine reg_plain w0 ((· = ob)) ?_
  refine r_move hS hH.kp0 rfl rfl ?_; clear hS; intro a hS
  refine r_nilCheck hS hH.kp0 rfl rfl ?_; clear hS; intro a hS
  refine r_fieldAddr hS hH.kp0 rfl Fc.fo70_6 rfl ?_; clear hS; intro a hS
  refine r_store1 hS hH rfl rfl rfl (by repeat (first | exact .here | apply In.there | apply Put.there | apply Del.there)) (by repeat (first | exact Sub.nil | refine Sub.cons ?_ ?_ | exact In.here | refine In.there ?_)) Fc.sz3 (of_decide_eq_true rfl) (.inl rfl) ?_
  clear hH; intro w hH
  refine Sq.nil ?_
  refine then_n ?_
  refine c_seq ?_
  refine reg_plain w0 ((· = ob)) ?_
  refine r_assign hS hH.kp0 rfl rfl ?_; clear hS; intro a hS
  refine Sq.nil ?_
  refine then_n ?_
  refine wp_ret ?_
  exact leave (.inl rfl) hS rfl (Res.tmp rfl Res.nil) ⟨rfl, hH.get (b := ob) (by repeat (first | exact In.here | refine In.there ?_)), hH.mod⟩

set_option maxRecDepth 100000 in
set_option maxHeartbeats 400000 in
theorem Acked_z2 (ob gb hb : Nat) (w0 : World) (hz : w0.heap[ob]? = some (.cells ([.int .i64 0, .int .i64 0, .slice none 0 0, .int .i64 0, .pointer (some ⟨gb, 0, none⟩), .pointer (some ⟨hb, 0, none⟩), .int .i64 2] : List Value).toArray 70 (0, 0))) (hg : w0.heap[hb]? = some (.cells ([.bool true, .slice none 0 0] : List Value).toArray 89 (0, 0))) (hne : hb ≠ ob) : Calls Try.prog 19 #[.pointer (some ⟨ob, 0, none⟩), .agg #[.int .i64 0, .slice none 0 0, .bool true]] w0 fun e w' => e = .returned (.int .i64 0) ∧ w'.heap[ob]? = some (.cells ([.int .i64 0, .int .i64 0, .slice none 0 0, .int .i64 0, .pointer (some ⟨gb, 0, none⟩), .pointer (some ⟨hb, 0, none⟩), .int .i64 4] : List Value).toArray 70 (0, 0)) ∧ Mod (· = ob) w0 w' := by
  refine enter Try.func19 rfl rfl rfl ?_
  intro a hS
  have hH := Hp.start w0 ((· = ob))
  replace hH := (hH.know hg (by intro p hp; simp at hp)).know hz (by intro p hp; simp at hp; subst hp; exact hne)
  refine c_seq ?_
  refine reg_plain w0 ((· = ob)) ?_
  refine r_box hS hH (by repeat (first | exact Sub.nil | refine Sub.cons ?_ ?_ | exact In.here | refine In.there ?_)) rfl rfl rfl ?_
  clear hS hH; intro a w b3 hb3 hwb3 hS hH
  refine r_assign hS hH.kp0 rfl rfl ?_; clear hS; intro a hS
  refine Sq.nil ?_
  refine then_n ?_
  refine c_seq ?_
  refine c_seq ?_
  refine reg_plain w0 ((· = ob)) ?_
  refine r_move hS hH.kp0 rfl rfl ?_; clear hS; intro a hS
  refine r_load_row hS hH (by repeat (first | exact Sub.nil | refine Sub.cons ?_ ?_ | exact In.here | refine In.there ?_)) rfl (by repeat (first | exact In.here | refine In.there ?_)) Fc.ag30 (by rfl) rfl ?_; clear hS; intro a hS
  refine r_call (l := [.tmp 8, .tmp 9]) hS rfl rfl Fc.fn35 rfl ?_
  refine Calls.mono (wrong_c ob gb hb 0 0 0 0 0 none 2 0 0 0 none true (by omega) (by omega) (by omega) (fun _ => ⟨by omega, by decide, by decide⟩) _ (hH.get (b := ob) (by repeat (first | exact In.here | refine In.there ?_)))) ?_
  rintro e w1 ⟨rfl, hE⟩
  replace hH := hH.ext hE
  refine ⟨_, rfl, hH.kp0, ?_⟩
  clear hS; intro a hS
  refine r_assign hS hH.kp0 rfl rfl ?_; clear hS; intro a hS
  refine Sq.nil ?_
  refine then_n ?_
  refine c_seq ?_
  refine reg_plain w0 ((· = ob)) ?_
  refine r_move hS hH.kp0 rfl rfl ?_; clear hS; intro a hS
  refine r_neq hS hH.kp0 rfl rfl rfl ?_; clear hS; intro a hS
  refine Sq.nil ?_
  refine then_n ?_
  refine c_condF hS rfl rfl ?_
  refine wp_skip ?_
  refine then_n ?_
  refine c_seq ?_
  refine c_seq ?_
  refine reg_plain w0 ((· = ob)) ?_
  refine r_fieldAddr hS hH.kp0 rfl Fc.fo30_1 rfl ?_; clear hS; intro a hS
  refine r_load_sc hS hH (by repeat (first | exact Sub.nil | refine Sub.cons ?_ ?_ | exact In.here | refine In.there ?_)) rfl (by repeat (first | exact In.here | refine In.there ?_)) Fc.sc22 (by rfl) rfl ?_; clear hS; intro a hS
  refine r_lenSl hS hH.kp0 rfl Fc.isSlice22 rfl ?_; clear hS; intro a hS
  refine r_assign hS hH.kp0 rfl rfl ?_; clear hS; intro a hS
  refine Sq.nil ?_
  refine then_n ?_
  refine c_seq ?_
  refine reg_plain w0 ((· = ob)) ?_
  refine r_move hS hH.kp0 rfl rfl ?_; clear hS; intro a hS
  refine r_gtr hS hH.kp0 rfl rfl rfl ?_; clear hS; intro a hS
  refine Sq.nil ?_
  refine then_n ?_
  refine c_condF hS rfl rfl ?_
  refine wp_skip ?_
  refine then_n ?_
  refine c_seq ?_
  refine c_seq ?_
  refine reg_plain w0 ((· = ob)) ?_
  refine r_fieldAddr hS hH.kp0 rfl Fc.fo30_2 rfl ?_; clear hS; intro a hS
  refine r_load_sc hS hH (by repeat (first | exact Sub.nil | refine Sub.cons ?_ ?_ | exact In.here | refine In.there ?_)) rfl (by repeat (first | exact In.here | refine In.there ?_)) Fc.sc4 (by rfl) rfl ?_; clear hS; intro a hS
  refine Sq.nil ?_
  refine then_n ?_
  refine c_condT hS rfl rfl ?_
  refine reg_plain w0 ((· = ob)) ?_
  refine r_move hS hH.kp0 rfl rfl ?_; clear hS; intro a hS
  refine r_nilCheck hS hH.kp0 rfl rfl ?_; clear hS; intro a hS
  refine r_fieldAddr hS hH.kp0 rfl Fc.fo70_6 rfl ?_; clear hS; intro a hS
  refine r_store1 hS hH rfl rfl rfl (by repeat (first | exact .here | apply In.there | apply Put.there | apply Del.there)) (by repeat (first | exact Sub.nil | refine Sub.cons ?_ ?_ | exact In.here | refine In.there ?_)) Fc.sz3 (of_decide_eq_true rfl) (.inl rfl) ?_
  clear hH; intro w hH
  refine Sq.nil ?_
  refine then_n ?_
  refine c_seq ?_
  refine c_seq ?_
  refine reg_draw [(true, 0, []), (true, 1, []), (true, 2, []), (true, 3, []), (true, 4, []), (true, 5, []), (true, 6, []), (true, 7, []), (false, 8, []), (true, 9, [])] Fc.mixed (by kernel_rfl) (by kernel_rfl) (by kernel_rfl) (by kernel_rfl) (by kernel_rfl) (by repeat (first | with_reducible exact steady_body | with_reducible exact steady_bodyQ | with_reducible exact steady_round | with_reducible apply steady_block | with_reducible apply steady_then | with_reducible apply steady_scope | exact steady_body)) hH ?_
  replace hH := hH.drew
  refine r_move hS trivial rfl rfl ?_; clear hS; intro a hS
  refine r_nilCheck hS trivial rfl rfl ?_; clear hS; intro a hS
  refine r_fieldAddr hS trivial rfl Fc.fo70_5 rfl ?_; clear hS; intro a hS
  refine r_load_scS hS rfl (by repeat (first | exact In.here | refine In.there ?_)) Fc.sc67 (by rfl) rfl ?_; clear hS; intro a hS
  refine r_move hS trivial rfl rfl ?_; clear hS; intro a hS
  refine r_nilCheck hS trivial rfl rfl ?_; clear hS; intro a hS
  refine r_fieldAddr hS trivial rfl Fc.fo70_1 rfl ?_; clear hS; intro a hS
  refine r_load_scS hS rfl (by repeat (first | exact In.here | refine In.there ?_)) Fc.sc3 (by rfl) rfl ?_; clear hS; intro a hS
  refine r_call (l := [.tmp 51, .tmp 55]) hS rfl rfl Fc.fn37 rfl ?_
  refine Calls.mono (gapS0 hb 0 (.slice none 0 0) (by omega) _ ⟨hH.get (b := hb) (by repeat (first | exact In.here | refine In.there ?_)), .inl ⟨rfl, rfl, rfl⟩⟩) ?_
  rintro e w1 ⟨rfl, hE⟩
  replace hH := hH.ext hE
  refine ⟨_, rfl, hH.kp (by repeat (first | exact Sub.nil | refine Sub.cons ?_ ?_ | exact In.here | refine In.there ?_)), ?_⟩
  clear hS; intro a hS
  refine r_assign hS trivial rfl rfl ?_; clear hS; intro a hS
  refine Sq.nil ?_
  refine then_n ?_
  refine c_seq ?_
  refine reg_plain w0 ((· = ob)) ?_
  refine r_move hS hH.kp0 rfl rfl ?_; clear hS; intro a hS
  refine r_move hS hH.kp0 rfl rfl ?_; clear hS; intro a hS
  refine r_nilCheck hS hH.kp0 rfl rfl ?_; clear hS; intro a hS
  refine r_fieldAddr hS hH.kp0 rfl Fc.fo70_1 rfl ?_; clear hS; intro a hS
  refine r_load_sc hS hH (by repeat (first | exact Sub.nil | refine Sub.cons ?_ ?_ | exact In.here | refine In.there ?_)) rfl (by repeat (first | exact In.here | refine In.there ?_)) Fc.sc3 (by rfl) rfl ?_; clear hS; intro a hS
  refine r_gtr hS hH.kp0 rfl rfl rfl ?_; clear hS; intro a hS
  refine Sq.nil ?_
  refine then_n ?_
  refine c_condF hS rfl rfl ?_
  refine wp_skip ?_
  refine then_n ?_
  refine c_seq ?_
  refine reg_plain w0 ((· = ob)) ?_
  refine r_assign hS hH.kp0 rfl rfl ?_; clear hS; intro a hS
  refine Sq.nil ?_
  refine then_n ?_
  refine wp_ret ?_
  exact leave (.inl rfl) hS rfl (Res.tmp rfl Res.nil) ⟨rfl, hH.get (b := ob) (by repeat (first | exact In.here | refine In.there ?_)), hH.mod⟩

set_option maxRecDepth 100000 in
set_option maxHeartbeats 400000 in
theorem Acked_z3 (ob gb hb : Nat) (w0 : World) (hz : w0.heap[ob]? = some (.cells ([.int .i64 0, .int .i64 0, .slice none 0 0, .int .i64 0, .pointer (some ⟨gb, 0, none⟩), .pointer (some ⟨hb, 0, none⟩), .int .i64 3] : List Value).toArray 70 (0, 0))) (hg : w0.heap[hb]? = some (.cells ([.bool true, .slice none 0 0] : List Value).toArray 89 (0, 0))) (hne : hb ≠ ob) : Calls Try.prog 19 #[.pointer (some ⟨ob, 0, none⟩), .agg #[.int .i64 0, .slice none 0 0, .bool true]] w0 fun e w' => e = .returned (.int .i64 0) ∧ w'.heap[ob]? = some (.cells ([.int .i64 0, .int .i64 0, .slice none 0 0, .int .i64 0, .pointer (some ⟨gb, 0, none⟩), .pointer (some ⟨hb, 0, none⟩), .int .i64 4] : List Value).toArray 70 (0, 0)) ∧ Mod (· = ob) w0 w' := by
  refine enter Try.func19 rfl rfl rfl ?_
  intro a hS
  have hH := Hp.start w0 ((· = ob))
  replace hH := (hH.know hg (by intro p hp; simp at hp)).know hz (by intro p hp; simp at hp; subst hp; exact hne)
  refine c_seq ?_
  refine reg_plain w0 ((· = ob)) ?_
  refine r_box hS hH (by repeat (first | exact Sub.nil | refine Sub.cons ?_ ?_ | exact In.here | refine In.there ?_)) rfl rfl rfl ?_
  clear hS hH; intro a w b3 hb3 hwb3 hS hH
  refine r_assign hS hH.kp0 rfl rfl ?_; clear hS; intro a hS
  refine Sq.nil ?_
  refine then_n ?_
  refine c_seq ?_
  refine c_seq ?_
  refine reg_plain w0 ((· = ob)) ?_
  refine r_move hS hH.kp0 rfl rfl ?_; clear hS; intro a hS
  refine r_load_row hS hH (by repeat (first | exact Sub.nil | refine Sub.cons ?_ ?_ | exact In.here | refine In.there ?_)) rfl (by repeat (first | exact In.here | refine In.there ?_)) Fc.ag30 (by rfl) rfl ?_; clear hS; intro a hS
  refine r_call (l := [.tmp 8, .tmp 9]) hS rfl rfl Fc.fn35 rfl ?_
  refine Calls.mono (wrong_c ob gb hb 0 0 0 0 0 none 3 0 0 0 none true (by omega) (by omega) (by omega) (fun _ => ⟨by omega, by decide, by decide⟩) _ (hH.get (b := ob) (by repeat (first | exact In.here | refine In.there ?_)))) ?_
  rintro e w1 ⟨rfl, hE⟩
  replace hH := hH.ext hE
  refine ⟨_, rfl, hH.kp0, ?_⟩
  clear hS; intro a hS
  refine r_assign hS hH.kp0 rfl rfl ?_; clear hS; intro a hS
  refine Sq.nil ?_
  refine then_n ?_
  refine c_seq ?_
  refine reg_plain w0 ((· = ob)) ?_
  refine r_move hS hH.kp0 rfl rfl ?_; clear hS; intro a hS
  refine r_neq hS hH.kp0 rfl rfl rfl ?_; clear hS; intro a hS
  refine Sq.nil ?_
  refine then_n ?_
  refine c_condF hS rfl rfl ?_
  refine wp_skip ?_
  refine then_n ?_
  refine c_seq ?_
  refine c_seq ?_
  refine reg_plain w0 ((· = ob)) ?_
  refine r_fieldAddr hS hH.kp0 rfl Fc.fo30_1 rfl ?_; clear hS; intro a hS
  refine r_load_sc hS hH (by repeat (first | exact Sub.nil | refine Sub.cons ?_ ?_ | exact In.here | refine In.there ?_)) rfl (by repeat (first | exact In.here | refine In.there ?_)) Fc.sc22 (by rfl) rfl ?_; clear hS; intro a hS
  refine r_lenSl hS hH.kp0 rfl Fc.isSlice22 rfl ?_; clear hS; intro a hS
  refine r_assign hS hH.kp0 rfl rfl ?_; clear hS; intro a hS
  refine Sq.nil ?_
  refine then_n ?_
  refine c_seq ?_
  refine reg_plain w0 ((· = ob)) ?_
  refine r_move hS hH.kp0 rfl rfl ?_; clear hS; intro a hS
  refine r_gtr hS hH.kp0 rfl rfl rfl ?_; clear hS; intro a hS
  refine Sq.nil ?_
  refine then_n ?_
  refine c_condF hS rfl rfl ?_
  refine wp_skip ?_
  refine then_n ?_
  refine c_seq ?_
  refine c_seq ?_
  refine reg_plain w0 ((· = ob)) ?_
  refine r_fieldAddr hS hH.kp0 rfl Fc.fo30_2 rfl ?_; clear hS; intro a hS
  refine r_load_sc hS hH (by repeat (first | exact Sub.nil | refine Sub.cons ?_ ?_ | exact In.here | refine In.there ?_)) rfl (by repeat (first | exact In.here | refine In.there ?_)) Fc.sc4 (by rfl) rfl ?_; clear hS; intro a hS
  refine Sq.nil ?_
  refine then_n ?_
  refine c_condT hS rfl rfl ?_
  refine reg_plain w0 ((· = ob)) ?_
  refine r_move hS hH.kp0 rfl rfl ?_; clear hS; intro a hS
  refine r_nilCheck hS hH.kp0 rfl rfl ?_; clear hS; intro a hS
  refine r_fieldAddr hS hH.kp0 rfl Fc.fo70_6 rfl ?_; clear hS; intro a hS
  refine r_store1 hS hH rfl rfl rfl (by repeat (first | exact .here | apply In.there | apply Put.there | apply Del.there)) (by repeat (first | exact Sub.nil | refine Sub.cons ?_ ?_ | exact In.here | refine In.there ?_)) Fc.sz3 (of_decide_eq_true rfl) (.inl rfl) ?_
  clear hH; intro w hH
  refine Sq.nil ?_
  refine then_n ?_
  refine c_seq ?_
  refine c_seq ?_
  refine reg_draw [(true, 0, []), (true, 1, []), (true, 2, []), (true, 3, []), (true, 4, []), (true, 5, []), (true, 6, []), (true, 7, []), (false, 8, []), (true, 9, [])] Fc.mixed (by kernel_rfl) (by kernel_rfl) (by kernel_rfl) (by kernel_rfl) (by kernel_rfl) (by repeat (first | with_reducible exact steady_body | with_reducible exact steady_bodyQ | with_reducible exact steady_round | with_reducible apply steady_block | with_reducible apply steady_then | with_reducible apply steady_scope | exact steady_body)) hH ?_
  replace hH := hH.drew
  refine r_move hS trivial rfl rfl ?_; clear hS; intro a hS
  refine r_nilCheck hS trivial rfl rfl ?_; clear hS; intro a hS
  refine r_fieldAddr hS trivial rfl Fc.fo70_5 rfl ?_; clear hS; intro a hS
  refine r_load_scS hS rfl (by repeat (first | exact In.here | refine In.there ?_)) Fc.sc67 (by rfl) rfl ?_; clear hS; intro a hS
  refine r_move hS trivial rfl rfl ?_; clear hS; intro a hS
  refine r_nilCheck hS trivial rfl rfl ?_; clear hS; intro a hS
  refine r_fieldAddr hS trivial rfl Fc.fo70_1 rfl ?_; clear hS; intro a hS
  refine r_load_scS hS rfl (by repeat (first | exact In.here | refine In.there ?_)) Fc.sc3 (by rfl) rfl ?_; clear hS; intro a hS
  refine r_call (l := [.tmp 51, .tmp 55]) hS rfl rfl Fc.fn37 rfl ?_
  refine Calls.mono (gapS0 hb 0 (.slice none 0 0) (by omega) _ ⟨hH.get (b := hb) (by repeat (first | exact In.here | refine In.there ?_)), .inl ⟨rfl, rfl, rfl⟩⟩) ?_
  rintro e w1 ⟨rfl, hE⟩
  replace hH := hH.ext hE
  refine ⟨_, rfl, hH.kp (by repeat (first | exact Sub.nil | refine Sub.cons ?_ ?_ | exact In.here | refine In.there ?_)), ?_⟩
  clear hS; intro a hS
  refine r_assign hS trivial rfl rfl ?_; clear hS; intro a hS
  refine Sq.nil ?_
  refine then_n ?_
  refine c_seq ?_
  refine reg_plain w0 ((· = ob)) ?_
  refine r_move hS hH.kp0 rfl rfl ?_; clear hS; intro a hS
  refine r_move hS hH.kp0 rfl rfl ?_; clear hS; intro a hS
  refine r_nilCheck hS hH.kp0 rfl rfl ?_; clear hS; intro a hS
  refine r_fieldAddr hS hH.kp0 rfl Fc.fo70_1 rfl ?_; clear hS; intro a hS
  refine r_load_sc hS hH (by repeat (first | exact Sub.nil | refine Sub.cons ?_ ?_ | exact In.here | refine In.there ?_)) rfl (by repeat (first | exact In.here | refine In.there ?_)) Fc.sc3 (by rfl) rfl ?_; clear hS; intro a hS
  refine r_gtr hS hH.kp0 rfl rfl rfl ?_; clear hS; intro a hS
  refine Sq.nil ?_
  refine then_n ?_
  refine c_condF hS rfl rfl ?_
  refine wp_skip ?_
  refine then_n ?_
  refine c_seq ?_
  refine reg_plain w0 ((· = ob)) ?_
  refine r_assign hS hH.kp0 rfl rfl ?_; clear hS; intro a hS
  refine Sq.nil ?_
  refine then_n ?_
  refine wp_ret ?_
  exact leave (.inl rfl) hS rfl (Res.tmp rfl Res.nil) ⟨rfl, hH.get (b := ob) (by repeat (first | exact In.here | refine In.there ?_)), hH.mod⟩

set_option maxRecDepth 100000 in
set_option maxHeartbeats 4000000 in
theorem iPut_z (ib mb limit : Nat) (kn : Bool) (clock : Nat) (hl : MapL Try.prog 3 [] clock) (hne : mb ≠ ib) (w0 : World) (hz : w0.heap[ib]? = some (.cells ([.bool true, .int .i64 0, .int .i64 0, .int .i64 (limit : Int), .int .i64 0, .int .i64 0, .bool kn, .map (some mb)] : List Value).toArray 83 (0, 0))) (hm : w0.heap[mb]? = some (.map ([] : List MapEntry).toArray clock)) : Calls Try.prog 25 #[.pointer (some ⟨ib, 0, none⟩), .int .i64 0, .slice none 0 0, .bool true] w0 fun e w' => e = .returned (.int .i64 0) ∧ w'.heap[mb]? = some (.map ([] : List MapEntry).toArray clock) ∧ w'.heap[ib]? = some (.cells ([.bool true, .int .i64 0, .int .i64 0, .int .i64 (limit : Int), .int .i64 0, .int .i64 0, .bool true, .map (some mb)] : List Value).toArray 83 (0, 0)) ∧ Mod (fun z => z = ib ∨ z = mb) w0 w' := by
  refine enter Try.func25 rfl rfl rfl ?_
  intro a hS
  have hH := Hp.start w0 (fun z => z = ib ∨ z = mb)
  replace hH := (hH.know hm (by intro p hp; simp at hp)).know hz (by intro p hp; simp at hp; subst hp; exact hne)
  refine c_seq ?_
  refine reg_plain w0 (fun z => z = ib ∨ z = mb) ?_
  refine r_box hS hH (by repeat (first | exact Sub.nil | refine Sub.cons ?_ ?_ | exact In.here | refine In.there ?_)) rfl rfl rfl ?_
  clear hS hH; intro a w b4 hb4 hwb4 hS hH
  refine r_box hS hH (by repeat (first | exact Sub.nil | refine Sub.cons ?_ ?_ | exact In.here | refine In.there ?_)) rfl rfl rfl ?_
  clear hS hH; intro a w b5 hb5 hwb5 hS hH
  refine r_box hS hH (by repeat (first | exact Sub.nil | refine Sub.cons ?_ ?_ | exact In.here | refine In.there ?_)) rfl rfl rfl ?_
  clear hS hH; intro a w b6 hb6 hwb6 hS hH
  refine r_assign hS hH.kp0 rfl rfl ?_; clear hS; intro a hS
  refine Sq.nil ?_
  refine then_n ?_
  refine c_seq ?_
  refine wp_block ?_
  refine c_seq ?_
  refine reg_plain w0 (fun z => z = ib ∨ z = mb) ?_
  refine r_load_sc hS hH (by repeat (first | exact Sub.nil | refine Sub.cons ?_ ?_ | exact In.here | refine In.there ?_)) rfl (by repeat (first | exact In.here | refine In.there ?_)) Fc.sc58 (by rfl) rfl ?_; clear hS; intro a hS
  refine r_call (l := [.tmp 17]) hS rfl rfl Fc.fn42 rfl ?_
  refine Calls.mono (inone_c ib mb 0 0 limit 0 0 kn _ (hH.get (b := ib) (by repeat (first | exact In.here | refine In.there ?_)))) ?_
  rintro e w1 ⟨rfl, hE⟩
  replace hH := hH.ext hE
  refine ⟨_, rfl, hH.kp0, ?_⟩
  clear hS; intro a hS
  refine r_assign hS hH.kp0 rfl rfl ?_; clear hS; intro a hS
  refine Sq.nil ?_
  refine then_n ?_
  refine c_condF hS rfl rfl ?_
  refine c_seq ?_
  refine reg_plain w0 (fun z => z = ib ∨ z = mb) ?_
  refine r_load_sc hS hH (by repeat (first | exact Sub.nil | refine Sub.cons ?_ ?_ | exact In.here | refine In.there ?_)) rfl (by repeat (first | exact In.here | refine In.there ?_)) Fc.sc3 (by rfl) rfl ?_; clear hS; intro a hS
  refine r_lss hS hH.kp0 rfl rfl rfl ?_; clear hS; intro a hS
  refine r_move hS hH.kp0 rfl rfl ?_; clear hS; intro a hS
  refine Sq.guardYes hS rfl rfl rfl ?_
  refine r_load_sc hS hH (by repeat (first | exact Sub.nil | refine Sub.cons ?_ ?_ | exact In.here | refine In.there ?_)) rfl (by repeat (first | exact In.here | refine In.there ?_)) Fc.sc3 (by rfl) rfl ?_; clear hS; intro a hS
  refine Sq.guardYes hS rfl rfl rfl ?_
  refine r_load_sc hS hH (by repeat (first | exact Sub.nil | refine Sub.cons ?_ ?_ | exact In.here | refine In.there ?_)) rfl (by repeat (first | exact In.here | refine In.there ?_)) Fc.sc22 (by rfl) rfl ?_; clear hS; intro a hS
  refine Sq.guardYes hS rfl rfl rfl ?_
  refine r_lenSl hS hH.kp0 rfl Fc.isSlice22 rfl ?_; clear hS; intro a hS
  refine Sq.guardYes hS rfl rfl rfl ?_
  (first | refine r_sub hS hH.kp0 rfl rfl rfl (by omega) ?_ | refine r_subw hS hH.kp0 rfl rfl rfl ?_)
  clear hS; intro a hS
  refine Sq.guardYes hS rfl rfl rfl ?_
  refine r_gtr hS hH.kp0 rfl rfl rfl ?_; clear hS; intro a hS
  refine r_pickF hS hH.kp0 rfl rfl rfl rfl ?_; clear hS; intro a hS
  refine r_assign hS hH.kp0 rfl rfl ?_; clear hS; intro a hS
  refine Sq.nil ?_
  refine then_n ?_
  refine c_condF hS rfl rfl ?_
  refine wp_skip ?_
  refine blk_n ?_
  refine then_n ?_
  refine c_seq ?_
  refine reg_plain w0 (fun z => z = ib ∨ z = mb) ?_
  refine r_load_sc hS hH (by repeat (first | exact Sub.nil | refine Sub.cons ?_ ?_ | exact In.here | refine In.there ?_)) rfl (by repeat (first | exact In.here | refine In.there ?_)) Fc.sc3 (by rfl) rfl ?_; clear hS; intro a hS
  refine r_load_sc hS hH (by repeat (first | exact Sub.nil | refine Sub.cons ?_ ?_ | exact In.here | refine In.there ?_)) rfl (by repeat (first | exact In.here | refine In.there ?_)) Fc.sc22 (by rfl) rfl ?_; clear hS; intro a hS
  refine r_lenSl hS hH.kp0 rfl Fc.isSlice22 rfl ?_; clear hS; intro a hS
  refine r_addN0 (m := 0) (k := 0) hS hH.kp0 rfl rfl (by omega) rfl ?_; clear hS; intro a hS
  refine r_assign hS hH.kp0 rfl rfl ?_; clear hS; intro a hS
  refine Sq.nil ?_
  refine then_n ?_
  refine c_seq ?_
  refine c_seq ?_
  refine reg_plain w0 (fun z => z = ib ∨ z = mb) ?_
  refine r_load_sc hS hH (by repeat (first | exact Sub.nil | refine Sub.cons ?_ ?_ | exact In.here | refine In.there ?_)) rfl (by repeat (first | exact In.here | refine In.there ?_)) Fc.sc58 (by rfl) rfl ?_; clear hS; intro a hS
  refine r_move hS hH.kp0 rfl rfl ?_; clear hS; intro a hS
  refine r_move hS hH.kp0 rfl rfl ?_; clear hS; intro a hS
  refine r_call (l := [.tmp 33, .tmp 34, .tmp 35]) hS rfl rfl Fc.fn43 rfl ?_
  refine Calls.mono (iends_c ib mb 0 0 limit 0 0 kn 0 true (by omega) (fun _ => ⟨by omega, fun _ => rfl⟩) (fun _ => by omega) _ (hH.get (b := ib) (by repeat (first | exact In.here | refine In.there ?_)))) ?_
  rintro e w1 ⟨rfl, hE⟩
  replace hH := hH.ext hE
  refine ⟨_, rfl, hH.kp0, ?_⟩
  clear hS; intro a hS
  refine r_assign hS hH.kp0 rfl rfl ?_; clear hS; intro a hS
  refine Sq.nil ?_
  refine then_n ?_
  refine c_seq ?_
  refine reg_plain w0 (fun z => z = ib ∨ z = mb) ?_
  refine r_move hS hH.kp0 rfl rfl ?_; clear hS; intro a hS
  refine r_neq hS hH.kp0 rfl rfl rfl ?_; clear hS; intro a hS
  refine Sq.nil ?_
  refine then_n ?_
  refine c_condF hS rfl rfl ?_
  refine wp_skip ?_
  refine then_n ?_
  refine c_seq ?_
  refine reg_draw [(true, 0, [3]), (true, 1, [3]), (true, 2, [3]), (true, 3, [3]), (true, 4, []), (true, 5, [3]), (true, 6, [3]), (true, 7, [3]), (true, 8, [3]), (false, 9, [3])] Fc.mixed (by kernel_rfl) (by kernel_rfl) (by kernel_rfl) (by kernel_rfl) (by kernel_rfl) (by repeat (first | with_reducible exact steady_body | with_reducible exact steady_bodyQ | with_reducible exact steady_round | with_reducible apply steady_block | with_reducible apply steady_then | with_reducible apply steady_scope | exact steady_body)) hH ?_
  replace hH := hH.drew
  refine r_load_scS hS rfl (by repeat (first | exact In.here | refine In.there ?_)) Fc.sc58 (by rfl) rfl ?_; clear hS; intro a hS
  refine r_load_scS hS rfl (by repeat (first | exact In.here | refine In.there ?_)) Fc.sc58 (by rfl) rfl ?_; clear hS; intro a hS
  refine r_nilCheck hS trivial rfl rfl ?_; clear hS; intro a hS
  refine r_fieldAddr hS trivial rfl Fc.fo83_4 rfl ?_; clear hS; intro a hS
  refine r_load_scS hS rfl (by repeat (first | exact In.here | refine In.there ?_)) Fc.sc3 (by rfl) rfl ?_; clear hS; intro a hS
  refine r_move hS trivial rfl rfl ?_; clear hS; intro a hS
  refine r_maxN (m := 0) (k := 0) hS trivial rfl rfl rfl ?_; clear hS; intro a hS
  refine r_nilCheck hS trivial rfl rfl ?_; clear hS; intro a hS
  refine r_fieldAddr hS trivial rfl Fc.fo83_4 rfl ?_; clear hS; intro a hS
  refine r_store1 hS hH rfl rfl rfl (by repeat (first | exact .here | apply In.there | apply Put.there | apply Del.there)) (by repeat (first | exact Sub.nil | refine Sub.cons ?_ ?_ | exact In.here | refine In.there ?_)) Fc.sz3 (of_decide_eq_true rfl) (by first | exact .inr (by assumption) | exact .inl (.inl rfl)) ?_
  clear hH; intro w hH
  refine Sq.nil ?_
  refine then_n ?_
  refine c_seq ?_
  refine c_seq ?_
  refine reg_plain w0 (fun z => z = ib ∨ z = mb) ?_
  refine r_move hS hH.kp0 rfl rfl ?_; clear hS; intro a hS
  refine Sq.nil ?_
  refine then_n ?_
  refine c_condT hS rfl rfl ?_
  refine reg_draw [(true, 0, [3]), (true, 1, [3]), (true, 2, [3]), (true, 3, [3]), (true, 4, [3]), (false, 5, [3]), (true, 6, [3]), (true, 7, [3]), (false, 8, [3])] Fc.mixed (by kernel_rfl) (by kernel_rfl) (by kernel_rfl) (by kernel_rfl) (by kernel_rfl) (by repeat (first | with_reducible exact steady_body | with_reducible exact steady_bodyQ | with_reducible exact steady_round | with_reducible apply steady_block | with_reducible apply steady_then | with_reducible apply steady_scope | exact steady_body)) hH ?_
  replace hH := hH.drew
  refine r_load_scS hS rfl (by repeat (first | exact In.here | refine In.there ?_)) Fc.sc58 (by rfl) rfl ?_; clear hS; intro a hS
  refine r_load_scS hS rfl (by repeat (first | exact In.here | refine In.there ?_)) Fc.sc58 (by rfl) rfl ?_; clear hS; intro a hS
  refine r_move hS trivial rfl rfl ?_; clear hS; intro a hS
  refine r_nilCheck hS trivial rfl rfl ?_; clear hS; intro a hS
  refine r_fieldAddr hS trivial rfl Fc.fo83_6 rfl ?_; clear hS; intro a hS
  refine r_store1 hS hH rfl rfl rfl (by repeat (first | exact .here | apply In.there | apply Put.there | apply Del.there)) (by repeat (first | exact Sub.nil | refine Sub.cons ?_ ?_ | exact In.here | refine In.there ?_)) Fc.sz4 (of_decide_eq_true rfl) (by first | exact .inr (by assumption) | exact .inl (.inl rfl)) ?_
  clear hH; intro w hH
  refine r_nilCheck hS trivial rfl rfl ?_; clear hS; intro a hS
  refine r_fieldAddr hS trivial rfl Fc.fo83_5 rfl ?_; clear hS; intro a hS
  refine r_store1 hS hH rfl rfl rfl (by repeat (first | exact .here | apply In.there | apply Put.there | apply Del.there)) (by repeat (first | exact Sub.nil | refine Sub.cons ?_ ?_ | exact In.here | refine In.there ?_)) Fc.sz3 (of_decide_eq_true rfl) (by first | exact .inr (by assumption) | exact .inl (.inl rfl)) ?_
  clear hH; intro w hH
  refine Sq.nil ?_
  refine then_n ?_
  refine c_seq ?_
  refine reg_draw [(true, 0, []), (true, 1, []), (true, 2, []), (true, 3, []), (true, 4, []), (true, 5, []), (false, 6, []), (false, 7, [])] Fc.mixed (by kernel_rfl) (by kernel_rfl) (by kernel_rfl) (by kernel_rfl) (by kernel_rfl) (by repeat (first | with_reducible exact steady_body | with_reducible exact steady_bodyQ | with_reducible exact steady_round | with_reducible apply steady_block | with_reducible apply steady_then | with_reducible apply steady_scope | exact steady_body)) hH ?_
  replace hH := hH.drew
  refine r_load_scS hS rfl (by repeat (first | exact In.here | refine In.there ?_)) Fc.sc3 (by rfl) rfl ?_; clear hS; intro a hS
  refine r_load_scS hS rfl (by repeat (first | exact In.here | refine In.there ?_)) Fc.sc58 (by rfl) rfl ?_; clear hS; intro a hS
  refine r_nilCheck hS trivial rfl rfl ?_; clear hS; intro a hS
  refine r_fieldAddr hS trivial rfl Fc.fo83_2 rfl ?_; clear hS; intro a hS
  refine r_load_scS hS rfl (by repeat (first | exact In.here | refine In.there ?_)) Fc.sc3 (by rfl) rfl ?_; clear hS; intro a hS
  refine r_maxN (m := 0) (k := 0) hS trivial rfl rfl rfl ?_; clear hS; intro a hS
  refine r_alloc hS hH (by repeat (first | exact Sub.nil | refine Sub.cons ?_ ?_ | exact In.here | refine In.there ?_)) Fc.zc3 rfl ?_
  clear hS hH; intro a w b11 hb11 hwb11 hS hH
  refine r_store1 hS hH rfl rfl rfl (by repeat (first | exact .here | apply In.there | apply Put.there | apply Del.there)) (by repeat (first | exact Sub.nil | refine Sub.cons ?_ ?_ | exact In.here | refine In.there ?_)) Fc.sz3 (of_decide_eq_true rfl) (by first | exact .inr (by assumption) | exact .inl (.inl rfl)) ?_
  clear hH; intro w hH
  refine Sq.nil ?_
  refine then_n ?_
  refine c_seq ?_
  refine reg_plain w0 (fun z => z = ib ∨ z = mb) ?_
  refine r_makeFunc hS hH.kp0 rfl rfl rfl ?_; clear hS; intro a hS
  refine r_assign hS hH.kp0 rfl rfl ?_; clear hS; intro a hS
  refine Sq.nil ?_
  refine then_n ?_
  refine c_seq ?_
  refine c_seq ?_
  refine reg_plain w0 (fun z => z = ib ∨ z = mb) ?_
  refine r_load_sc hS hH (by repeat (first | exact Sub.nil | refine Sub.cons ?_ ?_ | exact In.here | refine In.there ?_)) rfl (by repeat (first | exact In.here | refine In.there ?_)) Fc.sc58 (by rfl) rfl ?_; clear hS; intro a hS
  refine r_call (l := [.tmp 64]) hS rfl rfl Fc.fn46 rfl ?_
  refine Calls.mono (istarts_c ib mb 0 0 limit _ _ _ [] clock kz hl (by simp) (by simp) (by simp) hne _ (hH.get (b := ib) (by repeat (first | exact In.here | refine In.there ?_))) (hH.get (b := mb) (by repeat (first | exact In.here | refine In.there ?_)))) ?_
  rintro e w1 ⟨v, rfl, hIS, hE⟩
  replace hH := hH.ext hE
  obtain ⟨sp, sc, rfl⟩ : ∃ sp sc, v = .slice sp 0 sc := by rcases hIS with ⟨rfl, _⟩ | ⟨sb, sc, row, rfl, _⟩; exact ⟨_, _, rfl⟩; exact ⟨_, _, rfl⟩
  refine ⟨_, rfl, hH.kp0, ?_⟩
  clear hS; intro a hS
  refine r_lenSl hS hH.kp0 rfl Fc.isSlice76 rfl ?_; clear hS; intro a hS
  refine r_move hS hH.kp0 rfl rfl ?_; clear hS; intro a hS
  refine Sq.nil ?_
  refine then_n ?_
  refine wp_block ?_
  refine wp_loop_rounds 1 ?_
  refine rnd ?_
  refine c_seq ?_
  refine reg_plain w0 (fun z => z = ib ∨ z = mb) ?_
  refine r_lss hS hH.kp0 rfl rfl rfl ?_; clear hS; intro a hS
  refine Sq.nil ?_
  refine then_n ?_
  refine c_seq ?_
  refine c_condF hS rfl rfl ?_
  refine wp_exit ?_
  refine then_e ?_
  refine then_e ?_
  refine blk_hit ?_
  refine then_n ?_
  refine c_seq ?_
  refine reg_plain w0 (fun z => z = ib ∨ z = mb) ?_
  refine r_move hS hH.kp0 rfl rfl ?_; clear hS; intro a hS
  refine r_move hS hH.kp0 rfl rfl ?_; clear hS; intro a hS
  refine r_call (l := [.tmp 94]) hS rfl rfl Fc.fn44 rfl ?_
  refine Calls.mono (upto_no b11 b6 b5 b4 0 0 (by omega) _ (hH.get (b := b11) (by repeat (first | exact In.here | refine In.there ?_)))) ?_
  rintro e w1 ⟨rfl, hE⟩
  replace hH := hH.ext hE
  refine ⟨_, rfl, hH.kp0, ?_⟩
  clear hS; intro a hS
  refine Sq.nil ?_
  refine then_n ?_
  refine c_seq ?_
  refine reg_plain w0 (fun z => z = ib ∨ z = mb) ?_
  refine r_assign hS hH.kp0 rfl rfl ?_; clear hS; intro a hS
  refine Sq.nil ?_
  refine then_n ?_
  refine wp_ret ?_
  exact leave (.inl rfl) hS rfl (Res.tmp rfl Res.nil) ⟨rfl, hH.get (b := mb) (by repeat (first | exact In.here | refine In.there ?_)), hH.get (b := ib) (by repeat (first | exact In.here | refine In.there ?_)), hH.mod⟩

end Go.Proofs.Ytkhcbllphdhbdaa

namespace Go.Proofs.Ytkhcbllphdhbdaa
open Go.Sym
/-- what a fate is -/
structure FaT where
  m : Int
  lo : Bool
  tw : Bool
def FaT.cells (x : FaT) : List Value := [.int .i64 x.m, .bool x.lo, .bool x.tw]
def Fas (w : World) (q : Option Addr) (fs : List FaT) : Prop := ∀ (i : Nat) (x : FaT), fs[i]? = some x → ∃ b o, q = some ⟨b, o, none⟩ ∧ ∀ j u, x.cells[j]? = some u → w.cell? ⟨b, o + i * 3 + j, none⟩ = some u
theorem Fas.ext {w w' : World} {q : Option Addr} {fs : List FaT} (h : Fas w q fs) (k : Ext w w') : Fas w' q fs := fun i x hx => by
  obtain ⟨b, o, e, hc⟩ := h i x hx
  exact ⟨b, o, e, fun j u hu => k.cell_some (hc j u hu)⟩
/-- an inbox of a text: r bytes were read, it holds those up to s -/
structure IBx (X : Nat → Prop) (w : World) (ib mb : Nat) (text : List UInt8) (r s lim : Nat) (kn : Bool) : Prop where
  head : w.heap[ib]? = some (.cells ([.bool true, .int .i64 (text.length : Int), .int .i64 (r : Int), .int .i64 (lim : Int), .int .i64 (s : Int), .int .i64 (if kn = true then (text.length : Int) else 0), .bool kn, .map (some mb)] : List Value).toArray 83 (0, 0))
  map : ∃ l clock, MapL Try.prog 3 l clock ∧ Chain (fun z => z = ib ∨ z = mb ∨ X z) w text l r s ∧ w.heap[mb]? = some (.map l.toArray clock)
  ne : mb ≠ ib
theorem IBx.lt {X : Nat → Prop} {w : World} {ib mb : Nat} {text : List UInt8} {r s lim : Nat} {kn : Bool} (h : IBx X w ib mb text r s lim kn) : ∀ z, (z = ib ∨ z = mb) → z < w.heap.size := by
  obtain ⟨l, clock, _, _, h9⟩ := h.map
  rintro z (rfl | rfl)
  · exact lt_of_block h.head
  · exact lt_of_block h9
theorem IBx.go {X X' F : Nat → Prop} {w w' : World} {ib mb : Nat} {text : List UInt8} {r s lim : Nat} {kn : Bool} (h : IBx X w ib mb text r s lim kn) (hM : Mod F w w') (hF : ∀ z, F z → X z) (hd : ∀ z, (z = ib ∨ z = mb) → ¬ F z) (hX : ∀ z, X' z → X z ∨ w.heap.size ≤ z) : IBx X' w' ib mb text r s lim kn := by
  obtain ⟨l, clock, h1, h2, h3⟩ := h.map
  exact ⟨hM.heap_some h.head (hd ib (.inl rfl)), ⟨l, clock, h1, h2.go (hM.mono (fun z hz => .inr (.inr (hF z hz)))) (fun z hz => by
    rcases hz with hz | hz | hz
    · exact .inl (.inl hz)
    · exact .inl (.inr (.inl hz))
    · exact (hX z hz).imp (fun e => .inr (.inr e)) id), hM.heap_some h3 (hd mb (.inr rfl))⟩, h.ne⟩
section
variable {X : Nat → Prop} {ob gb hb k a g kc : Nat} {text : List UInt8} {en : Int} {v hv : Value} {q : Option Addr} {w0 : World}
theorem OB.done (h : OB X w0 ob gb hb text k a g en v hv q kc) (hn : text.length ≤ 1048576) (hen : fits en) (h4 : en = 4 → k = text.length) : Calls Try.prog 11 #[.pointer (some ⟨ob, 0, none⟩)] w0 fun e w' => e = .returned (.bool (decide (en = 4))) ∧ Ext w0 w' := by
  have := Done_c ob gb hb text.length k g (text.length - k) kc q en (by omega) hen w0 h.head
  refine this.mono ?_
  rintro e w' ⟨rfl, hE⟩
  refine ⟨?_, hE⟩
  by_cases h9 : en = 4
  · have := h4 h9
    rw [decide_eq_true h9, decide_eq_true (by rw [h9, this, Nat.sub_self]; rfl)]
  · rw [decide_eq_false h9, decide_eq_false (by intro h8; injection h8 with h7; exact h9 h7)]
theorem OB.zero (h : OB X w0 ob gb hb text k a g en v hv q kc) (hg : g ≤ text.length) (hk : k ≤ g) (h0 : text.length = 0) : k = 0 ∧ g = 0 ∧ w0.heap[ob]? = some (.cells ([.int .i64 0, .int .i64 0, .slice none 0 0, .int .i64 0, .pointer (some ⟨gb, 0, none⟩), .pointer (some ⟨hb, 0, none⟩), .int .i64 en] : List Value).toArray 70 (0, 0)) ∧ w0.heap[gb]? = some (.cells ([.bool true, .slice none 0 0] : List Value).toArray 89 (0, 0)) ∧ w0.heap[hb]? = some (.cells ([.bool true, .slice none 0 0] : List Value).toArray 89 (0, 0)) ∧ gb ≠ ob ∧ hb ≠ ob := by
  obtain ⟨e1, e2, e3, e4⟩ := h.nil h0
  have hg0 : g = 0 := by omega
  have hk0 : k = 0 := by omega
  have hh := h.head
  have h1 := h.gone.head
  have h2 := h.here.head
  rw [h0, e1, e2, hk0, hg0] at hh
  rw [e3] at h1
  rw [e4] at h2
  exact ⟨hk0, hg0, hh, h1, h2, h.gob gb (.inl rfl), h.hob hb (.inl rfl)⟩
theorem OB.step0 (h : OB X w0 ob gb hb text k a g en v hv q kc) {w' : World} {en2 : Int} (hg : g ≤ text.length) (hk : k ≤ g) (h0 : text.length = 0) (hM : Mod (· = ob) w0 w') (hh : w'.heap[ob]? = some (.cells ([.int .i64 0, .int .i64 0, .slice none 0 0, .int .i64 0, .pointer (some ⟨gb, 0, none⟩), .pointer (some ⟨hb, 0, none⟩), .int .i64 en2] : List Value).toArray 70 (0, 0))) (a2 : Nat) : OB X w' ob gb hb text 0 a2 0 en2 v hv q kc := by
  obtain ⟨hk0, hg0, _⟩ := h.zero hg hk h0
  have hgo := h.gone.go hM (fun z hz e => h.gob z hz e)
  have hhe := h.here.go hM (fun z hz e => h.hob z hz e)
  have hke := h.kept.go (F' := fun z => FP ob gb hb v hv z ∨ X z) (hM.mono (fun z hz => .inl (.inl hz))) (fun z hz => .inl hz)
  obtain ⟨e1, e2, e3, e4⟩ := h.nil h0
  rw [hg0, ifn (by omega), ifn (by omega)] at hgo
  rw [hk0] at hhe hke
  refine ⟨?_, by rw [ifn (by omega), ifn (by omega)]; exact hgo, hhe, hke, h.nil, h.gob, h.hob, h.dis⟩
  rw [h0, e1, e2]; exact hh
theorem oNext (h : OB X w0 ob gb hb text k k g en v hv q kc) (hn : text.length ≤ 1048576) (hk : k < text.length ∨ text.length = 0) (hkg : k ≤ g) (hg : g ≤ text.length) (hen : en = 1 ∨ en = 3) (most : Nat) (h1 : 1 ≤ most ∨ text.length = 0) (hmost : most ≤ 1099511627776) (hX : ∀ z, X z → z < w0.heap.size) :
    Calls Try.prog 8 #[.pointer (some ⟨ob, 0, none⟩), .int .i64 (most : Int), .int .i64 (text.length : Int)] w0 fun e w' => ∃ (m : Nat) (dq : Option Addr) (cap : Nat) (v2 : Value), (1 ≤ m ∨ text.length = 0) ∧ k + m ≤ text.length ∧ e = .returned (.tuple #[.agg #[.int .i64 (k : Int), .slice dq m cap, .bool (decide (k + m = text.length))], .bool true]) ∧ (text.length = 0 → dq = none ∧ cap = 0) ∧
      BsF (fun z => FP ob gb hb v2 hv z ∨ X z) w' (.slice dq m cap) ((text.drop k).take m) ∧ OB X w' ob gb hb text k (k + m) (max g (k + m)) (if k + m = text.length then 2 else en) v2 hv q kc ∧ (∀ z, FP ob gb hb v2 hv z → FP ob gb hb v hv z ∨ w0.heap.size ≤ z) ∧ Mod (FP ob gb hb v hv) w0 w' := by
  by_cases h0 : text.length = 0
  · obtain ⟨hk0, hg0, hh, hgg, hhh, n1, n2⟩ := h.zero hg hkg h0
    have e0 : text = [] := List.eq_nil_of_length_eq_zero h0
    have key : ∀ w', w'.heap[ob]? = some (.cells ([.int .i64 0, .int .i64 0, .slice none 0 0, .int .i64 0, .pointer (some ⟨gb, 0, none⟩), .pointer (some ⟨hb, 0, none⟩), .int .i64 2] : List Value).toArray 70 (0, 0)) → Mod (· = ob) w0 w' → ∃ (m : Nat) (dq : Option Addr) (cap : Nat) (v2 : Value), (1 ≤ m ∨ text.length = 0) ∧ k + m ≤ text.length ∧ (Ending.returned (.tuple #[.agg #[.int .i64 0, .slice none 0 0, .bool true], .bool true])) = .returned (.tuple #[.agg #[.int .i64 (k : Int), .slice dq m cap, .bool (decide (k + m = text.length))], .bool true]) ∧ (text.length = 0 → dq = none ∧ cap = 0) ∧
        BsF (fun z => FP ob gb hb v2 hv z ∨ X z) w' (.slice dq m cap) ((text.drop k).take m) ∧ OB X w' ob gb hb text k (k + m) (max g (k + m)) (if k + m = text.length then 2 else en) v2 hv q kc ∧ (∀ z, FP ob gb hb v2 hv z → FP ob gb hb v hv z ∨ w0.heap.size ≤ z) ∧ Mod (FP ob gb hb v hv) w0 w' := by
      intro w' h9 hM
      refine ⟨0, none, 0, v, .inr h0, by omega, ?_, fun _ => ⟨rfl, rfl⟩, ?_, ?_, fun z hz => .inl hz, hM.mono (fun z hz => .inl hz)⟩
      · rw [hk0, decide_eq_true (by omega)]; rfl
      · rw [e0]; simpa using BsF.nil _ w'
      · have := h.step0 hg hkg h0 hM h9 (k + 0)
        rw [ifp (by omega), show max g (k + 0) = 0 from by omega]
        rw [hk0] at this ⊢
        exact this
    rcases hen with rfl | rfl
    · have := Next_z1 ob gb hb most hmost w0 hh hgg n1
      rw [show ((text.length : Nat) : Int) = 0 from by omega]
      exact this.mono fun e w' ⟨he, h9, hM⟩ => by subst he; exact key w' h9 hM
    · have := Next_z3 ob gb hb most hmost w0 hh hgg n1
      rw [show ((text.length : Nat) : Int) = 0 from by omega]
      exact this.mono fun e w' ⟨he, h9, hM⟩ => by subst he; exact key w' h9 hM
  · refine (oNext1 h hn (by omega) hkg hg hen most (by omega) hmost).mono ?_
    rintro e w' ⟨m, cb, cap, cl, v2, hm1, hm2, rfl, hcb, hck, hBc, hO, hnew, hcn, hM⟩
    have hlen : ((text.drop k).take m).length = m := by rw [List.length_take, List.length_drop]; omega
    have hb := BsF.of_blk (F := fun z => FP ob gb hb v2 hv z ∨ X z) hck (fun h => h.elim hcn (fun h => by have := hX cb h; omega)) hBc.take hBc.le
    rw [hlen] at hb
    exact ⟨m, _, cap, v2, .inl hm1, hm2, rfl, fun h => absurd h h0, hb, hO, hnew, hM⟩
theorem oLost (m pc : Nat) (pq : Option Addr) (h : OB X w0 ob gb hb text k (k + m) g en v hv q kc) (hn : text.length ≤ 1048576) (hm1 : 1 ≤ m ∨ text.length = 0) (hm2 : k + m ≤ g) (hg : g ≤ text.length) (hen : k + m = text.length → en = 2) (hz : text.length = 0 → pq = none ∧ pc = 0) :
    Calls Try.prog 21 #[.pointer (some ⟨ob, 0, none⟩), .agg #[.int .i64 (k : Int), .slice pq m pc, .bool (decide (k + m = text.length))]] w0 fun e w' => ∃ v2, e = .returned (.int .i64 0) ∧
      OB X w' ob gb hb text k k g (if k + m = text.length then 3 else en) v2 hv q kc ∧ (∀ z, FP ob gb hb v2 hv z → FP ob gb hb v hv z ∨ w0.heap.size ≤ z) ∧ Mod (FP ob gb hb v hv) w0 w' := by
  by_cases h0 : text.length = 0
  · obtain ⟨hk0, hg0, hh, hgg, hhh, n1, n2⟩ := h.zero hg (by omega) h0
    obtain ⟨e1, e2⟩ := hz h0
    have hen2 := hen (by omega)
    have hm0 : m = 0 := by omega
    rw [hen2] at hh
    rw [e1, e2, hm0, hk0, decide_eq_true (show 0 + 0 = text.length by omega)]
    refine (Lost_z ob gb hb w0 hh).mono fun e w' ⟨he, h9, hM⟩ => ?_
    refine ⟨v, he, ?_, fun z hz => .inl hz, hM.mono (fun z hz => .inl hz)⟩
    have := h.step0 hg (by omega) h0 hM h9 0
    rw [ifp (by omega), hg0]
    exact this
  · exact oLost1 m pc pq h hn (by omega) hm2 hg hen
theorem oAcked (m pc : Nat) (pq : Option Addr) (h : OB X w0 ob gb hb text k a g en v hv q kc) (hn : text.length ≤ 1048576) (hm1 : 1 ≤ m ∨ text.length = 0) (hm2 : k + m ≤ g) (hg : g ≤ text.length) (ha : a = k ∨ a = k + m) (hen : k + m = text.length → en = 2 ∨ en = 3) (hX : ∀ z, X z → z < w0.heap.size) (hz : text.length = 0 → pq = none ∧ pc = 0) :
    Calls Try.prog 19 #[.pointer (some ⟨ob, 0, none⟩), .agg #[.int .i64 (k : Int), .slice pq m pc, .bool (decide (k + m = text.length))]] w0 fun e w' => ∃ v2 hv2 q2 kc2, e = .returned (.int .i64 0) ∧
      OB X w' ob gb hb text (k + m) (k + m) g (if k + m = text.length then 4 else en) v2 hv2 q2 kc2 ∧ (∀ z, FP ob gb hb v2 hv2 z → FP ob gb hb v hv z ∨ w0.heap.size ≤ z) ∧ Mod (FP ob gb hb v hv) w0 w' := by
  by_cases h0 : text.length = 0
  · obtain ⟨hk0, hg0, hh, hgg, hhh, n1, n2⟩ := h.zero hg (by omega) h0
    obtain ⟨e1, e2⟩ := hz h0
    have hen2 := hen (by omega)
    have hm0 : m = 0 := by omega
    rw [e1, e2, hm0, hk0, decide_eq_true (show 0 + 0 = text.length by omega)]
    have key : ∀ (e : Ending) (w' : World), (e = .returned (.int .i64 0) ∧ w'.heap[ob]? = some (.cells ([.int .i64 0, .int .i64 0, .slice none 0 0, .int .i64 0, .pointer (some ⟨gb, 0, none⟩), .pointer (some ⟨hb, 0, none⟩), .int .i64 4] : List Value).toArray 70 (0, 0)) ∧ Mod (· = ob) w0 w') → ∃ v2 hv2 q2 kc2, e = .returned (.int .i64 0) ∧
      OB X w' ob gb hb text (0 + 0) (0 + 0) g (if 0 + 0 = text.length then 4 else en) v2 hv2 q2 kc2 ∧ (∀ z, FP ob gb hb v2 hv2 z → FP ob gb hb v hv z ∨ w0.heap.size ≤ z) ∧ Mod (FP ob gb hb v hv) w0 w' := by
      rintro e w' ⟨he, h9, hM⟩
      refine ⟨v, hv, q, kc, he, ?_, fun z hz => .inl hz, hM.mono (fun z hz => .inl hz)⟩
      have := h.step0 hg (by omega) h0 hM h9 0
      rw [ifp (by omega), hg0]
      exact this
    rcases hen2 with rfl | rfl
    · exact (Acked_z2 ob gb hb w0 hh hhh n2).mono key
    · exact (Acked_z3 ob gb hb w0 hh hhh n2).mono key
  · exact oAcked1 m pc pq h hn (by omega) hm2 hg ha hen hX
end
section
variable {X : Nat → Prop} {ib mb r s lim : Nat} {kn : Bool} {text : List UInt8} {w0 : World}
theorem iPut (h : IBx X w0 ib mb text r s lim kn) (hn : text.length ≤ 1048576) (k m cap : Nat) (dq : Option Addr) (hkr : k ≤ r) (hrs : r ≤ s) (hsn : s ≤ text.length) (hkm : k + m ≤ text.length) (hm1 : 1 ≤ m ∨ text.length = 0) (hlim : text.length ≤ lim) (hlm : lim ≤ 4194304) (hz : text.length = 0 → dq = none ∧ cap = 0) (hX : ∀ z, X z → z < w0.heap.size) (hb : BsF (fun z => z = ib ∨ z = mb) w0 (.slice dq m cap) ((text.drop k).take m)) :
    Calls Try.prog 25 #[.pointer (some ⟨ib, 0, none⟩), .int .i64 (k : Int), .slice dq m cap, .bool (decide (k + m = text.length))] w0 fun e w' => e = .returned (.int .i64 0) ∧ IBx X w' ib mb text r (max s (k + m)) lim (decide (k + m = text.length) || kn) ∧ Mod (fun z => z = ib ∨ z = mb) w0 w' := by
  obtain ⟨l, clock, h1, h2, h3⟩ := h.map
  by_cases h0 : text.length = 0
  · obtain ⟨e1, e2⟩ := hz h0
    have hm0 : m = 0 := by omega
    have hk0 : k = 0 := by omega
    have hr0 : r = 0 := by omega
    have hs0 : s = 0 := by omega
    subst hm0 hk0 hr0 hs0
    have hl0 : l = [] := by
      rcases h2.inv with ⟨h, _⟩ | ⟨_, _, _, _, _, _, _, _, _, _, h⟩
      · exact h
      · have := h.le; omega
    subst hl0
    have hh := h.head
    rw [h0, show (if kn = true then (((0 : Nat) : Int)) else 0) = 0 by cases kn <;> rfl] at hh
    rw [e1, e2, decide_eq_true (show 0 + 0 = text.length by omega)]
    refine (iPut_z ib mb lim kn clock h1 h.ne w0 hh h3).mono fun e w' ⟨he, k1, k2, hM⟩ => ⟨he, ⟨?_, ⟨[], clock, h1, .nil, k1⟩, h.ne⟩, hM⟩
    rw [h0]; exact k2
  · obtain ⟨ba, bo, rfl⟩ := hb.addr (by rw [List.length_take, List.length_drop]; omega)
    refine (iPut_c ib mb text.length r lim s (if kn = true then (text.length : Int) else 0) kn (decide (k + m = text.length)) text l clock s k m cap ba bo h1 (by omega) rfl hkr hrs hsn (by omega) hkm (by omega) hlm hn (fun e => by rw [if_pos e]; exact ⟨by omega, fun e => by have := of_decide_eq_true e; omega⟩) (fun e => by have := of_decide_eq_true e; omega) h.ne X w0 hX h2 hb h.head h3).mono ?_
    rintro e w' ⟨he, l', clock', k1, k2, k3, k4, hM⟩
    refine ⟨he, ⟨?_, ⟨l', clock', k1, k2, k3⟩, h.ne⟩, hM⟩
    rw [k4]
    by_cases h9 : k + m = text.length
    · rw [decide_eq_true h9, h9]; simp
    · rw [decide_eq_false h9]; simp
theorem iRead (h : IBx X w0 ib mb text r s lim kn) (hn : text.length ≤ 1048576) (hrs : r ≤ s) (hsn : s ≤ text.length) :
    Calls Try.prog 26 #[.pointer (some ⟨ib, 0, none⟩), .int .i64 (text.length : Int)] w0 fun e w' => ∃ v, e = .returned (.tuple #[v, .bool (kn && ((s : Int) == if kn = true then (text.length : Int) else 0))]) ∧ Bs w' v ((text.drop r).take (s - r)) ∧ IBx X w' ib mb text s s (max lim (s + text.length)) kn ∧ Mod (fun z => z = ib ∨ z = mb) w0 w' := by
  obtain ⟨l, clock, h1, h2, h3⟩ := h.map
  refine (iRead_c ib mb text.length r lim s _ kn text l clock s text.length h1 (by omega) hsn hn hn h.ne w0 (h2.go (Mod.refl _ _) (fun z hz => .inl (hz.imp id .inl))) h.head h3).mono ?_
  rintro e w' ⟨v, he, hb, k1, k2, hM⟩
  exact ⟨v, he, hb, ⟨k1, ⟨[], clock, MapL.nil, .nil, k2⟩, h.ne⟩, hM⟩
end
end Go.Proofs.Ytkhcbllphdhbdaa

namespace Go.Proofs.Ytkhcbllphdhbdaa
open Go.Sym

theorem Fc.ag62 : agB Try.prog 62 = some 3 := by kernel_rfl
theorem Fc.fn11 : isFn Try.prog 11 = true := by kernel_rfl
theorem Fc.fn15 : isFn Try.prog 15 = true := by kernel_rfl
theorem Fc.fn19 : isFn Try.prog 19 = true := by kernel_rfl
theorem Fc.fn21 : isFn Try.prog 21 = true := by kernel_rfl
theorem Fc.fn24 : isFn Try.prog 24 = true := by kernel_rfl
theorem Fc.fn25 : isFn Try.prog 25 = true := by kernel_rfl
theorem Fc.fn26 : isFn Try.prog 26 = true := by kernel_rfl
theorem Fc.fn6 : isFn Try.prog 6 = true := by kernel_rfl
theorem Fc.fn7 : isFn Try.prog 7 = true := by kernel_rfl
theorem Fc.fn8 : isFn Try.prog 8 = true := by kernel_rfl
theorem Fc.fo62_0 : foff Try.prog 62 0 = some 0 := by kernel_rfl
theorem Fc.fo62_1 : foff Try.prog 62 1 = some 1 := by kernel_rfl
theorem Fc.fo62_2 : foff Try.prog 62 2 = some 2 := by kernel_rfl
theorem Fc.isSlice57 : isSlice Try.prog 57 = true := by kernel_rfl
theorem Fc.pl62 : placesB Try.prog 62 = some [(0, 1), (1, 1), (2, 1)] := by kernel_rfl
theorem Fc.slb57 : slB Try.prog 57 = some 3 := by kernel_rfl
theorem Fc.sz62 : sizeB Try.prog 62 3 = true := by kernel_rfl
theorem Fc.zc62 : zcB Try.prog 62 = some [.int .i64 0, .bool false, .bool false] := by kernel_rfl
set_option maxRecDepth 100000 in
set_option maxHeartbeats 400000 in
theorem Write_z (ob gb hb : Nat) (dv : Option Addr) (dc : Nat) (w0 : World) (hd : BsF (· = ob) w0 (.slice dv 0 dc) []) (hz : w0.heap[ob]? = some (.cells ([.int .i64 0, .int .i64 0, .slice none 0 0, .int .i64 0, .pointer (some ⟨gb, 0, none⟩), .pointer (some ⟨hb, 0, none⟩), .int .i64 0] : List Value).toArray 70 (0, 0))) : Calls Try.prog 7 #[.pointer (some ⟨ob, 0, none⟩), .slice dv 0 dc] w0 fun e w' => e = .returned (.tuple #[.int .i64 0, .int .i64 0]) ∧ w'.heap[ob]? = some (.cells ([.int .i64 0, .int .i64 0, .slice none 0 0, .int .i64 0, .pointer (some ⟨gb, 0, none⟩), .pointer (some ⟨hb, 0, none⟩), .int .i64 0] : List Value).toArray 70 (0, 0)) ∧ Mod (· = ob) w0 w' := by
  refine enter Try.func7 rfl rfl rfl ?_
  intro a hS
  have hH := Hp.start w0 ((· = ob))
  replace hH := hH.know hz (by intro p hp; simp at hp)
  refine c_seq ?_
  refine reg_plain w0 ((· = ob)) ?_
  refine r_assign hS hH.kp0 rfl rfl ?_; clear hS; intro a hS
  refine r_assign hS hH.kp0 rfl rfl ?_; clear hS; intro a hS
  refine Sq.nil ?_
  refine then_n ?_
  refine c_seq ?_
  refine wp_block ?_
  refine c_seq ?_
  refine reg_plain w0 ((· = ob)) ?_
  refine r_move hS hH.kp0 rfl rfl ?_; clear hS; intro a hS
  refine r_call (l := [.tmp 8]) hS rfl rfl Fc.fn28 rfl ?_
  refine Calls.mono (none_c ob gb hb 0 0 0 0 0 none 0 _ (hH.get (b := ob) (by repeat (first | exact In.here | refine In.there ?_)))) ?_
  rintro e w1 ⟨rfl, hE⟩
  replace hH := hH.ext hE
  refine ⟨_, rfl, hH.kp0, ?_⟩
  clear hS; intro a hS
  refine r_assign hS hH.kp0 rfl rfl ?_; clear hS; intro a hS
  refine Sq.nil ?_
  refine then_n ?_
  refine c_condF hS rfl rfl ?_
  refine c_seq ?_
  refine reg_plain w0 ((· = ob)) ?_
  refine r_move hS hH.kp0 rfl rfl ?_; clear hS; intro a hS
  refine r_nilCheck hS hH.kp0 rfl rfl ?_; clear hS; intro a hS
  refine r_fieldAddr hS hH.kp0 rfl Fc.fo70_6 rfl ?_; clear hS; intro a hS
  refine r_load_sc hS hH (by repeat (first | exact Sub.nil | refine Sub.cons ?_ ?_ | exact In.here | refine In.there ?_)) rfl (by repeat (first | exact In.here | refine In.there ?_)) Fc.sc3 (by rfl) rfl ?_; clear hS; intro a hS
  refine r_neq hS hH.kp0 rfl rfl rfl ?_; clear hS; intro a hS
  refine r_assign hS hH.kp0 rfl rfl ?_; clear hS; intro a hS
  refine Sq.nil ?_
  refine then_n ?_
  refine c_condF hS rfl rfl ?_
  refine wp_skip ?_
  refine blk_n ?_
  refine then_n ?_
  refine c_seq ?_
  refine reg_draw [(true, 0, []), (true, 1, []), (true, 2, []), (true, 3, []), (true, 4, []), (true, 5, []), (true, 6, []), (true, 7, []), (true, 8, []), (true, 9, []), (true, 10, []), (true, 11, []), (true, 12, []), (true, 13, [])] Fc.mixed (by kernel_rfl) (by kernel_rfl) (by kernel_rfl) (by kernel_rfl) (by kernel_rfl) (by repeat (first | with_reducible exact steady_body | with_reducible exact steady_bodyQ | with_reducible exact steady_round | with_reducible apply steady_block | with_reducible apply steady_then | with_reducible apply steady_scope | exact steady_body)) hH ?_
  replace hH := hH.drew
  refine r_move hS trivial rfl rfl ?_; clear hS; intro a hS
  refine r_lenSl hS trivial rfl Fc.isSlice22 rfl ?_; clear hS; intro a hS
  refine r_move hS trivial rfl rfl ?_; clear hS; intro a hS
  refine r_nilCheck hS trivial rfl rfl ?_; clear hS; intro a hS
  refine r_fieldAddr hS trivial rfl Fc.fo70_0 rfl ?_; clear hS; intro a hS
  refine r_load_scS hS rfl (by repeat (first | exact In.here | refine In.there ?_)) Fc.sc3 (by rfl) rfl ?_; clear hS; intro a hS
  refine r_move hS trivial rfl rfl ?_; clear hS; intro a hS
  refine r_nilCheck hS trivial rfl rfl ?_; clear hS; intro a hS
  refine r_fieldAddr hS trivial rfl Fc.fo70_2 rfl ?_; clear hS; intro a hS
  refine r_load_scS hS rfl (by repeat (first | exact In.here | refine In.there ?_)) Fc.sc22 (by rfl) rfl ?_; clear hS; intro a hS
  refine r_lenSl hS trivial rfl Fc.isSlice22 rfl ?_; clear hS; intro a hS
  refine r_subN0 (m := 0) (k := 0) hS trivial rfl rfl (by omega) (by omega) rfl ?_; clear hS; intro a hS
  refine r_minN (m := 0) (k := 0) hS trivial rfl rfl rfl ?_; clear hS; intro a hS
  refine r_assign hS trivial rfl rfl ?_; clear hS; intro a hS
  refine Sq.nil ?_
  refine then_n ?_
  refine c_seq ?_
  refine reg_draw [(true, 0, [0]), (true, 1, [0]), (true, 2, [0]), (true, 3, [0]), (true, 4, []), (true, 5, [0]), (true, 6, [0]), (true, 7, [0]), (false, 8, []), (true, 9, [0]), (true, 10, [0]), (false, 11, [0])] Fc.mixed (by kernel_rfl) (by kernel_rfl) (by kernel_rfl) (by kernel_rfl) (by kernel_rfl) (by repeat (first | with_reducible exact steady_body | with_reducible exact steady_bodyQ | with_reducible exact steady_round | with_reducible apply steady_block | with_reducible apply steady_then | with_reducible apply steady_scope | exact steady_body)) hH ?_
  replace hH := hH.drew
  refine r_move hS trivial rfl rfl ?_; clear hS; intro a hS
  refine r_move hS trivial rfl rfl ?_; clear hS; intro a hS
  refine r_nilCheck hS trivial rfl rfl ?_; clear hS; intro a hS
  refine r_fieldAddr hS trivial rfl Fc.fo70_2 rfl ?_; clear hS; intro a hS
  refine r_load_scS hS rfl (by repeat (first | exact In.here | refine In.there ?_)) Fc.sc22 (by rfl) rfl ?_; clear hS; intro a hS
  refine r_move hS trivial rfl rfl ?_; clear hS; intro a hS
  refine r_move hS trivial rfl rfl ?_; clear hS; intro a hS
  refine r_slHiE (hh := 0) hS trivial rfl rfl Fc.slb22 rfl (hd.len).2 rfl ?_; clear hS; intro a hS
  refine r_append_K0 hS (hH.kp (by repeat (first | exact Sub.nil | refine Sub.cons ?_ ?_ | exact In.here | refine In.there ?_))) rfl rfl Fc.el22 Fc.ni22 (hd _ hH.mod).src rfl ?_; clear hS; intro a hS
  refine r_nilCheck hS trivial rfl rfl ?_; clear hS; intro a hS
  refine r_fieldAddr hS trivial rfl Fc.fo70_2 rfl ?_; clear hS; intro a hS
  refine r_store1 hS hH rfl rfl rfl (by repeat (first | exact .here | apply In.there | apply Put.there | apply Del.there)) (by repeat (first | exact Sub.nil | refine Sub.cons ?_ ?_ | exact In.here | refine In.there ?_)) Fc.sz22 (of_decide_eq_true rfl) (.inl rfl) ?_
  clear hH; intro w hH
  refine Sq.nil ?_
  refine then_n ?_
  refine c_seq ?_
  refine reg_plain w0 ((· = ob)) ?_
  refine r_move hS hH.kp0 rfl rfl ?_; clear hS; intro a hS
  refine r_assign hS hH.kp0 rfl rfl ?_; clear hS; intro a hS
  refine r_assign hS hH.kp0 rfl rfl ?_; clear hS; intro a hS
  refine Sq.nil ?_
  refine then_n ?_
  refine wp_ret ?_
  exact leave (.inl rfl) hS rfl (Res.tmp rfl (Res.tmp rfl Res.nil)) ⟨rfl, hH.get (b := ob) (by repeat (first | exact In.here | refine In.there ?_)), hH.mod⟩

theorem oWrite (ob gb hb dc : Nat) (dv : Option Addr) (text : List UInt8) (hl : text.length ≤ 1048576) (w0 : World) (hd : BsF (· = ob) w0 (.slice dv text.length dc) text) (hz : w0.heap[ob]? = some (.cells ([.int .i64 (text.length : Int), .int .i64 0, .slice none 0 0, .int .i64 0, .pointer (some ⟨gb, 0, none⟩), .pointer (some ⟨hb, 0, none⟩), .int .i64 0] : List Value).toArray 70 (0, 0))) : Calls Try.prog 7 #[.pointer (some ⟨ob, 0, none⟩), .slice dv text.length dc] w0 fun e w' => ∃ (q : Option Addr) (kc : Nat), e = .returned (.tuple #[.int .i64 (text.length : Int), .int .i64 0]) ∧ w'.heap[ob]? = some (.cells ([.int .i64 (text.length : Int), .int .i64 0, .slice q text.length kc, .int .i64 0, .pointer (some ⟨gb, 0, none⟩), .pointer (some ⟨hb, 0, none⟩), .int .i64 0] : List Value).toArray 70 (0, 0)) ∧ BsF (fun z => z < w0.heap.size) w' (.slice q text.length kc) text ∧ (text.length = 0 → q = none ∧ kc = 0) ∧ Mod (· = ob) w0 w' := by
  by_cases h0 : text.length = 0
  · have e0 : text = [] := List.eq_nil_of_length_eq_zero h0
    subst e0
    exact (Write_z ob gb hb dv dc w0 hd hz).mono fun e w' ⟨h1, h2, h3⟩ => ⟨none, 0, h1, h2, BsF.nil _ _, fun _ => ⟨rfl, rfl⟩, h3⟩
  · refine (Write_nil ob gb hb text.length dv dc text (Nat.le_refl _) hl w0 hd hz).mono ?_
    rintro e w' ⟨kv, h1, h2, h3, h4⟩
    rcases h3 with ⟨_, h3⟩ | ⟨kb, kcap, kl, rfl, h5, h6, h7⟩
    · exact absurd (by rw [h3]; rfl) h0
    · exact ⟨_, kcap, h1, h2, BsF.of_blk h6 (fun h => by omega) h7.take h7.le, fun h => absurd h h0, h4⟩
theorem OB.ext {X : Nat → Prop} {w w' : World} {ob gb hb : Nat} {text : List UInt8} {k a g : Nat} {en : Int} {v hv : Value} {q : Option Addr} {kc : Nat} (h : OB X w ob gb hb text k a g en v hv q kc) (hE : Ext w w') : OB X w' ob gb hb text k a g en v hv q kc := h.go hE (fun _ h => h.elim) (fun _ _ h => h) (fun _ h => .inl h)
theorem IBx.ext {X : Nat → Prop} {w w' : World} {ib mb : Nat} {text : List UInt8} {r s lim : Nat} {kn : Bool} (h : IBx X w ib mb text r s lim kn) (hE : Ext w w') : IBx X w' ib mb text r s lim kn := h.go hE (fun _ h => h.elim) (fun _ _ h => h) (fun _ h => .inl h)
theorem en_lost {n m : Nat} {en : Int} (hen : en = 1 ∨ en = 3) : (if m = n then 3 else (if m = n then 2 else en)) = 1 ∨ (if m = n then (3 : Int) else (if m = n then 2 else en)) = 3 := by
  by_cases h : m = n
  · simp [h]
  · simp only [if_neg h]; exact hen
theorem en_acked {n m : Nat} {en : Int} (hen : en = 1 ∨ en = 3) (hm : m ≤ n) : ((if m = n then (4 : Int) else (if m = n then 2 else en)) = 4 ∧ m = n) ∨ (((if m = n then (4 : Int) else (if m = n then 2 else en)) = 1 ∨ (if m = n then (4 : Int) else (if m = n then 2 else en)) = 3) ∧ m < n) := by
  by_cases h : m = n
  · exact .inl ⟨if_pos h, h⟩
  · simp only [if_neg h]; exact .inr ⟨hen, by omega⟩
theorem en_acked2 {n m : Nat} {en : Int} (hen : en = 1 ∨ en = 3) (hm : m ≤ n) : ((if m = n then (4 : Int) else (if m = n then 3 else (if m = n then 2 else en))) = 4 ∧ m = n) ∨ (((if m = n then (4 : Int) else (if m = n then 3 else (if m = n then 2 else en))) = 1 ∨ (if m = n then (4 : Int) else (if m = n then 3 else (if m = n then 2 else en))) = 3) ∧ m < n) := by
  by_cases h : m = n
  · exact .inl ⟨if_pos h, h⟩
  · simp only [if_neg h]; exact .inr ⟨hen, by omega⟩
theorem apart_next {L : Blocks} {F F' : Nat → Prop} {B : Nat} (h : ∀ p ∈ L, ¬ F p.1) (hn : ∀ z, F' z → F z ∨ B ≤ z) (hl : ∀ p ∈ L, p.1 < B) : ∀ p ∈ L, ¬ F' p.1 := fun p hp hf => (hn _ hf).elim (h p hp) (fun h9 => by have := hl p hp; omega)
theorem FP_nil {ob gb hb z : Nat} (h : FP ob gb hb (.slice none 0 0) (.slice none 0 0) z) : z = ob ∨ z = gb ∨ z = hb := by
  rcases h with h | (h | ⟨_, _, h⟩) | (h | ⟨_, _, h⟩)
  · exact .inl h
  · exact .inr (.inl h)
  · cases h
  · exact .inr (.inr h)
  · cases h
theorem take_app {α : Type} (t : List α) {r s : Nat} (h : r ≤ s) : t.take r ++ (t.drop r).take (s - r) = t.take s := by
  rw [← List.take_add, show r + (s - r) = s from by omega]
set_option maxRecDepth 100000 in
set_option maxHeartbeats 16000000 in
theorem arrives_law (tv : Value) (text : List UInt8) (hl : text.length ≤ 1048576) (fq : Option Addr) (fqc : Nat) (fs : List FaT) (hfl : fs.length ≤ 1099511627776) (w0 : World) (hb0 : BsF Nobody w0 tv text) (hfs : Fas w0 fq fs) : Calls Try.prog 5 #[tv, .slice fq fs.length fqc] w0 fun e w' => e = .returned (.bool true) ∧ Ext w0 w' := by
  refine enter Try.func5 rfl rfl rfl ?_
  intro a hS
  have hH := Hp.start w0 (Nobody)
  obtain ⟨tq, tqc, hst⟩ := hb0.bs
  have htv := hst.val
  have htc := hst.le
  have htn := hst.nil
  subst htv
  obtain ⟨SS, hSS⟩ : ∃ s : Nat → Prop, s = Nobody := ⟨_, rfl⟩
  rw [← hSS] at hH
  have hX : ∀ {u w : World}, Mod SS u w → Ext u w := fun h => by rw [hSS] at h; exact h
  obtain ⟨wB, hwB⟩ : ∃ z, z = w0 := ⟨_, rfl⟩
  have hb0B : BsF Nobody wB (.slice tq text.length tqc) text := by rw [hwB]; exact hb0
  have hfsB : Fas wB fq fs := by rw [hwB]; exact hfs
  refine c_seq ?_
  refine reg_plain w0 (SS) ?_
  refine r_assign hS hH.kp0 rfl rfl ?_; clear hS; intro a hS
  refine Sq.nil ?_
  refine then_n ?_
  refine c_seq ?_
  refine c_seq ?_
  refine reg_plain w0 (SS) ?_
  refine r_move hS hH.kp0 rfl rfl ?_; clear hS; intro a hS
  refine r_lenSl hS hH.kp0 rfl Fc.isSlice22 rfl ?_; clear hS; intro a hS
  refine r_gtr hS hH.kp0 rfl rfl rfl ?_; clear hS; intro a hS
  refine Sq.nil ?_
  refine then_n ?_
  refine c_condF hS rfl (DF (by omega)) ?_
  refine wp_skip ?_
  refine then_n ?_
  refine c_seq ?_
  refine reg_plain w0 (SS) ?_
  refine r_move hS hH.kp0 rfl rfl ?_; clear hS; intro a hS
  refine r_lenSl hS hH.kp0 rfl Fc.isSlice22 rfl ?_; clear hS; intro a hS
  refine r_call (l := [.tmp 24]) hS rfl rfl Fc.fn6 rfl ?_
  refine Calls.mono (New_c text.length hl _) ?_
  rintro e w1 ⟨ob, gb, hb, rfl, hgb0, hgh, hho, hok, hgk, hhk, hE⟩
  replace hH := (((hH.ext hE).know hhk (fun p hp => by simp at hp)).know hgk (by intro p hp; simp only [List.mem_cons, List.not_mem_nil, or_false] at hp; subst hp; dsimp only; omega)).know hok (by intro p hp; simp only [List.mem_cons, List.not_mem_nil, or_false] at hp; rcases hp with rfl | rfl <;> dsimp only <;> omega)
  refine ⟨_, rfl, hH.kp0, ?_⟩
  clear hS; intro a hS
  refine r_move hS hH.kp0 rfl rfl ?_; clear hS; intro a hS
  refine r_extract hS hH.kp0 rfl rfl rfl ?_; clear hS; intro a hS
  refine r_extract hS hH.kp0 rfl rfl rfl ?_; clear hS; intro a hS
  refine r_assign hS hH.kp0 rfl rfl ?_; clear hS; intro a hS
  refine r_assign hS hH.kp0 rfl rfl ?_; clear hS; intro a hS
  refine Sq.nil ?_
  refine then_n ?_
  refine c_seq ?_
  refine reg_plain w0 (SS) ?_
  refine r_move hS hH.kp0 rfl rfl ?_; clear hS; intro a hS
  refine r_lenSl hS hH.kp0 rfl Fc.isSlice22 rfl ?_; clear hS; intro a hS
  refine r_call (l := [.tmp 30]) hS rfl rfl Fc.fn24 rfl ?_
  have hobs := lt_of_block (hH.get (b := ob) (by repeat (first | exact .here | apply In.there | apply Put.there | apply Del.there)))
  have hEa := hX hH.mod
  have hsza := hEa.size
  refine Calls.mono (iNew_c text.length hl _) ?_
  rintro e w1 ⟨ib, mb, rfl, hmb0, hib0, hmi, hik0, hmk0, hE⟩
  replace hH := ((hH.ext hE).know hmk0 (by intro p hp; simp only [List.mem_cons, List.not_mem_nil, or_false] at hp; rcases hp with rfl | rfl | rfl <;> dsimp only <;> omega)).know hik0 (by intro p hp; simp only [List.mem_cons, List.not_mem_nil, or_false] at hp; rcases hp with rfl | rfl | rfl | rfl <;> dsimp only <;> omega)
  refine ⟨_, rfl, hH.kp0, ?_⟩
  clear hS; intro a hS
  refine r_move hS hH.kp0 rfl rfl ?_; clear hS; intro a hS
  refine r_extract hS hH.kp0 rfl rfl rfl ?_; clear hS; intro a hS
  refine r_extract hS hH.kp0 rfl rfl rfl ?_; clear hS; intro a hS
  refine r_assign hS hH.kp0 rfl rfl ?_; clear hS; intro a hS
  refine r_assign hS hH.kp0 rfl rfl ?_; clear hS; intro a hS
  refine Sq.nil ?_
  refine then_n ?_
  refine c_seq ?_
  refine c_seq ?_
  refine reg_plain w0 (SS) ?_
  refine r_move hS hH.kp0 rfl rfl ?_; clear hS; intro a hS
  refine r_neq hS hH.kp0 rfl rfl rfl ?_; clear hS; intro a hS
  refine r_move hS hH.kp0 rfl rfl ?_; clear hS; intro a hS
  refine Sq.guardYes hS rfl rfl rfl ?_
  refine r_move hS hH.kp0 rfl rfl ?_; clear hS; intro a hS
  refine Sq.guardYes hS rfl rfl rfl ?_
  refine r_neq hS hH.kp0 rfl rfl rfl ?_; clear hS; intro a hS
  refine r_pickF hS hH.kp0 rfl rfl rfl rfl ?_; clear hS; intro a hS
  refine r_move hS hH.kp0 rfl rfl ?_; clear hS; intro a hS
  refine Sq.guardYes hS rfl rfl rfl ?_
  refine r_move hS hH.kp0 rfl rfl ?_; clear hS; intro a hS
  refine Sq.guardYes hS rfl rfl rfl ?_
  refine r_ptrNil hS hH.kp0 rfl Fc.isPtr23 rfl ?_; clear hS; intro a hS
  refine r_pickF hS hH.kp0 rfl rfl rfl rfl ?_; clear hS; intro a hS
  refine r_move hS hH.kp0 rfl rfl ?_; clear hS; intro a hS
  refine Sq.guardYes hS rfl rfl rfl ?_
  refine r_move hS hH.kp0 rfl rfl ?_; clear hS; intro a hS
  refine Sq.guardYes hS rfl rfl rfl ?_
  refine r_ptrNil hS hH.kp0 rfl Fc.isPtr58 rfl ?_; clear hS; intro a hS
  refine r_pickF hS hH.kp0 rfl rfl rfl rfl ?_; clear hS; intro a hS
  refine Sq.nil ?_
  refine then_n ?_
  refine c_condF hS rfl rfl ?_
  refine wp_skip ?_
  refine then_n ?_
  refine c_seq ?_
  refine reg_plain w0 (SS) ?_
  refine r_move hS hH.kp0 rfl rfl ?_; clear hS; intro a hS
  refine r_move hS hH.kp0 rfl rfl ?_; clear hS; intro a hS
  refine r_call (l := [.tmp 49, .tmp 50]) hS rfl rfl Fc.fn7 rfl ?_
  have hob7 := lt_of_block (hH.get (b := ob) (by repeat (first | exact .here | apply In.there | apply Put.there | apply Del.there)))
  have hgb7 := lt_of_block (hH.get (b := gb) (by repeat (first | exact .here | apply In.there | apply Put.there | apply Del.there)))
  have hhb7 := lt_of_block (hH.get (b := hb) (by repeat (first | exact .here | apply In.there | apply Put.there | apply Del.there)))
  have hib7 := lt_of_block (hH.get (b := ib) (by repeat (first | exact .here | apply In.there | apply Put.there | apply Del.there)))
  have hmb7 := lt_of_block (hH.get (b := mb) (by repeat (first | exact .here | apply In.there | apply Put.there | apply Del.there)))
  refine Calls.mono (oWrite ob gb hb tqc tq text hl _ (hb0.go (hX hH.mod) (fun z hz => .inr (by have e : z = ob := hz; omega))) (hH.get (b := ob) (by repeat (first | exact In.here | refine In.there ?_)))) ?_
  rintro e w1 ⟨q, kc, rfl, hok2, hkb, hkz, hm2⟩
  have hsz7 := hm2.size
  replace hH := hH.upd (by repeat (first | exact .here | apply In.there | apply Put.there | apply Del.there)) hm2 hok2 (.inr (by omega))
  refine ⟨_, rfl, hH.kp0, ?_⟩
  clear hS; intro a hS
  refine r_move hS hH.kp0 rfl rfl ?_; clear hS; intro a hS
  refine r_extract hS hH.kp0 rfl rfl rfl ?_; clear hS; intro a hS
  refine r_extract hS hH.kp0 rfl rfl rfl ?_; clear hS; intro a hS
  refine r_assign hS hH.kp0 rfl rfl ?_; clear hS; intro a hS
  refine r_assign hS hH.kp0 rfl rfl ?_; clear hS; intro a hS
  refine Sq.nil ?_
  refine then_n ?_
  refine c_seq ?_
  refine c_seq ?_
  refine reg_plain w0 (SS) ?_
  refine r_move hS hH.kp0 rfl rfl ?_; clear hS; intro a hS
  refine r_move hS hH.kp0 rfl rfl ?_; clear hS; intro a hS
  refine r_lenSl hS hH.kp0 rfl Fc.isSlice22 rfl ?_; clear hS; intro a hS
  refine r_neq hS hH.kp0 rfl rfl rfl ?_; clear hS; intro a hS
  refine r_move hS hH.kp0 rfl rfl ?_; clear hS; intro a hS
  refine Sq.guardYes hS rfl rfl (bne_self_eq_false _) ?_
  refine r_move hS hH.kp0 rfl rfl ?_; clear hS; intro a hS
  refine Sq.guardYes hS rfl rfl (bne_self_eq_false _) ?_
  refine r_neq hS hH.kp0 rfl rfl rfl ?_; clear hS; intro a hS
  refine r_pickF hS hH.kp0 rfl (bne_self_eq_false _) rfl rfl ?_; clear hS; intro a hS
  refine r_move hS hH.kp0 rfl rfl ?_; clear hS; intro a hS
  refine Sq.guardYes hS rfl rfl rfl ?_
  refine r_move hS hH.kp0 rfl rfl ?_; clear hS; intro a hS
  refine Sq.guardYes hS rfl rfl rfl ?_
  refine r_call (l := [.tmp 63]) hS rfl rfl Fc.fn15 rfl ?_
  refine Calls.mono (Finish_c ob gb hb text.length 0 0 text.length kc q _ (hH.get (b := ob) (by repeat (first | exact In.here | refine In.there ?_)))) ?_
  rintro e w1 ⟨rfl, hok3, hm3⟩
  replace hkb := hkb.go (F' := fun z => FP ob gb hb (.slice none 0 0) (.slice none 0 0) z ∨ z = ib ∨ z = mb) (hm3.mono (fun z h => by have e : z = ob := h; rw [e]; exact hob7)) (fun z h => .inl (by rcases h with h | h | h; (rcases FP_nil h with h | h | h; (rw [h]; exact hob7); (rw [h]; exact hgb7); (rw [h]; exact hhb7)); (rw [h]; exact hib7); (rw [h]; exact hmb7)))
  replace hH := hH.upd (by repeat (first | exact .here | apply In.there | apply Put.there | apply Del.there)) hm3 hok3 (.inr (by omega))
  refine ⟨_, rfl, hH.kp0, ?_⟩
  clear hS; intro a hS
  refine Sq.guardYes hS rfl rfl rfl ?_
  refine r_neq hS hH.kp0 rfl rfl rfl ?_; clear hS; intro a hS
  refine r_pickF hS hH.kp0 rfl rfl rfl rfl ?_; clear hS; intro a hS
  refine Sq.nil ?_
  have hwBs : wB.heap.size = w0.heap.size := by rw [hwB]
  have hibB : wB.heap.size ≤ ib := by omega
  have hmbB : wB.heap.size ≤ mb := by omega
  have hO0 : OB (fun z => z = ib ∨ z = mb) w1 ob gb hb text 0 0 0 1 (.slice none 0 0) (.slice none 0 0) q kc := ⟨(hH.get (b := ob) (by repeat (first | exact .here | apply In.there | apply Put.there | apply Del.there))), ⟨(hH.get (b := gb) (by repeat (first | exact .here | apply In.there | apply Put.there | apply Del.there))), .inl ⟨rfl, rfl, rfl⟩⟩, ⟨(hH.get (b := hb) (by repeat (first | exact .here | apply In.there | apply Put.there | apply Del.there))), .inl ⟨rfl, rfl, rfl⟩⟩, hkb, fun h => ⟨(hkz h).1, (hkz h).2, rfl, rfl⟩, fun z h e => (by rcases h with h | ⟨_, _, h⟩; omega; cases h), fun z h e => (by rcases h with h | ⟨_, _, h⟩; omega; cases h), fun z h k => (by rcases h with h | ⟨_, _, h⟩; (rcases k with k | ⟨_, _, k⟩; omega; cases k); cases h)⟩
  have hI0 : IBx (FP ob gb hb (.slice none 0 0) (.slice none 0 0)) w1 ib mb text 0 0 text.length false := ⟨(hH.get (b := ib) (by repeat (first | exact .here | apply In.there | apply Put.there | apply Del.there))), ⟨[], 0, MapL.nil, .nil, (hH.get (b := mb) (by repeat (first | exact .here | apply In.there | apply Put.there | apply Del.there)))⟩, hmi⟩
  have hnw0 : ∀ z, FP ob gb hb (.slice none 0 0) (.slice none 0 0) z → wB.heap.size ≤ z := fun z h => by rcases FP_nil h with h | h | h <;> omega
  have hap0 : ∀ z, FP ob gb hb (.slice none 0 0) (.slice none 0 0) z → ¬ (z = ib ∨ z = mb) := fun z h k => by rcases FP_nil h with h | h | h <;> omega
  refine then_n ?_
  refine c_condF hS rfl rfl ?_
  refine wp_skip ?_
  refine then_n ?_
  refine c_seq ?_
  refine reg_plain w0 (SS) ?_
  refine r_assign hS hH.kp0 rfl rfl ?_; clear hS; intro a hS
  refine Sq.nil ?_
  refine then_n ?_
  refine c_seq ?_
  refine c_seq ?_
  refine reg_plain w0 (SS) ?_
  refine r_assign hS hH.kp0 rfl rfl ?_; clear hS; intro a hS
  refine Sq.nil ?_
  refine then_n ?_
  refine wp_block ?_
  refine c_loop (fun mm a w => ∃ (i k g r s lim : Nat) (en : Int) (kn : Bool) (v hv : Value) (q : Option Addr) (kc : Nat), mm + i = fs.length + text.length + 3 ∧ (en ≠ 4 → i ≤ fs.length + k) ∧ ((en = 4 ∧ k = text.length) ∨ ((en = 1 ∨ en = 3) ∧ (k < text.length ∨ text.length = 0))) ∧ k ≤ r ∧ r ≤ s ∧ s ≤ text.length ∧ k ≤ g ∧ g ≤ text.length ∧ text.length ≤ lim ∧ lim ≤ 2097152 ∧ (en = 4 → kn = true) ∧ OB (fun z => z = ib ∨ z = mb) w ob gb hb text k k g en v hv q kc ∧ IBx (FP ob gb hb v hv) w ib mb text r s lim kn ∧ (∀ z, FP ob gb hb v hv z → wB.heap.size ≤ z) ∧ (∀ z, FP ob gb hb v hv z → ¬ (z = ib ∨ z = mb)) ∧ St 215 (lv [(0, .slice tq text.length tqc), (1, .slice fq fs.length fqc), (4, .bool false), (5, .pointer (some ⟨ob, 0, none⟩)), (7, .pointer (some ⟨ib, 0, none⟩)), (10, .string (strOf (text.take r))), (11, .int .i64 (i : Int))]) a ∧ Hp wB Nobody [] w) (fs.length + text.length + 3) ?_ ?_
  · exact ⟨0, 0, 0, 0, 0, text.length, 1, false, .slice none 0 0, .slice none 0 0, q, kc, by omega, fun _ => by omega, .inr ⟨.inl rfl, by omega⟩, Nat.le_refl _, Nat.le_refl _, Nat.zero_le _, Nat.le_refl _, Nat.zero_le _, Nat.le_refl _, by omega, fun h => absurd h (by decide), hO0, hI0, hnw0, hap0, hS.live ⟨rfl, rfl, rfl, rfl, rfl, rfl, rfl, trivial⟩, ⟨by simp, by simp, by rw [hwB]; exact hX hH.mod⟩⟩
  clear hS hH; intro mm a w hI
  obtain ⟨i, k, g, r, s, lim, en, kn, v, hv, q, kc, hmm, hik, hst4, hkr, hrs, hsn, hkg, hgn, hnl, hlm, hkn4, hO, hIx, hnw, hap, hS, hHB⟩ := hI
  have hmB := hHB.mod
  obtain ⟨w0, rfl⟩ : ∃ z, z = w := ⟨_, rfl⟩
  have hH := Hp.start w0 SS
  have hF1 := hO.lt
  have hX1 := hIx.lt
  have hbs1 := hmB.size
  rcases hst4 with ⟨h4, hk4⟩ | hst4
  · have hkt := hkn4 h4
    subst hkt
    subst h4
    have hsk : s = text.length := by omega
    have hfit : fits 4 := ⟨by decide, by decide⟩
    have h44 : (4 : Int) = 4 → k = text.length := fun _ => hk4
    refine c_seq ?_
    refine c_seq ?_
    refine reg_plain w0 (SS) ?_
    refine r_move hS hH.kp0 rfl rfl ?_; clear hS; intro a hS
    refine r_call (l := [.tmp 67]) hS rfl rfl Fc.fn11 rfl ?_
    refine Calls.mono (hO.done hl hfit h44) ?_
    rintro e w1 ⟨rfl, hE⟩
    replace hH := hH.ext hE
    refine ⟨_, rfl, hH.kp0, ?_⟩
    clear hS; intro a hS
    refine r_not hS hH.kp0 rfl rfl ?_; clear hS; intro a hS
    refine Sq.nil ?_
    refine then_n ?_
    refine c_condF hS rfl rfl ?_
    refine wp_exit ?_
    refine then_e ?_
    refine then_e ?_
    refine blk_hit ?_
    refine then_n ?_
    refine c_seq ?_
    have hIw := hIx.ext (hX hH.mod)
    replace hH := hH.wide (S' := fun z => z = ib ∨ z = mb) (fun z h => by rw [hSS] at h; exact h.elim)
    refine reg_plain w0 (fun z => z = ib ∨ z = mb) ?_
    refine r_move hS hH.kp0 rfl rfl ?_; clear hS; intro a hS
    refine r_move hS hH.kp0 rfl rfl ?_; clear hS; intro a hS
    refine r_lenSl hS hH.kp0 rfl Fc.isSlice22 rfl ?_; clear hS; intro a hS
    refine r_call (l := [.tmp 199, .tmp 201]) hS rfl rfl Fc.fn26 rfl ?_
    refine Calls.mono (iRead hIw hl hrs hsn) ?_
    rintro e w1 ⟨x, rfl, hbx, hI2, hM2⟩
    replace hH := hH.past hM2 (by intro p hp; simp at hp) (fun _ h => h)
    refine ⟨_, rfl, hH.kp0, ?_⟩
    clear hS; intro a hS
    rw [show (true && ((s : Int) == if true = true then (text.length : Int) else 0)) = true from by rw [if_pos rfl, hsk]; simp] at hS
    refine r_move hS hH.kp0 rfl rfl ?_; clear hS; intro a hS
    refine r_extract hS hH.kp0 rfl rfl rfl ?_; clear hS; intro a hS
    refine r_extract hS hH.kp0 rfl rfl rfl ?_; clear hS; intro a hS
    refine r_assign hS hH.kp0 rfl rfl ?_; clear hS; intro a hS
    refine r_assign hS hH.kp0 rfl rfl ?_; clear hS; intro a hS
    refine Sq.nil ?_
    refine then_n ?_
    refine c_seq ?_
    have hEB2 : ∀ {w : World}, Mod (fun z => z = ib ∨ z = mb) w0 w → Ext wB w := fun h => hmB.trans h (fun z hz h => by rcases h with h | h <;> omega)
    refine reg_plain w0 (fun z => z = ib ∨ z = mb) ?_
    refine r_move hS hH.kp0 rfl rfl ?_; clear hS; intro a hS
    refine r_move hS hH.kp0 rfl rfl ?_; clear hS; intro a hS
    refine Sq.guardYes hS rfl rfl rfl ?_
    refine r_move hS hH.kp0 rfl rfl ?_; clear hS; intro a hS
    refine Sq.guardYes hS rfl rfl rfl ?_
    refine r_move hS hH.kp0 rfl rfl ?_; clear hS; intro a hS
    refine Sq.guardYes hS rfl rfl rfl ?_
    refine r_bytesStr hS hH.kp0 rfl hbx Fc.u8s22 Fc.isStr9 rfl ?_; clear hS; intro a hS
    refine Sq.guardYes hS rfl rfl rfl ?_
    refine r_strAdd (u := text.take r) (v := (text.drop r).take (s - r)) hS hH.kp0 rfl rfl rfl (by rw [List.length_take, List.length_take, List.length_drop]; omega) ?_; clear hS; intro a hS
    rw [take_app text hrs, hsk, List.take_length] at hS
    refine Sq.guardYes hS rfl rfl rfl ?_
    refine r_move hS hH.kp0 rfl rfl ?_; clear hS; intro a hS
    refine Sq.guardYes hS rfl rfl rfl ?_
    refine r_bytesStr hS hH.kp0 rfl (hb0B _ (hEB2 hH.mod)) Fc.u8s22 Fc.isStr9 rfl ?_; clear hS; intro a hS
    refine Sq.guardYes hS rfl rfl rfl ?_
    refine r_strEql hS hH.kp0 rfl rfl rfl ?_; clear hS; intro a hS
    rw [beq_self_eq_true] at hS
    refine r_pickT hS hH.kp0 rfl rfl rfl rfl ?_; clear hS; intro a hS
    refine r_assign hS hH.kp0 rfl rfl ?_; clear hS; intro a hS
    refine Sq.nil ?_
    refine then_n ?_
    refine wp_ret ?_
    refine leave (.inl rfl) hS rfl (Res.tmp rfl Res.nil) ⟨rfl, ?_⟩
    rw [← hwB]
    exact hEB2 hH.mod
  · obtain ⟨hen, hkn0⟩ := hst4
    have hfit : fits en := by rcases hen with rfl | rfl <;> exact ⟨by decide, by decide⟩
    have h44 : en = 4 → k = text.length := fun h => by omega
    have hik := hik (by omega)
    refine c_seq ?_
    refine c_seq ?_
    refine reg_plain w0 (SS) ?_
    refine r_move hS hH.kp0 rfl rfl ?_; clear hS; intro a hS
    refine r_call (l := [.tmp 67]) hS rfl rfl Fc.fn11 rfl ?_
    refine Calls.mono (hO.done hl hfit h44) ?_
    rintro e w1 ⟨rfl, hE⟩
    replace hH := hH.ext hE
    refine ⟨_, rfl, hH.kp0, ?_⟩
    clear hS; intro a hS
    refine r_not hS hH.kp0 rfl rfl ?_; clear hS; intro a hS
    refine Sq.nil ?_
    refine then_n ?_
    refine c_condT hS rfl (by rcases hen with rfl | rfl <;> rfl) ?_
    refine wp_skip ?_
    refine then_n ?_
    refine c_seq ?_
    refine wp_block ?_
    refine c_seq ?_
    refine c_seq ?_
    refine reg_plain w0 (SS) ?_
    refine r_move hS hH.kp0 rfl rfl ?_; clear hS; intro a hS
    refine r_move hS hH.kp0 rfl rfl ?_; clear hS; intro a hS
    refine r_lenSl hS hH.kp0 rfl Fc.isSlice57 rfl ?_; clear hS; intro a hS
    refine r_move hS hH.kp0 rfl rfl ?_; clear hS; intro a hS
    refine r_lenSl hS hH.kp0 rfl Fc.isSlice22 rfl ?_; clear hS; intro a hS
    (first | refine r_add hS hH.kp0 rfl rfl rfl (by omega) ?_ | refine r_addw hS hH.kp0 rfl rfl rfl ?_)
    clear hS; intro a hS
    (first | refine r_add hS hH.kp0 rfl rfl rfl (by omega) ?_ | refine r_addw hS hH.kp0 rfl rfl rfl ?_)
    clear hS; intro a hS
    refine r_gtr hS hH.kp0 rfl rfl rfl ?_; clear hS; intro a hS
    refine Sq.nil ?_
    refine then_n ?_
    refine c_condF hS rfl (DF (by omega)) ?_
    refine wp_skip ?_
    refine then_n ?_
    refine c_seq ?_
    refine reg_plain w0 (SS) ?_
    refine r_move hS hH.kp0 rfl rfl ?_; clear hS; intro a hS
    refine r_lenSl hS hH.kp0 rfl Fc.isSlice22 rfl ?_; clear hS; intro a hS
    refine r_buildS (parts := [(0, .tmp 81)]) hS hH.kp0 rfl rfl Fc.zc62 Fc.pl62 (by rfl) ?_; clear hS; intro a hS
    refine r_alloc hS hH (by repeat (first | exact Sub.nil | refine Sub.cons ?_ ?_ | exact In.here | refine In.there ?_)) Fc.zc62 rfl ?_
    clear hS hH; intro a w b12 hb12 hwb12 hS hH
    refine r_store_row hS hH rfl rfl (by repeat (first | exact .here | apply In.there | apply Put.there | apply Del.there)) (by repeat (first | exact Sub.nil | refine Sub.cons ?_ ?_ | exact In.here | refine In.there ?_)) Fc.sz62 (by first | exact hcells_one _ | exact of_decide_eq_true rfl) (by rfl) (by first | exact .inr (by assumption) | exact .inl (by first | assumption | rfl)) ?_
    clear hH; intro w hH
    refine Sq.nil ?_
    refine then_n ?_
    refine c_cut (fun a w => ∃ (mo : Nat) (lo tw : Bool) (b12 : Nat), (1 ≤ mo ∨ text.length = 0) ∧ mo ≤ 1099511627776 ∧ (lo = true → i < fs.length) ∧ w0.heap.size ≤ b12 ∧ St 215 (lv [(0, .slice tq text.length tqc), (1, .slice fq fs.length fqc), (4, .bool false), (5, .pointer (some ⟨ob, 0, none⟩)), (7, .pointer (some ⟨ib, 0, none⟩)), (10, .string (strOf (text.take r))), (11, .int .i64 (i : Int)), (12, .pointer (some ⟨b12, 0, none⟩))]) a ∧ Hp w0 SS [(b12, .cells ([.int .i64 (mo : Int), .bool lo, .bool tw] : List Value).toArray 62 (0, 0))] w) ?_ ?_
    · refine c_seq ?_
      refine reg_plain w0 (SS) ?_
      refine r_move hS hH.kp0 rfl rfl ?_; clear hS; intro a hS
      refine r_move hS hH.kp0 rfl rfl ?_; clear hS; intro a hS
      refine r_lenSl hS hH.kp0 rfl Fc.isSlice57 rfl ?_; clear hS; intro a hS
      refine r_lss hS hH.kp0 rfl rfl rfl ?_; clear hS; intro a hS
      refine Sq.nil ?_
      refine then_n ?_
      refine c_cond hS rfl (fun hc5 => ?_) (fun hc5 => ?_)
      · have hilt : i < fs.length := by have := of_decide_eq_true hc5; omega
        obtain ⟨x, hx⟩ : ∃ x, fs[i]? = some x := ⟨_, List.getElem?_eq_getElem hilt⟩
        obtain ⟨fb, fo, hfq, hfc⟩ := hfsB i x hx
        subst hfq
        have hfb : fb < wB.heap.size := World.block_lt_of_cell? _ _ (hfc 0 _ rfl)
        have hcell : ∀ w, Ext w0 w → ∀ (j : Nat) (u : Value), ([.int .i64 x.m, .bool x.lo, .bool x.tw] : List Value)[j]? = some u → w.cell? ⟨fb, fo + i * 3 + j, none⟩ = some u := fun w hE j u hu => hE.cell_some (hmB.cell_some (hfc j u hu) (fun h => h))
        refine c_seq ?_
        refine reg_plain w0 (SS) ?_
        refine r_move hS hH.kp0 rfl rfl ?_; clear hS; intro a hS
        refine r_move hS hH.kp0 rfl rfl ?_; clear hS; intro a hS
        refine r_indexAddrS (j := i) hS hH.kp0 rfl rfl Fc.slb57 rfl hilt rfl ?_; clear hS; intro a hS
        refine r_load_cells (l := [.int .i64 x.m, .bool x.lo, .bool x.tw]) hS hH.kp0 rfl Fc.ag62 rfl (hcell _ (hX hH.mod)) rfl ?_; clear hS; intro a hS
        refine r_store_row hS hH rfl rfl (by repeat (first | exact .here | apply In.there | apply Put.there | apply Del.there)) (by repeat (first | exact Sub.nil | refine Sub.cons ?_ ?_ | exact In.here | refine In.there ?_)) Fc.sz62 (by first | exact hcells_one _ | exact of_decide_eq_true rfl) (by rfl) (by first | exact .inr (by assumption) | exact .inl (by first | assumption | rfl)) ?_
        clear hH; intro w hH
        refine Sq.nil ?_
        refine then_n ?_
        refine reg_plain w0 (SS) ?_
        refine r_fieldAddr hS hH.kp0 rfl Fc.fo62_0 rfl ?_; clear hS; intro a hS
        refine r_load_sc hS hH (by repeat (first | exact Sub.nil | refine Sub.cons ?_ ?_ | exact In.here | refine In.there ?_)) rfl (by repeat (first | exact In.here | refine In.there ?_)) Fc.sc3 (by rfl) rfl ?_; clear hS; intro a hS
        refine r_andLe 255 hS hH.kp0 rfl rfl (by decide) rfl ?_; clear hS; intro a e1 he1 hS
        refine r_addN0 (m := 1) (k := e1) hS hH.kp0 rfl rfl (by omega) rfl ?_; clear hS; intro a hS
        refine r_fieldAddr hS hH.kp0 rfl Fc.fo62_0 rfl ?_; clear hS; intro a hS
        refine r_store1 hS hH rfl rfl rfl (by repeat (first | exact .here | apply In.there | apply Put.there | apply Del.there)) (by repeat (first | exact Sub.nil | refine Sub.cons ?_ ?_ | exact In.here | refine In.there ?_)) Fc.sz3 (of_decide_eq_true rfl) (by first | exact .inr (by assumption) | exact .inl (by first | assumption | rfl)) ?_
        clear hH; intro w hH
        refine Sq.nil ?_
        refine then_n ?_
        first
          | exact ⟨1 + e1, x.lo, x.tw, b12, .inl (by omega), by omega, fun _ => hilt, by assumption, hS.live ⟨rfl, rfl, rfl, rfl, rfl, rfl, rfl, rfl, trivial⟩, hH⟩
          | exact ⟨text.length, false, false, b12, by omega, by omega, (fun h => by cases h), by assumption, hS.live ⟨rfl, rfl, rfl, rfl, rfl, rfl, rfl, rfl, trivial⟩, hH⟩
      · have hige : ¬ i < fs.length := by have := of_decide_eq_false hc5; omega
        refine wp_skip ?_
        refine then_n ?_
        first
          | exact ⟨1 + e1, x.lo, x.tw, b12, .inl (by omega), by omega, fun _ => hilt, by assumption, hS.live ⟨rfl, rfl, rfl, rfl, rfl, rfl, rfl, rfl, trivial⟩, hH⟩
          | exact ⟨text.length, false, false, b12, by omega, by omega, (fun h => by cases h), by assumption, hS.live ⟨rfl, rfl, rfl, rfl, rfl, rfl, rfl, rfl, trivial⟩, hH⟩
    clear hS hH; intro a w hJ; obtain ⟨mo, lo, tw, b12, hmo1, hmo2, hlo, hb12, hS, hH⟩ := hJ
    refine c_seq ?_
    have hEw : Ext w0 w := hX hH.mod
    have hOw := hO.ext hEw
    have hIw := hIx.ext hEw
    have hwsz := hEw.size
    have hb12w := lt_of_block (hH.get (b := b12) .here)
    replace hH := hH.wide (S' := FP ob gb hb v hv) (fun z h => by rw [hSS] at h; exact h.elim)
    refine reg_plain w0 (FP ob gb hb v hv) ?_
    refine r_move hS hH.kp0 rfl rfl ?_; clear hS; intro a hS
    refine r_fieldAddr hS hH.kp0 rfl Fc.fo62_0 rfl ?_; clear hS; intro a hS
    refine r_load_sc hS hH (by repeat (first | exact Sub.nil | refine Sub.cons ?_ ?_ | exact In.here | refine In.there ?_)) rfl (by repeat (first | exact In.here | refine In.there ?_)) Fc.sc3 (by rfl) rfl ?_; clear hS; intro a hS
    refine r_move hS hH.kp0 rfl rfl ?_; clear hS; intro a hS
    refine r_lenSl hS hH.kp0 rfl Fc.isSlice22 rfl ?_; clear hS; intro a hS
    refine r_call (l := [.tmp 97, .tmp 99, .tmp 101]) hS rfl rfl Fc.fn8 rfl ?_
    refine Calls.mono (oNext hOw hl hkn0 hkg hgn hen mo hmo1 hmo2 hIw.lt) ?_
    rintro e w1 ⟨m, dq, cap, v2, hm1, hm2, rfl, hdz, hbp, hO2, hnew, hM2⟩
    have hsz20 := hM2.size
    replace hH := hH.past hM2 (by intro p hp hz; simp only [List.mem_cons, List.not_mem_nil, or_false] at hp; subst hp; have h8 := hF1 _ hz; dsimp only at h8; omega) (fun _ h => h)
    refine ⟨_, rfl, hH.kp0, ?_⟩
    clear hS; intro a hS
    refine r_move hS hH.kp0 rfl rfl ?_; clear hS; intro a hS
    refine r_extract hS hH.kp0 rfl rfl rfl ?_; clear hS; intro a hS
    refine r_extract hS hH.kp0 rfl rfl rfl ?_; clear hS; intro a hS
    refine r_allocE hS hH (by repeat (first | exact Sub.nil | refine Sub.cons ?_ ?_ | exact In.here | refine In.there ?_)) Fc.zc30 rfl ?_
    clear hS hH; intro a w b13 hb13 hwb13 hE9 hS hH
    refine r_store_rowM hS hH rfl rfl (by repeat (first | exact .here | apply In.there | apply Put.there | apply Del.there)) (by repeat (first | exact Sub.nil | refine Sub.cons ?_ ?_ | exact In.here | refine In.there ?_)) Fc.sz30 (by first | exact hcells_one _ | exact of_decide_eq_true rfl) (by rfl) (.inr (by assumption)) ?_
    clear hH; intro w hM10 hH
    refine r_assign hS hH.kp0 rfl rfl ?_; clear hS; intro a hS
    refine Sq.nil ?_
    have hE10 : Ext w1 w := Mod.trans hE9 hM10 (fun z hz hb => absurd hb (by omega))
    have hM0 := hH.mod
    have hO3 := hO2.ext hE10
    have hbp3 := hbp.go (hE10.mono (fun _ h => h.elim)) (fun _ h => .inl h)
    have hI3 := (hIw.go hM2 (fun _ h => h) (fun z h hz => hap z hz h) hnew).ext hE10
    have hnw2 : ∀ z, FP ob gb hb v2 hv z → wB.heap.size ≤ z := fun z hz => (hnew z hz).elim (hnw z) (fun h => by omega)
    have hap2 : ∀ z, FP ob gb hb v2 hv z → ¬ (z = ib ∨ z = mb) := fun z hz h => (hnew z hz).elim (fun h9 => hap z h9 h) (fun h9 => by have := hIw.lt z h; omega)
    have hn12 : ¬ FP ob gb hb v2 hv b12 := fun h => (hnew _ h).elim (fun h9 => by have := hF1 _ h9; omega) (fun h9 => by omega)
    have hn13 : ¬ FP ob gb hb v2 hv b13 := fun h => by have := hO2.lt _ h; omega
    have hnF2 : ∀ p ∈ ([(b13, .cells ([.int .i64 (k : Int), .slice dq m cap, .bool (decide (k + m = text.length))] : List Value).toArray 30 (0, 0)), (b12, .cells ([.int .i64 (mo : Int), .bool lo, .bool tw] : List Value).toArray 62 (0, 0))] : Blocks), ¬ FP ob gb hb v2 hv p.1 := fun p hp h => by simp only [List.mem_cons, List.not_mem_nil, or_false] at hp; rcases hp with rfl | rfl; exact hn13 h; exact hn12 h
    have hnI : ∀ p ∈ ([(b13, .cells ([.int .i64 (k : Int), .slice dq m cap, .bool (decide (k + m = text.length))] : List Value).toArray 30 (0, 0)), (b12, .cells ([.int .i64 (mo : Int), .bool lo, .bool tw] : List Value).toArray 62 (0, 0))] : Blocks), ¬ (p.1 = ib ∨ p.1 = mb) := fun p hp h => by have h9 := hX1 _ h; simp only [List.mem_cons, List.not_mem_nil, or_false] at hp; rcases hp with rfl | rfl; (dsimp only at h9; omega); (dsimp only at h9; omega)
    have hbase : Hp w SS [(b13, .cells ([.int .i64 (k : Int), .slice dq m cap, .bool (decide (k + m = text.length))] : List Value).toArray 30 (0, 0)), (b12, .cells ([.int .i64 (mo : Int), .bool lo, .bool tw] : List Value).toArray 62 (0, 0))] w := ⟨hH.blk, hH.nd, Mod.refl _ _⟩
    have hmB2 : Ext wB w := hmB.trans hM0 (fun z hz h => absurd (hnw z h) (by omega))
    clear hH
    obtain ⟨w0, rfl⟩ : ∃ z, z = w := ⟨_, rfl⟩
    have hH := hbase
    have hbqN : BsF Nobody w0 (.slice dq m cap) ((text.drop k).take m) := hbp3.go (Mod.refl _ _) (fun _ h => h.elim)
    have hbtN := hb0B.go hmB2 (fun _ h => .inl h)
    refine then_n ?_
    refine c_seq ?_
    refine c_seq ?_
    refine reg_plain w0 (SS) ?_
    refine r_move hS hH.kp0 rfl rfl ?_; clear hS; intro a hS
    refine r_not hS hH.kp0 rfl rfl ?_; clear hS; intro a hS
    refine Sq.nil ?_
    refine then_n ?_
    refine c_condF hS rfl rfl ?_
    refine wp_skip ?_
    refine then_n ?_
    refine c_seq ?_
    refine c_cut (fun a w => St 215 (lv [(0, .slice tq text.length tqc), (1, .slice fq fs.length fqc), (4, .bool false), (5, .pointer (some ⟨ob, 0, none⟩)), (7, .pointer (some ⟨ib, 0, none⟩)), (10, .string (strOf (text.take r))), (11, .int .i64 (i : Int)), (12, .pointer (some ⟨b12, 0, none⟩)), (13, .pointer (some ⟨b13, 0, none⟩)), (152, .bool false)]) a ∧ Hp w0 SS [(b13, .cells ([.int .i64 (k : Int), .slice dq m cap, .bool (decide (k + m = text.length))] : List Value).toArray 30 (0, 0)), (b12, .cells ([.int .i64 (mo : Int), .bool lo, .bool tw] : List Value).toArray 62 (0, 0))] w) ?_ ?_
    · refine reg_draw [(true, 0, []), (true, 1, []), (true, 2, []), (true, 3, []), (true, 4, []), (true, 5, []), (true, 6, []), (true, 7, []), (true, 8, []), (true, 9, []), (true, 10, []), (true, 11, []), (true, 12, []), (true, 13, []), (true, 14, []), (true, 15, []), (true, 16, []), (true, 17, []), (true, 18, []), (true, 19, []), (true, 20, []), (true, 21, []), (true, 22, []), (true, 23, []), (true, 24, []), (true, 25, []), (true, 26, []), (true, 27, []), (true, 28, []), (true, 29, []), (true, 30, []), (true, 31, []), (true, 32, []), (true, 33, []), (true, 34, []), (true, 35, []), (true, 36, []), (true, 37, []), (true, 38, []), (true, 39, []), (true, 40, []), (true, 41, []), (true, 42, []), (true, 43, []), (true, 44, []), (true, 45, [])] Fc.mixed (by kernel_rfl) (by kernel_rfl) (by kernel_rfl) (by kernel_rfl) (by kernel_rfl) (by repeat (first | with_reducible exact steady_body | with_reducible exact steady_bodyQ | with_reducible exact steady_round | with_reducible apply steady_block | with_reducible apply steady_then | with_reducible apply steady_scope | exact steady_body)) hH ?_
      replace hH := hH.drew
      refine r_fieldAddr hS trivial rfl Fc.fo30_0 rfl ?_; clear hS; intro a hS
      refine r_load_scS hS rfl (by repeat (first | exact In.here | refine In.there ?_)) Fc.sc3 (by rfl) rfl ?_; clear hS; intro a hS
      refine r_lss hS trivial rfl rfl rfl ?_; clear hS; intro a hS
      refine r_move hS trivial rfl rfl ?_; clear hS; intro a hS
      refine Sq.guardYes hS rfl rfl (DF (by omega)) ?_
      refine r_fieldAddr hS trivial rfl Fc.fo30_0 rfl ?_; clear hS; intro a hS
      refine Sq.guardYes hS rfl rfl (DF (by omega)) ?_
      refine r_load_scS hS rfl (by repeat (first | exact In.here | refine In.there ?_)) Fc.sc3 (by rfl) rfl ?_; clear hS; intro a hS
      refine Sq.guardYes hS rfl rfl (DF (by omega)) ?_
      refine r_fieldAddr hS trivial rfl Fc.fo30_1 rfl ?_; clear hS; intro a hS
      refine Sq.guardYes hS rfl rfl (DF (by omega)) ?_
      refine r_load_scS hS rfl (by repeat (first | exact In.here | refine In.there ?_)) Fc.sc22 (by rfl) rfl ?_; clear hS; intro a hS
      refine Sq.guardYes hS rfl rfl (DF (by omega)) ?_
      refine r_lenSl hS trivial rfl Fc.isSlice22 rfl ?_; clear hS; intro a hS
      refine Sq.guardYes hS rfl rfl (DF (by omega)) ?_
      (first | refine r_add hS trivial rfl rfl rfl (by omega) ?_ | refine r_addw hS trivial rfl rfl rfl ?_)
      clear hS; intro a hS
      refine Sq.guardYes hS rfl rfl (DF (by omega)) ?_
      refine r_move hS trivial rfl rfl ?_; clear hS; intro a hS
      refine Sq.guardYes hS rfl rfl (DF (by omega)) ?_
      refine r_lenSl hS trivial rfl Fc.isSlice22 rfl ?_; clear hS; intro a hS
      refine Sq.guardYes hS rfl rfl (DF (by omega)) ?_
      refine r_gtr hS trivial rfl rfl rfl ?_; clear hS; intro a hS
      refine r_pickF hS trivial rfl (DF (by omega)) rfl rfl ?_; clear hS; intro a hS
      refine r_move hS trivial rfl rfl ?_; clear hS; intro a hS
      refine Sq.guardYes hS rfl rfl (DF (by omega)) ?_
      refine r_fieldAddr hS trivial rfl Fc.fo30_1 rfl ?_; clear hS; intro a hS
      refine Sq.guardYes hS rfl rfl (DF (by omega)) ?_
      refine r_load_scS hS rfl (by repeat (first | exact In.here | refine In.there ?_)) Fc.sc22 (by rfl) rfl ?_; clear hS; intro a hS
      refine Sq.guardYes hS rfl rfl (DF (by omega)) ?_
      refine r_bytesStrS hS rfl (fun w hw => hbqN w (hX hw.2)) Fc.u8s22 Fc.isStr9 rfl ?_; clear hS; intro a hS
      refine Sq.guardYes hS rfl rfl (DF (by omega)) ?_
      refine r_move hS trivial rfl rfl ?_; clear hS; intro a hS
      refine Sq.guardYes hS rfl rfl (DF (by omega)) ?_
      refine r_fieldAddr hS trivial rfl Fc.fo30_0 rfl ?_; clear hS; intro a hS
      refine Sq.guardYes hS rfl rfl (DF (by omega)) ?_
      refine r_load_scS hS rfl (by repeat (first | exact In.here | refine In.there ?_)) Fc.sc3 (by rfl) rfl ?_; clear hS; intro a hS
      refine Sq.guardYes hS rfl rfl (DF (by omega)) ?_
      refine r_fieldAddr hS trivial rfl Fc.fo30_0 rfl ?_; clear hS; intro a hS
      refine Sq.guardYes hS rfl rfl (DF (by omega)) ?_
      refine r_load_scS hS rfl (by repeat (first | exact In.here | refine In.there ?_)) Fc.sc3 (by rfl) rfl ?_; clear hS; intro a hS
      refine Sq.guardYes hS rfl rfl (DF (by omega)) ?_
      refine r_fieldAddr hS trivial rfl Fc.fo30_1 rfl ?_; clear hS; intro a hS
      refine Sq.guardYes hS rfl rfl (DF (by omega)) ?_
      refine r_load_scS hS rfl (by repeat (first | exact In.here | refine In.there ?_)) Fc.sc22 (by rfl) rfl ?_; clear hS; intro a hS
      refine Sq.guardYes hS rfl rfl (DF (by omega)) ?_
      refine r_lenSl hS trivial rfl Fc.isSlice22 rfl ?_; clear hS; intro a hS
      refine Sq.guardYes hS rfl rfl (DF (by omega)) ?_
      (first | refine r_add hS trivial rfl rfl rfl (by omega) ?_ | refine r_addw hS trivial rfl rfl rfl ?_)
      clear hS; intro a hS
      refine Sq.guardYes hS rfl rfl (DF (by omega)) ?_
      refine r_slP (ll := k) (hh := k + m) hS trivial rfl rfl rfl Fc.slb22 rfl rfl (by omega) (by omega) htc htn rfl ?_; clear hS; intro a v9 hv9 hS
      refine Sq.guardYes hS rfl rfl (DF (by omega)) ?_
      refine r_bytesStrS (l := (text.drop k).take m) hS rfl (fun w hw => by have h9 := hv9 w text (hbtN w (hX hw.2)); rwa [show k + m - k = m from by omega] at h9) Fc.u8s22 Fc.isStr9 rfl ?_; clear hS; intro a hS
      refine Sq.guardYes hS rfl rfl (DF (by omega)) ?_
      refine r_strNeq hS trivial rfl rfl rfl ?_; clear hS; intro a hS
      refine r_pickF hS trivial rfl (DF (by omega)) rfl rfl ?_; clear hS; intro a hS
      refine r_move hS trivial rfl rfl ?_; clear hS; intro a hS
      refine Sq.guardYes hS rfl rfl (congrArg not (beq_self_eq_true _)) ?_
      refine r_fieldAddr hS trivial rfl Fc.fo30_2 rfl ?_; clear hS; intro a hS
      refine Sq.guardYes hS rfl rfl (congrArg not (beq_self_eq_true _)) ?_
      refine r_load_scS hS rfl (by repeat (first | exact In.here | refine In.there ?_)) Fc.sc4 (by rfl) rfl ?_; clear hS; intro a hS
      refine Sq.guardYes hS rfl rfl (congrArg not (beq_self_eq_true _)) ?_
      refine r_move hS trivial rfl rfl ?_; clear hS; intro a hS
      rcases (by cases (decide (k + m = text.length)) <;> simp : decide (k + m = text.length) = false ∨ decide (k + m = text.length) = true) with hfi | hfi
      · rw [hfi] at hS
        refine Sq.guardNo hS rfl rfl rfl trivial rfl ?_; clear hS; intro a hS
        refine Sq.guardNo hS rfl rfl rfl trivial rfl ?_; clear hS; intro a hS
        refine Sq.guardNo hS rfl rfl rfl trivial rfl ?_; clear hS; intro a hS
        refine Sq.guardNo hS rfl rfl rfl trivial rfl ?_; clear hS; intro a hS
        refine Sq.guardNo hS rfl rfl rfl trivial rfl ?_; clear hS; intro a hS
        refine Sq.guardNo hS rfl rfl rfl trivial rfl ?_; clear hS; intro a hS
        refine Sq.guardNo hS rfl rfl rfl trivial rfl ?_; clear hS; intro a hS
        refine Sq.guardNo hS rfl rfl rfl trivial rfl ?_; clear hS; intro a hS
        refine Sq.guardNo hS rfl rfl rfl trivial rfl ?_; clear hS; intro a hS
        refine Sq.guardYes hS rfl rfl (congrArg not (beq_self_eq_true _)) ?_
        refine r_pickF hS trivial rfl rfl rfl rfl ?_; clear hS; intro a hS
        refine r_pickF hS trivial rfl (congrArg not (beq_self_eq_true _)) rfl rfl ?_; clear hS; intro a hS
        refine Sq.nil ?_
        refine then_n ?_
        exact ⟨hS.live ⟨rfl, rfl, rfl, rfl, rfl, rfl, rfl, rfl, rfl, rfl, trivial⟩, hH⟩
      · rw [hfi] at hS
        have hfe := of_decide_eq_true hfi
        refine Sq.guardYes hS rfl rfl rfl ?_
        refine r_fieldAddr hS trivial rfl Fc.fo30_0 rfl ?_; clear hS; intro a hS
        refine Sq.guardYes hS rfl rfl rfl ?_
        refine r_load_scS hS rfl (by repeat (first | exact In.here | refine In.there ?_)) Fc.sc3 (by rfl) rfl ?_; clear hS; intro a hS
        refine Sq.guardYes hS rfl rfl rfl ?_
        refine r_fieldAddr hS trivial rfl Fc.fo30_1 rfl ?_; clear hS; intro a hS
        refine Sq.guardYes hS rfl rfl rfl ?_
        refine r_load_scS hS rfl (by repeat (first | exact In.here | refine In.there ?_)) Fc.sc22 (by rfl) rfl ?_; clear hS; intro a hS
        refine Sq.guardYes hS rfl rfl rfl ?_
        refine r_lenSl hS trivial rfl Fc.isSlice22 rfl ?_; clear hS; intro a hS
        refine Sq.guardYes hS rfl rfl rfl ?_
        (first | refine r_add hS trivial rfl rfl rfl (by omega) ?_ | refine r_addw hS trivial rfl rfl rfl ?_)
        clear hS; intro a hS
        refine Sq.guardYes hS rfl rfl rfl ?_
        refine r_move hS trivial rfl rfl ?_; clear hS; intro a hS
        refine Sq.guardYes hS rfl rfl rfl ?_
        refine r_lenSl hS trivial rfl Fc.isSlice22 rfl ?_; clear hS; intro a hS
        refine Sq.guardYes hS rfl rfl rfl ?_
        refine r_neq hS trivial rfl rfl rfl ?_; clear hS; intro a hS
        rw [show (((k : Int) + (m : Int)) != (text.length : Int)) = false from bne_eq_false_iff_eq.2 (by omega)] at hS
        refine Sq.guardYes hS rfl rfl (congrArg not (beq_self_eq_true _)) ?_
        refine r_pickT hS trivial rfl rfl rfl rfl ?_; clear hS; intro a hS
        refine r_pickF hS trivial rfl (congrArg not (beq_self_eq_true _)) rfl rfl ?_; clear hS; intro a hS
        refine Sq.nil ?_
        refine then_n ?_
        exact ⟨hS.live ⟨rfl, rfl, rfl, rfl, rfl, rfl, rfl, rfl, rfl, rfl, trivial⟩, hH⟩
    clear hS hH; intro a w hJ; obtain ⟨hS, hH⟩ := hJ
    have hE4 := hX hH.mod
    have hO4 := hO3.ext hE4
    have hI4 := hI3.ext hE4
    have hbp4 := hbp3.go (hE4.mono (fun _ h => h.elim)) (fun _ h => .inl h)
    have hmB4 := Ext.trans hmB2 hE4
    obtain ⟨SS, hSS⟩ : ∃ s : Nat → Prop, s = (fun z => FP ob gb hb v2 hv z ∨ z = ib ∨ z = mb) := ⟨_, rfl⟩
    have hbase4 : Hp w SS [(b13, .cells ([.int .i64 (k : Int), .slice dq m cap, .bool (decide (k + m = text.length))] : List Value).toArray 30 (0, 0)), (b12, .cells ([.int .i64 (mo : Int), .bool lo, .bool tw] : List Value).toArray 62 (0, 0))] w := ⟨hH.blk, hH.nd, Mod.refl _ _⟩
    clear hH
    obtain ⟨w0, rfl⟩ : ∃ z, z = w := ⟨_, rfl⟩
    have hH := hbase4
    have hF4 := hO4.lt
    have hX4 := hI4.lt
    have hB4 := hmB4.size
    have hbp5 : BsF (fun z => z = ib ∨ z = mb) w0 (.slice dq m cap) ((text.drop k).take m) := hbp4.go (Mod.refl _ _) (fun _ h => .inl (.inr h))
    have hnw2s : ∀ z, FP ob gb hb v2 hv z → wB.heap.size ≤ z ∧ (SS z ∨ w0.heap.size ≤ z) := fun z h => ⟨hnw2 z h, .inl (by rw [hSS]; exact .inl h)⟩
    refine c_condF hS rfl rfl ?_
    refine wp_skip ?_
    refine then_n ?_
    refine c_seq ?_
    refine c_seq ?_
    refine reg_plain w0 (SS) ?_
    rcases lo with _ | _ <;> rcases tw with _ | _
    · refine r_fieldAddr hS hH.kp0 rfl Fc.fo62_1 rfl ?_; clear hS; intro a hS
      refine r_load_sc hS hH (by repeat (first | exact Sub.nil | refine Sub.cons ?_ ?_ | exact In.here | refine In.there ?_)) rfl (by repeat (first | exact In.here | refine In.there ?_)) Fc.sc4 (by rfl) rfl ?_; clear hS; intro a hS
      refine r_not hS hH.kp0 rfl rfl ?_; clear hS; intro a hS
      refine r_move hS hH.kp0 rfl rfl ?_; clear hS; intro a hS
      refine Sq.guardNo hS rfl rfl rfl hH.kp0 rfl ?_; clear hS; intro a hS
      refine Sq.guardNo hS rfl rfl rfl hH.kp0 rfl ?_; clear hS; intro a hS
      refine r_pickT hS hH.kp0 rfl rfl rfl rfl ?_; clear hS; intro a hS
      refine Sq.nil ?_
      refine then_n ?_
      refine c_condT hS rfl rfl ?_
      refine c_seq ?_
      refine reg_plain w0 (SS) ?_
      refine r_move hS hH.kp0 rfl rfl ?_; clear hS; intro a hS
      refine r_fieldAddr hS hH.kp0 rfl Fc.fo30_0 rfl ?_; clear hS; intro a hS
      refine r_load_sc hS hH (by repeat (first | exact Sub.nil | refine Sub.cons ?_ ?_ | exact In.here | refine In.there ?_)) rfl (by repeat (first | exact In.here | refine In.there ?_)) Fc.sc3 (by rfl) rfl ?_; clear hS; intro a hS
      refine r_fieldAddr hS hH.kp0 rfl Fc.fo30_1 rfl ?_; clear hS; intro a hS
      refine r_load_sc hS hH (by repeat (first | exact Sub.nil | refine Sub.cons ?_ ?_ | exact In.here | refine In.there ?_)) rfl (by repeat (first | exact In.here | refine In.there ?_)) Fc.sc22 (by rfl) rfl ?_; clear hS; intro a hS
      refine r_fieldAddr hS hH.kp0 rfl Fc.fo30_2 rfl ?_; clear hS; intro a hS
      refine r_load_sc hS hH (by repeat (first | exact Sub.nil | refine Sub.cons ?_ ?_ | exact In.here | refine In.there ?_)) rfl (by repeat (first | exact In.here | refine In.there ?_)) Fc.sc4 (by rfl) rfl ?_; clear hS; intro a hS
      refine r_call (l := [.tmp 160, .tmp 162, .tmp 164, .tmp 166]) hS rfl rfl Fc.fn25 rfl ?_
      refine Calls.mono (iPut hI4 hl k m cap dq hkr hrs hsn hm2 hm1 hnl (by omega) hdz hF4 hbp5) ?_
      rintro e w1 ⟨rfl, hI5, hM5⟩
      replace hH := hH.own hM5 hnI (fun z h => .inl (by rw [hSS]; exact .inr h))
      have hO5 := hO4.go hM5 (fun _ h => h) (fun z hz h => hap2 z hz h) (fun _ h => .inl h)
      refine ⟨_, rfl, hH.kp0, ?_⟩
      clear hS; intro a hS
      refine r_neq hS hH.kp0 rfl rfl rfl ?_; clear hS; intro a hS
      refine Sq.nil ?_
      refine then_n ?_
      refine c_condF hS rfl rfl ?_
      refine wp_skip ?_
      refine then_n ?_
      refine c_seq ?_
      refine c_seq ?_
      refine reg_plain w0 (SS) ?_
      refine r_fieldAddr hS hH.kp0 rfl Fc.fo62_1 rfl ?_; clear hS; intro a hS
      refine r_load_sc hS hH (by repeat (first | exact Sub.nil | refine Sub.cons ?_ ?_ | exact In.here | refine In.there ?_)) rfl (by repeat (first | exact In.here | refine In.there ?_)) Fc.sc4 (by rfl) rfl ?_; clear hS; intro a hS
      refine Sq.nil ?_
      refine then_n ?_
      refine c_condF hS rfl rfl ?_
      refine wp_skip ?_
      refine then_n ?_
      refine c_seq ?_
      refine c_seq ?_
      refine reg_plain w0 (SS) ?_
      refine r_fieldAddr hS hH.kp0 rfl Fc.fo62_2 rfl ?_; clear hS; intro a hS
      refine r_load_sc hS hH (by repeat (first | exact Sub.nil | refine Sub.cons ?_ ?_ | exact In.here | refine In.there ?_)) rfl (by repeat (first | exact In.here | refine In.there ?_)) Fc.sc4 (by rfl) rfl ?_; clear hS; intro a hS
      refine r_move hS hH.kp0 rfl rfl ?_; clear hS; intro a hS
      refine Sq.guardNo hS rfl rfl rfl hH.kp0 rfl ?_; clear hS; intro a hS
      refine Sq.guardNo hS rfl rfl rfl hH.kp0 rfl ?_; clear hS; intro a hS
      refine Sq.guardNo hS rfl rfl rfl hH.kp0 rfl ?_; clear hS; intro a hS
      refine Sq.guardNo hS rfl rfl rfl hH.kp0 rfl ?_; clear hS; intro a hS
      refine r_pickF hS hH.kp0 rfl rfl rfl rfl ?_; clear hS; intro a hS
      refine Sq.nil ?_
      refine then_n ?_
      refine c_condF hS rfl rfl ?_
      refine wp_skip ?_
      refine then_n ?_
      refine c_seq ?_
      refine c_seq ?_
      refine reg_plain w0 (SS) ?_
      refine r_move hS hH.kp0 rfl rfl ?_; clear hS; intro a hS
      refine r_load_row hS hH (by repeat (first | exact Sub.nil | refine Sub.cons ?_ ?_ | exact In.here | refine In.there ?_)) rfl (by repeat (first | exact In.here | refine In.there ?_)) Fc.ag30 (by rfl) rfl ?_; clear hS; intro a hS
      refine r_call (l := [.tmp 183, .tmp 184]) hS rfl rfl Fc.fn19 rfl ?_
      refine Calls.mono (oAcked m cap dq hO5 hl hm1 (by omega) (by omega) (.inr rfl) (fun h => .inl (ifp h)) hI5.lt hdz) ?_
      rintro e w1 ⟨v4, hv4, q4, kc4, rfl, hO7, hnew7, hM7⟩
      have hszq := hH.lt
      have hszm7 := hH.mod.size
      replace hH := hH.own hM7 hnF2 (fun z h => (hnw2s z h).2)
      have hI7 := hI5.go hM7 (fun _ h => h) (fun z h hz => hap2 z hz h) hnew7
      have hnF4 := apart_next hnF2 hnew7 hszq
      have hnw4 : ∀ z, FP ob gb hb v4 hv4 z → wB.heap.size ≤ z := fun z hz => (hnew7 z hz).elim (fun h => (hnw2s z h).1) (fun h9 => by omega)
      have hap4 : ∀ z, FP ob gb hb v4 hv4 z → ¬ (z = ib ∨ z = mb) := fun z hz h => (hnew7 z hz).elim (fun h9 => hap2 z h9 h) (fun h9 => by have := hX4 z h; omega)
      refine ⟨_, rfl, hH.kp0, ?_⟩
      clear hS; intro a hS
      refine r_neq hS hH.kp0 rfl rfl rfl ?_; clear hS; intro a hS
      refine Sq.nil ?_
      refine then_n ?_
      refine c_condF hS rfl rfl ?_
      refine wp_skip ?_
      refine then_n ?_
      refine c_seq ?_
      refine reg_plain w0 (SS) ?_
      refine r_move hS hH.kp0 rfl rfl ?_; clear hS; intro a hS
      refine r_move hS hH.kp0 rfl rfl ?_; clear hS; intro a hS
      refine r_lenSl hS hH.kp0 rfl Fc.isSlice22 rfl ?_; clear hS; intro a hS
      refine r_call (l := [.tmp 188, .tmp 190]) hS rfl rfl Fc.fn26 rfl ?_
      refine Calls.mono (iRead hI7 hl (by omega) (by omega)) ?_
      rintro e w1 ⟨x, rfl, hbx, hI8, hM8⟩
      replace hH := hH.own hM8 hnI (fun z h => .inl (by rw [hSS]; exact .inr h))
      have hO8 := hO7.go hM8 (fun _ h => h) (fun z hz h => hap4 z hz h) (fun _ h => .inl h)
      refine ⟨_, rfl, hH.kp0, ?_⟩
      clear hS; intro a hS
      refine r_move hS hH.kp0 rfl rfl ?_; clear hS; intro a hS
      refine r_extract hS hH.kp0 rfl rfl rfl ?_; clear hS; intro a hS
      refine r_extract hS hH.kp0 rfl rfl rfl ?_; clear hS; intro a hS
      refine r_assign hS hH.kp0 rfl rfl ?_; clear hS; intro a hS
      refine r_assign hS hH.kp0 rfl rfl ?_; clear hS; intro a hS
      refine Sq.nil ?_
      refine then_n ?_
      refine reg_plain w0 (SS) ?_
      refine r_move hS hH.kp0 rfl rfl ?_; clear hS; intro a hS
      refine r_move hS hH.kp0 rfl rfl ?_; clear hS; intro a hS
      refine r_bytesStr hS hH.kp0 rfl hbx Fc.u8s22 Fc.isStr9 rfl ?_; clear hS; intro a hS
      refine r_strAdd (u := text.take r) (v := (text.drop r).take (max s (k + m) - r)) hS hH.kp0 rfl rfl rfl (by rw [List.length_take, List.length_take, List.length_drop]; omega) ?_; clear hS; intro a hS
      rw [take_app text (show r ≤ max s (k + m) by omega)] at hS
      refine r_assign hS hH.kp0 rfl rfl ?_; clear hS; intro a hS
      refine Sq.nil ?_
      refine blk_n ?_
      refine then_n ?_
      refine reg_plain w0 (SS) ?_
      refine r_move hS hH.kp0 rfl rfl ?_; clear hS; intro a hS
      refine r_addN0 (m := i) (k := 1) hS hH.kp0 rfl rfl (by omega) rfl ?_; clear hS; intro a hS
      refine r_assign hS hH.kp0 rfl rfl ?_; clear hS; intro a hS
      refine Sq.nil ?_
      refine then_n ?_
      have hena := en_acked (n := text.length) (m := k + m) hen hm2
      refine ⟨mm - 1, by omega, i + 1, k + m, max g (k + m), max s (k + m), max s (k + m), max lim (max s (k + m) + text.length), _, (decide (k + m = text.length) || kn), v4, hv4, q4, kc4, by omega, fun h => ?_, hena.imp id (fun h => ⟨h.1, .inl h.2⟩), by omega, by omega, by omega, by omega, by omega, by omega, by omega, fun h => ?_, hO8, hI8, hnw4, hap4, hS.live ⟨rfl, rfl, rfl, rfl, rfl, rfl, rfl, trivial⟩, ⟨by simp, by simp, Mod.trans hmB4 hH.mod (fun z hz h => by rw [hSS] at h; rcases h with h | h | h; exact absurd (hnw2 z h) (by omega); omega; omega)⟩⟩
      · rcases hena with h9 | h9; exact absurd h9.1 h; omega
      · rcases hena with h9 | h9; (rw [decide_eq_true h9.2]; rfl); rcases h9.1 with h8 | h8 <;> exact absurd (h8.symm.trans h) (by decide)
    · refine r_fieldAddr hS hH.kp0 rfl Fc.fo62_1 rfl ?_; clear hS; intro a hS
      refine r_load_sc hS hH (by repeat (first | exact Sub.nil | refine Sub.cons ?_ ?_ | exact In.here | refine In.there ?_)) rfl (by repeat (first | exact In.here | refine In.there ?_)) Fc.sc4 (by rfl) rfl ?_; clear hS; intro a hS
      refine r_not hS hH.kp0 rfl rfl ?_; clear hS; intro a hS
      refine r_move hS hH.kp0 rfl rfl ?_; clear hS; intro a hS
      refine Sq.guardNo hS rfl rfl rfl hH.kp0 rfl ?_; clear hS; intro a hS
      refine Sq.guardNo hS rfl rfl rfl hH.kp0 rfl ?_; clear hS; intro a hS
      refine r_pickT hS hH.kp0 rfl rfl rfl rfl ?_; clear hS; intro a hS
      refine Sq.nil ?_
      refine then_n ?_
      refine c_condT hS rfl rfl ?_
      refine c_seq ?_
      refine reg_plain w0 (SS) ?_
      refine r_move hS hH.kp0 rfl rfl ?_; clear hS; intro a hS
      refine r_fieldAddr hS hH.kp0 rfl Fc.fo30_0 rfl ?_; clear hS; intro a hS
      refine r_load_sc hS hH (by repeat (first | exact Sub.nil | refine Sub.cons ?_ ?_ | exact In.here | refine In.there ?_)) rfl (by repeat (first | exact In.here | refine In.there ?_)) Fc.sc3 (by rfl) rfl ?_; clear hS; intro a hS
      refine r_fieldAddr hS hH.kp0 rfl Fc.fo30_1 rfl ?_; clear hS; intro a hS
      refine r_load_sc hS hH (by repeat (first | exact Sub.nil | refine Sub.cons ?_ ?_ | exact In.here | refine In.there ?_)) rfl (by repeat (first | exact In.here | refine In.there ?_)) Fc.sc22 (by rfl) rfl ?_; clear hS; intro a hS
      refine r_fieldAddr hS hH.kp0 rfl Fc.fo30_2 rfl ?_; clear hS; intro a hS
      refine r_load_sc hS hH (by repeat (first | exact Sub.nil | refine Sub.cons ?_ ?_ | exact In.here | refine In.there ?_)) rfl (by repeat (first | exact In.here | refine In.there ?_)) Fc.sc4 (by rfl) rfl ?_; clear hS; intro a hS
      refine r_call (l := [.tmp 160, .tmp 162, .tmp 164, .tmp 166]) hS rfl rfl Fc.fn25 rfl ?_
      refine Calls.mono (iPut hI4 hl k m cap dq hkr hrs hsn hm2 hm1 hnl (by omega) hdz hF4 hbp5) ?_
      rintro e w1 ⟨rfl, hI5, hM5⟩
      replace hH := hH.own hM5 hnI (fun z h => .inl (by rw [hSS]; exact .inr h))
      have hO5 := hO4.go hM5 (fun _ h => h) (fun z hz h => hap2 z hz h) (fun _ h => .inl h)
      refine ⟨_, rfl, hH.kp0, ?_⟩
      clear hS; intro a hS
      refine r_neq hS hH.kp0 rfl rfl rfl ?_; clear hS; intro a hS
      refine Sq.nil ?_
      refine then_n ?_
      refine c_condF hS rfl rfl ?_
      refine wp_skip ?_
      refine then_n ?_
      refine c_seq ?_
      refine c_seq ?_
      refine reg_plain w0 (SS) ?_
      refine r_fieldAddr hS hH.kp0 rfl Fc.fo62_1 rfl ?_; clear hS; intro a hS
      refine r_load_sc hS hH (by repeat (first | exact Sub.nil | refine Sub.cons ?_ ?_ | exact In.here | refine In.there ?_)) rfl (by repeat (first | exact In.here | refine In.there ?_)) Fc.sc4 (by rfl) rfl ?_; clear hS; intro a hS
      refine Sq.nil ?_
      refine then_n ?_
      refine c_condF hS rfl rfl ?_
      refine wp_skip ?_
      refine then_n ?_
      refine c_seq ?_
      refine c_seq ?_
      refine reg_plain w0 (SS) ?_
      refine r_fieldAddr hS hH.kp0 rfl Fc.fo62_2 rfl ?_; clear hS; intro a hS
      refine r_load_sc hS hH (by repeat (first | exact Sub.nil | refine Sub.cons ?_ ?_ | exact In.here | refine In.there ?_)) rfl (by repeat (first | exact In.here | refine In.there ?_)) Fc.sc4 (by rfl) rfl ?_; clear hS; intro a hS
      refine r_move hS hH.kp0 rfl rfl ?_; clear hS; intro a hS
      refine Sq.guardYes hS rfl rfl rfl ?_
      refine r_move hS hH.kp0 rfl rfl ?_; clear hS; intro a hS
      refine Sq.guardYes hS rfl rfl rfl ?_
      refine r_load_row hS hH (by repeat (first | exact Sub.nil | refine Sub.cons ?_ ?_ | exact In.here | refine In.there ?_)) rfl (by repeat (first | exact In.here | refine In.there ?_)) Fc.ag30 (by rfl) rfl ?_; clear hS; intro a hS
      refine Sq.guardYes hS rfl rfl rfl ?_
      refine r_call (l := [.tmp 178, .tmp 179]) hS rfl rfl Fc.fn21 rfl ?_
      refine Calls.mono (oLost m cap dq hO5 hl hm1 (by omega) (by omega) (fun h => ifp h) hdz) ?_
      rintro e w1 ⟨v3, rfl, hO6, hnew6, hM6⟩
      have hszp := hH.lt
      have hszm6 := hH.mod.size
      replace hH := hH.own hM6 hnF2 (fun z h => .inl (by rw [hSS]; exact .inl h))
      have hI6 := hI5.go hM6 (fun _ h => h) (fun z h hz => hap2 z hz h) hnew6
      have hnF3 := apart_next hnF2 hnew6 hszp
      have hnw3 : ∀ z, FP ob gb hb v3 hv z → wB.heap.size ≤ z ∧ (SS z ∨ w0.heap.size ≤ z) := fun z hz => (hnew6 z hz).elim (fun h => ⟨hnw2 z h, .inl (by rw [hSS]; exact .inl h)⟩) (fun h9 => ⟨by omega, .inr (by omega)⟩)
      have hap3 : ∀ z, FP ob gb hb v3 hv z → ¬ (z = ib ∨ z = mb) := fun z hz h => (hnew6 z hz).elim (fun h9 => hap2 z h9 h) (fun h9 => by have := hX4 z h; omega)
      refine ⟨_, rfl, hH.kp0, ?_⟩
      clear hS; intro a hS
      refine Sq.guardYes hS rfl rfl rfl ?_
      refine r_neq hS hH.kp0 rfl rfl rfl ?_; clear hS; intro a hS
      refine r_pickT hS hH.kp0 rfl rfl rfl rfl ?_; clear hS; intro a hS
      refine Sq.nil ?_
      refine then_n ?_
      refine c_condF hS rfl rfl ?_
      refine wp_skip ?_
      refine then_n ?_
      refine c_seq ?_
      refine c_seq ?_
      refine reg_plain w0 (SS) ?_
      refine r_move hS hH.kp0 rfl rfl ?_; clear hS; intro a hS
      refine r_load_row hS hH (by repeat (first | exact Sub.nil | refine Sub.cons ?_ ?_ | exact In.here | refine In.there ?_)) rfl (by repeat (first | exact In.here | refine In.there ?_)) Fc.ag30 (by rfl) rfl ?_; clear hS; intro a hS
      refine r_call (l := [.tmp 183, .tmp 184]) hS rfl rfl Fc.fn19 rfl ?_
      refine Calls.mono (oAcked m cap dq hO6 hl hm1 (by omega) (by omega) (.inl rfl) (fun h => .inr (ifp h)) hI6.lt hdz) ?_
      rintro e w1 ⟨v4, hv4, q4, kc4, rfl, hO7, hnew7, hM7⟩
      have hszq := hH.lt
      have hszm7 := hH.mod.size
      replace hH := hH.own hM7 hnF3 (fun z h => (hnw3 z h).2)
      have hI7 := hI6.go hM7 (fun _ h => h) (fun z h hz => hap3 z hz h) hnew7
      have hnF4 := apart_next hnF3 hnew7 hszq
      have hnw4 : ∀ z, FP ob gb hb v4 hv4 z → wB.heap.size ≤ z := fun z hz => (hnew7 z hz).elim (fun h => (hnw3 z h).1) (fun h9 => by omega)
      have hap4 : ∀ z, FP ob gb hb v4 hv4 z → ¬ (z = ib ∨ z = mb) := fun z hz h => (hnew7 z hz).elim (fun h9 => hap3 z h9 h) (fun h9 => by have := hX4 z h; omega)
      refine ⟨_, rfl, hH.kp0, ?_⟩
      clear hS; intro a hS
      refine r_neq hS hH.kp0 rfl rfl rfl ?_; clear hS; intro a hS
      refine Sq.nil ?_
      refine then_n ?_
      refine c_condF hS rfl rfl ?_
      refine wp_skip ?_
      refine then_n ?_
      refine c_seq ?_
      refine reg_plain w0 (SS) ?_
      refine r_move hS hH.kp0 rfl rfl ?_; clear hS; intro a hS
      refine r_move hS hH.kp0 rfl rfl ?_; clear hS; intro a hS
      refine r_lenSl hS hH.kp0 rfl Fc.isSlice22 rfl ?_; clear hS; intro a hS
      refine r_call (l := [.tmp 188, .tmp 190]) hS rfl rfl Fc.fn26 rfl ?_
      refine Calls.mono (iRead hI7 hl (by omega) (by omega)) ?_
      rintro e w1 ⟨x, rfl, hbx, hI8, hM8⟩
      replace hH := hH.own hM8 hnI (fun z h => .inl (by rw [hSS]; exact .inr h))
      have hO8 := hO7.go hM8 (fun _ h => h) (fun z hz h => hap4 z hz h) (fun _ h => .inl h)
      refine ⟨_, rfl, hH.kp0, ?_⟩
      clear hS; intro a hS
      refine r_move hS hH.kp0 rfl rfl ?_; clear hS; intro a hS
      refine r_extract hS hH.kp0 rfl rfl rfl ?_; clear hS; intro a hS
      refine r_extract hS hH.kp0 rfl rfl rfl ?_; clear hS; intro a hS
      refine r_assign hS hH.kp0 rfl rfl ?_; clear hS; intro a hS
      refine r_assign hS hH.kp0 rfl rfl ?_; clear hS; intro a hS
      refine Sq.nil ?_
      refine then_n ?_
      refine reg_plain w0 (SS) ?_
      refine r_move hS hH.kp0 rfl rfl ?_; clear hS; intro a hS
      refine r_move hS hH.kp0 rfl rfl ?_; clear hS; intro a hS
      refine r_bytesStr hS hH.kp0 rfl hbx Fc.u8s22 Fc.isStr9 rfl ?_; clear hS; intro a hS
      refine r_strAdd (u := text.take r) (v := (text.drop r).take (max s (k + m) - r)) hS hH.kp0 rfl rfl rfl (by rw [List.length_take, List.length_take, List.length_drop]; omega) ?_; clear hS; intro a hS
      rw [take_app text (show r ≤ max s (k + m) by omega)] at hS
      refine r_assign hS hH.kp0 rfl rfl ?_; clear hS; intro a hS
      refine Sq.nil ?_
      refine blk_n ?_
      refine then_n ?_
      refine reg_plain w0 (SS) ?_
      refine r_move hS hH.kp0 rfl rfl ?_; clear hS; intro a hS
      refine r_addN0 (m := i) (k := 1) hS hH.kp0 rfl rfl (by omega) rfl ?_; clear hS; intro a hS
      refine r_assign hS hH.kp0 rfl rfl ?_; clear hS; intro a hS
      refine Sq.nil ?_
      refine then_n ?_
      have hena := en_acked2 (n := text.length) (m := k + m) hen hm2
      refine ⟨mm - 1, by omega, i + 1, k + m, max g (k + m), max s (k + m), max s (k + m), max lim (max s (k + m) + text.length), _, (decide (k + m = text.length) || kn), v4, hv4, q4, kc4, by omega, fun h => ?_, hena.imp id (fun h => ⟨h.1, .inl h.2⟩), by omega, by omega, by omega, by omega, by omega, by omega, by omega, fun h => ?_, hO8, hI8, hnw4, hap4, hS.live ⟨rfl, rfl, rfl, rfl, rfl, rfl, rfl, trivial⟩, ⟨by simp, by simp, Mod.trans hmB4 hH.mod (fun z hz h => by rw [hSS] at h; rcases h with h | h | h; exact absurd (hnw2 z h) (by omega); omega; omega)⟩⟩
      · rcases hena with h9 | h9; exact absurd h9.1 h; omega
      · rcases hena with h9 | h9; (rw [decide_eq_true h9.2]; rfl); rcases h9.1 with h8 | h8 <;> exact absurd (h8.symm.trans h) (by decide)
    · refine r_fieldAddr hS hH.kp0 rfl Fc.fo62_1 rfl ?_; clear hS; intro a hS
      refine r_load_sc hS hH (by repeat (first | exact Sub.nil | refine Sub.cons ?_ ?_ | exact In.here | refine In.there ?_)) rfl (by repeat (first | exact In.here | refine In.there ?_)) Fc.sc4 (by rfl) rfl ?_; clear hS; intro a hS
      refine r_not hS hH.kp0 rfl rfl ?_; clear hS; intro a hS
      refine r_move hS hH.kp0 rfl rfl ?_; clear hS; intro a hS
      refine Sq.guardYes hS rfl rfl rfl ?_
      refine r_fieldAddr hS hH.kp0 rfl Fc.fo62_2 rfl ?_; clear hS; intro a hS
      refine Sq.guardYes hS rfl rfl rfl ?_
      refine r_load_sc hS hH (by repeat (first | exact Sub.nil | refine Sub.cons ?_ ?_ | exact In.here | refine In.there ?_)) rfl (by repeat (first | exact In.here | refine In.there ?_)) Fc.sc4 (by rfl) rfl ?_; clear hS; intro a hS
      refine r_pickF hS hH.kp0 rfl rfl rfl rfl ?_; clear hS; intro a hS
      refine Sq.nil ?_
      refine then_n ?_
      refine c_condF hS rfl rfl ?_
      refine wp_skip ?_
      refine then_n ?_
      refine c_seq ?_
      refine c_seq ?_
      refine reg_plain w0 (SS) ?_
      have hO5 := hO4
      have hI5 := hI4
      refine r_fieldAddr hS hH.kp0 rfl Fc.fo62_1 rfl ?_; clear hS; intro a hS
      refine r_load_sc hS hH (by repeat (first | exact Sub.nil | refine Sub.cons ?_ ?_ | exact In.here | refine In.there ?_)) rfl (by repeat (first | exact In.here | refine In.there ?_)) Fc.sc4 (by rfl) rfl ?_; clear hS; intro a hS
      refine Sq.nil ?_
      refine then_n ?_
      refine c_condT hS rfl rfl ?_
      refine c_seq ?_
      refine c_seq ?_
      refine reg_plain w0 (SS) ?_
      refine r_move hS hH.kp0 rfl rfl ?_; clear hS; intro a hS
      refine r_load_row hS hH (by repeat (first | exact Sub.nil | refine Sub.cons ?_ ?_ | exact In.here | refine In.there ?_)) rfl (by repeat (first | exact In.here | refine In.there ?_)) Fc.ag30 (by rfl) rfl ?_; clear hS; intro a hS
      refine r_call (l := [.tmp 171, .tmp 172]) hS rfl rfl Fc.fn21 rfl ?_
      refine Calls.mono (oLost m cap dq hO5 hl hm1 (by omega) (by omega) (fun h => ifp h) hdz) ?_
      rintro e w1 ⟨v3, rfl, hO6, hnew6, hM6⟩
      have hszp := hH.lt
      have hszm6 := hH.mod.size
      replace hH := hH.own hM6 hnF2 (fun z h => .inl (by rw [hSS]; exact .inl h))
      have hI6 := hI5.go hM6 (fun _ h => h) (fun z h hz => hap2 z hz h) hnew6
      have hnF3 := apart_next hnF2 hnew6 hszp
      have hnw3 : ∀ z, FP ob gb hb v3 hv z → wB.heap.size ≤ z ∧ (SS z ∨ w0.heap.size ≤ z) := fun z hz => (hnew6 z hz).elim (fun h => ⟨hnw2 z h, .inl (by rw [hSS]; exact .inl h)⟩) (fun h9 => ⟨by omega, .inr (by omega)⟩)
      have hap3 : ∀ z, FP ob gb hb v3 hv z → ¬ (z = ib ∨ z = mb) := fun z hz h => (hnew6 z hz).elim (fun h9 => hap2 z h9 h) (fun h9 => by have := hX4 z h; omega)
      refine ⟨_, rfl, hH.kp0, ?_⟩
      clear hS; intro a hS
      refine r_neq hS hH.kp0 rfl rfl rfl ?_; clear hS; intro a hS
      refine Sq.nil ?_
      refine then_n ?_
      refine c_condF hS rfl rfl ?_
      refine wp_skip ?_
      refine then_n ?_
      refine wp_exit ?_
      refine then_e ?_
      refine blk_hit ?_
      refine then_n ?_
      refine reg_plain w0 (SS) ?_
      refine r_move hS hH.kp0 rfl rfl ?_; clear hS; intro a hS
      refine r_addN0 (m := i) (k := 1) hS hH.kp0 rfl rfl (by omega) rfl ?_; clear hS; intro a hS
      refine r_assign hS hH.kp0 rfl rfl ?_; clear hS; intro a hS
      refine Sq.nil ?_
      refine then_n ?_
      refine ⟨mm - 1, by omega, i + 1, k, max g (k + m), r, s, lim, (if k + m = text.length then 3 else (if k + m = text.length then 2 else en)), kn, v3, hv, q, kc, by omega, fun _ => by have := hlo rfl; omega, .inr ⟨en_lost hen, hkn0⟩, hkr, by omega, by omega, by omega, by omega, hnl, hlm, fun h => by rcases en_lost (n := text.length) (m := k + m) hen with h9 | h9 <;> exact absurd (h9.symm.trans h) (by decide), hO6, hI6, fun z h => (hnw3 z h).1, hap3, hS.live ⟨rfl, rfl, rfl, rfl, rfl, rfl, rfl, trivial⟩, ⟨by simp, by simp, Mod.trans hmB4 hH.mod (fun z hz h => by rw [hSS] at h; rcases h with h | h | h; exact absurd (hnw2 z h) (by omega); omega; omega)⟩⟩
    · refine r_fieldAddr hS hH.kp0 rfl Fc.fo62_1 rfl ?_; clear hS; intro a hS
      refine r_load_sc hS hH (by repeat (first | exact Sub.nil | refine Sub.cons ?_ ?_ | exact In.here | refine In.there ?_)) rfl (by repeat (first | exact In.here | refine In.there ?_)) Fc.sc4 (by rfl) rfl ?_; clear hS; intro a hS
      refine r_not hS hH.kp0 rfl rfl ?_; clear hS; intro a hS
      refine r_move hS hH.kp0 rfl rfl ?_; clear hS; intro a hS
      refine Sq.guardYes hS rfl rfl rfl ?_
      refine r_fieldAddr hS hH.kp0 rfl Fc.fo62_2 rfl ?_; clear hS; intro a hS
      refine Sq.guardYes hS rfl rfl rfl ?_
      refine r_load_sc hS hH (by repeat (first | exact Sub.nil | refine Sub.cons ?_ ?_ | exact In.here | refine In.there ?_)) rfl (by repeat (first | exact In.here | refine In.there ?_)) Fc.sc4 (by rfl) rfl ?_; clear hS; intro a hS
      refine r_pickF hS hH.kp0 rfl rfl rfl rfl ?_; clear hS; intro a hS
      refine Sq.nil ?_
      refine then_n ?_
      refine c_condT hS rfl rfl ?_
      refine c_seq ?_
      refine reg_plain w0 (SS) ?_
      refine r_move hS hH.kp0 rfl rfl ?_; clear hS; intro a hS
      refine r_fieldAddr hS hH.kp0 rfl Fc.fo30_0 rfl ?_; clear hS; intro a hS
      refine r_load_sc hS hH (by repeat (first | exact Sub.nil | refine Sub.cons ?_ ?_ | exact In.here | refine In.there ?_)) rfl (by repeat (first | exact In.here | refine In.there ?_)) Fc.sc3 (by rfl) rfl ?_; clear hS; intro a hS
      refine r_fieldAddr hS hH.kp0 rfl Fc.fo30_1 rfl ?_; clear hS; intro a hS
      refine r_load_sc hS hH (by repeat (first | exact Sub.nil | refine Sub.cons ?_ ?_ | exact In.here | refine In.there ?_)) rfl (by repeat (first | exact In.here | refine In.there ?_)) Fc.sc22 (by rfl) rfl ?_; clear hS; intro a hS
      refine r_fieldAddr hS hH.kp0 rfl Fc.fo30_2 rfl ?_; clear hS; intro a hS
      refine r_load_sc hS hH (by repeat (first | exact Sub.nil | refine Sub.cons ?_ ?_ | exact In.here | refine In.there ?_)) rfl (by repeat (first | exact In.here | refine In.there ?_)) Fc.sc4 (by rfl) rfl ?_; clear hS; intro a hS
      refine r_call (l := [.tmp 160, .tmp 162, .tmp 164, .tmp 166]) hS rfl rfl Fc.fn25 rfl ?_
      refine Calls.mono (iPut hI4 hl k m cap dq hkr hrs hsn hm2 hm1 hnl (by omega) hdz hF4 hbp5) ?_
      rintro e w1 ⟨rfl, hI5, hM5⟩
      replace hH := hH.own hM5 hnI (fun z h => .inl (by rw [hSS]; exact .inr h))
      have hO5 := hO4.go hM5 (fun _ h => h) (fun z hz h => hap2 z hz h) (fun _ h => .inl h)
      refine ⟨_, rfl, hH.kp0, ?_⟩
      clear hS; intro a hS
      refine r_neq hS hH.kp0 rfl rfl rfl ?_; clear hS; intro a hS
      refine Sq.nil ?_
      refine then_n ?_
      refine c_condF hS rfl rfl ?_
      refine wp_skip ?_
      refine then_n ?_
      refine c_seq ?_
      refine c_seq ?_
      refine reg_plain w0 (SS) ?_
      refine r_fieldAddr hS hH.kp0 rfl Fc.fo62_1 rfl ?_; clear hS; intro a hS
      refine r_load_sc hS hH (by repeat (first | exact Sub.nil | refine Sub.cons ?_ ?_ | exact In.here | refine In.there ?_)) rfl (by repeat (first | exact In.here | refine In.there ?_)) Fc.sc4 (by rfl) rfl ?_; clear hS; intro a hS
      refine Sq.nil ?_
      refine then_n ?_
      refine c_condT hS rfl rfl ?_
      refine c_seq ?_
      refine c_seq ?_
      refine reg_plain w0 (SS) ?_
      refine r_move hS hH.kp0 rfl rfl ?_; clear hS; intro a hS
      refine r_load_row hS hH (by repeat (first | exact Sub.nil | refine Sub.cons ?_ ?_ | exact In.here | refine In.there ?_)) rfl (by repeat (first | exact In.here | refine In.there ?_)) Fc.ag30 (by rfl) rfl ?_; clear hS; intro a hS
      refine r_call (l := [.tmp 171, .tmp 172]) hS rfl rfl Fc.fn21 rfl ?_
      refine Calls.mono (oLost m cap dq hO5 hl hm1 (by omega) (by omega) (fun h => ifp h) hdz) ?_
      rintro e w1 ⟨v3, rfl, hO6, hnew6, hM6⟩
      have hszp := hH.lt
      have hszm6 := hH.mod.size
      replace hH := hH.own hM6 hnF2 (fun z h => .inl (by rw [hSS]; exact .inl h))
      have hI6 := hI5.go hM6 (fun _ h => h) (fun z h hz => hap2 z hz h) hnew6
      have hnF3 := apart_next hnF2 hnew6 hszp
      have hnw3 : ∀ z, FP ob gb hb v3 hv z → wB.heap.size ≤ z ∧ (SS z ∨ w0.heap.size ≤ z) := fun z hz => (hnew6 z hz).elim (fun h => ⟨hnw2 z h, .inl (by rw [hSS]; exact .inl h)⟩) (fun h9 => ⟨by omega, .inr (by omega)⟩)
      have hap3 : ∀ z, FP ob gb hb v3 hv z → ¬ (z = ib ∨ z = mb) := fun z hz h => (hnew6 z hz).elim (fun h9 => hap2 z h9 h) (fun h9 => by have := hX4 z h; omega)
      refine ⟨_, rfl, hH.kp0, ?_⟩
      clear hS; intro a hS
      refine r_neq hS hH.kp0 rfl rfl rfl ?_; clear hS; intro a hS
      refine Sq.nil ?_
      refine then_n ?_
      refine c_condF hS rfl rfl ?_
      refine wp_skip ?_
      refine then_n ?_
      refine wp_exit ?_
      refine then_e ?_
      refine blk_hit ?_
      refine then_n ?_
      refine reg_plain w0 (SS) ?_
      refine r_move hS hH.kp0 rfl rfl ?_; clear hS; intro a hS
      refine r_addN0 (m := i) (k := 1) hS hH.kp0 rfl rfl (by omega) rfl ?_; clear hS; intro a hS
      refine r_assign hS hH.kp0 rfl rfl ?_; clear hS; intro a hS
      refine Sq.nil ?_
      refine then_n ?_
      refine ⟨mm - 1, by omega, i + 1, k, max g (k + m), r, (max s (k + m)), lim, (if k + m = text.length then 3 else (if k + m = text.length then 2 else en)), (decide (k + m = text.length) || kn), v3, hv, q, kc, by omega, fun _ => by have := hlo rfl; omega, .inr ⟨en_lost hen, hkn0⟩, hkr, by omega, by omega, by omega, by omega, hnl, hlm, fun h => by rcases en_lost (n := text.length) (m := k + m) hen with h9 | h9 <;> exact absurd (h9.symm.trans h) (by decide), hO6, hI6, fun z h => (hnw3 z h).1, hap3, hS.live ⟨rfl, rfl, rfl, rfl, rfl, rfl, rfl, trivial⟩, ⟨by simp, by simp, Mod.trans hmB4 hH.mod (fun z hz h => by rw [hSS] at h; rcases h with h | h | h; exact absurd (hnw2 z h) (by omega); omega; omega)⟩⟩

end Go.Proofs.Ytkhcbllphdhbdaa
