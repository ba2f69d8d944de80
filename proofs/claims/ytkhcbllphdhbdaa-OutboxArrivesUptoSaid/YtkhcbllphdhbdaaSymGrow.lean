/- Rules of symbolic execution over any program of the model, that the claims of this folder use; part SymGrow. Conditions: those that each rule names. -/
import Derived.Test.YtkhcbllphdhbdaaSymRow3
namespace Go.Sym
open Go
section
variable {P : Program} {ops : Array Oper} {Q : Exit → Act → World → Prop} {rest : List Item} {a : Act} {w w0 : World} {n : Nat} {R : Rg} {ds : List Deferred} {S : Nat → Prop} {L K : Blocks}
variable {f : Bool} {d : Nat} {ty : TypeId} {pos : String} {af : Array Edge}
theorem r_andB {t yt : TypeId} {x y : Operand} (u v r : UInt8) (hS : StD ds n R a) (hSw : Sf f (Kp w0 S K) w) (hx : ev R x = some (byteV u)) (hy : ev R y = some (byteV v)) (hlt : Nat.blt d n = true) (hr : u &&& v = r)
    (k : ∀ a', StD ds n (up R d (byteV r)) a' → Sq P ops Q rest a' w) : Sq P ops Q ((f, ⟨some d, .binOp .and t x y yt, ty, pos, af, none⟩, Kp w0 S K) :: rest) a w :=
  r_and hS hSw hx hy hlt (by
    have : Value.int .u8 (IntKind.u8.wrap ((BitVec.ofInt IntKind.u8.bits (u.toNat : Int) &&& BitVec.ofInt IntKind.u8.bits (v.toNat : Int)).toNat : Int)) = byteV r := by
      subst hr
      have h1 := u.toNat_lt
      have h2 := v.toNat_lt
      have h3 : u.toNat &&& v.toNat < 2 ^ 8 := Nat.and_lt_two_pow _ (by omega)
      rw [BitVec.toNat_and]
      simp only [IntKind.bits, BitVec.ofInt_natCast, BitVec.toNat_ofNat]
      rw [Nat.mod_eq_of_lt (show u.toNat < 2 ^ 8 by omega), Nat.mod_eq_of_lt (show v.toNat < 2 ^ 8 by omega), wrap_u8, Nat.mod_eq_of_lt (show u.toNat &&& v.toNat < 256 by omega)]
      simp [byteV]
    rw [this]; exact k)
theorem zeroCells_u8 {z : Value} (hz : z.cells.toList = [byteV 0]) (k : Nat) : (Builtin.zeroCells z.cells k).toList = List.replicate k (byteV 0) := by
  have : z.cells = #[byteV 0] := by apply Array.ext'; exact hz
  rw [this]
  unfold Builtin.zeroCells
  apply List.ext_getElem?
  intro i
  by_cases hi : i < k
  · simp [hi, Nat.mod_one]
  · simp [hi]
theorem run_append_blkZ {t t2 e b m cap k : Nat} {l : List Value} (he : elB P t = some (e, 1, 1)) (hz : zcB P e = some [byteV 0]) (h2 : isI64 P t2 = true) (hb : w.heap[b]? = some (.cells l.toArray e (0, 0))) (hl : l.length = cap) (hm : m ≤ cap) (h0 : 0 < k) (hbytes : m + k ≤ 140737488355328) (hk : k ≤ 1099511627776) :
    ∃ (w' : World) (b' c : Nat) (l2 : List Value), (Builtin.append_ #[t, t2] ty #[.slice (some ⟨b, 0, none⟩) m cap, .int .i64 (k : Int)]).run P w = .ok (.slice (some ⟨b', 0, none⟩) (m + k) c) w' ∧ Mod (· = b) w w' ∧ (b' = b ∨ w.heap.size ≤ b') ∧
      w'.heap[b']? = some (.cells l2.toArray e (0, 0)) ∧ l2.length = c ∧ m + k ≤ c ∧ l2.take (m + k) = l.take m ++ List.replicate k (byteV 0) := by
  obtain ⟨ii, z, hu, hi', hz', hsz, hby, hzs, _⟩ := elB_parts he
  have hzc : z.cells.toList = [byteV 0] := by
    unfold zcB at hz
    rw [hi'] at hz
    simpa [hz'] using hz
  have hzk := zeroCells_u8 hzc
  have hu2 : P.underlying t2 = some (.int .i64) := by
    unfold isI64 at h2
    split at h2
    · assumption
    · cases h2
  have hwrap : IntKind.i64.wrap (k : Int) = k := wrap_i64 (by omega)
  have hneg : ¬ ((k : Int) < 0) := by omega
  have hbig : ¬ ((k : Int) * ((1 : Nat) : Int) > 2 ^ 48) := by omega
  have hk1 : ¬ (k * 1 = 0) := by omega
  have hzz : (Builtin.zeroCells z.cells k).toList = List.replicate k (byteV 0) := hzk k
  by_cases hroom : m + k ≤ cap
  · obtain ⟨w', hr, hq⟩ := run_storeCells (P := P) (List.replicate k (byteV 0)) l (0 + m * 1) 0 w hb (fun u hu => by rw [(List.mem_replicate.1 hu).2]; rfl) (by simp; omega)
    refine ⟨w', b, cap, wr l (0 + m * 1) (List.replicate k (byteV 0)), ?_, hq.mod, .inl rfl, hq.here, by rw [wr_length, hl], hroom, ?_⟩
    · simp only [Builtin.append_, List.getElem?_toArray, List.getElem?_cons_zero, List.getElem?_cons_succ, Sem.run_bind, run_underlying hu, Result.andThen_ok, sizeOf, typeInfo, run_program, hi', Sem.run_pure, run_underlying hu2]
      simp only [if_true, asInt, asIntOf, Sem.run_bind, Sem.run_pure, Result.andThen_ok, hwrap, hneg, if_false, run_program, hi', hby, hbig, Int.toNat_natCast, hroom, Bool.not_true, Bool.false_eq_true, hsz, hk1, zeroValue, typeInfo, hz', add_eq, hzz, hr]
    · have := wr_take (r := List.replicate k (byteV 0)) (l := l) (o := 0 + m * 1) (by simp; omega)
      simpa using this
  · have hge := grownCap_ge w (m + k) cap e
    have hold := Sl.of_block (es := 1) (m := m) (cap := cap) hb (by omega) hm
    have hfit := growslice_fits (need := m + k) (old := cap) (bytes := 1) (by omega) (by omega)
    have h48' : ¬ (Builtin.nextslicecap (m + k) cap * 1 > 2 ^ 48) := by omega
    have hd : w.drew.heap = w.heap := rfl
    have hmm : (Builtin.firstCells 1 m (.slice (some ⟨b, 0, none⟩) m cap)).run P w.drew = .ok (l.take (m * 1)).toArray w.drew := by
      have := hold.load (P := P) m (Nat.le_refl _) w.drew hd
      rwa [List.take_of_length_le (by rw [hold.len]; exact Nat.le_refl _)] at this
    have hmax : ¬ ((m + k : Nat) : Int) > IntKind.i64.max := by
      have : IntKind.i64.max = 9223372036854775807 := rfl
      rw [this]; omega
    have e1 : (l.take (m * 1)).toArray ++ Builtin.zeroCells z.cells k ++ Builtin.zeroCells z.cells (grownCap w (m + k) cap e - (m + k)) = (l.take (m * 1) ++ List.replicate k (byteV 0) ++ List.replicate (grownCap w (m + k) cap e - (m + k)) (byteV 0)).toArray := by
      apply Array.ext'; simp [hzk]
    have hlen : (l.take (m * 1) ++ List.replicate k (byteV 0) ++ List.replicate (grownCap w (m + k) cap e - (m + k)) (byteV 0)).length = grownCap w (m + k) cap e := by
      simp; omega
    refine ⟨_, w.heap.size, grownCap w (m + k) cap e, _, ?_, ((Ext.drew w).trans (Ext.alloc w.drew (.cells (l.take (m * 1) ++ List.replicate k (byteV 0) ++ List.replicate (grownCap w (m + k) cap e - (m + k)) (byteV 0)).toArray e (0, 0)))).mono (fun _ h => h.elim), .inr (Nat.le_refl _), heap_alloc_new w.drew _, hlen, hge, ?_⟩
    · simp only [Builtin.append_, List.getElem?_toArray, List.getElem?_cons_zero, List.getElem?_cons_succ, Sem.run_bind, run_underlying hu, Result.andThen_ok, sizeOf, typeInfo, run_program, hi', Sem.run_pure, run_underlying hu2]
      simp only [if_true, asInt, asIntOf, Sem.run_bind, Sem.run_pure, Result.andThen_ok, hwrap, hneg, if_false, run_program, hi', hby, hbig, Int.toNat_natCast, hroom, hmax, false_and, Bool.not_true, Bool.false_eq_true, hsz, hk1, h48', run_choose, Question.forced, run_askRoom]
      have e2 : (Question.appendCap (m + k) cap e).cut (w.tape w.drawn (.appendCap (m + k) cap e)) = grownCap w (m + k) cap e := rfl
      rw [e2]
      simp only [World.drew_eq, hmm, Result.andThen_ok, zeroValue, Sem.run_bind, typeInfo, run_program, hi', hz', Sem.run_pure, newRow, run_newObj]
      rw [e1]
      rfl
    · have h3 : (l.take (m * 1) ++ List.replicate k (byteV 0)).length = m + k := by simp; omega
      rw [← h3, List.take_left, Nat.mul_one]
/-- 'append(b, make([]byte, k)...)' to a slice of the call's own -/
theorem r_appZB {t t2 e : Nat} {x y : Operand} {b cap : Nat} {i : Int} {l : List Value} {L' : Blocks} (u : List UInt8) (k : Nat) (hS : StD ds n R a) (hH : Hp w0 S L w) (hx : ev R x = some (.slice (some ⟨b, 0, none⟩) u.length cap)) (hy : ev R y = some (.int .i64 i)) (hik : i = (k : Nat))
    (hi : Del b (.cells l.toArray e (0, 0)) L L') (hs : Sub K L') (he : elB P t = some (e, 1, 1)) (hz : zcB P e = some [byteV 0]) (h2 : isI64 P t2 = true) (hB : BB cap l u) (h0 : 0 < k) (hbytes : u.length + k ≤ 1099511627776) (hw : w0.heap.size ≤ b) (hlt : Nat.blt d n = true)
    (kk : ∀ (a' : Act) (w' : World) (b' c : Nat) (l2 : List Value), w0.heap.size ≤ b' → BB c l2 (u ++ List.replicate k 0) → StD ds n (up R d (.slice (some ⟨b', 0, none⟩) (u ++ List.replicate k 0).length c)) a' → Hp w0 S ((b', .cells l2.toArray e (0, 0)) :: L') w' → Sq P ops Q rest a' w') :
    Sq P ops Q ((false, ⟨some d, .call ⟨.builtin .append, #[x, y], #[t, t2]⟩, ty, pos, af, none⟩, Kp w0 S K) :: rest) a w := by
  subst hik
  have hb := hH.blk _ hi.old
  have hH' := hH.del hi
  have hne := hi.ne hH.nd
  obtain ⟨w', b', c, l2, hr, hmod, hb', hhb, hl2, hc, htk⟩ := run_append_blkZ (P := P) (ty := ty) (k := k) he hz h2 hb hB.len hB.le h0 (by omega) (by omega)
  have hne' : ∀ p ∈ L', p.1 ≠ b' := fun p hp => by
    rcases hb' with rfl | h
    · exact hne p hp
    · have := lt_of_block (hH'.blk p hp); omega
  have hHw : Hp w0 S ((b', .cells l2.toArray e (0, 0)) :: L') w' := by
    refine ⟨fun p hp => ?_, by simp only [List.map_cons, List.nodup_cons]; exact ⟨fun hm => by obtain ⟨p, hp, e⟩ := List.mem_map.1 hm; exact hne' p hp e, hH'.nd⟩, hH.mod.trans hmod (fun c hc hcb => by subst hcb; omega)⟩
    rcases List.mem_cons.1 hp with rfl | hp
    · exact hhb
    · exact hmod.heap_some (hH'.blk p hp) (hne p hp)
  have hw' : w0.heap.size ≤ b' := by
    rcases hb' with rfl | h
    · exact hw
    · exact Nat.le_trans hH.mod.size h
  have e1 : (u ++ List.replicate k (0 : UInt8)).length = u.length + k := by simp
  have hBB : BB c l2 (u ++ List.replicate k 0) := ⟨hl2, by rw [e1]; exact hc, by rw [e1, htk, hB.take, List.map_append]; simp⟩
  exact Sq.done rfl (run_append_op hS hx hy hr) ⟨fun p hp => hHw.blk p (List.mem_cons_of_mem _ (hs.mem p hp)), hHw.mod⟩ (kk _ w' b' c l2 hw' hBB (by rw [e1]; exact hS.put hlt _) hHw)
/-- as r_alloc, and what becomes of the world -/
theorem r_allocE {t : Nat} {cs : List Value} (hS : StD ds n R a) (hH : Hp w0 S L w) (hs : Sub K L) (hv : zcB P t = some cs) (hlt : Nat.blt d n = true)
    (k : ∀ a' w' b, w0.heap.size ≤ b → w.heap.size ≤ b → Ext w w' → StD ds n (up R d (.pointer (some ⟨b, 0, none⟩))) a' → Hp w0 S ((b, .cells cs.toArray t (0, 0)) :: L) w' → Sq P ops Q rest a' w') : Sq P ops Q ((false, ⟨some d, .alloc t, ty, pos, af, none⟩, Kp w0 S K) :: rest) a w := by
  have hH' := hH.alloc (.cells cs.toArray t (0, 0))
  have hK' : Kp w0 S K (w.alloc (.cells cs.toArray t (0, 0))) := ⟨fun p hp => hH'.blk p (List.mem_cons_of_mem _ (hs.mem p hp)), hH'.mod⟩
  refine Sq.done (w' := w.alloc (.cells cs.toArray t (0, 0))) rfl ?_ hK' (k _ _ w.heap.size hH.mod.size (Nat.le_refl _) (Ext.alloc w _) (hS.put hlt _) hH')
  unfold zcB at hv
  cases hi : P.info? t with
  | none => simp [hi] at hv
  | some i =>
    cases hz : i.zero with
    | none => simp [hi, hz] at hv
    | some z =>
      simp [hi, hz] at hv
      subst hv
      simp [execOp, Instr.alloc, zeroValue, typeInfo, hi, hz, newVar, newRow]
/-- as r_store_row, and what becomes of the world -/
theorem r_store_rowM {t b : Nat} {x y : Operand} {l vs : List Value} {T : TypeId} {L' : Blocks} (hS : StD ds n R a) (hH : Hp w0 S L w) (hx : ev R x = some (.pointer (some ⟨b, 0, none⟩))) (hy : ev R y = some (.agg vs.toArray)) (hi : Put b (.cells l.toArray T (0, 0)) (.cells vs.toArray T (0, 0)) L L') (hs : Sub K L')
    (ht : sizeB P t vs.length = true) (h1 : ∀ u ∈ vs, u.oneCell' = true) (hl : l.length = vs.length) (hw : S b ∨ w0.heap.size ≤ b)
    (k : ∀ w', Mod (· = b) w w' → Hp w0 S L' w' → Sq P ops Q rest a w') : Sq P ops Q ((false, ⟨none, .store t x y, ty, pos, af, none⟩, Kp w0 S K) :: rest) a w := by
  have hvs : (Value.agg vs.toArray).cells = vs.toArray := rfl
  obtain ⟨w', hr, hq⟩ := run_storeVar (P := P) (w := w) (t := t) (b := b) (o := 0) (l := l) (T := T) (v := .agg vs.toArray) ht (hH.blk _ hi.old) h1 (by rw [hvs]; show 0 + vs.length ≤ l.length; omega)
  rw [hvs, spl_wr (show 0 + vs.length ≤ l.length by omega), spl_all hl] at hq
  have hH' := hH.turned hi hq hw
  exact Sq.skip (w' := w') rfl (by simp [execOp, hS.val hx, hS.val hy, Instr.storeAt, Instr.sureAddr, hr]) (hH'.kp hs) (k w' hq.mod hH')
end
end Go.Sym
