/- Rules of symbolic execution over any program of the model, that the claims of this folder use; part SymMade. Conditions: those that each rule names. -/
import Derived.Test.YtkhcbllphdhbdaaSymActs
import Derived.Lib.ConvBytes
namespace Go.Sym
open Go

section
variable {P : Program} {ops : Array Oper} {Q : Exit → Act → World → Prop} {rest : List Item} {a : Act} {w w0 : World} {n : Nat} {R : Rg} {ds : List Deferred} {S : Nat → Prop} {L K : Blocks}
variable {f : Bool} {d : Nat} {ty : TypeId} {pos : String} {af : Array Edge}
/-- a slice as an array's pointer -/
theorem r_toArr {t len es m cap : Nat} {x : Operand} {p : Option Addr} (hS : StD ds n R a) (hSw : Sf f (Kp w0 S K) w) (hx : ev R x = some (.slice p m cap)) (ht : arrB P t = some (len, es)) (hle : len ≤ m) (hlt : Nat.blt d n = true)
    (k : ∀ a', StD ds n (up R d (.pointer p)) a' → Sq P ops Q rest a' w) : Sq P ops Q ((f, ⟨some d, .sliceToArrayPointer t x, ty, pos, af, none⟩, Kp w0 S K) :: rest) a w := by
  unfold arrB at ht
  split at ht
  · rename_i len' elem hu
    cases hq : P.info? elem with
    | none => rw [hq] at ht; simp at ht
    | some i =>
      rw [hq] at ht
      simp only [Option.map_some, Option.some.injEq, Prod.mk.injEq] at ht
      obtain ⟨rfl, rfl⟩ := ht
      refine r_pure hS hSw hlt (fun w => ?_) k
      have : ¬ m < len' := by omega
      simp [execOp, hS.val hx, Instr.arrayAt, run_underlying hu, this]
  · cases ht
/-- a made slice of single cells -/
theorem r_makeSl {t e by' m : Nat} {x y : Operand} {i j : Int} {v0 : Value} (hS : StD ds n R a) (hH : Hp w0 S L w) (hs : Sub K L) (hx : ev R x = some (.int .i64 i)) (hy : ev R y = some (.int .i64 j)) (hi : i = m) (hj : j = m) (he : elB P t = some (e, 1, by')) (hz : zcB P e = some [v0]) (hbytes : m * by' ≤ 140737488355328) (hm : m < 4611686018427387904) (hlt : Nat.blt d n = true)
    (k : ∀ a' w' b, w0.heap.size ≤ b → w.heap.size ≤ b → StD ds n (up R d (.slice (some ⟨b, 0, none⟩) m m)) a' → Hp w0 S ((b, .cells (List.replicate m v0).toArray e (0, 0)) :: L) w' → Sq P ops Q rest a' w') :
    Sq P ops Q ((false, ⟨some d, .makeSlice t x y, ty, pos, af, none⟩, Kp w0 S K) :: rest) a w := by
  obtain ⟨ii, z, hu, hi', hzz, hsz, rfl, hzs, hby⟩ := elB_parts he
  subst hi hj
  have hz2 : z.cells.toList = [v0] := by
    simp only [zcB, hi', Option.bind_some, hzz, Option.map_some, Option.some.injEq] at hz
    exact hz
  have hwrap : IntKind.i64.wrap (m : Int) = m := wrap_i64 (by omega)
  have hneg : ¬ ((m : Int) < 0) := by omega
  have hw0 : IntKind.i64.wrap 0 = 0 := wrap_i64 (by omega)
  have hbig : ¬ (281474976710656 < (ii.bytes : Int) * (m : Int)) := by
    have h : ((m * ii.bytes : Nat) : Int) ≤ ((140737488355328 : Nat) : Int) := Int.ofNat_le.2 hbytes
    rw [Int.natCast_mul, Int.mul_comm] at h
    generalize (ii.bytes : Int) * (m : Int) = q at h ⊢
    omega
  have hroom : ¬ (m * ii.bytes > roomBytes) := by
    have : roomBytes = 140737488355328 := rfl
    omega
  have hc : z.cells = #[v0] := by apply Array.ext'; rw [hz2]
  have hrun : (execOp a.eval ⟨some d, .makeSlice t x y, ty, pos, af, none⟩).run P w = .ok (.value (.slice (some ⟨w.heap.size, 0, none⟩) m m)) (w.alloc (.cells (List.replicate m v0).toArray e (0, 0))) := by
    by_cases h0 : m = 0
    · subst h0
      simp [execOp, hS.val hx, hS.val hy, Instr.makeSlice, run_underlying hu, asInt, asIntOf, typeInfo, hi', hwrap, hw0, hneg, hbig, sizeOf, hroom, run_askRoom, newRow, hsz]
      have e0 : Array.map (fun _ : Nat => (default : Value)) (Array.range 0) = #[] := by apply Array.ext'; simp
      rw [e0]
    · have hcells : (Array.range (m * ii.size)).map (fun q => z.cells[q % z.cells.size]!) = (List.replicate m v0).toArray := by
        rw [hsz, Nat.mul_one, hc]
        apply Array.ext'
        simp only [Array.toList_map, Array.toList_range]
        apply List.ext_getElem
        · simp
        · intro q h1 h2
          simp [Nat.mod_one]
      rw [← hcells]
      have h1 : ¬ m * ii.size = 0 := by rw [hsz]; omega
      simp [execOp, hS.val hx, hS.val hy, Instr.makeSlice, run_underlying hu, asInt, asIntOf, typeInfo, hi', hwrap, hw0, hneg, hbig, sizeOf, hroom, run_askRoom, newRow, h1, zeroValue, hzz]
  have hH' := hH.alloc (.cells (List.replicate m v0).toArray e (0, 0))
  exact Sq.done (w' := w.alloc _) rfl hrun ⟨fun p hp => hH'.blk p (List.mem_cons_of_mem _ (hs.mem p hp)), hH'.mod⟩ (k _ _ w.heap.size hH.mod.size (Nat.le_refl _) (hS.put hlt _) hH')
/-- a string's bytes, in a new row -/
theorem r_strBytes {s t e : TypeId} {x : Operand} {b0 : ByteArray} {u : TypeDesc} (hS : StD ds n R a) (hH : Hp w0 S L w) (hs : Sub K L) (hx : ev R x = some (.string b0)) (hsu : P.underlying s = some u) (ht : P.underlying t = some (.slice e)) (he : P.underlying e = some (.int .u8)) (hlt : Nat.blt d n = true)
    (k : ∀ a' w' b cap, w0.heap.size ≤ b → w.heap.size ≤ b → Ext w w' → (∀ F : Nat → Prop, ¬ F b → BsF F w' (.slice (some ⟨b, 0, none⟩) b0.size cap) b0.data.toList) → StD ds n (up R d (.slice (some ⟨b, 0, none⟩) b0.size cap)) a' → Hp w0 S L w' → Sq P ops Q rest a' w') :
    Sq P ops Q ((false, ⟨some d, .convert s t x, ty, pos, af, none⟩, Kp w0 S K) :: rest) a w := by
  have hrun := Lib.run_convert_string_bytes (P := P) w s t e b0 hsu ht he
  have hE : Ext w (Lib.bytesWorld w e b0) := ⟨rfl, rfl, rfl, by rw [Lib.bytesWorld_size]; omega, fun c hc _ => Lib.bytesWorld_at_old w e b0 c hc⟩
  have hH' := hH.ext hE
  have hl : b0.data.toList.length = b0.size := rfl
  have hge : b0.size ≤ grownCap w b0.size 0 e := grownCap_ge w b0.size 0 e
  refine Sq.done (w' := Lib.bytesWorld w e b0) rfl (by simp [execOp, hS.val hx, hrun]) (hH'.kp hs) (k _ _ w.heap.size (grownCap w b0.size 0 e) hH.mod.size (Nat.le_refl _) hE ?_ (hS.put hlt _) hH')
  intro F hF w3 k3
  refine ⟨_, _, ⟨by rw [hl], by simp [hl], by rw [hl]; exact hge, fun i v hv => ⟨w.heap.size, 0, rfl, k3.cell_some ?_ hF⟩, fun h => by cases h⟩⟩
  have hi : i < b0.size := by
    have := (List.getElem?_eq_some_iff.1 hv).1
    simpa [hl] using this
  rw [Nat.zero_add, Lib.bytesWorld_cell w e b0 i hi]
  rw [List.getElem?_map] at hv
  obtain ⟨q, hq, rfl⟩ := Option.map_eq_some_iff.1 hv
  simp [byteV, List.getD, hq]
/-- a literal of an empty slice -/
theorem r_buildSlice0 {t e : Nat} (hS : StD ds n R a) (hH : Hp w0 S L w) (hs : Sub K L) (hu : P.underlying t = some (.slice e)) (hi : (P.info? e).isSome = true) (hlt : Nat.blt d n = true)
    (k : ∀ a' w' b, w0.heap.size ≤ b → w.heap.size ≤ b → StD ds n (up R d (.slice (some ⟨b, 0, none⟩) 0 0)) a' → Hp w0 S ((b, .cells [].toArray e (0, 0)) :: L) w' → Sq P ops Q rest a' w') :
    Sq P ops Q ((false, ⟨some d, .buildSlice t 0 #[], ty, pos, af, none⟩, Kp w0 S K) :: rest) a w := by
  obtain ⟨i, hi⟩ := Option.isSome_iff_exists.1 hi
  have hH' := hH.alloc (.cells [].toArray e (0, 0))
  refine Sq.done (w' := w.alloc (.cells [].toArray e (0, 0))) (v := .slice (some ⟨w.heap.size, 0, none⟩) 0 0) rfl ?_ ⟨fun p hp => hH'.blk p (List.mem_cons_of_mem _ (hs.mem p hp)), hH'.mod⟩ (k _ _ w.heap.size hH.mod.size (Nat.le_refl _) (hS.put hlt _) hH')
  simp [execOp, Instr.buildSlice, run_underlying hu, sizeOf, typeInfo, hi, Instr.fill, newRow]
  have e0 : Array.map (fun _ : Nat => (default : Value)) (Array.range 0) = #[] := by apply Array.ext'; simp
  rw [e0]
end
end Go.Sym
