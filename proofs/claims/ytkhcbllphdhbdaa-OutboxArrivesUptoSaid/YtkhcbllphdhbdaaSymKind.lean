/- Rules of symbolic execution over any program of the model, that the claims of this folder use; part SymKind. Conditions: those that each rule names. -/
import Derived.Test.YtkhcbllphdhbdaaSymMsg
import Derived.MapKept
namespace Go.Sym
open Go Go.MapKept
/-! ### a map of ints to bools, all true -/
def KE (l : List (Int × Nat)) : Array MapEntry := (l.map fun p => ({ key := .int .i64 p.1, val := .bool true, born := p.2 } : MapEntry)).toArray
structure IMap (P : Program) (t k e : TypeId) : Prop where
  und : P.underlying t = some (.map k e)
  key : P.underlying k = some (.int .i64)
  zero : ∀ w, (zeroValue e).run P w = .ok (.bool false) w
def zvF (P : Program) (e : TypeId) : Bool := match (P.info? e).bind (·.zero) with
  | some (.bool false) => true
  | _ => false
theorem iMap_mk {P : Program} {t k e : TypeId} (h : mapB P t k e = true) (hk : P.underlying k = some (.int .i64)) (hz : zvF P e = true) : IMap P t k e := by
  unfold mapB at h
  split at h
  · rename_i k' e' hu
    simp only [Bool.and_eq_true] at h
    rw [Nat.eq_of_beq_eq_true h.1, Nat.eq_of_beq_eq_true h.2] at hu
    refine ⟨hu, hk, fun w => ?_⟩
    unfold zvF at hz
    split at hz
    · rename_i hh
      obtain ⟨i, hi, hz2⟩ := Option.bind_eq_some_iff.1 hh
      simp [zeroValue, typeInfo, hi, hz2]
    · cases hz
  · cases h
theorem KE_key (l : List (Int × Nat)) : ∀ x ∈ (KE l).toList, IsKey (.int .i64) x.key := by
  intro x hx
  simp only [KE, List.mem_map] at hx
  obtain ⟨p, _, rfl⟩ := hx
  rfl
theorem KE_push (l : List (Int × Nat)) (z : Int) (c : Nat) : (KE l).push { key := .int .i64 z, val := .bool true, born := c } = KE (l ++ [(z, c)]) := by
  simp [KE]
section
variable {P : Program} {ops : Array Oper} {Q : Exit → Act → World → Prop} {rest : List Item} {a : Act} {w w0 : World} {n : Nat} {R : Rg} {ds : List Deferred} {S : Nat → Prop} {L K : Blocks}
variable {f : Bool} {d : Nat} {ty : TypeId} {pos : String} {af : Array Edge}
theorem r_kindPut {t k e b clock : Nat} {x y u : Operand} {z : Int} {L' : Blocks} (l : List (Int × Nat)) (T : IMap P t k e) (hS : StD ds n R a) (hH : Hp w0 S L w) (hx : ev R x = some (.map (some b))) (hy : ev R y = some (.int .i64 z)) (hu : ev R u = some (.bool true)) (hp : Put b (.map (KE l) clock) (.map (KE (l ++ [(z, clock)])) (clock + 1)) L L') (hs : Sub K L') (hn : z ∉ l.map Prod.fst) (hw : S b ∨ w0.heap.size ≤ b)
    (kk : ∀ w', Hp w0 S L' w' → Sq P ops Q rest a w') : Sq P ops Q ((false, ⟨none, .insert t x y u, ty, pos, af, none⟩, Kp w0 S K) :: rest) a w := by
  have hb := hH.blk _ hp.old
  have hgo : (getObj b).run P w = .ok (.map (KE l) clock) w := by simp [getObj, Sem.run, hb]
  have hso : ∀ o, (setObj b o).run P w = .ok () { w with heap := w.heap.setIfInBounds b o } := fun o => by simp [setObj, Sem.run, hb]
  have hk : IsKey (.int .i64) (.int .i64 z) := rfl
  rcases findNow_spec hk (KE l).toList 0 (KE_key l) with ⟨h1, _⟩ | ⟨j, e', _, h2, h3⟩
  · have hr : (Instr.mapUpdate t (.map (some b)) (.int .i64 z) (.bool true)).run P w = .ok () { w with heap := w.heap.setIfInBounds b (.map (KE (l ++ [(z, clock)])) (clock + 1)) } := by
      simp [Instr.mapUpdate, run_underlying T.und, hgo, run_checkKey T.key hk, run_findKey T.key h1, hso, KE_push]
    have hH' := hH.turned hp (Turned.obj hb) hw
    exact Sq.skip rfl (by simp [execOp, hS.val hx, hS.val hy, hS.val hu, hr]) (hH'.kp hs) (kk _ hH')
  · refine absurd ?_ hn
    have hm := List.mem_of_getElem? h2
    simp only [KE, List.mem_map] at hm
    obtain ⟨p, hp', rfl⟩ := hm
    simp only [Value.int.injEq, true_and] at h3
    exact h3 ▸ List.mem_map_of_mem hp'
theorem run_kindAt {t k e b clock : Nat} {l : List (Int × Nat)} {z : Int} (T : IMap P t k e) (hb : w.heap[b]? = some (.map (KE l) clock)) : (Instr.lookup t (.map (some b)) (.int .i64 z) false).run P w = .ok (.bool (decide (z ∈ l.map Prod.fst))) w := by
  have hgo : (getObj b).run P w = .ok (.map (KE l) clock) w := by simp [getObj, Sem.run, hb]
  have hk : IsKey (.int .i64) (.int .i64 z) := rfl
  rcases findNow_spec hk (KE l).toList 0 (KE_key l) with ⟨h1, h2⟩ | ⟨j, e', h1, h2, h3⟩
  · have hno : ¬ z ∈ l.map Prod.fst := by
      intro hm
      obtain ⟨p, hp, rfl⟩ := List.mem_map.1 hm
      exact h2 { key := .int .i64 p.1, val := .bool true, born := p.2 } (by simp only [KE, List.mem_map]; exact ⟨p, hp, rfl⟩) rfl
    rw [decide_eq_false hno]
    simp [Instr.lookup, run_underlying T.und, hgo, run_checkKey T.key hk, run_findKey T.key h1, T.zero]
  · have hm := List.mem_of_getElem? h2
    simp only [KE, List.mem_map] at hm
    obtain ⟨p, hp', rfl⟩ := hm
    simp only [Value.int.injEq, true_and] at h3
    rw [decide_eq_true (show z ∈ l.map Prod.fst from h3 ▸ List.mem_map_of_mem hp')]
    simp [Instr.lookup, run_underlying T.und, hgo, run_checkKey T.key hk, run_findKey T.key h1]
theorem r_kindAt {t k e b clock : Nat} {x y : Operand} {z : Int} (l : List (Int × Nat)) (T : IMap P t k e) (hS : StD ds n R a) (hH : Hp w0 S L w) (hs : Sub K L) (hx : ev R x = some (.map (some b))) (hy : ev R y = some (.int .i64 z)) (hi : In b (.map (KE l) clock) L) (hlt : Nat.blt d n = true)
    (kk : ∀ a', StD ds n (up R d (.bool (decide (z ∈ l.map Prod.fst)))) a' → Sq P ops Q rest a' w) : Sq P ops Q ((false, ⟨some d, .lookup t x y false, ty, pos, af, none⟩, Kp w0 S K) :: rest) a w :=
  Sq.done rfl (by simp [execOp, hS.val hx, hS.val hy, run_kindAt T (hH.get hi)]) (hH.kp hs) (kk _ (hS.put hlt _))
theorem r_kindAtS {t k e b clock : Nat} {x y : Operand} {z : Int} (l : List (Int × Nat)) (T : IMap P t k e) (hS : StD ds n R a) (hx : ev R x = some (.map (some b))) (hy : ev R y = some (.int .i64 z)) (hi : In b (.map (KE l) clock) K) (hlt : Nat.blt d n = true)
    (kk : ∀ a', StD ds n (up R d (.bool (decide (z ∈ l.map Prod.fst)))) a' → Sq P ops Q rest a' w) : Sq P ops Q ((true, ⟨some d, .lookup t x y false, ty, pos, af, none⟩, Kp w0 S K) :: rest) a w :=
  Sq.soft rfl (fun w' hw' => by simp [execOp, hS.val hx, hS.val hy, run_kindAt T (hw'.1 _ hi.mem)]) (kk _ (hS.put hlt _))
end
/-- the kinds that there are -/
def kindL : List (Int × Nat) := [(1, 0), (2, 1), (4, 2), (8, 3), (11, 4), (15, 5), (20, 6)]
theorem kindL_mem (z : Int) : z ∈ kindL.map Prod.fst ↔ (z = 1 ∨ z = 2 ∨ z = 4 ∨ z = 8 ∨ z = 11 ∨ z = 15 ∨ z = 20) := by simp [kindL]
/-! ### a message's bytes -/
theorem beB1 (x : Nat) : beB x 1 = [UInt8.ofNat x] := by simp [beB]
theorem beB2 (x : Nat) : beB x 2 = [UInt8.ofNat (x / 256), UInt8.ofNat x] := by rw [beB_succ, beB1]
theorem beB3 (x : Nat) : beB x 3 = [UInt8.ofNat (x / 65536), UInt8.ofNat (x / 256), UInt8.ofNat x] := by rw [beB_succ, beB2]
theorem beB4 (x : Nat) : beB x 4 = [UInt8.ofNat (x / 16777216), UInt8.ofNat (x / 65536), UInt8.ofNat (x / 256), UInt8.ofNat x] := by rw [beB_succ, beB3]
def prsB (l : List ByteArray) : List UInt8 := (l.map fun s => beB s.size 1 ++ s.data.toList).flatten
theorem prsB_succ {l : List ByteArray} {k : Nat} (hk : k < l.length) : prsB (l.take (k + 1)) = prsB (l.take k) ++ beB l[k].size 1 ++ l[k].data.toList := by
  rw [← List.take_append_getElem hk]
  simp only [prsB, List.map_append, List.map_cons, List.map_nil, List.flatten_append, List.flatten_cons, List.flatten_nil, List.append_nil, List.append_assoc]
theorem prsB_len : ∀ (l : List ByteArray), oddN l = 0 → (prsB l).length ≤ 256 * l.length
  | [], _ => by simp [prsB]
  | s :: r, h => by
    have h1 : odd1 s = false ∧ oddN r = 0 := by
      unfold oddN at *
      rw [List.countP_cons] at h
      refine ⟨?_, by omega⟩
      cases hs : odd1 s with
      | false => rfl
      | true => rw [hs] at h; simp at h
    have ih := prsB_len r h1.2
    have h2 : s.size ≤ 255 := by
      have := h1.1
      unfold odd1 at this
      have := of_decide_eq_false this
      omega
    have e : prsB (s :: r) = beB s.size 1 ++ s.data.toList ++ prsB r := by simp [prsB]
    have e2 : s.data.toList.length = s.size := by rw [Array.length_toList]; rfl
    rw [e, List.length_append, List.length_append, beB_len, e2, List.length_cons]
    omega
theorem oddN_take {l : List ByteArray} (k : Nat) (h : oddN l = 0) : oddN (l.take k) = 0 := by
  unfold oddN at *
  rw [List.countP_eq_zero] at *
  exact fun s hs => h s (List.mem_of_mem_take hs)
/-- the bytes of the fields, by kinds -/
def bodyB (kd : Int) (rnd shr : List UInt8) (name : ByteArray) (ptl : List ByteArray) (prm tck bnd : List UInt8) (ea ag : Bool) (mrk : List UInt8) (li : Int) : List UInt8 :=
  if kd = 1 then rnd ++ shr ++ beB name.size 1 ++ name.data.toList ++ beB ptl.length 1 ++ prsB ptl ++ beB prm.length 2 ++ prm ++ [UInt8.ofNat ((if 0 < tck.length then 1 else 0) + (if ea then 2 else 0))] ++ (if 0 < tck.length then beB tck.length 2 ++ tck ++ bnd else [])
  else if kd = 2 then rnd ++ shr ++ [UInt8.ofNat (if ag then 1 else 0)]
  else if kd = 4 then beB li.toNat 4 ++ beB tck.length 2 ++ tck ++ [UInt8.ofNat (if ea then 1 else 0)]
  else if kd = 8 then prsB ptl ++ beB prm.length 2 ++ prm ++ [UInt8.ofNat (if ea then 1 else 0)]
  else if kd = 11 then beB name.size 1 ++ name.data.toList ++ mrk
  else mrk
end Go.Sym
