/- A text that is written to an outbox arrives whole at an inbox, whatever is lost and comes twice. Part Inbox1: walks and lemmas of the proof. -/
import Derived.Test.YtkhcbllphdhbdaaBox1
import Derived.Test.YtkhcbllphdhbdaaSymSet
import Derived.Shelf.Sort.Plain
import Derived.Shelf.Slices.In.SortNone
import Derived.Test.YtkhcbllphdhbdaaSymMapL
/- slices.Sort of integers, at this seat: the kit's contract, in this library's words. -/
namespace Go.Proofs.Ytkhcbllphdhbdaa
open Go.Sym
def Try.sortRen : Go.Shelf.Ren := ⟨fun x => match x with | 189 => 54 | 125 => 64 | 257 => 63 | 128 => 75 | 129 => 76 | 294 => 66 | 295 => 67 | 296 => 68 | 297 => 69 | 298 => 70 | 299 => 71 | 216 => 72 | 300 => 73 | 301 => 74 | 328 => 78 | 329 => 79 | 330 => 80 | 331 => 81 | 332 => 82 | 215 => 83 | 343 => 84 | n => n, fun x => match x with | 28 => 76 | 3 => 3 | 46 => 108 | 0 => 0 | 51 => 119 | 53 => 121 | 4 => 4 | 183 => 112 | 182 => 111 | 131 => 99 | 5 => 5 | 9 => 9 | 218 => 123 | 222 => 127 | 228 => 129 | 229 => 45 | n => n, fun x => x⟩
theorem Try.sortLays : Lays.n189 Try.prog Try.sortRen :=
  { mixed := (by kernel_rfl), f125 := Try.func64.trans (congrArg some (by kernel_rfl)), f128 := Try.func75.trans (congrArg some (by kernel_rfl)), f129 := Try.func76.trans (congrArg some (by kernel_rfl)), f189 := Try.func54.trans (congrArg some (by kernel_rfl)), f215 := Try.func83.trans (congrArg some (by kernel_rfl)), f216 := Try.func72.trans (congrArg some (by kernel_rfl)), f257 := Try.func63.trans (congrArg some (by kernel_rfl)), f294 := Try.func66.trans (congrArg some (by kernel_rfl)), f295 := Try.func67.trans (congrArg some (by kernel_rfl)), f296 := Try.func68.trans (congrArg some (by kernel_rfl)), f297 := Try.func69.trans (congrArg some (by kernel_rfl)), f298 := Try.func70.trans (congrArg some (by kernel_rfl)), f299 := Try.func71.trans (congrArg some (by kernel_rfl)), f300 := Try.func73.trans (congrArg some (by kernel_rfl)), f301 := Try.func74.trans (congrArg some (by kernel_rfl)), f328 := Try.func78.trans (congrArg some (by kernel_rfl)), f329 := Try.func79.trans (congrArg some (by kernel_rfl)), f330 := Try.func80.trans (congrArg some (by kernel_rfl)), f331 := Try.func81.trans (congrArg some (by kernel_rfl)), f332 := Try.func82.trans (congrArg some (by kernel_rfl)), f343 := Try.func84.trans (congrArg some (by kernel_rfl)), t0 := Try.underlying0, a0 := Try.isAgg0, z0 := Try.sizeOf0, v0 := Try.zeroValue0, t3 := Try.underlying3, a3 := Try.isAgg3, z3 := Try.sizeOf3, v3 := Try.zeroValue3, t4 := Try.underlying4, a4 := Try.isAgg4, z4 := Try.sizeOf4, v4 := Try.zeroValue4, t5 := Try.underlying5, a5 := Try.isAgg5, z5 := Try.sizeOf5, v5 := Try.zeroValue5, t9 := Try.underlying9, a9 := Try.isAgg9, z9 := Try.sizeOf9, v9 := Try.zeroValue9, t28 := Try.underlying76, a28 := Try.isAgg76, z28 := Try.sizeOf76, v28 := Try.zeroValue76, t46 := Try.underlying108, a46 := Try.isAgg108, z46 := Try.sizeOf108, v46 := Try.zeroValue108, t51 := Try.underlying119, a51 := Try.isAgg119, z51 := Try.sizeOf119, v51 := Try.zeroValue119, t53 := Try.underlying121, a53 := Try.isAgg121, z53 := Try.sizeOf121, v53 := Try.zeroValue121, t131 := Try.underlying99, a131 := Try.isAgg99, z131 := Try.sizeOf99, v131 := Try.zeroValue99, t182 := Try.underlying111, a182 := Try.isAgg111, z182 := Try.sizeOf111, v182 := Try.zeroValue111, t183 := Try.underlying112, a183 := Try.isAgg112, z183 := Try.sizeOf112, v183 := Try.zeroValue112, t218 := Try.underlying123, a218 := Try.isAgg123, z218 := Try.sizeOf123, v218 := Try.zeroValue123, t222 := Try.underlying127, a222 := Try.isAgg127, z222 := Try.sizeOf127, v222 := Try.zeroValue127, t228 := Try.underlying129, a228 := Try.isAgg129, z228 := Try.sizeOf129, v228 := Try.zeroValue129, t229 := Try.underlying45, a229 := Try.isAgg45, z229 := Try.sizeOf45, v229 := Try.zeroValue45 }
theorem Sort_none (w : World) : Calls Try.prog 54 #[.slice none 0 0] w fun e w' => e = .returned (.tuple #[]) ∧ w' = w :=
  Any.slices_Sort_int_none Try.sortLays none 0 w
theorem Sort_some (w : World) {b cap : Nat} {l : List Value} {xs : List Int} {e3 : TypeId} (hb : w.heap[b]? = some (.cells l.toArray e3 (0, 0))) (hl : l.length = cap) (hm : xs.length ≤ cap) (hx : l.take xs.length = icells xs) (hn : xs.length < 4611686018427387904) :
    Calls Try.prog 54 #[.slice (some ⟨b, 0, none⟩) xs.length cap] w fun e w' => e = .returned (.tuple #[]) ∧ ∃ l' : List Value, w'.heap[b]? = some (.cells l'.toArray e3 (0, 0)) ∧ l'.length = cap ∧
      l'.take xs.length = icells (xs.mergeSort fun x y => decide (x ≤ y)) ∧ Mod (· = b) w w' := by
  have hlt := (Array.getElem?_eq_some_iff.1 hb).1
  have hcell : ∀ j, j < xs.length → l[j]? = some (.int .i64 (xs[j]!)) := fun j hj => by
    have h1 : (l.take xs.length)[j]? = l[j]? := by rw [List.getElem?_take, if_pos hj]
    rw [← h1, hx, icells, List.getElem?_map, List.getElem?_eq_getElem hj]
    simp [getElem!_pos xs j hj]
  have hH : Go.Sort.Holds (Value.int .i64) w b 0 xs.toArray := fun j hj => by
    have hj' : j < xs.length := by simpa using hj
    refine ⟨?_, by simp [World.frozen?, hb]⟩
    have := hcell j hj'
    simp only [World.cell?, hb]
    simpa [getElem!_pos xs j hj'] using this
  refine (Any.slices_Sort_int Try.sortLays b 0 cap xs w hH hlt hn).mono ?_
  rintro e w' ⟨rfl, k, os, rfl⟩
  have hs : (xs.mergeSort fun x y => decide (x ≤ y)).length = xs.length := List.length_mergeSort _
  generalize hd : (xs.mergeSort fun x y => decide (x ≤ y)) = d at hs ⊢
  refine ⟨rfl, icells d ++ l.drop xs.length, ?_, by simp [icells, hs, hl]; omega, ?_, ?_⟩
  · have hsz : (w.heap).size = w.heap.size := rfl
    show (Go.Sort.grow (Go.Sort.putRow (Value.int .i64) (Go.Sort.ahead w k) b 0 d.toArray) os).heap[b]? = _
    simp only [Go.Sort.grow, Go.Sort.putRow, Go.Sort.mapBlock, Go.Sort.ahead]
    rw [Array.getElem?_append_left (by simpa using hlt), Array.getElem?_modify, if_pos rfl, hb]
    simp only [Option.map_some, Go.Sort.onCells, Option.some.injEq, Obj.cells.injEq, and_true]
    apply Array.ext_getElem?
    intro j
    simp only [Go.Sort.putCells, Array.getElem?_mapIdx, List.getElem?_toArray, List.size_toArray, Nat.zero_add, Nat.sub_zero, Nat.zero_le, true_and]
    by_cases hj : j < d.length
    · rw [List.getElem?_append_left (by simpa [icells] using hj), List.getElem?_eq_getElem (show j < l.length by omega), icells, List.getElem?_map, List.getElem?_eq_getElem hj]
      simp [hj]
    · rw [List.getElem?_append_right (by simpa [icells] using Nat.le_of_not_lt hj), List.getElem?_drop]
      have : xs.length + (j - (icells d).length) = j := by simp [icells]; omega
      rw [this]
      cases l[j]? <;> simp [hj]
  · have : (icells d).length = xs.length := by simp [icells, hs]
    rw [← this]; simp
  · exact ⟨rfl, rfl, rfl, by simp [Go.Sort.grow, Go.Sort.putRow, Go.Sort.mapBlock, Go.Sort.ahead], fun c hc hne => by
      simp only [Go.Sort.grow, Go.Sort.putRow, Go.Sort.mapBlock, Go.Sort.ahead]
      rw [Array.getElem?_append_left (by simpa using hc), Array.getElem?_modify, if_neg (fun h => hne h.symm)]⟩
end Go.Proofs.Ytkhcbllphdhbdaa

namespace Go.Proofs.Ytkhcbllphdhbdaa
open Go.Sym

theorem Fc.fo83_0 : foff Try.prog 83 0 = some 0 := by kernel_rfl
theorem Fc.fo83_3 : foff Try.prog 83 3 = some 3 := by kernel_rfl
theorem Fc.fo83_4 : foff Try.prog 83 4 = some 4 := by kernel_rfl
theorem Fc.fo83_5 : foff Try.prog 83 5 = some 5 := by kernel_rfl
theorem Fc.fo83_6 : foff Try.prog 83 6 = some 6 := by kernel_rfl
theorem Fc.isMap81 : isMap Try.prog 81 = true := by kernel_rfl
theorem Fc.isPtr58 : isPtr Try.prog 58 = true := by kernel_rfl
theorem Fc.pl83 : placesB Try.prog 83 = some [(0, 1), (1, 1), (2, 1), (3, 1), (4, 1), (5, 1), (6, 1), (7, 1)] := by kernel_rfl
theorem Fc.zc83 : zcB Try.prog 83 = some [.bool false, .int .i64 0, .int .i64 0, .int .i64 0, .int .i64 0, .int .i64 0, .bool false, .map none] := by kernel_rfl
set_option maxRecDepth 100000 in
set_option maxHeartbeats 400000 in
theorem iNew_c (m : Nat) (hm : m ≤ 1048576) (w0 : World) : Calls Try.prog 24 #[.int .i64 (m : Int)] w0 fun e w' => ∃ ib mb, e = .returned (.tuple #[.pointer (some ⟨ib, 0, none⟩), .int .i64 0]) ∧ w0.heap.size ≤ mb ∧ w0.heap.size ≤ ib ∧ mb ≠ ib ∧ w'.heap[ib]? = some (.cells ([.bool true, .int .i64 (m : Int), .int .i64 0, .int .i64 (m : Int), .int .i64 0, .int .i64 0, .bool false, .map (some mb)] : List Value).toArray 83 (0, 0)) ∧ w'.heap[mb]? = some (.map ([] : List MapEntry).toArray 0) ∧ Ext w0 w' := by
  refine enter Try.func24 rfl rfl rfl ?_
  intro a hS
  have hH := Hp.start w0 (Nobody)
  refine c_seq ?_
  refine reg_plain w0 (Nobody) ?_
  refine r_assign hS hH.kp0 rfl rfl ?_; clear hS; intro a hS
  refine r_assign hS hH.kp0 rfl rfl ?_; clear hS; intro a hS
  refine Sq.nil ?_
  refine then_n ?_
  refine c_seq ?_
  refine c_seq ?_
  refine reg_plain w0 (Nobody) ?_
  refine r_move hS hH.kp0 rfl rfl ?_; clear hS; intro a hS
  refine r_lss hS hH.kp0 rfl rfl rfl ?_; clear hS; intro a hS
  refine r_move hS hH.kp0 rfl rfl ?_; clear hS; intro a hS
  refine Sq.guardYes hS rfl rfl rfl ?_; refine r_move hS hH.kp0 rfl rfl ?_; clear hS; intro a hS
  refine Sq.guardYes hS rfl rfl rfl ?_; refine r_gtr hS hH.kp0 rfl rfl rfl ?_; clear hS; intro a hS
  refine r_pickF hS hH.kp0 rfl rfl rfl rfl ?_; clear hS; intro a hS
  refine Sq.nil ?_
  refine then_n ?_
  refine c_condF hS rfl (DF (by omega)) ?_
  refine wp_skip ?_
  refine then_n ?_
  refine c_seq ?_
  refine reg_plain w0 (Nobody) ?_
  refine r_move hS hH.kp0 rfl rfl ?_; clear hS; intro a hS
  refine r_move hS hH.kp0 rfl rfl ?_; clear hS; intro a hS
  refine r_makeMap hS hH (by repeat (first | exact Sub.nil | refine Sub.cons ?_ ?_ | exact In.here | refine In.there ?_)) Fc.isMap81 rfl ?_
  clear hS hH; intro a w mb hmb hwmb hS hH
  refine r_buildS (parts := [(0, .const (.bool true)), (1, .tmp 10), (3, .tmp 11), (7, .tmp 12)]) hS hH.kp0 rfl rfl Fc.zc83 Fc.pl83 (by rfl) ?_; clear hS; intro a hS
  refine r_box hS hH (by repeat (first | exact Sub.nil | refine Sub.cons ?_ ?_ | exact In.here | refine In.there ?_)) rfl rfl rfl ?_
  clear hS hH; intro a w ib hib hwib hS hH
  refine r_assign hS hH.kp0 rfl rfl ?_; clear hS; intro a hS
  refine r_assign hS hH.kp0 rfl rfl ?_; clear hS; intro a hS
  refine Sq.nil ?_
  refine then_n ?_
  refine wp_ret ?_
  exact leave (.inl rfl) hS rfl (Res.tmp rfl (Res.tmp rfl Res.nil)) ⟨ib, mb, rfl, hmb, hib, fun e => by subst e; have h9 := hH.nd; simp at h9, hH.get (b := ib) (by repeat (first | exact In.here | refine In.there ?_)), hH.get (b := mb) (by repeat (first | exact In.here | refine In.there ?_)), hH.mod⟩

set_option maxRecDepth 100000 in
set_option maxHeartbeats 400000 in
theorem inone_c (ib mb room place limit reach : Nat) (fin : Int) (kn : Bool) (w0 : World) (hz : w0.heap[ib]? = some (.cells ([.bool true, .int .i64 (room : Int), .int .i64 (place : Int), .int .i64 (limit : Int), .int .i64 (reach : Int), .int .i64 fin, .bool kn, .map (some mb)] : List Value).toArray 83 (0, 0))) : Calls Try.prog 42 #[.pointer (some ⟨ib, 0, none⟩)] w0 fun e w' => e = .returned (.bool false) ∧ Ext w0 w' := by
  refine enter Try.func42 rfl rfl rfl ?_
  intro a hS
  have hH := Hp.start w0 (Nobody)
  replace hH := hH.know hz (by intro p hp; simp at hp)
  refine c_seq ?_
  refine reg_plain w0 (Nobody) ?_
  refine r_assign hS hH.kp0 rfl rfl ?_; clear hS; intro a hS
  refine Sq.nil ?_
  refine then_n ?_
  refine c_seq ?_
  refine reg_plain w0 (Nobody) ?_
  refine r_move hS hH.kp0 rfl rfl ?_; clear hS; intro a hS
  refine r_ptrNil hS hH.kp0 rfl Fc.isPtr58 rfl ?_; clear hS; intro a hS
  refine r_move hS hH.kp0 rfl rfl ?_; clear hS; intro a hS
  refine Sq.guardYes hS rfl rfl rfl ?_; refine r_move hS hH.kp0 rfl rfl ?_; clear hS; intro a hS
  refine Sq.guardYes hS rfl rfl rfl ?_; refine r_nilCheck hS hH.kp0 rfl rfl ?_; clear hS; intro a hS
  refine Sq.guardYes hS rfl rfl rfl ?_; refine r_fieldAddr hS hH.kp0 rfl Fc.fo83_0 rfl ?_; clear hS; intro a hS
  refine Sq.guardYes hS rfl rfl rfl ?_; refine r_load_sc hS hH (by repeat (first | exact Sub.nil | refine Sub.cons ?_ ?_ | exact In.here | refine In.there ?_)) rfl (by repeat (first | exact In.here | refine In.there ?_)) Fc.sc4 (by rfl) rfl ?_; clear hS; intro a hS
  refine Sq.guardYes hS rfl rfl rfl ?_; refine r_not hS hH.kp0 rfl rfl ?_; clear hS; intro a hS
  refine r_pickF hS hH.kp0 rfl rfl rfl rfl ?_; clear hS; intro a hS
  refine r_assign hS hH.kp0 rfl rfl ?_; clear hS; intro a hS
  refine Sq.nil ?_
  refine then_n ?_
  refine wp_ret ?_
  exact leave (.inl rfl) hS rfl (Res.tmp rfl Res.nil) ⟨rfl, hH.mod⟩

set_option maxRecDepth 100000 in
set_option maxHeartbeats 400000 in
theorem iends_ff (ib mb room place limit reach : Nat) (fin : Int) (en : Nat) (hlim : en ≤ limit) (w0 : World) (hz : w0.heap[ib]? = some (.cells ([.bool true, .int .i64 (room : Int), .int .i64 (place : Int), .int .i64 (limit : Int), .int .i64 (reach : Int), .int .i64 fin, .bool false, .map (some mb)] : List Value).toArray 83 (0, 0))) : Calls Try.prog 43 #[.pointer (some ⟨ib, 0, none⟩), .int .i64 (en : Int), .bool false] w0 fun e w' => e = .returned (.int .i64 0) ∧ Ext w0 w' := by
  refine enter Try.func43 rfl rfl rfl ?_
  intro a hS
  have hH := Hp.start w0 (Nobody)
  replace hH := hH.know hz (by intro p hp; simp at hp)
  refine c_seq ?_
  refine reg_plain w0 (Nobody) ?_
  refine r_assign hS hH.kp0 rfl rfl ?_; clear hS; intro a hS
  refine Sq.nil ?_
  refine then_n ?_
  refine c_seq ?_
  refine wp_block ?_
  refine c_seq ?_
  refine reg_plain w0 (Nobody) ?_
  refine r_move hS hH.kp0 rfl rfl ?_; clear hS; intro a hS
  refine r_nilCheck hS hH.kp0 rfl rfl ?_; clear hS; intro a hS
  refine r_fieldAddr hS hH.kp0 rfl Fc.fo83_6 rfl ?_; clear hS; intro a hS
  refine r_load_sc hS hH (by repeat (first | exact Sub.nil | refine Sub.cons ?_ ?_ | exact In.here | refine In.there ?_)) rfl (by repeat (first | exact In.here | refine In.there ?_)) Fc.sc4 (by rfl) rfl ?_; clear hS; intro a hS
  refine r_move hS hH.kp0 rfl rfl ?_; clear hS; intro a hS
  refine Sq.guardNo hS rfl rfl rfl hH.kp0 rfl ?_; clear hS; intro a hS
  refine Sq.guardNo hS rfl rfl rfl hH.kp0 rfl ?_; clear hS; intro a hS
  refine Sq.guardNo hS rfl rfl rfl hH.kp0 rfl ?_; clear hS; intro a hS
  refine Sq.guardNo hS rfl rfl rfl hH.kp0 rfl ?_; clear hS; intro a hS
  refine Sq.guardNo hS rfl rfl rfl hH.kp0 rfl ?_; clear hS; intro a hS
  refine Sq.guardNo hS rfl rfl rfl hH.kp0 rfl ?_; clear hS; intro a hS
  refine Sq.guardNo hS rfl rfl rfl hH.kp0 rfl ?_; clear hS; intro a hS
  refine Sq.guardOff hS rfl rfl hH.kp0 rfl ?_; clear hS; intro a hS
  refine Sq.guardOff hS rfl rfl hH.kp0 rfl ?_; clear hS; intro a hS
  refine Sq.guardOff hS rfl rfl hH.kp0 rfl ?_; clear hS; intro a hS
  refine Sq.guardOff hS rfl rfl hH.kp0 rfl ?_; clear hS; intro a hS
  refine Sq.guardOff hS rfl rfl hH.kp0 rfl ?_; clear hS; intro a hS
  refine Sq.guardOff hS rfl rfl hH.kp0 rfl ?_; clear hS; intro a hS
  refine Sq.guardOff hS rfl rfl hH.kp0 rfl ?_; clear hS; intro a hS
  refine Sq.guardOff hS rfl rfl hH.kp0 rfl ?_; clear hS; intro a hS
  refine Sq.guardOff hS rfl rfl hH.kp0 rfl ?_; clear hS; intro a hS
  refine Sq.guardNo hS rfl rfl rfl hH.kp0 rfl ?_; clear hS; intro a hS
  refine r_pickF hS hH.kp0 rfl rfl rfl rfl ?_; clear hS; intro a hS
  refine r_move hS hH.kp0 rfl rfl ?_; clear hS; intro a hS
  refine Sq.guardYes hS rfl rfl rfl ?_; refine r_move hS hH.kp0 rfl rfl ?_; clear hS; intro a hS
  refine Sq.guardYes hS rfl rfl rfl ?_; refine r_move hS hH.kp0 rfl rfl ?_; clear hS; intro a hS
  refine Sq.guardNo hS rfl rfl rfl hH.kp0 rfl ?_; clear hS; intro a hS
  refine Sq.guardNo hS rfl rfl rfl hH.kp0 rfl ?_; clear hS; intro a hS
  refine Sq.guardNo hS rfl rfl rfl hH.kp0 rfl ?_; clear hS; intro a hS
  refine Sq.guardNo hS rfl rfl rfl hH.kp0 rfl ?_; clear hS; intro a hS
  refine Sq.guardNo hS rfl rfl rfl hH.kp0 rfl ?_; clear hS; intro a hS
  refine Sq.guardNo hS rfl rfl rfl hH.kp0 rfl ?_; clear hS; intro a hS
  refine Sq.guardYes hS rfl rfl rfl ?_; refine r_pickF hS hH.kp0 rfl rfl rfl rfl ?_; clear hS; intro a hS
  refine r_pickF hS hH.kp0 rfl rfl rfl rfl ?_; clear hS; intro a hS
  refine r_assign hS hH.kp0 rfl rfl ?_; clear hS; intro a hS
  refine Sq.nil ?_
  refine then_n ?_
  refine c_condF hS rfl rfl ?_
  refine c_seq ?_
  refine reg_plain w0 (Nobody) ?_
  refine r_move hS hH.kp0 rfl rfl ?_; clear hS; intro a hS
  refine r_move hS hH.kp0 rfl rfl ?_; clear hS; intro a hS
  refine r_nilCheck hS hH.kp0 rfl rfl ?_; clear hS; intro a hS
  refine r_fieldAddr hS hH.kp0 rfl Fc.fo83_3 rfl ?_; clear hS; intro a hS
  refine r_load_sc hS hH (by repeat (first | exact Sub.nil | refine Sub.cons ?_ ?_ | exact In.here | refine In.there ?_)) rfl (by repeat (first | exact In.here | refine In.there ?_)) Fc.sc3 (by rfl) rfl ?_; clear hS; intro a hS
  refine r_gtr hS hH.kp0 rfl rfl rfl ?_; clear hS; intro a hS
  refine r_assign hS hH.kp0 rfl rfl ?_; clear hS; intro a hS
  refine Sq.nil ?_
  refine then_n ?_
  refine c_condF hS rfl (DF (by omega)) ?_
  refine wp_skip ?_
  refine blk_n ?_
  refine then_n ?_
  refine c_seq ?_
  refine reg_plain w0 (Nobody) ?_
  refine r_assign hS hH.kp0 rfl rfl ?_; clear hS; intro a hS
  refine Sq.nil ?_
  refine then_n ?_
  refine wp_ret ?_
  exact leave (.inl rfl) hS rfl (Res.tmp rfl Res.nil) ⟨rfl, hH.mod⟩

set_option maxRecDepth 100000 in
set_option maxHeartbeats 400000 in
theorem iends_ft (ib mb room place limit reach : Nat) (fin : Int) (en : Nat) (hlim : en ≤ limit) (hfi : reach ≤ en) (w0 : World) (hz : w0.heap[ib]? = some (.cells ([.bool true, .int .i64 (room : Int), .int .i64 (place : Int), .int .i64 (limit : Int), .int .i64 (reach : Int), .int .i64 fin, .bool false, .map (some mb)] : List Value).toArray 83 (0, 0))) : Calls Try.prog 43 #[.pointer (some ⟨ib, 0, none⟩), .int .i64 (en : Int), .bool true] w0 fun e w' => e = .returned (.int .i64 0) ∧ Ext w0 w' := by
  refine enter Try.func43 rfl rfl rfl ?_
  intro a hS
  have hH := Hp.start w0 (Nobody)
  replace hH := hH.know hz (by intro p hp; simp at hp)
  refine c_seq ?_
  refine reg_plain w0 (Nobody) ?_
  refine r_assign hS hH.kp0 rfl rfl ?_; clear hS; intro a hS
  refine Sq.nil ?_
  refine then_n ?_
  refine c_seq ?_
  refine wp_block ?_
  refine c_seq ?_
  refine reg_plain w0 (Nobody) ?_
  refine r_move hS hH.kp0 rfl rfl ?_; clear hS; intro a hS
  refine r_nilCheck hS hH.kp0 rfl rfl ?_; clear hS; intro a hS
  refine r_fieldAddr hS hH.kp0 rfl Fc.fo83_6 rfl ?_; clear hS; intro a hS
  refine r_load_sc hS hH (by repeat (first | exact Sub.nil | refine Sub.cons ?_ ?_ | exact In.here | refine In.there ?_)) rfl (by repeat (first | exact In.here | refine In.there ?_)) Fc.sc4 (by rfl) rfl ?_; clear hS; intro a hS
  refine r_move hS hH.kp0 rfl rfl ?_; clear hS; intro a hS
  refine Sq.guardNo hS rfl rfl rfl hH.kp0 rfl ?_; clear hS; intro a hS
  refine Sq.guardNo hS rfl rfl rfl hH.kp0 rfl ?_; clear hS; intro a hS
  refine Sq.guardNo hS rfl rfl rfl hH.kp0 rfl ?_; clear hS; intro a hS
  refine Sq.guardNo hS rfl rfl rfl hH.kp0 rfl ?_; clear hS; intro a hS
  refine Sq.guardNo hS rfl rfl rfl hH.kp0 rfl ?_; clear hS; intro a hS
  refine Sq.guardNo hS rfl rfl rfl hH.kp0 rfl ?_; clear hS; intro a hS
  refine Sq.guardNo hS rfl rfl rfl hH.kp0 rfl ?_; clear hS; intro a hS
  refine Sq.guardOff hS rfl rfl hH.kp0 rfl ?_; clear hS; intro a hS
  refine Sq.guardOff hS rfl rfl hH.kp0 rfl ?_; clear hS; intro a hS
  refine Sq.guardOff hS rfl rfl hH.kp0 rfl ?_; clear hS; intro a hS
  refine Sq.guardOff hS rfl rfl hH.kp0 rfl ?_; clear hS; intro a hS
  refine Sq.guardOff hS rfl rfl hH.kp0 rfl ?_; clear hS; intro a hS
  refine Sq.guardOff hS rfl rfl hH.kp0 rfl ?_; clear hS; intro a hS
  refine Sq.guardOff hS rfl rfl hH.kp0 rfl ?_; clear hS; intro a hS
  refine Sq.guardOff hS rfl rfl hH.kp0 rfl ?_; clear hS; intro a hS
  refine Sq.guardOff hS rfl rfl hH.kp0 rfl ?_; clear hS; intro a hS
  refine Sq.guardNo hS rfl rfl rfl hH.kp0 rfl ?_; clear hS; intro a hS
  refine r_pickF hS hH.kp0 rfl rfl rfl rfl ?_; clear hS; intro a hS
  refine r_move hS hH.kp0 rfl rfl ?_; clear hS; intro a hS
  refine Sq.guardYes hS rfl rfl rfl ?_; refine r_move hS hH.kp0 rfl rfl ?_; clear hS; intro a hS
  refine Sq.guardYes hS rfl rfl rfl ?_; refine r_move hS hH.kp0 rfl rfl ?_; clear hS; intro a hS
  refine Sq.guardYes hS rfl rfl rfl ?_; refine r_move hS hH.kp0 rfl rfl ?_; clear hS; intro a hS
  refine Sq.guardYes hS rfl rfl rfl ?_; refine r_move hS hH.kp0 rfl rfl ?_; clear hS; intro a hS
  refine Sq.guardYes hS rfl rfl rfl ?_; refine r_nilCheck hS hH.kp0 rfl rfl ?_; clear hS; intro a hS
  refine Sq.guardYes hS rfl rfl rfl ?_; refine r_fieldAddr hS hH.kp0 rfl Fc.fo83_4 rfl ?_; clear hS; intro a hS
  refine Sq.guardYes hS rfl rfl rfl ?_; refine r_load_sc hS hH (by repeat (first | exact Sub.nil | refine Sub.cons ?_ ?_ | exact In.here | refine In.there ?_)) rfl (by repeat (first | exact In.here | refine In.there ?_)) Fc.sc3 (by rfl) rfl ?_; clear hS; intro a hS
  refine Sq.guardYes hS rfl rfl rfl ?_; refine r_lss hS hH.kp0 rfl rfl rfl ?_; clear hS; intro a hS
  refine Sq.guardYes hS rfl rfl rfl ?_; refine r_pickT hS hH.kp0 rfl rfl rfl rfl ?_; clear hS; intro a hS
  refine r_pickF hS hH.kp0 rfl rfl rfl rfl ?_; clear hS; intro a hS
  refine r_assign hS hH.kp0 rfl rfl ?_; clear hS; intro a hS
  refine Sq.nil ?_
  refine then_n ?_
  refine c_condF hS rfl (DF (by omega)) ?_
  refine c_seq ?_
  refine reg_plain w0 (Nobody) ?_
  refine r_move hS hH.kp0 rfl rfl ?_; clear hS; intro a hS
  refine r_move hS hH.kp0 rfl rfl ?_; clear hS; intro a hS
  refine r_nilCheck hS hH.kp0 rfl rfl ?_; clear hS; intro a hS
  refine r_fieldAddr hS hH.kp0 rfl Fc.fo83_3 rfl ?_; clear hS; intro a hS
  refine r_load_sc hS hH (by repeat (first | exact Sub.nil | refine Sub.cons ?_ ?_ | exact In.here | refine In.there ?_)) rfl (by repeat (first | exact In.here | refine In.there ?_)) Fc.sc3 (by rfl) rfl ?_; clear hS; intro a hS
  refine r_gtr hS hH.kp0 rfl rfl rfl ?_; clear hS; intro a hS
  refine r_assign hS hH.kp0 rfl rfl ?_; clear hS; intro a hS
  refine Sq.nil ?_
  refine then_n ?_
  refine c_condF hS rfl (DF (by omega)) ?_
  refine wp_skip ?_
  refine blk_n ?_
  refine then_n ?_
  refine c_seq ?_
  refine reg_plain w0 (Nobody) ?_
  refine r_assign hS hH.kp0 rfl rfl ?_; clear hS; intro a hS
  refine Sq.nil ?_
  refine then_n ?_
  refine wp_ret ?_
  exact leave (.inl rfl) hS rfl (Res.tmp rfl Res.nil) ⟨rfl, hH.mod⟩

set_option maxRecDepth 100000 in
set_option maxHeartbeats 400000 in
theorem iends_tf (ib mb room place limit reach : Nat) (fin : Int) (en : Nat) (hlim : en ≤ limit) (hkn : (en : Int) ≤ fin) (w0 : World) (hz : w0.heap[ib]? = some (.cells ([.bool true, .int .i64 (room : Int), .int .i64 (place : Int), .int .i64 (limit : Int), .int .i64 (reach : Int), .int .i64 fin, .bool true, .map (some mb)] : List Value).toArray 83 (0, 0))) : Calls Try.prog 43 #[.pointer (some ⟨ib, 0, none⟩), .int .i64 (en : Int), .bool false] w0 fun e w' => e = .returned (.int .i64 0) ∧ Ext w0 w' := by
  refine enter Try.func43 rfl rfl rfl ?_
  intro a hS
  have hH := Hp.start w0 (Nobody)
  replace hH := hH.know hz (by intro p hp; simp at hp)
  refine c_seq ?_
  refine reg_plain w0 (Nobody) ?_
  refine r_assign hS hH.kp0 rfl rfl ?_; clear hS; intro a hS
  refine Sq.nil ?_
  refine then_n ?_
  refine c_seq ?_
  refine wp_block ?_
  refine c_seq ?_
  refine reg_plain w0 (Nobody) ?_
  refine r_move hS hH.kp0 rfl rfl ?_; clear hS; intro a hS
  refine r_nilCheck hS hH.kp0 rfl rfl ?_; clear hS; intro a hS
  refine r_fieldAddr hS hH.kp0 rfl Fc.fo83_6 rfl ?_; clear hS; intro a hS
  refine r_load_sc hS hH (by repeat (first | exact Sub.nil | refine Sub.cons ?_ ?_ | exact In.here | refine In.there ?_)) rfl (by repeat (first | exact In.here | refine In.there ?_)) Fc.sc4 (by rfl) rfl ?_; clear hS; intro a hS
  refine r_move hS hH.kp0 rfl rfl ?_; clear hS; intro a hS
  refine Sq.guardYes hS rfl rfl rfl ?_; refine r_move hS hH.kp0 rfl rfl ?_; clear hS; intro a hS
  refine Sq.guardYes hS rfl rfl rfl ?_; refine r_move hS hH.kp0 rfl rfl ?_; clear hS; intro a hS
  refine Sq.guardYes hS rfl rfl rfl ?_; refine r_nilCheck hS hH.kp0 rfl rfl ?_; clear hS; intro a hS
  refine Sq.guardYes hS rfl rfl rfl ?_; refine r_fieldAddr hS hH.kp0 rfl Fc.fo83_5 rfl ?_; clear hS; intro a hS
  refine Sq.guardYes hS rfl rfl rfl ?_; refine r_load_sc hS hH (by repeat (first | exact Sub.nil | refine Sub.cons ?_ ?_ | exact In.here | refine In.there ?_)) rfl (by repeat (first | exact In.here | refine In.there ?_)) Fc.sc3 (by rfl) rfl ?_; clear hS; intro a hS
  refine Sq.guardYes hS rfl rfl rfl ?_; refine r_gtr hS hH.kp0 rfl rfl rfl ?_; clear hS; intro a hS
  refine Sq.guardYes hS rfl rfl rfl ?_; refine r_move hS hH.kp0 rfl rfl ?_; clear hS; intro a hS
  refine Sq.guardYes hS rfl rfl (DF (by omega)) ?_; refine r_move hS hH.kp0 rfl rfl ?_; clear hS; intro a hS
  refine Sq.guardYes hS rfl rfl (DF (by omega)) ?_; refine r_move hS hH.kp0 rfl rfl ?_; clear hS; intro a hS
  refine Sq.guardNo hS rfl rfl rfl hH.kp0 rfl ?_; clear hS; intro a hS
  refine Sq.guardNo hS rfl rfl rfl hH.kp0 rfl ?_; clear hS; intro a hS
  refine Sq.guardNo hS rfl rfl rfl hH.kp0 rfl ?_; clear hS; intro a hS
  refine Sq.guardNo hS rfl rfl rfl hH.kp0 rfl ?_; clear hS; intro a hS
  refine Sq.guardNo hS rfl rfl rfl hH.kp0 rfl ?_; clear hS; intro a hS
  refine Sq.guardNo hS rfl rfl rfl hH.kp0 rfl ?_; clear hS; intro a hS
  refine Sq.guardYes hS rfl rfl (DF (by omega)) ?_; refine r_pickF hS hH.kp0 rfl rfl rfl rfl ?_; clear hS; intro a hS
  refine Sq.guardYes hS rfl rfl rfl ?_; refine r_pickF hS hH.kp0 rfl (DF (by omega)) rfl rfl ?_; clear hS; intro a hS
  refine r_pickT hS hH.kp0 rfl rfl rfl rfl ?_; clear hS; intro a hS
  refine r_move hS hH.kp0 rfl rfl ?_; clear hS; intro a hS
  refine Sq.guardYes hS rfl rfl rfl ?_; refine r_move hS hH.kp0 rfl rfl ?_; clear hS; intro a hS
  refine Sq.guardYes hS rfl rfl rfl ?_; refine r_move hS hH.kp0 rfl rfl ?_; clear hS; intro a hS
  refine Sq.guardNo hS rfl rfl rfl hH.kp0 rfl ?_; clear hS; intro a hS
  refine Sq.guardNo hS rfl rfl rfl hH.kp0 rfl ?_; clear hS; intro a hS
  refine Sq.guardNo hS rfl rfl rfl hH.kp0 rfl ?_; clear hS; intro a hS
  refine Sq.guardNo hS rfl rfl rfl hH.kp0 rfl ?_; clear hS; intro a hS
  refine Sq.guardNo hS rfl rfl rfl hH.kp0 rfl ?_; clear hS; intro a hS
  refine Sq.guardNo hS rfl rfl rfl hH.kp0 rfl ?_; clear hS; intro a hS
  refine Sq.guardYes hS rfl rfl rfl ?_; refine r_pickF hS hH.kp0 rfl rfl rfl rfl ?_; clear hS; intro a hS
  refine r_pickF hS hH.kp0 rfl rfl rfl rfl ?_; clear hS; intro a hS
  refine r_assign hS hH.kp0 rfl rfl ?_; clear hS; intro a hS
  refine Sq.nil ?_
  refine then_n ?_
  refine c_condF hS rfl rfl ?_
  refine c_seq ?_
  refine reg_plain w0 (Nobody) ?_
  refine r_move hS hH.kp0 rfl rfl ?_; clear hS; intro a hS
  refine r_move hS hH.kp0 rfl rfl ?_; clear hS; intro a hS
  refine r_nilCheck hS hH.kp0 rfl rfl ?_; clear hS; intro a hS
  refine r_fieldAddr hS hH.kp0 rfl Fc.fo83_3 rfl ?_; clear hS; intro a hS
  refine r_load_sc hS hH (by repeat (first | exact Sub.nil | refine Sub.cons ?_ ?_ | exact In.here | refine In.there ?_)) rfl (by repeat (first | exact In.here | refine In.there ?_)) Fc.sc3 (by rfl) rfl ?_; clear hS; intro a hS
  refine r_gtr hS hH.kp0 rfl rfl rfl ?_; clear hS; intro a hS
  refine r_assign hS hH.kp0 rfl rfl ?_; clear hS; intro a hS
  refine Sq.nil ?_
  refine then_n ?_
  refine c_condF hS rfl (DF (by omega)) ?_
  refine wp_skip ?_
  refine blk_n ?_
  refine then_n ?_
  refine c_seq ?_
  refine reg_plain w0 (Nobody) ?_
  refine r_assign hS hH.kp0 rfl rfl ?_; clear hS; intro a hS
  refine Sq.nil ?_
  refine then_n ?_
  refine wp_ret ?_
  exact leave (.inl rfl) hS rfl (Res.tmp rfl Res.nil) ⟨rfl, hH.mod⟩

set_option maxRecDepth 100000 in
set_option maxHeartbeats 400000 in
theorem iends_tt (ib mb room place limit reach : Nat) (fin : Int) (en : Nat) (hlim : en ≤ limit) (hkn : (en : Int) = fin) (hfi : reach ≤ en) (w0 : World) (hz : w0.heap[ib]? = some (.cells ([.bool true, .int .i64 (room : Int), .int .i64 (place : Int), .int .i64 (limit : Int), .int .i64 (reach : Int), .int .i64 fin, .bool true, .map (some mb)] : List Value).toArray 83 (0, 0))) : Calls Try.prog 43 #[.pointer (some ⟨ib, 0, none⟩), .int .i64 (en : Int), .bool true] w0 fun e w' => e = .returned (.int .i64 0) ∧ Ext w0 w' := by
  refine enter Try.func43 rfl rfl rfl ?_
  intro a hS
  have hH := Hp.start w0 (Nobody)
  replace hH := hH.know hz (by intro p hp; simp at hp)
  refine c_seq ?_
  refine reg_plain w0 (Nobody) ?_
  refine r_assign hS hH.kp0 rfl rfl ?_; clear hS; intro a hS
  refine Sq.nil ?_
  refine then_n ?_
  refine c_seq ?_
  refine wp_block ?_
  refine c_seq ?_
  refine reg_plain w0 (Nobody) ?_
  refine r_move hS hH.kp0 rfl rfl ?_; clear hS; intro a hS
  refine r_nilCheck hS hH.kp0 rfl rfl ?_; clear hS; intro a hS
  refine r_fieldAddr hS hH.kp0 rfl Fc.fo83_6 rfl ?_; clear hS; intro a hS
  refine r_load_sc hS hH (by repeat (first | exact Sub.nil | refine Sub.cons ?_ ?_ | exact In.here | refine In.there ?_)) rfl (by repeat (first | exact In.here | refine In.there ?_)) Fc.sc4 (by rfl) rfl ?_; clear hS; intro a hS
  refine r_move hS hH.kp0 rfl rfl ?_; clear hS; intro a hS
  refine Sq.guardYes hS rfl rfl rfl ?_; refine r_move hS hH.kp0 rfl rfl ?_; clear hS; intro a hS
  refine Sq.guardYes hS rfl rfl rfl ?_; refine r_move hS hH.kp0 rfl rfl ?_; clear hS; intro a hS
  refine Sq.guardYes hS rfl rfl rfl ?_; refine r_nilCheck hS hH.kp0 rfl rfl ?_; clear hS; intro a hS
  refine Sq.guardYes hS rfl rfl rfl ?_; refine r_fieldAddr hS hH.kp0 rfl Fc.fo83_5 rfl ?_; clear hS; intro a hS
  refine Sq.guardYes hS rfl rfl rfl ?_; refine r_load_sc hS hH (by repeat (first | exact Sub.nil | refine Sub.cons ?_ ?_ | exact In.here | refine In.there ?_)) rfl (by repeat (first | exact In.here | refine In.there ?_)) Fc.sc3 (by rfl) rfl ?_; clear hS; intro a hS
  refine Sq.guardYes hS rfl rfl rfl ?_; refine r_gtr hS hH.kp0 rfl rfl rfl ?_; clear hS; intro a hS
  refine Sq.guardYes hS rfl rfl rfl ?_; refine r_move hS hH.kp0 rfl rfl ?_; clear hS; intro a hS
  refine Sq.guardYes hS rfl rfl (DF (by omega)) ?_; refine r_move hS hH.kp0 rfl rfl ?_; clear hS; intro a hS
  refine Sq.guardYes hS rfl rfl (DF (by omega)) ?_; refine r_move hS hH.kp0 rfl rfl ?_; clear hS; intro a hS
  refine Sq.guardYes hS rfl rfl rfl ?_; refine r_move hS hH.kp0 rfl rfl ?_; clear hS; intro a hS
  refine Sq.guardYes hS rfl rfl rfl ?_; refine r_move hS hH.kp0 rfl rfl ?_; clear hS; intro a hS
  refine Sq.guardYes hS rfl rfl rfl ?_; refine r_nilCheck hS hH.kp0 rfl rfl ?_; clear hS; intro a hS
  refine Sq.guardYes hS rfl rfl rfl ?_; refine r_fieldAddr hS hH.kp0 rfl Fc.fo83_5 rfl ?_; clear hS; intro a hS
  refine Sq.guardYes hS rfl rfl rfl ?_; refine r_load_sc hS hH (by repeat (first | exact Sub.nil | refine Sub.cons ?_ ?_ | exact In.here | refine In.there ?_)) rfl (by repeat (first | exact In.here | refine In.there ?_)) Fc.sc3 (by rfl) rfl ?_; clear hS; intro a hS
  refine Sq.guardYes hS rfl rfl rfl ?_; refine r_neq hS hH.kp0 rfl rfl rfl ?_; clear hS; intro a hS
  refine Sq.guardYes hS rfl rfl (DF (by omega)) ?_; refine r_pickT hS hH.kp0 rfl rfl rfl rfl ?_; clear hS; intro a hS
  refine Sq.guardYes hS rfl rfl rfl ?_; refine r_pickF hS hH.kp0 rfl (DF (by omega)) rfl rfl ?_; clear hS; intro a hS
  refine r_pickT hS hH.kp0 rfl rfl rfl rfl ?_; clear hS; intro a hS
  refine r_move hS hH.kp0 rfl rfl ?_; clear hS; intro a hS
  refine Sq.guardYes hS rfl rfl (bne_eq_false_iff_eq.2 (by omega)) ?_; refine r_move hS hH.kp0 rfl rfl ?_; clear hS; intro a hS
  refine Sq.guardYes hS rfl rfl (bne_eq_false_iff_eq.2 (by omega)) ?_; refine r_move hS hH.kp0 rfl rfl ?_; clear hS; intro a hS
  refine Sq.guardYes hS rfl rfl rfl ?_; refine r_move hS hH.kp0 rfl rfl ?_; clear hS; intro a hS
  refine Sq.guardYes hS rfl rfl rfl ?_; refine r_move hS hH.kp0 rfl rfl ?_; clear hS; intro a hS
  refine Sq.guardYes hS rfl rfl rfl ?_; refine r_nilCheck hS hH.kp0 rfl rfl ?_; clear hS; intro a hS
  refine Sq.guardYes hS rfl rfl rfl ?_; refine r_fieldAddr hS hH.kp0 rfl Fc.fo83_4 rfl ?_; clear hS; intro a hS
  refine Sq.guardYes hS rfl rfl rfl ?_; refine r_load_sc hS hH (by repeat (first | exact Sub.nil | refine Sub.cons ?_ ?_ | exact In.here | refine In.there ?_)) rfl (by repeat (first | exact In.here | refine In.there ?_)) Fc.sc3 (by rfl) rfl ?_; clear hS; intro a hS
  refine Sq.guardYes hS rfl rfl rfl ?_; refine r_lss hS hH.kp0 rfl rfl rfl ?_; clear hS; intro a hS
  refine Sq.guardYes hS rfl rfl (bne_eq_false_iff_eq.2 (by omega)) ?_; refine r_pickT hS hH.kp0 rfl rfl rfl rfl ?_; clear hS; intro a hS
  refine r_pickF hS hH.kp0 rfl (bne_eq_false_iff_eq.2 (by omega)) rfl rfl ?_; clear hS; intro a hS
  refine r_assign hS hH.kp0 rfl rfl ?_; clear hS; intro a hS
  refine Sq.nil ?_
  refine then_n ?_
  refine c_condF hS rfl (DF (by omega)) ?_
  refine c_seq ?_
  refine reg_plain w0 (Nobody) ?_
  refine r_move hS hH.kp0 rfl rfl ?_; clear hS; intro a hS
  refine r_move hS hH.kp0 rfl rfl ?_; clear hS; intro a hS
  refine r_nilCheck hS hH.kp0 rfl rfl ?_; clear hS; intro a hS
  refine r_fieldAddr hS hH.kp0 rfl Fc.fo83_3 rfl ?_; clear hS; intro a hS
  refine r_load_sc hS hH (by repeat (first | exact Sub.nil | refine Sub.cons ?_ ?_ | exact In.here | refine In.there ?_)) rfl (by repeat (first | exact In.here | refine In.there ?_)) Fc.sc3 (by rfl) rfl ?_; clear hS; intro a hS
  refine r_gtr hS hH.kp0 rfl rfl rfl ?_; clear hS; intro a hS
  refine r_assign hS hH.kp0 rfl rfl ?_; clear hS; intro a hS
  refine Sq.nil ?_
  refine then_n ?_
  refine c_condF hS rfl (DF (by omega)) ?_
  refine wp_skip ?_
  refine blk_n ?_
  refine then_n ?_
  refine c_seq ?_
  refine reg_plain w0 (Nobody) ?_
  refine r_assign hS hH.kp0 rfl rfl ?_; clear hS; intro a hS
  refine Sq.nil ?_
  refine then_n ?_
  refine wp_ret ?_
  exact leave (.inl rfl) hS rfl (Res.tmp rfl Res.nil) ⟨rfl, hH.mod⟩

theorem iends_c (ib mb room place limit reach : Nat) (fin : Int) (kn : Bool) (en : Nat) (fi : Bool) (hlim : en ≤ limit) (hkn : kn = true → (en : Int) ≤ fin ∧ (fi = true → (en : Int) = fin)) (hfi : fi = true → reach ≤ en) (w0 : World) (hz : w0.heap[ib]? = some (.cells ([.bool true, .int .i64 (room : Int), .int .i64 (place : Int), .int .i64 (limit : Int), .int .i64 (reach : Int), .int .i64 fin, .bool kn, .map (some mb)] : List Value).toArray 83 (0, 0))) : Calls Try.prog 43 #[.pointer (some ⟨ib, 0, none⟩), .int .i64 (en : Int), .bool fi] w0 fun e w' => e = .returned (.int .i64 0) ∧ Ext w0 w' := by
  cases kn <;> cases fi
  · exact iends_ff ib mb room place limit reach fin en hlim w0 hz
  · exact iends_ft ib mb room place limit reach fin en hlim (hfi rfl) w0 hz
  · exact iends_tf ib mb room place limit reach fin en hlim (hkn rfl).1 w0 hz
  · exact iends_tt ib mb room place limit reach fin en hlim ((hkn rfl).2 rfl) (hfi rfl) w0 hz
end Go.Proofs.Ytkhcbllphdhbdaa

namespace Go.Proofs.Ytkhcbllphdhbdaa
open Go.Sym

theorem Fc.bsl76_1 : bslB Try.prog 76 1 = some (3, 1, [.int .i64 0]) := by kernel_rfl
theorem Fc.el76 : elB Try.prog 76 = some (3, 1, 8) := by kernel_rfl
theorem Fc.fn54 : isFn Try.prog 54 = true := by kernel_rfl
theorem Fc.fo83_7 : foff Try.prog 83 7 = some 7 := by kernel_rfl
theorem Fc.ni76 : notInt Try.prog 76 = true := by kernel_rfl
theorem Fc.sc81 : scB Try.prog 81 = true := by kernel_rfl
theorem Fc.mtP : MapTyK Try.prog 81 3 22 (.slice none 0 0) := ⟨Try.underlying81, Try.zeroValue22, Maps.int_keyed Try.underlying3⟩
theorem Sort_K {S : Nat → Prop} {w0 w : World} {L : Blocks} {v : Value} (xs : List Int) (hO : KO S w0 L 1 3 w v xs.length (icells xs)) (hn : xs.length < 4611686018427387904) :
    Calls Try.prog 54 #[v] w fun e w' => e = .returned (.tuple #[]) ∧ ∃ F : Nat → Prop, Mod F w w' ∧ (∀ p ∈ L, ¬ F p.1) ∧ (∀ x, F x → S x ∨ w0.heap.size ≤ x) ∧ KO S w0 L 1 3 w' v xs.length (icells (xs.mergeSort fun x y => decide (x ≤ y))) := by
  rcases hO with ⟨rfl, h2, h3⟩ | ⟨b, cap, l, rfl, h2, h3, h4, h5, h6, h7⟩
  · refine (Sort_none w).mono ?_
    rintro e w' ⟨rfl, rfl⟩
    have : xs = [] := List.eq_nil_of_length_eq_zero h2
    subst this
    exact ⟨rfl, fun _ => False, Mod.refl _ _, fun _ _ h => h, fun _ h => h.elim, .inl ⟨rfl, rfl, by simp [icells]⟩⟩
  · refine (Sort_some w h4 (by omega) h6 (by simpa using h7) hn).mono ?_
    rintro e w' ⟨rfl, l', k1, k2, k3, k4⟩
    exact ⟨rfl, (· = b), k4, fun p hp hb => h3 p hp hb, fun x hx => by subst hx; exact h2, .inr ⟨b, cap, l', rfl, h2, h3, k1, by omega, h6, by simpa using k3⟩⟩
set_option maxRecDepth 100000 in
set_option maxHeartbeats 400000 in
theorem istarts_c (ib mb room place limit reach : Nat) (fin : Int) (kn : Bool) (l : List MapEntry) (clock : Nat) (kz : MapEntry → Int) (hl : MapL Try.prog 3 l clock) (hk : ∀ e ∈ l, e.key = .int .i64 (kz e)) (hs : (l.map kz).Pairwise (· < ·)) (hn : l.length ≤ 1099511627776) (hne : mb ≠ ib) (w0 : World) (hz : w0.heap[ib]? = some (.cells ([.bool true, .int .i64 (room : Int), .int .i64 (place : Int), .int .i64 (limit : Int), .int .i64 (reach : Int), .int .i64 fin, .bool kn, .map (some mb)] : List Value).toArray 83 (0, 0))) (hm : w0.heap[mb]? = some (.map l.toArray clock)) : Calls Try.prog 46 #[.pointer (some ⟨ib, 0, none⟩)] w0 fun e w' => ∃ v, e = .returned v ∧ ISl w0 w' 3 v (l.map kz) ∧ Ext w0 w' := by
  refine enter Try.func46 rfl rfl rfl ?_
  intro a hS
  have hH := Hp.start w0 (Nobody)
  replace hH := (hH.know hm (by intro p hp; simp at hp)).know hz (by intro p hp; simp at hp; subst hp; exact hne)
  refine c_seq ?_
  refine reg_plain w0 (Nobody) ?_
  refine r_assign hS hH.kp0 rfl rfl ?_; clear hS; intro a hS
  refine Sq.nil ?_
  refine then_n ?_
  refine c_seq ?_
  refine reg_plain w0 (Nobody) ?_
  refine r_assign hS hH.kp0 rfl rfl ?_; clear hS; intro a hS
  refine Sq.nil ?_
  refine then_n ?_
  refine c_seq ?_
  refine c_seq ?_
  refine reg_plain w0 (Nobody) ?_
  refine r_move hS hH.kp0 rfl rfl ?_; clear hS; intro a hS
  refine r_nilCheck hS hH.kp0 rfl rfl ?_; clear hS; intro a hS
  refine r_fieldAddr hS hH.kp0 rfl Fc.fo83_7 rfl ?_; clear hS; intro a hS
  refine r_load_sc hS hH (by repeat (first | exact Sub.nil | refine Sub.cons ?_ ?_ | exact In.here | refine In.there ?_)) rfl (by repeat (first | exact In.here | refine In.there ?_)) Fc.sc81 (by rfl) rfl ?_; clear hS; intro a hS
  refine r_rangeM (l := l) Fc.mtP hS hH (by repeat (first | exact Sub.nil | refine Sub.cons ?_ ?_ | exact In.here | refine In.there ?_)) rfl (by repeat (first | exact In.here | refine In.there ?_)) rfl ?_
  clear hS hH; intro a w r hr hwr hS hH
  refine Sq.nil ?_
  refine then_n ?_
  refine wp_block ?_
  refine c_loop (fun mm a w => ∃ (dn : List MapEntry) (v : Value), mm + dn.length = l.length ∧ (∀ e ∈ dn, e ∈ l) ∧ dn.Nodup ∧ St 21 (lv [(0, .pointer (some ⟨ib, 0, none⟩)), (3, v), (9, .pointer (some ⟨r, 0, none⟩))]) a ∧ Hp w0 Nobody [(r, .mapIter (some mb) clock (borns dn) clock), (ib, .cells ([.bool true, .int .i64 (room : Int), .int .i64 (place : Int), .int .i64 (limit : Int), .int .i64 (reach : Int), .int .i64 fin, .bool kn, .map (some mb)] : List Value).toArray 83 (0, 0)), (mb, .map l.toArray clock)] w ∧ KO Nobody w0 [(r, .mapIter (some mb) clock (borns dn) clock), (ib, .cells ([.bool true, .int .i64 (room : Int), .int .i64 (place : Int), .int .i64 (limit : Int), .int .i64 (reach : Int), .int .i64 fin, .bool kn, .map (some mb)] : List Value).toArray 83 (0, 0)), (mb, .map l.toArray clock)] 1 3 w v (dn.map kz).length (icells (dn.map kz))) (l.length) ?_ ?_
  · exact ⟨[], .slice none 0 0, by simp, by simp, by simp, hS.live ⟨rfl, rfl, rfl, trivial⟩, hH, .inl ⟨rfl, rfl, rfl⟩⟩
  clear hS hH; intro mm a w hI; obtain ⟨dn, v, h1, hd1, hd2, hS, hH, hO⟩ := hI
  refine c_seq ?_
  refine reg_plain w0 (Nobody) ?_
  refine r_nextM (l := l) (dn := dn) (b := mb) (r := r) (clock := clock) hS hH (by repeat (first | exact Sub.nil | refine Sub.cons ?_ ?_ | exact In.here | refine In.there ?_)) rfl (by repeat (first | exact In.here | refine In.there ?_)) (by repeat (first | exact In.here | refine In.there ?_)) hl hd1 (.inr hr) rfl (fun e => (by repeat (first | exact .here | apply In.there | apply Put.there | apply Del.there))) (fun e => (by repeat (first | exact Sub.nil | refine Sub.cons ?_ ?_ | exact In.here | refine In.there ?_))) ?_ ?_
  · intro hall; clear hS; intro a hS
    refine r_extract hS hH.kp0 rfl rfl rfl ?_; clear hS; intro a hS
    refine Sq.nil ?_
    refine then_n ?_
    refine c_seq ?_
    refine c_condF hS rfl rfl ?_
    refine wp_exit ?_
    refine then_e ?_
    refine then_e ?_
    refine blk_hit ?_
    refine then_n ?_
    refine c_seq ?_
    refine reg_plain w0 (Nobody) ?_
    refine r_move hS hH.kp0 rfl rfl ?_; clear hS; intro a hS
    refine r_call (l := [.tmp 18]) hS rfl rfl Fc.fn54 rfl ?_
    refine Calls.mono (Sort_K (dn.map kz) hO (by have := nodup_le hd2 hd1; rw [List.length_map]; omega)) ?_
    rintro e9 w1 ⟨rfl, F, hM, hF1, hF2, hO9⟩
    have hH9 := hH.own hM hF1 hF2
    clear hH
    have hH := hH9
    clear hH9
    refine ⟨_, rfl, hH.kp0, ?_⟩
    clear hS; intro a hS
    refine Sq.nil ?_
    refine then_n ?_
    refine c_seq ?_
    refine reg_plain w0 (Nobody) ?_
    refine r_move hS hH.kp0 rfl rfl ?_; clear hS; intro a hS
    refine r_assign hS hH.kp0 rfl rfl ?_; clear hS; intro a hS
    refine Sq.nil ?_
    refine then_n ?_
    refine wp_ret ?_
    have hp9 := (perm_of hd2 hl.nodup hd1 hall).map kz
    rw [sorted_eq hp9 hs, hp9.length_eq] at hO9
    exact leave (.inl rfl) hS rfl (Res.tmp rfl Res.nil) ⟨v, rfl, hO9.isl, hH.mod⟩
  · intro e a w he1 he2 hH9 hM9 hS9
    have hO9 := hO.go hM9 (fun b hb => ⟨_, List.mem_cons_self, hb.symm⟩)
    replace hO9 := hO9.list (L' := [(r, .mapIter (some mb) clock (borns (dn ++ [e])) clock), (ib, .cells ([.bool true, .int .i64 (room : Int), .int .i64 (place : Int), .int .i64 (limit : Int), .int .i64 (reach : Int), .int .i64 fin, .bool kn, .map (some mb)] : List Value).toArray 83 (0, 0)), (mb, .map l.toArray clock)]) (fun p hp => .inl (by simp only [List.mem_cons, List.not_mem_nil, or_false] at hp; rcases hp with rfl | rfl | rfl; exact ⟨_, .head _, rfl⟩; exact ⟨_, .tail _ (.head _), rfl⟩; exact ⟨_, .tail _ (.tail _ (.head _)), rfl⟩))
    clear hO hS hH hM9
    have hO := hO9
    have hS := hS9
    have hH := hH9
    clear hO9 hS9 hH9
    refine r_extract hS hH.kp0 rfl rfl rfl ?_; clear hS; intro a hS
    refine Sq.nil ?_
    refine then_n ?_
    refine c_seq ?_
    refine c_condT hS rfl rfl ?_
    refine wp_skip ?_
    refine then_n ?_
    refine wp_block ?_
    refine c_seq ?_
    refine reg_plain w0 (Nobody) ?_
    refine r_entryM (l := l) (dn := dn) (b := mb) (r := r) (clock := clock) (e := e) hS hH (by repeat (first | exact Sub.nil | refine Sub.cons ?_ ?_ | exact In.here | refine In.there ?_)) rfl (by repeat (first | exact In.here | refine In.there ?_)) (by repeat (first | exact In.here | refine In.there ?_)) hl he1 rfl ?_; clear hS; intro a hS
    rw [hk e he1] at hS
    refine r_extract hS hH.kp0 rfl rfl rfl ?_; clear hS; intro a hS
    refine r_assign hS hH.kp0 rfl rfl ?_; clear hS; intro a hS
    refine Sq.nil ?_
    refine then_n ?_
    refine reg_plain w0 (Nobody) ?_
    refine r_move hS hH.kp0 rfl rfl ?_; clear hS; intro a hS
    refine r_move hS hH.kp0 rfl rfl ?_; clear hS; intro a hS
    refine r_buildSliceW (parts := [(0, .tmp 15)]) hS hH (by repeat (first | exact Sub.nil | refine Sub.cons ?_ ?_ | exact In.here | refine In.there ?_)) rfl Fc.bsl76_1 (by rfl) rfl ?_
    intro a w eb heb hweb hE5 hS5 hH5
    have hO5 := (hO.list (L' := (eb, .cells ([.int .i64 (kz e)] : List Value).toArray 3 (0, 0)) :: [(r, .mapIter (some mb) clock (borns (dn ++ [e])) clock), (ib, .cells ([.bool true, .int .i64 (room : Int), .int .i64 (place : Int), .int .i64 (limit : Int), .int .i64 (reach : Int), .int .i64 fin, .bool kn, .map (some mb)] : List Value).toArray 83 (0, 0)), (mb, .map l.toArray clock)]) (fun p hp => (List.mem_cons.1 hp).elim (fun h => .inr (by rw [h]; exact hweb)) (fun h => .inl ⟨p, h, rfl⟩))).go hE5 (fun b hb => hb.elim)
    clear hO hS hH hE5
    have hO := hO5
    have hS := hS5
    have hH := hH5
    clear hO5 hS5 hH5
    refine r_append_K hS hH (by repeat (first | exact Sub.nil | refine Sub.cons ?_ ?_ | exact In.here | refine In.there ?_)) rfl rfl hO Fc.el76 Fc.ni76 (src_int (hH.get .here)) (by have := nodup_le hd2 hd1; rw [List.length_map]; omega) rfl ?_
    clear hS hH hO; intro a w v2 hO hS hH
    refine r_assign hS hH.kp0 rfl rfl ?_; clear hS; intro a hS
    refine Sq.nil ?_
    refine blk_n ?_
    refine then_n ?_
    have hd3 : (dn ++ [e]).Nodup := List.nodup_append.2 ⟨hd2, by simp, fun p hp q hq => by rw [List.mem_singleton.1 hq]; exact fun h => he2 (h ▸ hp)⟩
    have hd4 : ∀ x ∈ dn ++ [e], x ∈ l := fun x hx => (List.mem_append.1 hx).elim (hd1 x) (fun h => by rw [List.mem_singleton.1 h]; exact he1)
    have hlen := nodup_le hd3 hd4
    rw [List.length_append, List.length_singleton] at hlen
    have hO9 := hO.list (L' := [(r, .mapIter (some mb) clock (borns (dn ++ [e])) clock), (ib, .cells ([.bool true, .int .i64 (room : Int), .int .i64 (place : Int), .int .i64 (limit : Int), .int .i64 (reach : Int), .int .i64 fin, .bool kn, .map (some mb)] : List Value).toArray 83 (0, 0)), (mb, .map l.toArray clock)]) (fun p hp => .inl ⟨p, .tail _ hp, rfl⟩)
    exact ⟨mm - 1, by omega, dn ++ [e], v2, by rw [List.length_append, List.length_singleton]; omega, hd4, hd3, hS.live ⟨rfl, rfl, rfl, trivial⟩, hH.less (List.Sublist.cons _ (List.Sublist.refl _)), by simpa [icells] using hO9⟩

end Go.Proofs.Ytkhcbllphdhbdaa

namespace Go.Proofs.Ytkhcbllphdhbdaa
open Go.Sym

theorem Fc.fn45 : isFn Try.prog 45 = true := by kernel_rfl
theorem Fc.sc58 : scB Try.prog 58 = true := by kernel_rfl
set_option maxRecDepth 100000 in
set_option maxHeartbeats 400000 in
theorem bclone_c (q : Addr) (qc : Nat) (l : List UInt8) (hl : l.length ≤ 1099511627776) (w0 : World) (hb : Bs w0 (.slice (some q) l.length qc) l) : Calls Try.prog 45 #[.slice (some q) l.length qc] w0 fun e w' => ∃ (cb cap : Nat) (l2 : List Value), e = .returned (.slice (some ⟨cb, 0, none⟩) l.length cap) ∧ w0.heap.size ≤ cb ∧ w'.heap[cb]? = some (.cells l2.toArray 5 (0, 0)) ∧ l.length ≤ cap ∧ l2.length = cap ∧ l2.take l.length = l.map byteV ∧ Ext w0 w' := by
  refine enter Try.func45 rfl rfl rfl ?_
  intro a hS
  have hH := Hp.start w0 (Nobody)
  refine c_seq ?_
  refine reg_plain w0 (Nobody) ?_
  refine r_assign hS hH.kp0 rfl rfl ?_; clear hS; intro a hS
  refine Sq.nil ?_
  refine then_n ?_
  refine c_seq ?_
  refine c_seq ?_
  refine reg_plain w0 (Nobody) ?_
  refine r_move hS hH.kp0 rfl rfl ?_; clear hS; intro a hS
  refine r_slNil hS hH.kp0 rfl Fc.isSlice22 rfl ?_; clear hS; intro a hS
  refine Sq.nil ?_
  refine then_n ?_
  refine c_condF hS rfl rfl ?_
  refine wp_skip ?_
  refine then_n ?_
  refine c_seq ?_
  refine reg_plain w0 (Nobody) ?_
  refine r_buildSlice0 hS hH (by repeat (first | exact Sub.nil | refine Sub.cons ?_ ?_ | exact In.here | refine In.there ?_)) Fc.uls22 Fc.inf5 rfl ?_
  clear hS hH; intro a w b5 hb5 hwb5 hS hH
  refine r_move hS hH.kp0 rfl rfl ?_; clear hS; intro a hS
  refine r_append_own hS hH rfl rfl (by repeat (first | exact .here | apply In.there | apply Put.there | apply Del.there)) (by repeat (first | exact Sub.nil | refine Sub.cons ?_ ?_ | exact In.here | refine In.there ?_)) Fc.el22 Fc.ni22 rfl (Nat.le_refl _) (hb.ext hH.mod).src (by omega) (.inr hb5) rfl ?_
  clear hS hH; intro a w ob cap1 l1 hob hl1 hc1_ htk1 _ hS hH
  refine r_assign hS hH.kp0 rfl rfl ?_; clear hS; intro a hS
  refine Sq.nil ?_
  refine then_n ?_
  refine wp_ret ?_
  rw [Nat.zero_add] at hS hc1_ htk1
  refine leave (.inl rfl) hS rfl (Res.tmp rfl Res.nil) ⟨ob, cap1, l1, rfl, ?_, hH.get .here, hc1_, by omega, ?_, hH.mod⟩
  · rcases hob with h | h; exact h.elim; exact h
  · rw [Nat.mul_one] at htk1; rw [htk1]; simp

set_option maxRecDepth 100000 in
set_option maxHeartbeats 400000 in
theorem bclone_nil (w0 : World) : Calls Try.prog 45 #[.slice none 0 0] w0 fun e w' => e = .returned (.slice none 0 0) ∧ Ext w0 w' := by
  refine enter Try.func45 rfl rfl rfl ?_
  intro a hS
  have hH := Hp.start w0 (Nobody)
  refine c_seq ?_
  refine reg_plain w0 (Nobody) ?_
  refine r_assign hS hH.kp0 rfl rfl ?_; clear hS; intro a hS
  refine Sq.nil ?_
  refine then_n ?_
  refine c_seq ?_
  refine c_seq ?_
  refine reg_plain w0 (Nobody) ?_
  refine r_move hS hH.kp0 rfl rfl ?_; clear hS; intro a hS
  refine r_slNil hS hH.kp0 rfl Fc.isSlice22 rfl ?_; clear hS; intro a hS
  refine Sq.nil ?_
  refine then_n ?_
  refine c_condT hS rfl rfl ?_
  refine c_seq ?_
  refine reg_plain w0 (Nobody) ?_
  refine r_assign hS hH.kp0 rfl rfl ?_; clear hS; intro a hS
  refine Sq.nil ?_
  refine then_n ?_
  refine wp_ret ?_
  refine then_r ?_
  exact leave (.inl rfl) hS rfl (Res.tmp rfl Res.nil) ⟨rfl, hH.mod⟩

theorem bclone_n (q : Addr) (qc n : Nat) (u : List UInt8) (hn : u.length = n) (hl : n ≤ 1099511627776) (w0 : World) (hb : Bs w0 (.slice (some q) n qc) u) : Calls Try.prog 45 #[.slice (some q) n qc] w0 fun e w' => ∃ (cb cap : Nat) (l2 : List Value), e = .returned (.slice (some ⟨cb, 0, none⟩) n cap) ∧ w0.heap.size ≤ cb ∧ w'.heap[cb]? = some (.cells l2.toArray 5 (0, 0)) ∧ BB cap l2 u ∧ Ext w0 w' := by
  subst hn
  exact (bclone_c q qc u hl w0 hb).mono fun e w' ⟨cb, cap, l2, h1, h2, h3, h4, h5, h6, h7⟩ => ⟨cb, cap, l2, h1, h2, h3, ⟨h5, h4, h6⟩, h7⟩
theorem keyI (x : Nat) (h : x ≤ 1099511627776) : keyOf Try.prog 3 (.int .i64 (x : Int)) = some (.int .i64 (x : Int)) := Maps.keyOf_int_mk Try.underlying3 (by simp only [Lit.wf, Bool.and_eq_true, decide_eq_true_eq]; rw [show IntKind.i64.min = -9223372036854775808 from rfl, show IntKind.i64.max = 9223372036854775807 from rfl]; omega)
set_option maxRecDepth 100000 in
set_option maxHeartbeats 400000 in
theorem upto_no (ab db fb pb at_ stop : Nat) (hst : stop ≤ at_) (w0 : World) (ha : w0.heap[ab]? = some (.cells ([.int .i64 (at_ : Int)] : List Value).toArray 3 (0, 0))) : Calls Try.prog 44 #[.int .i64 (stop : Int), .pointer (some ⟨ab, 0, none⟩), .pointer (some ⟨db, 0, none⟩), .pointer (some ⟨fb, 0, none⟩), .pointer (some ⟨pb, 0, none⟩)] w0 fun e w' => e = .returned (.tuple #[]) ∧ Ext w0 w' := by
  refine enter Try.func44 rfl rfl rfl ?_
  intro a hS
  have hH := Hp.start w0 (Nobody)
  replace hH := hH.know ha (by intro p hp; simp at hp)
  refine c_seq ?_
  refine reg_plain w0 (Nobody) ?_
  refine r_move hS hH.kp0 rfl rfl ?_; clear hS; intro a hS
  refine r_load_sc hS hH (by repeat (first | exact Sub.nil | refine Sub.cons ?_ ?_ | exact In.here | refine In.there ?_)) rfl (by repeat (first | exact In.here | refine In.there ?_)) Fc.sc3 (by rfl) rfl ?_; clear hS; intro a hS
  refine r_gtr hS hH.kp0 rfl rfl rfl ?_; clear hS; intro a hS
  refine Sq.nil ?_
  refine then_n ?_
  refine c_condF hS rfl (DF (by omega)) ?_
  refine wp_skip ?_
  exact leave (.inr rfl) hS rfl Res.nil ⟨rfl, hH.mod⟩

set_option maxRecDepth 100000 in
set_option maxHeartbeats 4000000 in
theorem upto_new (ab db fb pb at_ stop off m qc ba bo : Nat) (ib mb room place limit reach : Nat) (fin : Int) (kn : Bool) (u : List UInt8) (l : List MapEntry) (clock : Nat) (hl : MapL Try.prog 3 l clock) (hn : ∀ e ∈ l, e.key ≠ .int .i64 (at_ : Int)) (hum : u.length = m) (h1 : off ≤ at_) (h2 : at_ < stop) (h3 : stop ≤ off + m) (hs : stop ≤ 1099511627776) (hnd : [ab, db, fb, pb, ib, mb].Nodup) (w0 : World) (hm : w0.heap[mb]? = some (.map l.toArray clock)) (hz : w0.heap[ib]? = some (.cells ([.bool true, .int .i64 (room : Int), .int .i64 (place : Int), .int .i64 (limit : Int), .int .i64 (reach : Int), .int .i64 fin, .bool kn, .map (some mb)] : List Value).toArray 83 (0, 0))) (hp : w0.heap[pb]? = some (.cells ([.pointer (some ⟨ib, 0, none⟩)] : List Value).toArray 58 (0, 0))) (hf : w0.heap[fb]? = some (.cells ([.int .i64 (off : Int)] : List Value).toArray 3 (0, 0))) (hd : w0.heap[db]? = some (.cells ([.slice (some ⟨ba, bo, none⟩) m qc] : List Value).toArray 22 (0, 0))) (ha : w0.heap[ab]? = some (.cells ([.int .i64 (at_ : Int)] : List Value).toArray 3 (0, 0))) (hb : BsF Nobody w0 (.slice (some ⟨ba, bo, none⟩) m qc) u) : Calls Try.prog 44 #[.int .i64 (stop : Int), .pointer (some ⟨ab, 0, none⟩), .pointer (some ⟨db, 0, none⟩), .pointer (some ⟨fb, 0, none⟩), .pointer (some ⟨pb, 0, none⟩)] w0 fun e w' => ∃ (cb c2 : Nat) (cl : List Value), e = .returned (.tuple #[]) ∧ w0.heap.size ≤ cb ∧ w'.heap[cb]? = some (.cells cl.toArray 5 (0, 0)) ∧ BB c2 cl ((u.drop (at_ - off)).take (stop - at_)) ∧ MapL Try.prog 3 (l ++ [⟨.int .i64 (at_ : Int), .slice (some ⟨cb, 0, none⟩) (stop - at_) c2, clock⟩]) (clock + 1) ∧ w'.heap[mb]? = some (.map (l ++ ([⟨.int .i64 (at_ : Int), .slice (some ⟨cb, 0, none⟩) (stop - at_) c2, clock⟩] : List MapEntry)).toArray (clock + 1)) ∧ Mod (· = mb) w0 w' := by
  refine enter Try.func44 rfl rfl rfl ?_
  intro a hS
  have hH := Hp.start w0 ((· = mb))
  have hnd2 := hnd
  simp only [List.nodup_cons, List.mem_cons, List.not_mem_nil, or_false, not_or, List.nodup_nil, and_true] at hnd2
  obtain ⟨⟨n1, n2, n3, n4, n5⟩, ⟨n6, n7, n8, n9⟩, ⟨n10, n11, n12⟩, ⟨n13, n14⟩, n15, _⟩ := hnd2
  replace hH := hH.know hm (by intro p hp; simp only [List.mem_cons, List.not_mem_nil, or_false] at hp <;> first | (rcases hp with rfl | rfl | rfl | rfl | rfl <;> dsimp only <;> omega) | (rcases hp with rfl | rfl | rfl | rfl <;> dsimp only <;> omega) | (rcases hp with rfl | rfl | rfl <;> dsimp only <;> omega) | (rcases hp with rfl | rfl <;> dsimp only <;> omega) | (subst hp; dsimp only; omega))
  replace hH := hH.know hz (by intro p hp; simp only [List.mem_cons, List.not_mem_nil, or_false] at hp <;> first | (rcases hp with rfl | rfl | rfl | rfl | rfl <;> dsimp only <;> omega) | (rcases hp with rfl | rfl | rfl | rfl <;> dsimp only <;> omega) | (rcases hp with rfl | rfl | rfl <;> dsimp only <;> omega) | (rcases hp with rfl | rfl <;> dsimp only <;> omega) | (subst hp; dsimp only; omega))
  replace hH := hH.know hp (by intro p hp; simp only [List.mem_cons, List.not_mem_nil, or_false] at hp <;> first | (rcases hp with rfl | rfl | rfl | rfl | rfl <;> dsimp only <;> omega) | (rcases hp with rfl | rfl | rfl | rfl <;> dsimp only <;> omega) | (rcases hp with rfl | rfl | rfl <;> dsimp only <;> omega) | (rcases hp with rfl | rfl <;> dsimp only <;> omega) | (subst hp; dsimp only; omega))
  replace hH := hH.know hf (by intro p hp; simp only [List.mem_cons, List.not_mem_nil, or_false] at hp <;> first | (rcases hp with rfl | rfl | rfl | rfl | rfl <;> dsimp only <;> omega) | (rcases hp with rfl | rfl | rfl | rfl <;> dsimp only <;> omega) | (rcases hp with rfl | rfl | rfl <;> dsimp only <;> omega) | (rcases hp with rfl | rfl <;> dsimp only <;> omega) | (subst hp; dsimp only; omega))
  replace hH := hH.know hd (by intro p hp; simp only [List.mem_cons, List.not_mem_nil, or_false] at hp <;> first | (rcases hp with rfl | rfl | rfl | rfl | rfl <;> dsimp only <;> omega) | (rcases hp with rfl | rfl | rfl | rfl <;> dsimp only <;> omega) | (rcases hp with rfl | rfl | rfl <;> dsimp only <;> omega) | (rcases hp with rfl | rfl <;> dsimp only <;> omega) | (subst hp; dsimp only; omega))
  replace hH := hH.know ha (by intro p hp; simp only [List.mem_cons, List.not_mem_nil, or_false] at hp <;> first | (rcases hp with rfl | rfl | rfl | rfl | rfl <;> dsimp only <;> omega) | (rcases hp with rfl | rfl | rfl | rfl <;> dsimp only <;> omega) | (rcases hp with rfl | rfl | rfl <;> dsimp only <;> omega) | (rcases hp with rfl | rfl <;> dsimp only <;> omega) | (subst hp; dsimp only; omega))
  have hkc := hb.len.2
  refine c_seq ?_
  refine reg_plain w0 ((· = mb)) ?_
  refine r_move hS hH.kp0 rfl rfl ?_; clear hS; intro a hS
  refine r_load_sc hS hH (by repeat (first | exact Sub.nil | refine Sub.cons ?_ ?_ | exact In.here | refine In.there ?_)) rfl (by repeat (first | exact In.here | refine In.there ?_)) Fc.sc3 (by rfl) rfl ?_; clear hS; intro a hS
  refine r_gtr hS hH.kp0 rfl rfl rfl ?_; clear hS; intro a hS
  refine Sq.nil ?_
  refine then_n ?_
  refine c_condT hS rfl (DT (by omega)) ?_
  refine reg_draw [(true, 0, [5]), (true, 1, [5]), (true, 2, [5]), (true, 3, [5]), (true, 4, [5]), (true, 5, [5]), (true, 6, [5]), (true, 7, [5]), (true, 8, [5]), (true, 9, [5]), (true, 10, [5]), (true, 11, [5]), (true, 12, [5]), (false, 13, []), (false, 14, [5])] Fc.mixed (by kernel_rfl) (by kernel_rfl) (by kernel_rfl) (by kernel_rfl) (by kernel_rfl) (by repeat (first | with_reducible exact steady_body | with_reducible exact steady_bodyQ | with_reducible exact steady_round | with_reducible apply steady_block | with_reducible apply steady_then | with_reducible apply steady_scope | exact steady_body)) hH ?_
  replace hH := hH.drew
  refine r_load_scS hS rfl (by repeat (first | exact In.here | refine In.there ?_)) Fc.sc58 (by rfl) rfl ?_; clear hS; intro a hS
  refine r_nilCheck hS trivial rfl rfl ?_; clear hS; intro a hS
  refine r_fieldAddr hS trivial rfl Fc.fo83_7 rfl ?_; clear hS; intro a hS
  refine r_load_scS hS rfl (by repeat (first | exact In.here | refine In.there ?_)) Fc.sc81 (by rfl) rfl ?_; clear hS; intro a hS
  refine r_load_scS hS rfl (by repeat (first | exact In.here | refine In.there ?_)) Fc.sc3 (by rfl) rfl ?_; clear hS; intro a hS
  refine r_load_scS hS rfl (by repeat (first | exact In.here | refine In.there ?_)) Fc.sc22 (by rfl) rfl ?_; clear hS; intro a hS
  refine r_load_scS hS rfl (by repeat (first | exact In.here | refine In.there ?_)) Fc.sc3 (by rfl) rfl ?_; clear hS; intro a hS
  refine r_load_scS hS rfl (by repeat (first | exact In.here | refine In.there ?_)) Fc.sc3 (by rfl) rfl ?_; clear hS; intro a hS
  refine r_subN0 (m := at_) (k := off) hS trivial rfl rfl h1 (by omega) rfl ?_; clear hS; intro a hS
  refine r_move hS trivial rfl rfl ?_; clear hS; intro a hS
  refine r_load_scS hS rfl (by repeat (first | exact In.here | refine In.there ?_)) Fc.sc3 (by rfl) rfl ?_; clear hS; intro a hS
  refine r_subN0 (m := stop) (k := off) hS trivial rfl rfl (by omega) (by omega) rfl ?_; clear hS; intro a hS
  refine r_slLoHi (ll := at_ - off) (hh := stop - off) hS trivial rfl rfl rfl Fc.slb22 rfl rfl (by omega) (by omega) rfl ?_; clear hS; intro a hS
  refine r_call (l := [.tmp 21]) hS rfl rfl Fc.fn45 rfl ?_
  refine Calls.mono (bclone_n _ _ (stop - off - (at_ - off)) ((u.drop (at_ - off)).take (stop - off - (at_ - off))) (by rw [List.length_take, List.length_drop]; omega) (by omega) _ ((BsF.part hb (ll := at_ - off) (hh := stop - off) (by omega) (by omega)) _ (Ext.drew _))) ?_
  rintro e w1 ⟨cb, c2, cl, rfl, hcb, hcbk, hBc, hE⟩
  have hcb0 := Nat.le_trans hH.mod.size hcb
  replace hH := (hH.ext hE).know hcbk (fun p hp e => by have := lt_of_block (hH.blk p hp); omega)
  rw [show stop - off - (at_ - off) = stop - at_ from by omega] at hBc ⊢
  refine ⟨_, rfl, hH.kp (by repeat (first | exact Sub.nil | refine Sub.cons ?_ ?_ | exact In.here | refine In.there ?_)), ?_⟩
  clear hS; intro a hS
  refine r_mapNew (l := l) (b := mb) (clock := clock) Fc.mtP hS hH rfl rfl rfl (by repeat (first | exact In.here | refine In.there ?_)) hl (keyI at_ (by omega)) hn (.inl rfl) (by repeat (first | exact .here | apply In.there | apply Put.there | apply Del.there)) (by repeat (first | exact Sub.nil | refine Sub.cons ?_ ?_ | exact In.here | refine In.there ?_)) ?_
  clear hH; intro w hl9 hH
  refine Sq.nil ?_
  exact leave (.inr rfl) hS rfl Res.nil ⟨cb, c2, cl, rfl, hcb0, hH.get (b := cb) (by repeat (first | exact In.here | refine In.there ?_)), hBc, hl9, hH.get (b := mb) (by repeat (first | exact In.here | refine In.there ?_)), hH.mod⟩

end Go.Proofs.Ytkhcbllphdhbdaa

namespace Go.Proofs.Ytkhcbllphdhbdaa
open Go.Sym

theorem Fc.fn42 : isFn Try.prog 42 = true := by kernel_rfl
theorem Fc.fo83_1 : foff Try.prog 83 1 = some 1 := by kernel_rfl
theorem Fc.fo83_2 : foff Try.prog 83 2 = some 2 := by kernel_rfl
set_option maxRecDepth 100000 in
set_option maxHeartbeats 4000000 in
theorem iRead_c (ib mb room place limit reach : Nat) (fin : Int) (kn : Bool) (text : List UInt8) (l : List MapEntry) (clock s n : Nat) (hl : MapL Try.prog 3 l clock) (hpt0 : place ≤ text.length) (hns : s ≤ n) (hn : n ≤ 1048576) (hro : room ≤ 1048576) (hne : mb ≠ ib) (w0 : World) (hc : Chain (fun z => z = ib ∨ z = mb) w0 text l place s) (hz : w0.heap[ib]? = some (.cells ([.bool true, .int .i64 (room : Int), .int .i64 (place : Int), .int .i64 (limit : Int), .int .i64 (reach : Int), .int .i64 fin, .bool kn, .map (some mb)] : List Value).toArray 83 (0, 0))) (hm : w0.heap[mb]? = some (.map l.toArray clock)) : Calls Try.prog 26 #[.pointer (some ⟨ib, 0, none⟩), .int .i64 (n : Int)] w0 fun e w' => ∃ v, e = .returned (.tuple #[v, .bool (kn && ((s : Int) == fin))]) ∧ Bs w' v ((text.drop place).take (s - place)) ∧ w'.heap[ib]? = some (.cells ([.bool true, .int .i64 (room : Int), .int .i64 (s : Int), .int .i64 ((max limit (s + room) : Nat) : Int), .int .i64 (reach : Int), .int .i64 fin, .bool kn, .map (some mb)] : List Value).toArray 83 (0, 0)) ∧ w'.heap[mb]? = some (.map ([] : List MapEntry).toArray clock) ∧ Mod (fun z => z = ib ∨ z = mb) w0 w' := by
  refine enter Try.func26 rfl rfl rfl ?_
  intro a hS
  have hH := Hp.start w0 (fun z => z = ib ∨ z = mb)
  replace hH := (hH.know hm (by intro p hp; simp at hp)).know hz (by intro p hp; simp at hp; subst hp; exact hne)
  refine c_seq ?_
  refine reg_plain w0 (fun z => z = ib ∨ z = mb) ?_
  refine r_assign hS hH.kp0 rfl rfl ?_; clear hS; intro a hS
  refine r_assign hS hH.kp0 rfl rfl ?_; clear hS; intro a hS
  refine Sq.nil ?_
  refine then_n ?_
  refine c_seq ?_
  refine c_seq ?_
  refine reg_plain w0 (fun z => z = ib ∨ z = mb) ?_
  refine r_move hS hH.kp0 rfl rfl ?_; clear hS; intro a hS
  refine r_call (l := [.tmp 9]) hS rfl rfl Fc.fn42 rfl ?_
  refine Calls.mono (inone_c ib mb room place limit reach fin kn _ (hH.get (b := ib) (by repeat (first | exact In.here | refine In.there ?_)))) ?_
  rintro e w1 ⟨rfl, hE⟩
  replace hH := hH.ext hE
  refine ⟨_, rfl, hH.kp0, ?_⟩
  clear hS; intro a hS
  refine Sq.nil ?_
  refine then_n ?_
  refine c_condF hS rfl rfl ?_
  refine wp_skip ?_
  refine then_n ?_
  refine c_seq ?_
  refine wp_block ?_
  refine c_loop (fun mm a w => ∃ (p : Nat) (l1 : List MapEntry), mm = l1.length ∧ place ≤ p ∧ p ≤ text.length ∧ MapL Try.prog 3 l1 clock ∧ Chain (fun z => z = ib ∨ z = mb) w0 text l1 p s ∧ ((p = place ∧ St 105 (lv [(0, .pointer (some ⟨ib, 0, none⟩)), (1, .int .i64 (n : Int)), (4, .slice none 0 0), (5, .bool false)]) a ∧ Hp w0 (fun z => z = ib ∨ z = mb) [(ib, .cells ([.bool true, .int .i64 (room : Int), .int .i64 (p : Int), .int .i64 (limit : Int), .int .i64 (reach : Int), .int .i64 fin, .bool kn, .map (some mb)] : List Value).toArray 83 (0, 0)), (mb, .map l1.toArray clock)] w) ∨ ∃ (db dc : Nat) (row : List Value), place < p ∧ w0.heap.size ≤ db ∧ BB dc row ((text.drop place).take (p - place)) ∧ St 105 (lv [(0, .pointer (some ⟨ib, 0, none⟩)), (1, .int .i64 (n : Int)), (4, .slice (some ⟨db, 0, none⟩) (p - place) dc), (5, .bool false)]) a ∧ Hp w0 (fun z => z = ib ∨ z = mb) [(db, .cells row.toArray 5 (0, 0)), (ib, .cells ([.bool true, .int .i64 (room : Int), .int .i64 (p : Int), .int .i64 (limit : Int), .int .i64 (reach : Int), .int .i64 fin, .bool kn, .map (some mb)] : List Value).toArray 83 (0, 0)), (mb, .map l1.toArray clock)] w)) (l.length) ?_ ?_
  · exact ⟨place, l, rfl, Nat.le_refl _, hpt0, hl, hc, .inl ⟨rfl, hS.live ⟨rfl, rfl, rfl, rfl, trivial⟩, hH⟩⟩
  clear hS hH; intro mm a w hI; obtain ⟨p, l1, h1, hpl, hpt, hl1, hch, hD⟩ := hI
  have hps9 := hch.le
  rcases hch.inv with ⟨rfl, hps⟩ | ⟨k, ba, bo, qc, bn, l2, rfl, hk1, hk2, hkb, hc2⟩ <;> rcases hD with ⟨hpp, hS, hH⟩ | ⟨db, dc, row, hpp, hdb, hBB, hS, hH⟩
  · refine c_seq ?_
    refine c_seq ?_
    refine reg_plain w0 (fun z => z = ib ∨ z = mb) ?_
    refine r_move hS hH.kp0 rfl rfl ?_; clear hS; intro a hS
    refine r_lenSl hS hH.kp0 rfl Fc.isSlice22 rfl ?_; clear hS; intro a hS
    refine r_move hS hH.kp0 rfl rfl ?_; clear hS; intro a hS
    refine r_lss hS hH.kp0 rfl rfl rfl ?_; clear hS; intro a hS
    refine Sq.nil ?_
    refine then_n ?_
    refine c_cond hS rfl (fun hc1 => ?_) (fun hc1 => ?_)
    · skip
      refine wp_skip ?_
      refine then_n ?_
      refine wp_block ?_
      refine c_seq ?_
      refine reg_draw [(true, 0, []), (true, 1, []), (true, 2, []), (true, 3, []), (true, 4, []), (true, 5, []), (true, 6, []), (true, 7, []), (true, 8, []), (true, 9, []), (true, 10, []), (true, 11, []), (true, 12, []), (true, 13, [])] Fc.mixed (by kernel_rfl) (by kernel_rfl) (by kernel_rfl) (by kernel_rfl) (by kernel_rfl) (by repeat (first | with_reducible exact steady_body | with_reducible exact steady_bodyQ | with_reducible exact steady_round | with_reducible apply steady_block | with_reducible apply steady_then | with_reducible apply steady_scope | exact steady_body)) hH ?_
      replace hH := hH.drew
      refine r_move hS trivial rfl rfl ?_; clear hS; intro a hS
      refine r_nilCheck hS trivial rfl rfl ?_; clear hS; intro a hS
      refine r_fieldAddr hS trivial rfl Fc.fo83_7 rfl ?_; clear hS; intro a hS
      refine r_load_scS hS rfl (by repeat (first | exact In.here | refine In.there ?_)) Fc.sc81 (by rfl) rfl ?_; clear hS; intro a hS
      refine r_move hS trivial rfl rfl ?_; clear hS; intro a hS
      refine r_nilCheck hS trivial rfl rfl ?_; clear hS; intro a hS
      refine r_fieldAddr hS trivial rfl Fc.fo83_2 rfl ?_; clear hS; intro a hS
      refine r_load_scS hS rfl (by repeat (first | exact In.here | refine In.there ?_)) Fc.sc3 (by rfl) rfl ?_; clear hS; intro a hS
      refine r_lookNoS (l := []) Fc.mtP hS rfl rfl (by repeat (first | exact In.here | refine In.there ?_)) hl1 (by simp) (keyI p (by omega)) rfl ?_; clear hS; intro a hS
      refine r_move hS trivial rfl rfl ?_; clear hS; intro a hS
      refine r_extract hS trivial rfl rfl rfl ?_; clear hS; intro a hS
      refine r_extract hS trivial rfl rfl rfl ?_; clear hS; intro a hS
      refine r_assign hS trivial rfl rfl ?_; clear hS; intro a hS
      refine r_assign hS trivial rfl rfl ?_; clear hS; intro a hS
      refine Sq.nil ?_
      refine then_n ?_
      refine c_seq ?_
      refine c_seq ?_
      refine reg_plain w0 (fun z => z = ib ∨ z = mb) ?_
      refine r_move hS hH.kp0 rfl rfl ?_; clear hS; intro a hS
      refine r_not hS hH.kp0 rfl rfl ?_; clear hS; intro a hS
      refine Sq.nil ?_
      refine then_n ?_
      refine c_condT hS rfl rfl ?_
      refine wp_exit ?_
      refine then_e ?_
      refine blk_e rfl ?_
      refine then_e ?_
      refine blk_hit ?_
      refine then_n ?_
      refine c_seq ?_
      refine reg_draw [(true, 0, [0]), (true, 1, [0]), (true, 2, [0]), (true, 3, [0]), (true, 4, []), (true, 5, [0]), (true, 6, [0]), (true, 7, [0]), (true, 8, []), (true, 9, [0]), (true, 10, [0]), (true, 11, [0]), (true, 12, []), (true, 13, [0]), (true, 14, [0]), (true, 15, [0]), (true, 16, [0]), (false, 17, [0])] Fc.mixed (by kernel_rfl) (by kernel_rfl) (by kernel_rfl) (by kernel_rfl) (by kernel_rfl) (by repeat (first | with_reducible exact steady_body | with_reducible exact steady_bodyQ | with_reducible exact steady_round | with_reducible apply steady_block | with_reducible apply steady_then | with_reducible apply steady_scope | exact steady_body)) hH ?_
      replace hH := hH.drew
      refine r_move hS trivial rfl rfl ?_; clear hS; intro a hS
      refine r_move hS trivial rfl rfl ?_; clear hS; intro a hS
      refine r_nilCheck hS trivial rfl rfl ?_; clear hS; intro a hS
      refine r_fieldAddr hS trivial rfl Fc.fo83_3 rfl ?_; clear hS; intro a hS
      refine r_load_scS hS rfl (by repeat (first | exact In.here | refine In.there ?_)) Fc.sc3 (by rfl) rfl ?_; clear hS; intro a hS
      refine r_move hS trivial rfl rfl ?_; clear hS; intro a hS
      refine r_nilCheck hS trivial rfl rfl ?_; clear hS; intro a hS
      refine r_fieldAddr hS trivial rfl Fc.fo83_2 rfl ?_; clear hS; intro a hS
      refine r_load_scS hS rfl (by repeat (first | exact In.here | refine In.there ?_)) Fc.sc3 (by rfl) rfl ?_; clear hS; intro a hS
      refine r_move hS trivial rfl rfl ?_; clear hS; intro a hS
      refine r_nilCheck hS trivial rfl rfl ?_; clear hS; intro a hS
      refine r_fieldAddr hS trivial rfl Fc.fo83_1 rfl ?_; clear hS; intro a hS
      refine r_load_scS hS rfl (by repeat (first | exact In.here | refine In.there ?_)) Fc.sc3 (by rfl) rfl ?_; clear hS; intro a hS
      refine r_addN0 (m := p) (k := room) hS trivial rfl rfl (by omega) rfl ?_; clear hS; intro a hS
      refine r_maxN (m := limit) (k := p + room) hS trivial rfl rfl rfl ?_; clear hS; intro a hS
      refine r_nilCheck hS trivial rfl rfl ?_; clear hS; intro a hS
      refine r_fieldAddr hS trivial rfl Fc.fo83_3 rfl ?_; clear hS; intro a hS
      refine r_store1 hS hH rfl rfl rfl (by repeat (first | exact .here | apply In.there | apply Put.there | apply Del.there)) (by repeat (first | exact Sub.nil | refine Sub.cons ?_ ?_ | exact In.here | refine In.there ?_)) Fc.sz3 (of_decide_eq_true rfl) (.inl (.inl rfl)) ?_
      clear hH; intro w hH
      refine Sq.nil ?_
      refine then_n ?_
      refine c_seq ?_
      refine reg_draw [(true, 0, []), (true, 1, []), (true, 2, []), (true, 3, []), (true, 4, []), (true, 5, []), (true, 6, []), (true, 7, []), (true, 8, []), (true, 9, []), (true, 10, []), (true, 11, []), (true, 12, []), (true, 13, []), (true, 14, []), (true, 15, []), (true, 16, []), (true, 17, [])] Fc.mixed (by kernel_rfl) (by kernel_rfl) (by kernel_rfl) (by kernel_rfl) (by kernel_rfl) (by repeat (first | with_reducible exact steady_body | with_reducible exact steady_bodyQ | with_reducible exact steady_round | with_reducible apply steady_block | with_reducible apply steady_then | with_reducible apply steady_scope | exact steady_body)) hH ?_
      replace hH := hH.drew
      refine r_move hS trivial rfl rfl ?_; clear hS; intro a hS
      refine r_move hS trivial rfl rfl ?_; clear hS; intro a hS
      refine r_nilCheck hS trivial rfl rfl ?_; clear hS; intro a hS
      refine r_fieldAddr hS trivial rfl Fc.fo83_6 rfl ?_; clear hS; intro a hS
      refine r_load_scS hS rfl (by repeat (first | exact In.here | refine In.there ?_)) Fc.sc4 (by rfl) rfl ?_; clear hS; intro a hS
      refine r_move hS trivial rfl rfl ?_; clear hS; intro a hS
      rcases kn with _ | _
      · refine Sq.guardNo hS rfl rfl rfl trivial rfl ?_; clear hS; intro a hS
        refine Sq.guardNo hS rfl rfl rfl trivial rfl ?_; clear hS; intro a hS
        refine Sq.guardNo hS rfl rfl rfl trivial rfl ?_; clear hS; intro a hS
        refine Sq.guardNo hS rfl rfl rfl trivial rfl ?_; clear hS; intro a hS
        refine Sq.guardNo hS rfl rfl rfl trivial rfl ?_; clear hS; intro a hS
        refine Sq.guardNo hS rfl rfl rfl trivial rfl ?_; clear hS; intro a hS
        refine Sq.guardNo hS rfl rfl rfl trivial rfl ?_; clear hS; intro a hS
        refine Sq.guardNo hS rfl rfl rfl trivial rfl ?_; clear hS; intro a hS
        refine Sq.guardNo hS rfl rfl rfl trivial rfl ?_; clear hS; intro a hS
        refine r_pickF hS trivial rfl rfl rfl rfl ?_; clear hS; intro a hS
        refine r_assign hS trivial rfl rfl ?_; clear hS; intro a hS
        refine r_assign hS trivial rfl rfl ?_; clear hS; intro a hS
        refine Sq.nil ?_
        refine then_n ?_
        refine wp_ret ?_
        subst hps
        subst hpp; exact leave (.inl rfl) hS rfl (Res.tmp rfl (Res.tmp rfl Res.nil)) ⟨_, rfl, by rw [Nat.sub_self, List.take_zero]; exact Bs.nil _, hH.get (b := ib) (by repeat (first | exact In.here | refine In.there ?_)), hH.get (b := mb) (by repeat (first | exact In.here | refine In.there ?_)), hH.mod⟩
      · refine Sq.guardYes hS rfl rfl rfl ?_
        refine r_move hS trivial rfl rfl ?_; clear hS; intro a hS
        refine Sq.guardYes hS rfl rfl rfl ?_
        refine r_nilCheck hS trivial rfl rfl ?_; clear hS; intro a hS
        refine Sq.guardYes hS rfl rfl rfl ?_
        refine r_fieldAddr hS trivial rfl Fc.fo83_2 rfl ?_; clear hS; intro a hS
        refine Sq.guardYes hS rfl rfl rfl ?_
        refine r_load_scS hS rfl (by repeat (first | exact In.here | refine In.there ?_)) Fc.sc3 (by rfl) rfl ?_; clear hS; intro a hS
        refine Sq.guardYes hS rfl rfl rfl ?_
        refine r_move hS trivial rfl rfl ?_; clear hS; intro a hS
        refine Sq.guardYes hS rfl rfl rfl ?_
        refine r_nilCheck hS trivial rfl rfl ?_; clear hS; intro a hS
        refine Sq.guardYes hS rfl rfl rfl ?_
        refine r_fieldAddr hS trivial rfl Fc.fo83_5 rfl ?_; clear hS; intro a hS
        refine Sq.guardYes hS rfl rfl rfl ?_
        refine r_load_scS hS rfl (by repeat (first | exact In.here | refine In.there ?_)) Fc.sc3 (by rfl) rfl ?_; clear hS; intro a hS
        refine Sq.guardYes hS rfl rfl rfl ?_
        refine r_eql hS trivial rfl rfl rfl ?_; clear hS; intro a hS
        refine r_pickT hS trivial rfl rfl rfl rfl ?_; clear hS; intro a hS
        refine r_assign hS trivial rfl rfl ?_; clear hS; intro a hS
        refine r_assign hS trivial rfl rfl ?_; clear hS; intro a hS
        refine Sq.nil ?_
        refine then_n ?_
        refine wp_ret ?_
        subst hps
        subst hpp; exact leave (.inl rfl) hS rfl (Res.tmp rfl (Res.tmp rfl Res.nil)) ⟨_, rfl, by rw [Nat.sub_self, List.take_zero]; exact Bs.nil _, hH.get (b := ib) (by repeat (first | exact In.here | refine In.there ?_)), hH.get (b := mb) (by repeat (first | exact In.here | refine In.there ?_)), hH.mod⟩
    · skip
      refine wp_exit ?_
      refine then_e ?_
      refine then_e ?_
      refine blk_hit ?_
      refine then_n ?_
      refine c_seq ?_
      refine reg_draw [(true, 0, [0]), (true, 1, [0]), (true, 2, [0]), (true, 3, [0]), (true, 4, []), (true, 5, [0]), (true, 6, [0]), (true, 7, [0]), (true, 8, []), (true, 9, [0]), (true, 10, [0]), (true, 11, [0]), (true, 12, []), (true, 13, [0]), (true, 14, [0]), (true, 15, [0]), (true, 16, [0]), (false, 17, [0])] Fc.mixed (by kernel_rfl) (by kernel_rfl) (by kernel_rfl) (by kernel_rfl) (by kernel_rfl) (by repeat (first | with_reducible exact steady_body | with_reducible exact steady_bodyQ | with_reducible exact steady_round | with_reducible apply steady_block | with_reducible apply steady_then | with_reducible apply steady_scope | exact steady_body)) hH ?_
      replace hH := hH.drew
      refine r_move hS trivial rfl rfl ?_; clear hS; intro a hS
      refine r_move hS trivial rfl rfl ?_; clear hS; intro a hS
      refine r_nilCheck hS trivial rfl rfl ?_; clear hS; intro a hS
      refine r_fieldAddr hS trivial rfl Fc.fo83_3 rfl ?_; clear hS; intro a hS
      refine r_load_scS hS rfl (by repeat (first | exact In.here | refine In.there ?_)) Fc.sc3 (by rfl) rfl ?_; clear hS; intro a hS
      refine r_move hS trivial rfl rfl ?_; clear hS; intro a hS
      refine r_nilCheck hS trivial rfl rfl ?_; clear hS; intro a hS
      refine r_fieldAddr hS trivial rfl Fc.fo83_2 rfl ?_; clear hS; intro a hS
      refine r_load_scS hS rfl (by repeat (first | exact In.here | refine In.there ?_)) Fc.sc3 (by rfl) rfl ?_; clear hS; intro a hS
      refine r_move hS trivial rfl rfl ?_; clear hS; intro a hS
      refine r_nilCheck hS trivial rfl rfl ?_; clear hS; intro a hS
      refine r_fieldAddr hS trivial rfl Fc.fo83_1 rfl ?_; clear hS; intro a hS
      refine r_load_scS hS rfl (by repeat (first | exact In.here | refine In.there ?_)) Fc.sc3 (by rfl) rfl ?_; clear hS; intro a hS
      refine r_addN0 (m := p) (k := room) hS trivial rfl rfl (by omega) rfl ?_; clear hS; intro a hS
      refine r_maxN (m := limit) (k := p + room) hS trivial rfl rfl rfl ?_; clear hS; intro a hS
      refine r_nilCheck hS trivial rfl rfl ?_; clear hS; intro a hS
      refine r_fieldAddr hS trivial rfl Fc.fo83_3 rfl ?_; clear hS; intro a hS
      refine r_store1 hS hH rfl rfl rfl (by repeat (first | exact .here | apply In.there | apply Put.there | apply Del.there)) (by repeat (first | exact Sub.nil | refine Sub.cons ?_ ?_ | exact In.here | refine In.there ?_)) Fc.sz3 (of_decide_eq_true rfl) (.inl (.inl rfl)) ?_
      clear hH; intro w hH
      refine Sq.nil ?_
      refine then_n ?_
      refine c_seq ?_
      refine reg_draw [(true, 0, []), (true, 1, []), (true, 2, []), (true, 3, []), (true, 4, []), (true, 5, []), (true, 6, []), (true, 7, []), (true, 8, []), (true, 9, []), (true, 10, []), (true, 11, []), (true, 12, []), (true, 13, []), (true, 14, []), (true, 15, []), (true, 16, []), (true, 17, [])] Fc.mixed (by kernel_rfl) (by kernel_rfl) (by kernel_rfl) (by kernel_rfl) (by kernel_rfl) (by repeat (first | with_reducible exact steady_body | with_reducible exact steady_bodyQ | with_reducible exact steady_round | with_reducible apply steady_block | with_reducible apply steady_then | with_reducible apply steady_scope | exact steady_body)) hH ?_
      replace hH := hH.drew
      refine r_move hS trivial rfl rfl ?_; clear hS; intro a hS
      refine r_move hS trivial rfl rfl ?_; clear hS; intro a hS
      refine r_nilCheck hS trivial rfl rfl ?_; clear hS; intro a hS
      refine r_fieldAddr hS trivial rfl Fc.fo83_6 rfl ?_; clear hS; intro a hS
      refine r_load_scS hS rfl (by repeat (first | exact In.here | refine In.there ?_)) Fc.sc4 (by rfl) rfl ?_; clear hS; intro a hS
      refine r_move hS trivial rfl rfl ?_; clear hS; intro a hS
      rcases kn with _ | _
      · refine Sq.guardNo hS rfl rfl rfl trivial rfl ?_; clear hS; intro a hS
        refine Sq.guardNo hS rfl rfl rfl trivial rfl ?_; clear hS; intro a hS
        refine Sq.guardNo hS rfl rfl rfl trivial rfl ?_; clear hS; intro a hS
        refine Sq.guardNo hS rfl rfl rfl trivial rfl ?_; clear hS; intro a hS
        refine Sq.guardNo hS rfl rfl rfl trivial rfl ?_; clear hS; intro a hS
        refine Sq.guardNo hS rfl rfl rfl trivial rfl ?_; clear hS; intro a hS
        refine Sq.guardNo hS rfl rfl rfl trivial rfl ?_; clear hS; intro a hS
        refine Sq.guardNo hS rfl rfl rfl trivial rfl ?_; clear hS; intro a hS
        refine Sq.guardNo hS rfl rfl rfl trivial rfl ?_; clear hS; intro a hS
        refine r_pickF hS trivial rfl rfl rfl rfl ?_; clear hS; intro a hS
        refine r_assign hS trivial rfl rfl ?_; clear hS; intro a hS
        refine r_assign hS trivial rfl rfl ?_; clear hS; intro a hS
        refine Sq.nil ?_
        refine then_n ?_
        refine wp_ret ?_
        subst hps
        subst hpp; exact leave (.inl rfl) hS rfl (Res.tmp rfl (Res.tmp rfl Res.nil)) ⟨_, rfl, by rw [Nat.sub_self, List.take_zero]; exact Bs.nil _, hH.get (b := ib) (by repeat (first | exact In.here | refine In.there ?_)), hH.get (b := mb) (by repeat (first | exact In.here | refine In.there ?_)), hH.mod⟩
      · refine Sq.guardYes hS rfl rfl rfl ?_
        refine r_move hS trivial rfl rfl ?_; clear hS; intro a hS
        refine Sq.guardYes hS rfl rfl rfl ?_
        refine r_nilCheck hS trivial rfl rfl ?_; clear hS; intro a hS
        refine Sq.guardYes hS rfl rfl rfl ?_
        refine r_fieldAddr hS trivial rfl Fc.fo83_2 rfl ?_; clear hS; intro a hS
        refine Sq.guardYes hS rfl rfl rfl ?_
        refine r_load_scS hS rfl (by repeat (first | exact In.here | refine In.there ?_)) Fc.sc3 (by rfl) rfl ?_; clear hS; intro a hS
        refine Sq.guardYes hS rfl rfl rfl ?_
        refine r_move hS trivial rfl rfl ?_; clear hS; intro a hS
        refine Sq.guardYes hS rfl rfl rfl ?_
        refine r_nilCheck hS trivial rfl rfl ?_; clear hS; intro a hS
        refine Sq.guardYes hS rfl rfl rfl ?_
        refine r_fieldAddr hS trivial rfl Fc.fo83_5 rfl ?_; clear hS; intro a hS
        refine Sq.guardYes hS rfl rfl rfl ?_
        refine r_load_scS hS rfl (by repeat (first | exact In.here | refine In.there ?_)) Fc.sc3 (by rfl) rfl ?_; clear hS; intro a hS
        refine Sq.guardYes hS rfl rfl rfl ?_
        refine r_eql hS trivial rfl rfl rfl ?_; clear hS; intro a hS
        refine r_pickT hS trivial rfl rfl rfl rfl ?_; clear hS; intro a hS
        refine r_assign hS trivial rfl rfl ?_; clear hS; intro a hS
        refine r_assign hS trivial rfl rfl ?_; clear hS; intro a hS
        refine Sq.nil ?_
        refine then_n ?_
        refine wp_ret ?_
        subst hps
        subst hpp; exact leave (.inl rfl) hS rfl (Res.tmp rfl (Res.tmp rfl Res.nil)) ⟨_, rfl, by rw [Nat.sub_self, List.take_zero]; exact Bs.nil _, hH.get (b := ib) (by repeat (first | exact In.here | refine In.there ?_)), hH.get (b := mb) (by repeat (first | exact In.here | refine In.there ?_)), hH.mod⟩
  · refine c_seq ?_
    refine c_seq ?_
    refine reg_plain w0 (fun z => z = ib ∨ z = mb) ?_
    refine r_move hS hH.kp0 rfl rfl ?_; clear hS; intro a hS
    refine r_lenSl hS hH.kp0 rfl Fc.isSlice22 rfl ?_; clear hS; intro a hS
    refine r_move hS hH.kp0 rfl rfl ?_; clear hS; intro a hS
    refine r_lss hS hH.kp0 rfl rfl rfl ?_; clear hS; intro a hS
    refine Sq.nil ?_
    refine then_n ?_
    refine c_cond hS rfl (fun hc1 => ?_) (fun hc1 => ?_)
    · skip
      refine wp_skip ?_
      refine then_n ?_
      refine wp_block ?_
      refine c_seq ?_
      refine reg_draw [(true, 0, []), (true, 1, []), (true, 2, []), (true, 3, []), (true, 4, []), (true, 5, []), (true, 6, []), (true, 7, []), (true, 8, []), (true, 9, []), (true, 10, []), (true, 11, []), (true, 12, []), (true, 13, [])] Fc.mixed (by kernel_rfl) (by kernel_rfl) (by kernel_rfl) (by kernel_rfl) (by kernel_rfl) (by repeat (first | with_reducible exact steady_body | with_reducible exact steady_bodyQ | with_reducible exact steady_round | with_reducible apply steady_block | with_reducible apply steady_then | with_reducible apply steady_scope | exact steady_body)) hH ?_
      replace hH := hH.drew
      refine r_move hS trivial rfl rfl ?_; clear hS; intro a hS
      refine r_nilCheck hS trivial rfl rfl ?_; clear hS; intro a hS
      refine r_fieldAddr hS trivial rfl Fc.fo83_7 rfl ?_; clear hS; intro a hS
      refine r_load_scS hS rfl (by repeat (first | exact In.here | refine In.there ?_)) Fc.sc81 (by rfl) rfl ?_; clear hS; intro a hS
      refine r_move hS trivial rfl rfl ?_; clear hS; intro a hS
      refine r_nilCheck hS trivial rfl rfl ?_; clear hS; intro a hS
      refine r_fieldAddr hS trivial rfl Fc.fo83_2 rfl ?_; clear hS; intro a hS
      refine r_load_scS hS rfl (by repeat (first | exact In.here | refine In.there ?_)) Fc.sc3 (by rfl) rfl ?_; clear hS; intro a hS
      refine r_lookNoS (l := []) Fc.mtP hS rfl rfl (by repeat (first | exact In.here | refine In.there ?_)) hl1 (by simp) (keyI p (by omega)) rfl ?_; clear hS; intro a hS
      refine r_move hS trivial rfl rfl ?_; clear hS; intro a hS
      refine r_extract hS trivial rfl rfl rfl ?_; clear hS; intro a hS
      refine r_extract hS trivial rfl rfl rfl ?_; clear hS; intro a hS
      refine r_assign hS trivial rfl rfl ?_; clear hS; intro a hS
      refine r_assign hS trivial rfl rfl ?_; clear hS; intro a hS
      refine Sq.nil ?_
      refine then_n ?_
      refine c_seq ?_
      refine c_seq ?_
      refine reg_plain w0 (fun z => z = ib ∨ z = mb) ?_
      refine r_move hS hH.kp0 rfl rfl ?_; clear hS; intro a hS
      refine r_not hS hH.kp0 rfl rfl ?_; clear hS; intro a hS
      refine Sq.nil ?_
      refine then_n ?_
      refine c_condT hS rfl rfl ?_
      refine wp_exit ?_
      refine then_e ?_
      refine blk_e rfl ?_
      refine then_e ?_
      refine blk_hit ?_
      refine then_n ?_
      refine c_seq ?_
      refine reg_draw [(true, 0, [1]), (true, 1, [1]), (true, 2, [1]), (true, 3, [1]), (true, 4, []), (true, 5, [1]), (true, 6, [1]), (true, 7, [1]), (true, 8, []), (true, 9, [1]), (true, 10, [1]), (true, 11, [1]), (true, 12, []), (true, 13, [1]), (true, 14, [1]), (true, 15, [1]), (true, 16, [1]), (false, 17, [1])] Fc.mixed (by kernel_rfl) (by kernel_rfl) (by kernel_rfl) (by kernel_rfl) (by kernel_rfl) (by repeat (first | with_reducible exact steady_body | with_reducible exact steady_bodyQ | with_reducible exact steady_round | with_reducible apply steady_block | with_reducible apply steady_then | with_reducible apply steady_scope | exact steady_body)) hH ?_
      replace hH := hH.drew
      refine r_move hS trivial rfl rfl ?_; clear hS; intro a hS
      refine r_move hS trivial rfl rfl ?_; clear hS; intro a hS
      refine r_nilCheck hS trivial rfl rfl ?_; clear hS; intro a hS
      refine r_fieldAddr hS trivial rfl Fc.fo83_3 rfl ?_; clear hS; intro a hS
      refine r_load_scS hS rfl (by repeat (first | exact In.here | refine In.there ?_)) Fc.sc3 (by rfl) rfl ?_; clear hS; intro a hS
      refine r_move hS trivial rfl rfl ?_; clear hS; intro a hS
      refine r_nilCheck hS trivial rfl rfl ?_; clear hS; intro a hS
      refine r_fieldAddr hS trivial rfl Fc.fo83_2 rfl ?_; clear hS; intro a hS
      refine r_load_scS hS rfl (by repeat (first | exact In.here | refine In.there ?_)) Fc.sc3 (by rfl) rfl ?_; clear hS; intro a hS
      refine r_move hS trivial rfl rfl ?_; clear hS; intro a hS
      refine r_nilCheck hS trivial rfl rfl ?_; clear hS; intro a hS
      refine r_fieldAddr hS trivial rfl Fc.fo83_1 rfl ?_; clear hS; intro a hS
      refine r_load_scS hS rfl (by repeat (first | exact In.here | refine In.there ?_)) Fc.sc3 (by rfl) rfl ?_; clear hS; intro a hS
      refine r_addN0 (m := p) (k := room) hS trivial rfl rfl (by omega) rfl ?_; clear hS; intro a hS
      refine r_maxN (m := limit) (k := p + room) hS trivial rfl rfl rfl ?_; clear hS; intro a hS
      refine r_nilCheck hS trivial rfl rfl ?_; clear hS; intro a hS
      refine r_fieldAddr hS trivial rfl Fc.fo83_3 rfl ?_; clear hS; intro a hS
      refine r_store1 hS hH rfl rfl rfl (by repeat (first | exact .here | apply In.there | apply Put.there | apply Del.there)) (by repeat (first | exact Sub.nil | refine Sub.cons ?_ ?_ | exact In.here | refine In.there ?_)) Fc.sz3 (of_decide_eq_true rfl) (.inl (.inl rfl)) ?_
      clear hH; intro w hH
      refine Sq.nil ?_
      refine then_n ?_
      refine c_seq ?_
      refine reg_draw [(true, 0, []), (true, 1, []), (true, 2, []), (true, 3, []), (true, 4, []), (true, 5, []), (true, 6, []), (true, 7, []), (true, 8, []), (true, 9, []), (true, 10, []), (true, 11, []), (true, 12, []), (true, 13, []), (true, 14, []), (true, 15, []), (true, 16, []), (true, 17, [])] Fc.mixed (by kernel_rfl) (by kernel_rfl) (by kernel_rfl) (by kernel_rfl) (by kernel_rfl) (by repeat (first | with_reducible exact steady_body | with_reducible exact steady_bodyQ | with_reducible exact steady_round | with_reducible apply steady_block | with_reducible apply steady_then | with_reducible apply steady_scope | exact steady_body)) hH ?_
      replace hH := hH.drew
      refine r_move hS trivial rfl rfl ?_; clear hS; intro a hS
      refine r_move hS trivial rfl rfl ?_; clear hS; intro a hS
      refine r_nilCheck hS trivial rfl rfl ?_; clear hS; intro a hS
      refine r_fieldAddr hS trivial rfl Fc.fo83_6 rfl ?_; clear hS; intro a hS
      refine r_load_scS hS rfl (by repeat (first | exact In.here | refine In.there ?_)) Fc.sc4 (by rfl) rfl ?_; clear hS; intro a hS
      refine r_move hS trivial rfl rfl ?_; clear hS; intro a hS
      rcases kn with _ | _
      · refine Sq.guardNo hS rfl rfl rfl trivial rfl ?_; clear hS; intro a hS
        refine Sq.guardNo hS rfl rfl rfl trivial rfl ?_; clear hS; intro a hS
        refine Sq.guardNo hS rfl rfl rfl trivial rfl ?_; clear hS; intro a hS
        refine Sq.guardNo hS rfl rfl rfl trivial rfl ?_; clear hS; intro a hS
        refine Sq.guardNo hS rfl rfl rfl trivial rfl ?_; clear hS; intro a hS
        refine Sq.guardNo hS rfl rfl rfl trivial rfl ?_; clear hS; intro a hS
        refine Sq.guardNo hS rfl rfl rfl trivial rfl ?_; clear hS; intro a hS
        refine Sq.guardNo hS rfl rfl rfl trivial rfl ?_; clear hS; intro a hS
        refine Sq.guardNo hS rfl rfl rfl trivial rfl ?_; clear hS; intro a hS
        refine r_pickF hS trivial rfl rfl rfl rfl ?_; clear hS; intro a hS
        refine r_assign hS trivial rfl rfl ?_; clear hS; intro a hS
        refine r_assign hS trivial rfl rfl ?_; clear hS; intro a hS
        refine Sq.nil ?_
        refine then_n ?_
        refine wp_ret ?_
        subst hps
        have hlu : ((text.drop place).take (p - place)).length = p - place := (by rw [List.length_take, List.length_drop]; omega); exact leave (.inl rfl) hS rfl (Res.tmp rfl (Res.tmp rfl Res.nil)) ⟨_, rfl, (by have h9 := (BsF.of_blk (F := Nobody) (hH.get (b := db) (by repeat (first | exact In.here | refine In.there ?_))) (fun h => h) hBB.take hBB.le).bs; rw [hlu] at h9; exact h9), hH.get (b := ib) (by repeat (first | exact In.here | refine In.there ?_)), hH.get (b := mb) (by repeat (first | exact In.here | refine In.there ?_)), hH.mod⟩
      · refine Sq.guardYes hS rfl rfl rfl ?_
        refine r_move hS trivial rfl rfl ?_; clear hS; intro a hS
        refine Sq.guardYes hS rfl rfl rfl ?_
        refine r_nilCheck hS trivial rfl rfl ?_; clear hS; intro a hS
        refine Sq.guardYes hS rfl rfl rfl ?_
        refine r_fieldAddr hS trivial rfl Fc.fo83_2 rfl ?_; clear hS; intro a hS
        refine Sq.guardYes hS rfl rfl rfl ?_
        refine r_load_scS hS rfl (by repeat (first | exact In.here | refine In.there ?_)) Fc.sc3 (by rfl) rfl ?_; clear hS; intro a hS
        refine Sq.guardYes hS rfl rfl rfl ?_
        refine r_move hS trivial rfl rfl ?_; clear hS; intro a hS
        refine Sq.guardYes hS rfl rfl rfl ?_
        refine r_nilCheck hS trivial rfl rfl ?_; clear hS; intro a hS
        refine Sq.guardYes hS rfl rfl rfl ?_
        refine r_fieldAddr hS trivial rfl Fc.fo83_5 rfl ?_; clear hS; intro a hS
        refine Sq.guardYes hS rfl rfl rfl ?_
        refine r_load_scS hS rfl (by repeat (first | exact In.here | refine In.there ?_)) Fc.sc3 (by rfl) rfl ?_; clear hS; intro a hS
        refine Sq.guardYes hS rfl rfl rfl ?_
        refine r_eql hS trivial rfl rfl rfl ?_; clear hS; intro a hS
        refine r_pickT hS trivial rfl rfl rfl rfl ?_; clear hS; intro a hS
        refine r_assign hS trivial rfl rfl ?_; clear hS; intro a hS
        refine r_assign hS trivial rfl rfl ?_; clear hS; intro a hS
        refine Sq.nil ?_
        refine then_n ?_
        refine wp_ret ?_
        subst hps
        have hlu : ((text.drop place).take (p - place)).length = p - place := (by rw [List.length_take, List.length_drop]; omega); exact leave (.inl rfl) hS rfl (Res.tmp rfl (Res.tmp rfl Res.nil)) ⟨_, rfl, (by have h9 := (BsF.of_blk (F := Nobody) (hH.get (b := db) (by repeat (first | exact In.here | refine In.there ?_))) (fun h => h) hBB.take hBB.le).bs; rw [hlu] at h9; exact h9), hH.get (b := ib) (by repeat (first | exact In.here | refine In.there ?_)), hH.get (b := mb) (by repeat (first | exact In.here | refine In.there ?_)), hH.mod⟩
    · skip
      refine wp_exit ?_
      refine then_e ?_
      refine then_e ?_
      refine blk_hit ?_
      refine then_n ?_
      refine c_seq ?_
      refine reg_draw [(true, 0, [1]), (true, 1, [1]), (true, 2, [1]), (true, 3, [1]), (true, 4, []), (true, 5, [1]), (true, 6, [1]), (true, 7, [1]), (true, 8, []), (true, 9, [1]), (true, 10, [1]), (true, 11, [1]), (true, 12, []), (true, 13, [1]), (true, 14, [1]), (true, 15, [1]), (true, 16, [1]), (false, 17, [1])] Fc.mixed (by kernel_rfl) (by kernel_rfl) (by kernel_rfl) (by kernel_rfl) (by kernel_rfl) (by repeat (first | with_reducible exact steady_body | with_reducible exact steady_bodyQ | with_reducible exact steady_round | with_reducible apply steady_block | with_reducible apply steady_then | with_reducible apply steady_scope | exact steady_body)) hH ?_
      replace hH := hH.drew
      refine r_move hS trivial rfl rfl ?_; clear hS; intro a hS
      refine r_move hS trivial rfl rfl ?_; clear hS; intro a hS
      refine r_nilCheck hS trivial rfl rfl ?_; clear hS; intro a hS
      refine r_fieldAddr hS trivial rfl Fc.fo83_3 rfl ?_; clear hS; intro a hS
      refine r_load_scS hS rfl (by repeat (first | exact In.here | refine In.there ?_)) Fc.sc3 (by rfl) rfl ?_; clear hS; intro a hS
      refine r_move hS trivial rfl rfl ?_; clear hS; intro a hS
      refine r_nilCheck hS trivial rfl rfl ?_; clear hS; intro a hS
      refine r_fieldAddr hS trivial rfl Fc.fo83_2 rfl ?_; clear hS; intro a hS
      refine r_load_scS hS rfl (by repeat (first | exact In.here | refine In.there ?_)) Fc.sc3 (by rfl) rfl ?_; clear hS; intro a hS
      refine r_move hS trivial rfl rfl ?_; clear hS; intro a hS
      refine r_nilCheck hS trivial rfl rfl ?_; clear hS; intro a hS
      refine r_fieldAddr hS trivial rfl Fc.fo83_1 rfl ?_; clear hS; intro a hS
      refine r_load_scS hS rfl (by repeat (first | exact In.here | refine In.there ?_)) Fc.sc3 (by rfl) rfl ?_; clear hS; intro a hS
      refine r_addN0 (m := p) (k := room) hS trivial rfl rfl (by omega) rfl ?_; clear hS; intro a hS
      refine r_maxN (m := limit) (k := p + room) hS trivial rfl rfl rfl ?_; clear hS; intro a hS
      refine r_nilCheck hS trivial rfl rfl ?_; clear hS; intro a hS
      refine r_fieldAddr hS trivial rfl Fc.fo83_3 rfl ?_; clear hS; intro a hS
      refine r_store1 hS hH rfl rfl rfl (by repeat (first | exact .here | apply In.there | apply Put.there | apply Del.there)) (by repeat (first | exact Sub.nil | refine Sub.cons ?_ ?_ | exact In.here | refine In.there ?_)) Fc.sz3 (of_decide_eq_true rfl) (.inl (.inl rfl)) ?_
      clear hH; intro w hH
      refine Sq.nil ?_
      refine then_n ?_
      refine c_seq ?_
      refine reg_draw [(true, 0, []), (true, 1, []), (true, 2, []), (true, 3, []), (true, 4, []), (true, 5, []), (true, 6, []), (true, 7, []), (true, 8, []), (true, 9, []), (true, 10, []), (true, 11, []), (true, 12, []), (true, 13, []), (true, 14, []), (true, 15, []), (true, 16, []), (true, 17, [])] Fc.mixed (by kernel_rfl) (by kernel_rfl) (by kernel_rfl) (by kernel_rfl) (by kernel_rfl) (by repeat (first | with_reducible exact steady_body | with_reducible exact steady_bodyQ | with_reducible exact steady_round | with_reducible apply steady_block | with_reducible apply steady_then | with_reducible apply steady_scope | exact steady_body)) hH ?_
      replace hH := hH.drew
      refine r_move hS trivial rfl rfl ?_; clear hS; intro a hS
      refine r_move hS trivial rfl rfl ?_; clear hS; intro a hS
      refine r_nilCheck hS trivial rfl rfl ?_; clear hS; intro a hS
      refine r_fieldAddr hS trivial rfl Fc.fo83_6 rfl ?_; clear hS; intro a hS
      refine r_load_scS hS rfl (by repeat (first | exact In.here | refine In.there ?_)) Fc.sc4 (by rfl) rfl ?_; clear hS; intro a hS
      refine r_move hS trivial rfl rfl ?_; clear hS; intro a hS
      rcases kn with _ | _
      · refine Sq.guardNo hS rfl rfl rfl trivial rfl ?_; clear hS; intro a hS
        refine Sq.guardNo hS rfl rfl rfl trivial rfl ?_; clear hS; intro a hS
        refine Sq.guardNo hS rfl rfl rfl trivial rfl ?_; clear hS; intro a hS
        refine Sq.guardNo hS rfl rfl rfl trivial rfl ?_; clear hS; intro a hS
        refine Sq.guardNo hS rfl rfl rfl trivial rfl ?_; clear hS; intro a hS
        refine Sq.guardNo hS rfl rfl rfl trivial rfl ?_; clear hS; intro a hS
        refine Sq.guardNo hS rfl rfl rfl trivial rfl ?_; clear hS; intro a hS
        refine Sq.guardNo hS rfl rfl rfl trivial rfl ?_; clear hS; intro a hS
        refine Sq.guardNo hS rfl rfl rfl trivial rfl ?_; clear hS; intro a hS
        refine r_pickF hS trivial rfl rfl rfl rfl ?_; clear hS; intro a hS
        refine r_assign hS trivial rfl rfl ?_; clear hS; intro a hS
        refine r_assign hS trivial rfl rfl ?_; clear hS; intro a hS
        refine Sq.nil ?_
        refine then_n ?_
        refine wp_ret ?_
        subst hps
        have hlu : ((text.drop place).take (p - place)).length = p - place := (by rw [List.length_take, List.length_drop]; omega); exact leave (.inl rfl) hS rfl (Res.tmp rfl (Res.tmp rfl Res.nil)) ⟨_, rfl, (by have h9 := (BsF.of_blk (F := Nobody) (hH.get (b := db) (by repeat (first | exact In.here | refine In.there ?_))) (fun h => h) hBB.take hBB.le).bs; rw [hlu] at h9; exact h9), hH.get (b := ib) (by repeat (first | exact In.here | refine In.there ?_)), hH.get (b := mb) (by repeat (first | exact In.here | refine In.there ?_)), hH.mod⟩
      · refine Sq.guardYes hS rfl rfl rfl ?_
        refine r_move hS trivial rfl rfl ?_; clear hS; intro a hS
        refine Sq.guardYes hS rfl rfl rfl ?_
        refine r_nilCheck hS trivial rfl rfl ?_; clear hS; intro a hS
        refine Sq.guardYes hS rfl rfl rfl ?_
        refine r_fieldAddr hS trivial rfl Fc.fo83_2 rfl ?_; clear hS; intro a hS
        refine Sq.guardYes hS rfl rfl rfl ?_
        refine r_load_scS hS rfl (by repeat (first | exact In.here | refine In.there ?_)) Fc.sc3 (by rfl) rfl ?_; clear hS; intro a hS
        refine Sq.guardYes hS rfl rfl rfl ?_
        refine r_move hS trivial rfl rfl ?_; clear hS; intro a hS
        refine Sq.guardYes hS rfl rfl rfl ?_
        refine r_nilCheck hS trivial rfl rfl ?_; clear hS; intro a hS
        refine Sq.guardYes hS rfl rfl rfl ?_
        refine r_fieldAddr hS trivial rfl Fc.fo83_5 rfl ?_; clear hS; intro a hS
        refine Sq.guardYes hS rfl rfl rfl ?_
        refine r_load_scS hS rfl (by repeat (first | exact In.here | refine In.there ?_)) Fc.sc3 (by rfl) rfl ?_; clear hS; intro a hS
        refine Sq.guardYes hS rfl rfl rfl ?_
        refine r_eql hS trivial rfl rfl rfl ?_; clear hS; intro a hS
        refine r_pickT hS trivial rfl rfl rfl rfl ?_; clear hS; intro a hS
        refine r_assign hS trivial rfl rfl ?_; clear hS; intro a hS
        refine r_assign hS trivial rfl rfl ?_; clear hS; intro a hS
        refine Sq.nil ?_
        refine then_n ?_
        refine wp_ret ?_
        subst hps
        have hlu : ((text.drop place).take (p - place)).length = p - place := (by rw [List.length_take, List.length_drop]; omega); exact leave (.inl rfl) hS rfl (Res.tmp rfl (Res.tmp rfl Res.nil)) ⟨_, rfl, (by have h9 := (BsF.of_blk (F := Nobody) (hH.get (b := db) (by repeat (first | exact In.here | refine In.there ?_))) (fun h => h) hBB.take hBB.le).bs; rw [hlu] at h9; exact h9), hH.get (b := ib) (by repeat (first | exact In.here | refine In.there ?_)), hH.get (b := mb) (by repeat (first | exact In.here | refine In.there ?_)), hH.mod⟩
  · have hle2 := hc2.le
    refine c_seq ?_
    refine c_seq ?_
    refine reg_plain w0 (fun z => z = ib ∨ z = mb) ?_
    refine r_move hS hH.kp0 rfl rfl ?_; clear hS; intro a hS
    refine r_lenSl hS hH.kp0 rfl Fc.isSlice22 rfl ?_; clear hS; intro a hS
    refine r_move hS hH.kp0 rfl rfl ?_; clear hS; intro a hS
    refine r_lss hS hH.kp0 rfl rfl rfl ?_; clear hS; intro a hS
    refine Sq.nil ?_
    refine then_n ?_
    refine c_condT hS rfl (DT (by omega)) ?_
    refine wp_skip ?_
    refine then_n ?_
    refine wp_block ?_
    refine c_seq ?_
    refine reg_draw [(true, 0, []), (true, 1, []), (true, 2, []), (true, 3, []), (true, 4, []), (true, 5, []), (true, 6, []), (true, 7, []), (true, 8, []), (true, 9, []), (true, 10, []), (true, 11, []), (true, 12, []), (true, 13, [])] Fc.mixed (by kernel_rfl) (by kernel_rfl) (by kernel_rfl) (by kernel_rfl) (by kernel_rfl) (by repeat (first | with_reducible exact steady_body | with_reducible exact steady_bodyQ | with_reducible exact steady_round | with_reducible apply steady_block | with_reducible apply steady_then | with_reducible apply steady_scope | exact steady_body)) hH ?_
    replace hH := hH.drew
    refine r_move hS trivial rfl rfl ?_; clear hS; intro a hS
    refine r_nilCheck hS trivial rfl rfl ?_; clear hS; intro a hS
    refine r_fieldAddr hS trivial rfl Fc.fo83_7 rfl ?_; clear hS; intro a hS
    refine r_load_scS hS rfl (by repeat (first | exact In.here | refine In.there ?_)) Fc.sc81 (by rfl) rfl ?_; clear hS; intro a hS
    refine r_move hS trivial rfl rfl ?_; clear hS; intro a hS
    refine r_nilCheck hS trivial rfl rfl ?_; clear hS; intro a hS
    refine r_fieldAddr hS trivial rfl Fc.fo83_2 rfl ?_; clear hS; intro a hS
    refine r_load_scS hS rfl (by repeat (first | exact In.here | refine In.there ?_)) Fc.sc3 (by rfl) rfl ?_; clear hS; intro a hS
    refine r_lookHasS Fc.mtP hS rfl rfl (by repeat (first | exact In.here | refine In.there ?_)) hl1 (.head _) (keyI p (by omega)) rfl ?_; clear hS; intro a hS
    refine r_move hS trivial rfl rfl ?_; clear hS; intro a hS
    refine r_extract hS trivial rfl rfl rfl ?_; clear hS; intro a hS
    refine r_extract hS trivial rfl rfl rfl ?_; clear hS; intro a hS
    refine r_assign hS trivial rfl rfl ?_; clear hS; intro a hS
    refine r_assign hS trivial rfl rfl ?_; clear hS; intro a hS
    refine Sq.nil ?_
    refine then_n ?_
    refine c_seq ?_
    refine c_seq ?_
    refine reg_plain w0 (fun z => z = ib ∨ z = mb) ?_
    refine r_move hS hH.kp0 rfl rfl ?_; clear hS; intro a hS
    refine r_not hS hH.kp0 rfl rfl ?_; clear hS; intro a hS
    refine Sq.nil ?_
    refine then_n ?_
    refine c_condF hS rfl rfl ?_
    refine wp_skip ?_
    refine then_n ?_
    refine c_seq ?_
    refine reg_draw [(true, 0, [1]), (true, 1, [1]), (true, 2, [1]), (true, 3, [1]), (true, 4, [1]), (true, 5, [1]), (true, 6, [1]), (true, 7, [1]), (false, 8, [1])] Fc.mixed (by kernel_rfl) (by kernel_rfl) (by kernel_rfl) (by kernel_rfl) (by kernel_rfl) (by repeat (first | with_reducible exact steady_body | with_reducible exact steady_bodyQ | with_reducible exact steady_round | with_reducible apply steady_block | with_reducible apply steady_then | with_reducible apply steady_scope | exact steady_body)) hH ?_
    replace hH := hH.drew
    refine r_move hS trivial rfl rfl ?_; clear hS; intro a hS
    refine r_nilCheck hS trivial rfl rfl ?_; clear hS; intro a hS
    refine r_fieldAddr hS trivial rfl Fc.fo83_7 rfl ?_; clear hS; intro a hS
    refine r_load_scS hS rfl (by repeat (first | exact In.here | refine In.there ?_)) Fc.sc81 (by rfl) rfl ?_; clear hS; intro a hS
    refine r_move hS trivial rfl rfl ?_; clear hS; intro a hS
    refine r_nilCheck hS trivial rfl rfl ?_; clear hS; intro a hS
    refine r_fieldAddr hS trivial rfl Fc.fo83_2 rfl ?_; clear hS; intro a hS
    refine r_load_scS hS rfl (by repeat (first | exact In.here | refine In.there ?_)) Fc.sc3 (by rfl) rfl ?_; clear hS; intro a hS
    refine r_del1 (l := l2) (b := mb) (clock := clock) Fc.mtP hS hH rfl rfl (by repeat (first | exact In.here | refine In.there ?_)) hl1 (keyI p (by omega)) (.inl (.inr rfl)) (by repeat (first | exact .here | apply In.there | apply Put.there | apply Del.there)) (by repeat (first | exact Sub.nil | refine Sub.cons ?_ ?_ | exact In.here | refine In.there ?_)) ?_
    clear hH; intro w hl9 hH
    refine Sq.nil ?_
    refine then_n ?_
    refine c_seq ?_
    refine reg_plain w0 (fun z => z = ib ∨ z = mb) ?_
    refine r_move hS hH.kp0 rfl rfl ?_; clear hS; intro a hS
    refine r_lenSl hS hH.kp0 rfl Fc.isSlice22 rfl ?_; clear hS; intro a hS
    refine r_move hS hH.kp0 rfl rfl ?_; clear hS; intro a hS
    refine r_move hS hH.kp0 rfl rfl ?_; clear hS; intro a hS
    refine r_lenSl hS hH.kp0 rfl Fc.isSlice22 rfl ?_; clear hS; intro a hS
    refine r_subN0 (m := n) (k := 0) hS hH.kp0 rfl rfl (by omega) (by omega) rfl ?_; clear hS; intro a hS
    refine r_minN (m := k) (k := n - (0)) hS hH.kp0 rfl rfl rfl ?_; clear hS; intro a hS
    rw [show min k (n - (0)) = k from by omega] at hS
    refine r_assign hS hH.kp0 rfl rfl ?_; clear hS; intro a hS
    refine Sq.nil ?_
    refine then_n ?_
    refine c_seq ?_
    refine reg_plain w0 (fun z => z = ib ∨ z = mb) ?_
    refine r_move hS hH.kp0 rfl rfl ?_; clear hS; intro a hS
    refine r_move hS hH.kp0 rfl rfl ?_; clear hS; intro a hS
    refine r_move hS hH.kp0 rfl rfl ?_; clear hS; intro a hS
    refine r_slHiE (hh := k) hS hH.kp0 rfl rfl Fc.slb22 rfl hkb.len.2 rfl ?_; clear hS; intro a hS
    refine r_append_nil hS hH (by repeat (first | exact Sub.nil | refine Sub.cons ?_ ?_ | exact In.here | refine In.there ?_)) rfl rfl Fc.el22 Fc.ni22 (hkb _ hH.mod).src (by rw [List.length_take, List.length_drop]; omega) (by rw [List.length_take, List.length_drop]; omega) rfl ?_
    clear hS hH; intro a w cb c2 l9 hcb _ hl9b hc9 htk9 _ hS hH
    refine r_assign hS hH.kp0 rfl rfl ?_; clear hS; intro a hS
    refine Sq.nil ?_
    refine then_n ?_
    refine c_seq ?_
    refine reg_plain w0 (fun z => z = ib ∨ z = mb) ?_
    refine r_move hS hH.kp0 rfl rfl ?_; clear hS; intro a hS
    refine r_nilCheck hS hH.kp0 rfl rfl ?_; clear hS; intro a hS
    refine r_fieldAddr hS hH.kp0 rfl Fc.fo83_2 rfl ?_; clear hS; intro a hS
    refine r_load_sc hS hH (by repeat (first | exact Sub.nil | refine Sub.cons ?_ ?_ | exact In.here | refine In.there ?_)) rfl (by repeat (first | exact In.here | refine In.there ?_)) Fc.sc3 (by rfl) rfl ?_; clear hS; intro a hS
    refine r_move hS hH.kp0 rfl rfl ?_; clear hS; intro a hS
    refine r_addN0 (m := p) (k := k) hS hH.kp0 rfl rfl (by omega) rfl ?_; clear hS; intro a hS
    refine r_nilCheck hS hH.kp0 rfl rfl ?_; clear hS; intro a hS
    refine r_fieldAddr hS hH.kp0 rfl Fc.fo83_2 rfl ?_; clear hS; intro a hS
    refine r_store1 hS hH rfl rfl rfl (by repeat (first | exact .here | apply In.there | apply Put.there | apply Del.there)) (by repeat (first | exact Sub.nil | refine Sub.cons ?_ ?_ | exact In.here | refine In.there ?_)) Fc.sz3 (of_decide_eq_true rfl) (.inl (.inl rfl)) ?_
    clear hH; intro w hH
    refine Sq.nil ?_
    refine then_n ?_
    refine c_seq ?_
    refine reg_plain w0 (fun z => z = ib ∨ z = mb) ?_
    refine r_move hS hH.kp0 rfl rfl ?_; clear hS; intro a hS
    refine r_move hS hH.kp0 rfl rfl ?_; clear hS; intro a hS
    refine r_lenSl hS hH.kp0 rfl Fc.isSlice22 rfl ?_; clear hS; intro a hS
    refine r_lss hS hH.kp0 rfl rfl rfl ?_; clear hS; intro a hS
    refine Sq.nil ?_
    refine then_n ?_
    refine c_condF hS rfl (DF (by omega)) ?_
    refine wp_skip ?_
    refine blk_n ?_
    refine then_n ?_
    have hlk : ((text.drop p).take k).length = k := by rw [List.length_take, List.length_drop]; omega
    rw [hlk] at hS hc9 htk9
    exact ⟨l2.length, by rw [h1, List.length_cons]; omega, p + k, l2, rfl, by omega, by omega, hl9, hc2, .inr ⟨cb, c2, l9, by omega, hcb, ⟨by omega, by subst hpp; rw [show p + k - p = k from by omega]; omega, by subst hpp; rw [show p + k - p = k from by omega, hlk]; simpa using htk9⟩, by subst hpp; rw [show p + k - p = k from by omega]; exact hS.live ⟨rfl, rfl, rfl, rfl, trivial⟩, hH⟩⟩
  · have hle2 := hc2.le
    refine c_seq ?_
    refine c_seq ?_
    refine reg_plain w0 (fun z => z = ib ∨ z = mb) ?_
    refine r_move hS hH.kp0 rfl rfl ?_; clear hS; intro a hS
    refine r_lenSl hS hH.kp0 rfl Fc.isSlice22 rfl ?_; clear hS; intro a hS
    refine r_move hS hH.kp0 rfl rfl ?_; clear hS; intro a hS
    refine r_lss hS hH.kp0 rfl rfl rfl ?_; clear hS; intro a hS
    refine Sq.nil ?_
    refine then_n ?_
    refine c_condT hS rfl (DT (by omega)) ?_
    refine wp_skip ?_
    refine then_n ?_
    refine wp_block ?_
    refine c_seq ?_
    refine reg_draw [(true, 0, []), (true, 1, []), (true, 2, []), (true, 3, []), (true, 4, []), (true, 5, []), (true, 6, []), (true, 7, []), (true, 8, []), (true, 9, []), (true, 10, []), (true, 11, []), (true, 12, []), (true, 13, [])] Fc.mixed (by kernel_rfl) (by kernel_rfl) (by kernel_rfl) (by kernel_rfl) (by kernel_rfl) (by repeat (first | with_reducible exact steady_body | with_reducible exact steady_bodyQ | with_reducible exact steady_round | with_reducible apply steady_block | with_reducible apply steady_then | with_reducible apply steady_scope | exact steady_body)) hH ?_
    replace hH := hH.drew
    refine r_move hS trivial rfl rfl ?_; clear hS; intro a hS
    refine r_nilCheck hS trivial rfl rfl ?_; clear hS; intro a hS
    refine r_fieldAddr hS trivial rfl Fc.fo83_7 rfl ?_; clear hS; intro a hS
    refine r_load_scS hS rfl (by repeat (first | exact In.here | refine In.there ?_)) Fc.sc81 (by rfl) rfl ?_; clear hS; intro a hS
    refine r_move hS trivial rfl rfl ?_; clear hS; intro a hS
    refine r_nilCheck hS trivial rfl rfl ?_; clear hS; intro a hS
    refine r_fieldAddr hS trivial rfl Fc.fo83_2 rfl ?_; clear hS; intro a hS
    refine r_load_scS hS rfl (by repeat (first | exact In.here | refine In.there ?_)) Fc.sc3 (by rfl) rfl ?_; clear hS; intro a hS
    refine r_lookHasS Fc.mtP hS rfl rfl (by repeat (first | exact In.here | refine In.there ?_)) hl1 (.head _) (keyI p (by omega)) rfl ?_; clear hS; intro a hS
    refine r_move hS trivial rfl rfl ?_; clear hS; intro a hS
    refine r_extract hS trivial rfl rfl rfl ?_; clear hS; intro a hS
    refine r_extract hS trivial rfl rfl rfl ?_; clear hS; intro a hS
    refine r_assign hS trivial rfl rfl ?_; clear hS; intro a hS
    refine r_assign hS trivial rfl rfl ?_; clear hS; intro a hS
    refine Sq.nil ?_
    refine then_n ?_
    refine c_seq ?_
    refine c_seq ?_
    refine reg_plain w0 (fun z => z = ib ∨ z = mb) ?_
    refine r_move hS hH.kp0 rfl rfl ?_; clear hS; intro a hS
    refine r_not hS hH.kp0 rfl rfl ?_; clear hS; intro a hS
    refine Sq.nil ?_
    refine then_n ?_
    refine c_condF hS rfl rfl ?_
    refine wp_skip ?_
    refine then_n ?_
    refine c_seq ?_
    refine reg_draw [(true, 0, [2]), (true, 1, [2]), (true, 2, [2]), (true, 3, [2]), (true, 4, [2]), (true, 5, [2]), (true, 6, [2]), (true, 7, [2]), (false, 8, [2])] Fc.mixed (by kernel_rfl) (by kernel_rfl) (by kernel_rfl) (by kernel_rfl) (by kernel_rfl) (by repeat (first | with_reducible exact steady_body | with_reducible exact steady_bodyQ | with_reducible exact steady_round | with_reducible apply steady_block | with_reducible apply steady_then | with_reducible apply steady_scope | exact steady_body)) hH ?_
    replace hH := hH.drew
    refine r_move hS trivial rfl rfl ?_; clear hS; intro a hS
    refine r_nilCheck hS trivial rfl rfl ?_; clear hS; intro a hS
    refine r_fieldAddr hS trivial rfl Fc.fo83_7 rfl ?_; clear hS; intro a hS
    refine r_load_scS hS rfl (by repeat (first | exact In.here | refine In.there ?_)) Fc.sc81 (by rfl) rfl ?_; clear hS; intro a hS
    refine r_move hS trivial rfl rfl ?_; clear hS; intro a hS
    refine r_nilCheck hS trivial rfl rfl ?_; clear hS; intro a hS
    refine r_fieldAddr hS trivial rfl Fc.fo83_2 rfl ?_; clear hS; intro a hS
    refine r_load_scS hS rfl (by repeat (first | exact In.here | refine In.there ?_)) Fc.sc3 (by rfl) rfl ?_; clear hS; intro a hS
    refine r_del1 (l := l2) (b := mb) (clock := clock) Fc.mtP hS hH rfl rfl (by repeat (first | exact In.here | refine In.there ?_)) hl1 (keyI p (by omega)) (.inl (.inr rfl)) (by repeat (first | exact .here | apply In.there | apply Put.there | apply Del.there)) (by repeat (first | exact Sub.nil | refine Sub.cons ?_ ?_ | exact In.here | refine In.there ?_)) ?_
    clear hH; intro w hl9 hH
    refine Sq.nil ?_
    refine then_n ?_
    refine c_seq ?_
    refine reg_plain w0 (fun z => z = ib ∨ z = mb) ?_
    refine r_move hS hH.kp0 rfl rfl ?_; clear hS; intro a hS
    refine r_lenSl hS hH.kp0 rfl Fc.isSlice22 rfl ?_; clear hS; intro a hS
    refine r_move hS hH.kp0 rfl rfl ?_; clear hS; intro a hS
    refine r_move hS hH.kp0 rfl rfl ?_; clear hS; intro a hS
    refine r_lenSl hS hH.kp0 rfl Fc.isSlice22 rfl ?_; clear hS; intro a hS
    refine r_subN0 (m := n) (k := p - place) hS hH.kp0 rfl rfl (by omega) (by omega) rfl ?_; clear hS; intro a hS
    refine r_minN (m := k) (k := n - (p - place)) hS hH.kp0 rfl rfl rfl ?_; clear hS; intro a hS
    rw [show min k (n - (p - place)) = k from by omega] at hS
    refine r_assign hS hH.kp0 rfl rfl ?_; clear hS; intro a hS
    refine Sq.nil ?_
    refine then_n ?_
    refine c_seq ?_
    refine reg_plain w0 (fun z => z = ib ∨ z = mb) ?_
    refine r_move hS hH.kp0 rfl rfl ?_; clear hS; intro a hS
    refine r_move hS hH.kp0 rfl rfl ?_; clear hS; intro a hS
    refine r_move hS hH.kp0 rfl rfl ?_; clear hS; intro a hS
    refine r_slHiE (hh := k) hS hH.kp0 rfl rfl Fc.slb22 rfl hkb.len.2 rfl ?_; clear hS; intro a hS
    refine r_append_own hS hH rfl rfl (by repeat (first | exact .here | apply In.there | apply Put.there | apply Del.there)) (by repeat (first | exact Sub.nil | refine Sub.cons ?_ ?_ | exact In.here | refine In.there ?_)) Fc.el22 Fc.ni22 (by rw [Nat.mul_one]; exact hBB.len) (by have := hBB.le; rw [List.length_take, List.length_drop] at this; omega) (hkb _ hH.mod).src (by rw [List.length_take, List.length_drop]; omega) (.inr hdb) rfl ?_
    clear hS hH; intro a w cb c2 l9 hcb hl9b hc9 htk9 _ hS hH
    refine r_assign hS hH.kp0 rfl rfl ?_; clear hS; intro a hS
    refine Sq.nil ?_
    refine then_n ?_
    refine c_seq ?_
    refine reg_plain w0 (fun z => z = ib ∨ z = mb) ?_
    refine r_move hS hH.kp0 rfl rfl ?_; clear hS; intro a hS
    refine r_nilCheck hS hH.kp0 rfl rfl ?_; clear hS; intro a hS
    refine r_fieldAddr hS hH.kp0 rfl Fc.fo83_2 rfl ?_; clear hS; intro a hS
    refine r_load_sc hS hH (by repeat (first | exact Sub.nil | refine Sub.cons ?_ ?_ | exact In.here | refine In.there ?_)) rfl (by repeat (first | exact In.here | refine In.there ?_)) Fc.sc3 (by rfl) rfl ?_; clear hS; intro a hS
    refine r_move hS hH.kp0 rfl rfl ?_; clear hS; intro a hS
    refine r_addN0 (m := p) (k := k) hS hH.kp0 rfl rfl (by omega) rfl ?_; clear hS; intro a hS
    refine r_nilCheck hS hH.kp0 rfl rfl ?_; clear hS; intro a hS
    refine r_fieldAddr hS hH.kp0 rfl Fc.fo83_2 rfl ?_; clear hS; intro a hS
    refine r_store1 hS hH rfl rfl rfl (by repeat (first | exact .here | apply In.there | apply Put.there | apply Del.there)) (by repeat (first | exact Sub.nil | refine Sub.cons ?_ ?_ | exact In.here | refine In.there ?_)) Fc.sz3 (of_decide_eq_true rfl) (.inl (.inl rfl)) ?_
    clear hH; intro w hH
    refine Sq.nil ?_
    refine then_n ?_
    refine c_seq ?_
    refine reg_plain w0 (fun z => z = ib ∨ z = mb) ?_
    refine r_move hS hH.kp0 rfl rfl ?_; clear hS; intro a hS
    refine r_move hS hH.kp0 rfl rfl ?_; clear hS; intro a hS
    refine r_lenSl hS hH.kp0 rfl Fc.isSlice22 rfl ?_; clear hS; intro a hS
    refine r_lss hS hH.kp0 rfl rfl rfl ?_; clear hS; intro a hS
    refine Sq.nil ?_
    refine then_n ?_
    refine c_condF hS rfl (DF (by omega)) ?_
    refine wp_skip ?_
    refine blk_n ?_
    refine then_n ?_
    have hlk : ((text.drop p).take k).length = k := by rw [List.length_take, List.length_drop]; omega
    have hlu : ((text.drop place).take (p - place)).length = p - place := by rw [List.length_take, List.length_drop]; omega
    rw [hlk] at hS hc9 htk9
    have hcb0 : w0.heap.size ≤ cb := hcb.resolve_left (fun h => by have h9 := hH.nd; rcases h with rfl | rfl <;> simp at h9)
    have hbt := hBB.take
    rw [hlu] at hbt
    simp only [Nat.mul_one] at htk9
    rw [hbt] at htk9
    exact ⟨l2.length, by rw [h1, List.length_cons]; omega, p + k, l2, rfl, by omega, by omega, hl9, hc2, .inr ⟨cb, c2, l9, by omega, hcb0, ⟨by omega, by rw [take_more text hpl, List.length_append, hlu, hlk]; omega, by rw [take_more text hpl, List.length_append, hlu, hlk, List.map_append]; exact htk9⟩, by rw [show p + k - place = p - place + k from by omega]; exact hS.live ⟨rfl, rfl, rfl, rfl, trivial⟩, hH⟩⟩

end Go.Proofs.Ytkhcbllphdhbdaa

namespace Go.Proofs.Ytkhcbllphdhbdaa
open Go.Sym

theorem Fc.fn43 : isFn Try.prog 43 = true := by kernel_rfl
theorem Fc.fn44 : isFn Try.prog 44 = true := by kernel_rfl
theorem Fc.fn46 : isFn Try.prog 46 = true := by kernel_rfl
theorem Fc.isSlice76 : isSlice Try.prog 76 = true := by kernel_rfl
theorem Fc.slb76 : slB Try.prog 76 = some 1 := by kernel_rfl
set_option maxRecDepth 100000 in
set_option maxHeartbeats 4000000 in
theorem iPut_f (ib mb room place limit reach : Nat) (fin : Int) (kn : Bool) (text : List UInt8) (l : List MapEntry) (clock s off m qc ba bo : Nat) (hl : MapL Try.prog 3 l clock) (hpt0 : place ≤ text.length) (hrs : reach = s) (hop : off ≤ place) (hps : place ≤ s) (hsl : s ≤ text.length) (hm1 : 1 ≤ m) (hom : off + m ≤ text.length) (hlim : off + m ≤ limit) (hlm : limit ≤ 4194304) (ht : text.length ≤ 1048576) (hkn : kn = true → ((off + m : Nat) : Int) ≤ fin ∧ (false = true → ((off + m : Nat) : Int) = fin)) (hfi : false = true → reach ≤ off + m) (hne : mb ≠ ib) (X : Nat → Prop) (w0 : World) (hX : ∀ z, X z → z < w0.heap.size) (hc : Chain (fun z => z = ib ∨ z = mb ∨ X z) w0 text l place s) (hb : BsF (fun z => z = ib ∨ z = mb) w0 (.slice (some ⟨ba, bo, none⟩) m qc) ((text.drop off).take m)) (hz : w0.heap[ib]? = some (.cells ([.bool true, .int .i64 (room : Int), .int .i64 (place : Int), .int .i64 (limit : Int), .int .i64 (reach : Int), .int .i64 fin, .bool kn, .map (some mb)] : List Value).toArray 83 (0, 0))) (hm : w0.heap[mb]? = some (.map l.toArray clock)) : Calls Try.prog 25 #[.pointer (some ⟨ib, 0, none⟩), .int .i64 (off : Int), .slice (some ⟨ba, bo, none⟩) m qc, .bool false] w0 fun e w' => e = .returned (.int .i64 0) ∧ ∃ (l' : List MapEntry) (clock' : Nat), MapL Try.prog 3 l' clock' ∧ Chain (fun z => z = ib ∨ z = mb ∨ X z) w' text l' place (max s (off + m)) ∧ w'.heap[mb]? = some (.map l'.toArray clock') ∧ w'.heap[ib]? = some (.cells ([.bool true, .int .i64 (room : Int), .int .i64 (place : Int), .int .i64 (limit : Int), .int .i64 ((max reach (off + m) : Nat) : Int), .int .i64 fin, .bool kn, .map (some mb)] : List Value).toArray 83 (0, 0)) ∧ Mod (fun z => z = ib ∨ z = mb) w0 w' := by
  refine enter Try.func25 rfl rfl rfl ?_
  intro a hS
  have hH := Hp.start w0 (fun z => z = ib ∨ z = mb)
  have hMC : ∀ z, (z = ib ∨ z = mb) → (z = ib ∨ z = mb ∨ X z) := fun z h => h.imp id .inl
  replace hH := (hH.know hm (by intro p hp; simp at hp)).know hz (by intro p hp; simp at hp; subst hp; exact hne)
  refine c_seq ?_
  refine reg_plain w0 (fun z => z = ib ∨ z = mb) ?_
  refine r_box hS hH (by repeat (first | exact Sub.nil | refine Sub.cons ?_ ?_ | exact In.here | refine In.there ?_)) rfl rfl rfl ?_
  clear hS hH; intro a w b4 hb4 hwb4 hS hH
  refine r_box hS hH (by repeat (first | exact Sub.nil | refine Sub.cons ?_ ?_ | exact In.here | refine In.there ?_)) rfl rfl rfl ?_
  clear hS hH; intro a w b5 hb5 hwb5 hS hH
  refine r_box hS hH (by repeat (first | exact Sub.nil | refine Sub.cons ?_ ?_ | exact In.here | refine In.there ?_)) rfl rfl rfl ?_
  clear hS hH; intro a w b6 hb6 hwb6 hS hH
  refine r_assign hS hH.kp0 rfl rfl ?_; clear hS; intro a hS
  refine Sq.nil ?_
  refine then_n ?_
  refine c_seq ?_
  refine wp_block ?_
  refine c_seq ?_
  refine reg_plain w0 (fun z => z = ib ∨ z = mb) ?_
  refine r_load_sc hS hH (by repeat (first | exact Sub.nil | refine Sub.cons ?_ ?_ | exact In.here | refine In.there ?_)) rfl (by repeat (first | exact In.here | refine In.there ?_)) Fc.sc58 (by rfl) rfl ?_; clear hS; intro a hS
  refine r_call (l := [.tmp 17]) hS rfl rfl Fc.fn42 rfl ?_
  refine Calls.mono (inone_c ib mb room place limit reach fin kn _ (hH.get (b := ib) (by repeat (first | exact In.here | refine In.there ?_)))) ?_
  rintro e w1 ⟨rfl, hE⟩
  replace hH := hH.ext hE
  refine ⟨_, rfl, hH.kp0, ?_⟩
  clear hS; intro a hS
  refine r_assign hS hH.kp0 rfl rfl ?_; clear hS; intro a hS
  refine Sq.nil ?_
  refine then_n ?_
  refine c_condF hS rfl rfl ?_
  refine c_seq ?_
  refine reg_plain w0 (fun z => z = ib ∨ z = mb) ?_
  refine r_load_sc hS hH (by repeat (first | exact Sub.nil | refine Sub.cons ?_ ?_ | exact In.here | refine In.there ?_)) rfl (by repeat (first | exact In.here | refine In.there ?_)) Fc.sc3 (by rfl) rfl ?_; clear hS; intro a hS
  refine r_lss hS hH.kp0 rfl rfl rfl ?_; clear hS; intro a hS
  refine r_move hS hH.kp0 rfl rfl ?_; clear hS; intro a hS
  refine Sq.guardYes hS rfl rfl rfl ?_
  refine r_load_sc hS hH (by repeat (first | exact Sub.nil | refine Sub.cons ?_ ?_ | exact In.here | refine In.there ?_)) rfl (by repeat (first | exact In.here | refine In.there ?_)) Fc.sc3 (by rfl) rfl ?_; clear hS; intro a hS
  refine Sq.guardYes hS rfl rfl rfl ?_
  refine r_load_sc hS hH (by repeat (first | exact Sub.nil | refine Sub.cons ?_ ?_ | exact In.here | refine In.there ?_)) rfl (by repeat (first | exact In.here | refine In.there ?_)) Fc.sc22 (by rfl) rfl ?_; clear hS; intro a hS
  refine Sq.guardYes hS rfl rfl rfl ?_
  refine r_lenSl hS hH.kp0 rfl Fc.isSlice22 rfl ?_; clear hS; intro a hS
  refine Sq.guardYes hS rfl rfl rfl ?_
  (first | refine r_sub hS hH.kp0 rfl rfl rfl (by omega) ?_ | refine r_subw hS hH.kp0 rfl rfl rfl ?_)
  clear hS; intro a hS
  refine Sq.guardYes hS rfl rfl rfl ?_
  refine r_gtr hS hH.kp0 rfl rfl rfl ?_; clear hS; intro a hS
  refine r_pickF hS hH.kp0 rfl rfl rfl rfl ?_; clear hS; intro a hS
  refine r_assign hS hH.kp0 rfl rfl ?_; clear hS; intro a hS
  refine Sq.nil ?_
  refine then_n ?_
  refine c_condF hS rfl (DF (by omega)) ?_
  refine wp_skip ?_
  refine blk_n ?_
  refine then_n ?_
  refine c_seq ?_
  refine reg_plain w0 (fun z => z = ib ∨ z = mb) ?_
  refine r_load_sc hS hH (by repeat (first | exact Sub.nil | refine Sub.cons ?_ ?_ | exact In.here | refine In.there ?_)) rfl (by repeat (first | exact In.here | refine In.there ?_)) Fc.sc3 (by rfl) rfl ?_; clear hS; intro a hS
  refine r_load_sc hS hH (by repeat (first | exact Sub.nil | refine Sub.cons ?_ ?_ | exact In.here | refine In.there ?_)) rfl (by repeat (first | exact In.here | refine In.there ?_)) Fc.sc22 (by rfl) rfl ?_; clear hS; intro a hS
  refine r_lenSl hS hH.kp0 rfl Fc.isSlice22 rfl ?_; clear hS; intro a hS
  refine r_addN0 (m := off) (k := m) hS hH.kp0 rfl rfl (by omega) rfl ?_; clear hS; intro a hS
  refine r_assign hS hH.kp0 rfl rfl ?_; clear hS; intro a hS
  refine Sq.nil ?_
  refine then_n ?_
  refine c_seq ?_
  refine c_seq ?_
  refine reg_plain w0 (fun z => z = ib ∨ z = mb) ?_
  refine r_load_sc hS hH (by repeat (first | exact Sub.nil | refine Sub.cons ?_ ?_ | exact In.here | refine In.there ?_)) rfl (by repeat (first | exact In.here | refine In.there ?_)) Fc.sc58 (by rfl) rfl ?_; clear hS; intro a hS
  refine r_move hS hH.kp0 rfl rfl ?_; clear hS; intro a hS
  refine r_move hS hH.kp0 rfl rfl ?_; clear hS; intro a hS
  refine r_call (l := [.tmp 33, .tmp 34, .tmp 35]) hS rfl rfl Fc.fn43 rfl ?_
  refine Calls.mono (iends_c ib mb room place limit reach fin kn (off + m) false hlim hkn hfi _ (hH.get (b := ib) (by repeat (first | exact In.here | refine In.there ?_)))) ?_
  rintro e w1 ⟨rfl, hE⟩
  replace hH := hH.ext hE
  refine ⟨_, rfl, hH.kp0, ?_⟩
  clear hS; intro a hS
  refine r_assign hS hH.kp0 rfl rfl ?_; clear hS; intro a hS
  refine Sq.nil ?_
  refine then_n ?_
  refine c_seq ?_
  refine reg_plain w0 (fun z => z = ib ∨ z = mb) ?_
  refine r_move hS hH.kp0 rfl rfl ?_; clear hS; intro a hS
  refine r_neq hS hH.kp0 rfl rfl rfl ?_; clear hS; intro a hS
  refine Sq.nil ?_
  refine then_n ?_
  refine c_condF hS rfl rfl ?_
  refine wp_skip ?_
  refine then_n ?_
  refine c_seq ?_
  refine reg_draw [(true, 0, [3]), (true, 1, [3]), (true, 2, [3]), (true, 3, [3]), (true, 4, []), (true, 5, [3]), (true, 6, [3]), (true, 7, [3]), (true, 8, [3]), (false, 9, [3])] Fc.mixed (by kernel_rfl) (by kernel_rfl) (by kernel_rfl) (by kernel_rfl) (by kernel_rfl) (by repeat (first | with_reducible exact steady_body | with_reducible exact steady_bodyQ | with_reducible exact steady_round | with_reducible apply steady_block | with_reducible apply steady_then | with_reducible apply steady_scope | exact steady_body)) hH ?_
  replace hH := hH.drew
  refine r_load_scS hS rfl (by repeat (first | exact In.here | refine In.there ?_)) Fc.sc58 (by rfl) rfl ?_; clear hS; intro a hS
  refine r_load_scS hS rfl (by repeat (first | exact In.here | refine In.there ?_)) Fc.sc58 (by rfl) rfl ?_; clear hS; intro a hS
  refine r_nilCheck hS trivial rfl rfl ?_; clear hS; intro a hS
  refine r_fieldAddr hS trivial rfl Fc.fo83_4 rfl ?_; clear hS; intro a hS
  refine r_load_scS hS rfl (by repeat (first | exact In.here | refine In.there ?_)) Fc.sc3 (by rfl) rfl ?_; clear hS; intro a hS
  refine r_move hS trivial rfl rfl ?_; clear hS; intro a hS
  refine r_maxN (m := reach) (k := off + m) hS trivial rfl rfl rfl ?_; clear hS; intro a hS
  refine r_nilCheck hS trivial rfl rfl ?_; clear hS; intro a hS
  refine r_fieldAddr hS trivial rfl Fc.fo83_4 rfl ?_; clear hS; intro a hS
  refine r_store1 hS hH rfl rfl rfl (by repeat (first | exact .here | apply In.there | apply Put.there | apply Del.there)) (by repeat (first | exact Sub.nil | refine Sub.cons ?_ ?_ | exact In.here | refine In.there ?_)) Fc.sz3 (of_decide_eq_true rfl) (by first | exact .inr (by assumption) | exact .inl (.inl rfl)) ?_
  clear hH; intro w hH
  refine Sq.nil ?_
  refine then_n ?_
  refine c_seq ?_
  refine c_seq ?_
  refine reg_plain w0 (fun z => z = ib ∨ z = mb) ?_
  refine r_move hS hH.kp0 rfl rfl ?_; clear hS; intro a hS
  refine Sq.nil ?_
  refine then_n ?_
  refine c_condF hS rfl rfl ?_
  refine wp_skip ?_
  refine then_n ?_
  refine c_seq ?_
  refine reg_draw [(true, 0, []), (true, 1, []), (true, 2, []), (true, 3, []), (true, 4, []), (true, 5, []), (false, 6, []), (false, 7, [])] Fc.mixed (by kernel_rfl) (by kernel_rfl) (by kernel_rfl) (by kernel_rfl) (by kernel_rfl) (by repeat (first | with_reducible exact steady_body | with_reducible exact steady_bodyQ | with_reducible exact steady_round | with_reducible apply steady_block | with_reducible apply steady_then | with_reducible apply steady_scope | exact steady_body)) hH ?_
  replace hH := hH.drew
  refine r_load_scS hS rfl (by repeat (first | exact In.here | refine In.there ?_)) Fc.sc3 (by rfl) rfl ?_; clear hS; intro a hS
  refine r_load_scS hS rfl (by repeat (first | exact In.here | refine In.there ?_)) Fc.sc58 (by rfl) rfl ?_; clear hS; intro a hS
  refine r_nilCheck hS trivial rfl rfl ?_; clear hS; intro a hS
  refine r_fieldAddr hS trivial rfl Fc.fo83_2 rfl ?_; clear hS; intro a hS
  refine r_load_scS hS rfl (by repeat (first | exact In.here | refine In.there ?_)) Fc.sc3 (by rfl) rfl ?_; clear hS; intro a hS
  refine r_maxN (m := off) (k := place) hS trivial rfl rfl rfl ?_; clear hS; intro a hS
  rw [show max off place = place from by omega] at hS
  refine r_alloc hS hH (by repeat (first | exact Sub.nil | refine Sub.cons ?_ ?_ | exact In.here | refine In.there ?_)) Fc.zc3 rfl ?_
  clear hS hH; intro a w b11 hb11 hwb11 hS hH
  refine r_store1 hS hH rfl rfl rfl (by repeat (first | exact .here | apply In.there | apply Put.there | apply Del.there)) (by repeat (first | exact Sub.nil | refine Sub.cons ?_ ?_ | exact In.here | refine In.there ?_)) Fc.sz3 (of_decide_eq_true rfl) (by first | exact .inr (by assumption) | exact .inl (.inl rfl)) ?_
  clear hH; intro w hH
  refine Sq.nil ?_
  refine then_n ?_
  refine c_seq ?_
  refine reg_plain w0 (fun z => z = ib ∨ z = mb) ?_
  refine r_makeFunc hS hH.kp0 rfl rfl rfl ?_; clear hS; intro a hS
  refine r_assign hS hH.kp0 rfl rfl ?_; clear hS; intro a hS
  refine Sq.nil ?_
  refine then_n ?_
  refine c_seq ?_
  refine c_seq ?_
  refine reg_plain w0 (fun z => z = ib ∨ z = mb) ?_
  refine r_load_sc hS hH (by repeat (first | exact Sub.nil | refine Sub.cons ?_ ?_ | exact In.here | refine In.there ?_)) rfl (by repeat (first | exact In.here | refine In.there ?_)) Fc.sc58 (by rfl) rfl ?_; clear hS; intro a hS
  refine r_call (l := [.tmp 64]) hS rfl rfl Fc.fn46 rfl ?_
  have hlt9 := hH.lt
  refine Calls.mono (istarts_c ib mb room place limit _ _ _ l clock kz hl (fun e he => (hc.key e he).1) hc.rising (by have := hc.len; omega) hne _ (hH.get (b := ib) (by repeat (first | exact In.here | refine In.there ?_))) (hH.get (b := mb) (by repeat (first | exact In.here | refine In.there ?_)))) ?_
  rintro e w1 ⟨v, rfl, hIS, hE⟩
  replace hH := hH.ext hE
  refine ⟨_, rfl, hH.kp0, ?_⟩
  clear hS; intro a hS
  rcases hIS with ⟨rfl, hnil⟩ | ⟨sb, sc, row, rfl, hsb, hsk, hsr, hsc, hst⟩
  · have hln : l = [] := by simpa using hnil
    have hps9 : place = s := by have h9 := hc; rw [hln] at h9; rcases h9.inv with ⟨_, h⟩ | ⟨_, _, _, _, _, _, h, _⟩; exact h; cases h
    refine r_lenSl hS hH.kp0 rfl Fc.isSlice76 rfl ?_; clear hS; intro a hS
    refine r_move hS hH.kp0 rfl rfl ?_; clear hS; intro a hS
    refine Sq.nil ?_
    refine then_n ?_
    refine wp_block ?_
    refine wp_loop_rounds 1 ?_
    refine rnd ?_
    refine c_seq ?_
    refine reg_plain w0 (fun z => z = ib ∨ z = mb) ?_
    refine r_lss hS hH.kp0 rfl rfl rfl ?_; clear hS; intro a hS
    refine Sq.nil ?_
    refine then_n ?_
    refine c_seq ?_
    refine c_condF hS rfl rfl ?_
    refine wp_exit ?_
    refine then_e ?_
    refine then_e ?_
    refine blk_hit ?_
    refine then_n ?_
    refine c_seq ?_
    refine reg_plain w0 (fun z => z = ib ∨ z = mb) ?_
    rcases (by omega : off + m ≤ place ∨ place < off + m) with hge | hlt
    · refine r_move hS hH.kp0 rfl rfl ?_; clear hS; intro a hS
      refine r_move hS hH.kp0 rfl rfl ?_; clear hS; intro a hS
      refine r_call (l := [.tmp 94]) hS rfl rfl Fc.fn44 rfl ?_
      refine Calls.mono (upto_no b11 b6 b5 b4 place (off + m) (by omega) _ (hH.get (b := b11) (by repeat (first | exact In.here | refine In.there ?_)))) ?_
      rintro e w1 ⟨rfl, hE⟩
      replace hH := hH.ext hE
      refine ⟨_, rfl, hH.kp0, ?_⟩
      clear hS; intro a hS
      refine Sq.nil ?_
      refine then_n ?_
      refine c_seq ?_
      refine reg_plain w0 (fun z => z = ib ∨ z = mb) ?_
      refine r_assign hS hH.kp0 rfl rfl ?_; clear hS; intro a hS
      refine Sq.nil ?_
      refine then_n ?_
      refine wp_ret ?_
      exact leave (.inl rfl) hS rfl (Res.tmp rfl Res.nil) ⟨rfl, l, clock, hl, (by rw [show max s (off + m) = s from by omega]; exact hc.go (hH.mod.mono hMC) (fun _ h => .inl h)), hH.get (b := mb) (by repeat (first | exact In.here | refine In.there ?_)), hH.get (b := ib) (by repeat (first | exact In.here | refine In.there ?_)), hH.mod⟩
    · refine r_move hS hH.kp0 rfl rfl ?_; clear hS; intro a hS
      refine r_move hS hH.kp0 rfl rfl ?_; clear hS; intro a hS
      refine r_call (l := [.tmp 94]) hS rfl rfl Fc.fn44 rfl ?_
      have hlib := lt_of_block (hH.get (b := ib) (by repeat (first | exact .here | apply In.there | apply Put.there | apply Del.there)))
      have hlmb := lt_of_block (hH.get (b := mb) (by repeat (first | exact .here | apply In.there | apply Put.there | apply Del.there)))
      refine Calls.mono (upto_new b11 b6 b5 b4 place (off + m) off m qc ba bo ib mb room place limit _ _ _ ((text.drop off).take m) l clock hl (by rw [hps9]; exact hc.fresh) (by rw [List.length_take, List.length_drop]; omega) (by omega) (by omega) (by omega) (by omega) (by have h9 := hH.nd; simp only [List.map_cons, List.map_nil] at h9; first | exact h9 | exact (List.nodup_cons.1 h9).2) _ (hH.get (b := mb) (by repeat (first | exact In.here | refine In.there ?_))) (hH.get (b := ib) (by repeat (first | exact In.here | refine In.there ?_))) (hH.get (b := b4) (by repeat (first | exact In.here | refine In.there ?_))) (hH.get (b := b5) (by repeat (first | exact In.here | refine In.there ?_))) (hH.get (b := b6) (by repeat (first | exact In.here | refine In.there ?_))) (hH.get (b := b11) (by repeat (first | exact In.here | refine In.there ?_))) (BsF.go hb hH.mod (fun _ h => h.elim))) ?_
      rintro e w1 ⟨cb, c2, cl, rfl, hcb, hck, hBc, hl9, hmk, hM9⟩
      have hcbn : ¬ (cb = ib ∨ cb = mb ∨ X cb) := fun h => by rcases h with h | h | h; exact absurd (Nat.lt_of_lt_of_le hlib (h ▸ hcb)) (Nat.lt_irrefl _); exact absurd (Nat.lt_of_lt_of_le hlmb (h ▸ hcb)) (Nat.lt_irrefl _); exact absurd (hX _ h) (Nat.not_lt.2 (Nat.le_trans hH.mod.size hcb))
      replace hH := hH.updN (by repeat (first | exact .here | apply In.there | apply Put.there | apply Del.there)) hM9 hmk (.inl (.inr rfl)) hcb hck
      refine ⟨_, rfl, hH.kp0, ?_⟩
      clear hS; intro a hS
      refine Sq.nil ?_
      refine then_n ?_
      refine c_seq ?_
      refine reg_plain w0 (fun z => z = ib ∨ z = mb) ?_
      refine r_assign hS hH.kp0 rfl rfl ?_; clear hS; intro a hS
      refine Sq.nil ?_
      refine then_n ?_
      refine wp_ret ?_
      subst hps9
      rw [cut_cut text (by omega) (by omega)] at hBc
      have hlq : ((text.drop place).take (off + m - place)).length = off + m - place := by rw [List.length_take, List.length_drop]; omega
      have hbq := BsF.of_blk (F := fun z => z = ib ∨ z = mb ∨ X z) (hH.get (b := cb) (by repeat (first | exact In.here | refine In.there ?_))) hcbn hBc.take hBc.le
      rw [hlq] at hbq
      have hpu := (hc.go (hH.mod.mono hMC) (fun _ h => .inl h)).push (bn := clock) (by omega) (by omega) hbq
      rw [show place + (off + m - place) = max place (off + m) from by omega] at hpu
      exact leave (.inl rfl) hS rfl (Res.tmp rfl Res.nil) ⟨rfl, _, _, hl9, hpu, hH.get (b := mb) (by repeat (first | exact In.here | refine In.there ?_)), hH.get (b := ib) (by repeat (first | exact In.here | refine In.there ?_)), hH.mod⟩
  · replace hH := hH.know hsk (fun p hp e => absurd (Nat.lt_of_lt_of_le (hlt9 p hp) hsb) (by rw [e]; exact Nat.lt_irrefl _))
    refine r_lenSl hS hH.kp0 rfl Fc.isSlice76 rfl ?_; clear hS; intro a hS
    refine r_move hS hH.kp0 rfl rfl ?_; clear hS; intro a hS
    refine Sq.nil ?_
    refine then_n ?_
    refine wp_block ?_
    refine c_loop (fun mm a w => ∃ (p : Nat) (l0 l1 : List MapEntry), l = l0 ++ l1 ∧ mm = l1.length ∧ place ≤ p ∧ Chain (fun z => z = ib ∨ z = mb ∨ X z) w0 text l1 p s ∧ St 96 (lv [(4, .pointer (some ⟨b4, 0, none⟩)), (5, .pointer (some ⟨b5, 0, none⟩)), (6, .pointer (some ⟨b6, 0, none⟩)), (8, .int .i64 0), (9, .int .i64 ((off + m : Nat) : Int)), (11, .pointer (some ⟨b11, 0, none⟩)), (12, .func (.func 44) #[] #[.pointer (some ⟨b11, 0, none⟩), .pointer (some ⟨b6, 0, none⟩), .pointer (some ⟨b5, 0, none⟩), .pointer (some ⟨b4, 0, none⟩)]), (65, .slice (some ⟨sb, 0, none⟩) (l.map kz).length sc), (66, .int .i64 ((l.map kz).length : Int)), (67, .int .i64 (l0.length : Int))]) a ∧ Hp w0 (fun z => z = ib ∨ z = mb) [(sb, .cells row.toArray 3 (0, 0)), (b11, .cells ([.int .i64 (p : Int)] : List Value).toArray 3 (0, 0)), (b6, .cells ([.slice (some ⟨ba, bo, none⟩) m qc] : List Value).toArray 22 (0, 0)), (b5, .cells ([.int .i64 (off : Int)] : List Value).toArray 3 (0, 0)), (b4, .cells ([.pointer (some ⟨ib, 0, none⟩)] : List Value).toArray 58 (0, 0)), (ib, .cells ([.bool true, .int .i64 (room : Int), .int .i64 (place : Int), .int .i64 (limit : Int), .int .i64 ((max reach (off + m) : Nat) : Int), .int .i64 fin, .bool kn, .map (some mb)] : List Value).toArray 83 (0, 0)), (mb, .map l.toArray clock)] w) (l.length) ?_ ?_
    · exact ⟨place, [], l, rfl, rfl, Nat.le_refl _, hc, hS.live ⟨rfl, rfl, rfl, rfl, rfl, rfl, rfl, rfl, rfl, rfl, trivial⟩, hH⟩
    clear hS hH; intro mm a w hI; obtain ⟨p, l0, l1, hll, hmm, hpl, hch, hS, hH⟩ := hI
    have hle1 := hch.le
    rcases hch.inv3 (off + m) with ⟨rfl, hps9⟩ | ⟨hge, k, qa, qo, qq, bn, l2, rfl, hk1, hk2, hkb, hc2⟩ | ⟨hlt, k, qa, qo, qq, bn, l2, rfl, hk1, hk2, hkb, hc2⟩
    · refine c_seq ?_
      refine reg_plain w0 (fun z => z = ib ∨ z = mb) ?_
      refine r_lss hS hH.kp0 rfl rfl rfl ?_; clear hS; intro a hS
      refine Sq.nil ?_
      refine then_n ?_
      refine c_seq ?_
      refine c_condF hS rfl (DF (by rw [List.length_map, hll, List.append_nil]; omega)) ?_
      refine wp_exit ?_
      refine then_e ?_
      refine then_e ?_
      refine blk_hit ?_
      refine then_n ?_
      refine c_seq ?_
      refine reg_plain w0 (fun z => z = ib ∨ z = mb) ?_
      rcases (by omega : off + m ≤ p ∨ p < off + m) with hge | hlt
      · refine r_move hS hH.kp0 rfl rfl ?_; clear hS; intro a hS
        refine r_move hS hH.kp0 rfl rfl ?_; clear hS; intro a hS
        refine r_call (l := [.tmp 94]) hS rfl rfl Fc.fn44 rfl ?_
        refine Calls.mono (upto_no b11 b6 b5 b4 p (off + m) (by omega) _ (hH.get (b := b11) (by repeat (first | exact In.here | refine In.there ?_)))) ?_
        rintro e w1 ⟨rfl, hE⟩
        replace hH := hH.ext hE
        refine ⟨_, rfl, hH.kp0, ?_⟩
        clear hS; intro a hS
        refine Sq.nil ?_
        refine then_n ?_
        refine c_seq ?_
        refine reg_plain w0 (fun z => z = ib ∨ z = mb) ?_
        refine r_assign hS hH.kp0 rfl rfl ?_; clear hS; intro a hS
        refine Sq.nil ?_
        refine then_n ?_
        refine wp_ret ?_
        exact leave (.inl rfl) hS rfl (Res.tmp rfl Res.nil) ⟨rfl, l, clock, hl, (by rw [show max s (off + m) = s from by omega]; exact hc.go (hH.mod.mono hMC) (fun _ h => .inl h)), hH.get (b := mb) (by repeat (first | exact In.here | refine In.there ?_)), hH.get (b := ib) (by repeat (first | exact In.here | refine In.there ?_)), hH.mod⟩
      · refine r_move hS hH.kp0 rfl rfl ?_; clear hS; intro a hS
        refine r_move hS hH.kp0 rfl rfl ?_; clear hS; intro a hS
        refine r_call (l := [.tmp 94]) hS rfl rfl Fc.fn44 rfl ?_
        have hlib := lt_of_block (hH.get (b := ib) (by repeat (first | exact .here | apply In.there | apply Put.there | apply Del.there)))
        have hlmb := lt_of_block (hH.get (b := mb) (by repeat (first | exact .here | apply In.there | apply Put.there | apply Del.there)))
        refine Calls.mono (upto_new b11 b6 b5 b4 p (off + m) off m qc ba bo ib mb room place limit _ _ _ ((text.drop off).take m) l clock hl (by rw [hps9]; exact hc.fresh) (by rw [List.length_take, List.length_drop]; omega) (by omega) (by omega) (by omega) (by omega) (by have h9 := hH.nd; simp only [List.map_cons, List.map_nil] at h9; first | exact h9 | exact (List.nodup_cons.1 h9).2) _ (hH.get (b := mb) (by repeat (first | exact In.here | refine In.there ?_))) (hH.get (b := ib) (by repeat (first | exact In.here | refine In.there ?_))) (hH.get (b := b4) (by repeat (first | exact In.here | refine In.there ?_))) (hH.get (b := b5) (by repeat (first | exact In.here | refine In.there ?_))) (hH.get (b := b6) (by repeat (first | exact In.here | refine In.there ?_))) (hH.get (b := b11) (by repeat (first | exact In.here | refine In.there ?_))) (BsF.go hb hH.mod (fun _ h => h.elim))) ?_
        rintro e w1 ⟨cb, c2, cl, rfl, hcb, hck, hBc, hl9, hmk, hM9⟩
        have hcbn : ¬ (cb = ib ∨ cb = mb ∨ X cb) := fun h => by rcases h with h | h | h; exact absurd (Nat.lt_of_lt_of_le hlib (h ▸ hcb)) (Nat.lt_irrefl _); exact absurd (Nat.lt_of_lt_of_le hlmb (h ▸ hcb)) (Nat.lt_irrefl _); exact absurd (hX _ h) (Nat.not_lt.2 (Nat.le_trans hH.mod.size hcb))
        replace hH := hH.updN (by repeat (first | exact .here | apply In.there | apply Put.there | apply Del.there)) hM9 hmk (.inl (.inr rfl)) hcb hck
        refine ⟨_, rfl, hH.kp0, ?_⟩
        clear hS; intro a hS
        refine Sq.nil ?_
        refine then_n ?_
        refine c_seq ?_
        refine reg_plain w0 (fun z => z = ib ∨ z = mb) ?_
        refine r_assign hS hH.kp0 rfl rfl ?_; clear hS; intro a hS
        refine Sq.nil ?_
        refine then_n ?_
        refine wp_ret ?_
        subst hps9
        rw [cut_cut text (by omega) (by omega)] at hBc
        have hlq : ((text.drop p).take (off + m - p)).length = off + m - p := by rw [List.length_take, List.length_drop]; omega
        have hbq := BsF.of_blk (F := fun z => z = ib ∨ z = mb ∨ X z) (hH.get (b := cb) (by repeat (first | exact In.here | refine In.there ?_))) hcbn hBc.take hBc.le
        rw [hlq] at hbq
        have hpu := (hc.go (hH.mod.mono hMC) (fun _ h => .inl h)).push (bn := clock) (by omega) (by omega) hbq
        rw [show p + (off + m - p) = max p (off + m) from by omega] at hpu
        exact leave (.inl rfl) hS rfl (Res.tmp rfl Res.nil) ⟨rfl, _, _, hl9, hpu, hH.get (b := mb) (by repeat (first | exact In.here | refine In.there ?_)), hH.get (b := ib) (by repeat (first | exact In.here | refine In.there ?_)), hH.mod⟩
    · have hle2 := hc2.le
      have hlen9 := hc.len
      have hlen8 : l0.length < l.length := by rw [hll]; simp
      have hnth : nthV row (0 + l0.length * 1) = some (.int .i64 (p : Int)) := by rw [Nat.zero_add, Nat.mul_one]; exact icells_nth hst (by rw [hll]; simp [kz])
      have hj9 : l0.length < (l.map kz).length := by rw [hll]; simp
      have hme : (⟨.int .i64 (p : Int), .slice (some ⟨qa, qo, none⟩) k qq, bn⟩ : MapEntry) ∈ l := by rw [hll]; simp
      refine c_seq ?_
      refine reg_plain w0 (fun z => z = ib ∨ z = mb) ?_
      refine r_lss hS hH.kp0 rfl rfl rfl ?_; clear hS; intro a hS
      refine Sq.nil ?_
      refine then_n ?_
      refine c_seq ?_
      refine c_condT hS rfl (DT (by rw [List.length_map]; omega)) ?_
      refine wp_skip ?_
      refine then_n ?_
      refine c_seq ?_
      refine wp_block ?_
      refine c_seq ?_
      refine reg_plain w0 (fun z => z = ib ∨ z = mb) ?_
      refine r_indexAddrS (j := l0.length) hS hH.kp0 rfl rfl Fc.slb76 rfl hj9 rfl ?_; clear hS; intro a hS
      refine r_load_sc hS hH (by repeat (first | exact Sub.nil | refine Sub.cons ?_ ?_ | exact In.here | refine In.there ?_)) rfl (by repeat (first | exact In.here | refine In.there ?_)) Fc.sc3 (v := .int .i64 (p : Int)) hnth rfl ?_; clear hS; intro a hS
      refine r_assign hS hH.kp0 rfl rfl ?_; clear hS; intro a hS
      refine Sq.nil ?_
      refine then_n ?_
      refine c_seq ?_
      refine reg_plain w0 (fun z => z = ib ∨ z = mb) ?_
      refine r_move hS hH.kp0 rfl rfl ?_; clear hS; intro a hS
      refine r_load_sc hS hH (by repeat (first | exact Sub.nil | refine Sub.cons ?_ ?_ | exact In.here | refine In.there ?_)) rfl (by repeat (first | exact In.here | refine In.there ?_)) Fc.sc58 (by rfl) rfl ?_; clear hS; intro a hS
      refine r_nilCheck hS hH.kp0 rfl rfl ?_; clear hS; intro a hS
      refine r_fieldAddr hS hH.kp0 rfl Fc.fo83_7 rfl ?_; clear hS; intro a hS
      refine r_load_sc hS hH (by repeat (first | exact Sub.nil | refine Sub.cons ?_ ?_ | exact In.here | refine In.there ?_)) rfl (by repeat (first | exact In.here | refine In.there ?_)) Fc.sc81 (by rfl) rfl ?_; clear hS; intro a hS
      refine r_move hS hH.kp0 rfl rfl ?_; clear hS; intro a hS
      refine r_look1Has (l := l) Fc.mtP hS hH (by repeat (first | exact Sub.nil | refine Sub.cons ?_ ?_ | exact In.here | refine In.there ?_)) rfl rfl (by repeat (first | exact In.here | refine In.there ?_)) hl hme (keyI p (by omega)) rfl ?_; clear hS; intro a hS
      refine r_lenSl hS hH.kp0 rfl Fc.isSlice22 rfl ?_; clear hS; intro a hS
      refine r_addN0 (m := p) (k := k) hS hH.kp0 rfl rfl (by omega) rfl ?_; clear hS; intro a hS
      refine r_assign hS hH.kp0 rfl rfl ?_; clear hS; intro a hS
      refine Sq.nil ?_
      refine then_n ?_
      refine c_seq ?_
      refine c_seq ?_
      refine reg_plain w0 (fun z => z = ib ∨ z = mb) ?_
      refine r_move hS hH.kp0 rfl rfl ?_; clear hS; intro a hS
      refine r_load_sc hS hH (by repeat (first | exact Sub.nil | refine Sub.cons ?_ ?_ | exact In.here | refine In.there ?_)) rfl (by repeat (first | exact In.here | refine In.there ?_)) Fc.sc3 (by rfl) rfl ?_; clear hS; intro a hS
      refine r_leq hS hH.kp0 rfl rfl rfl ?_; clear hS; intro a hS
      refine Sq.nil ?_
      refine then_n ?_
      refine c_condF hS rfl (DF (by omega)) ?_
      refine wp_skip ?_
      refine then_n ?_
      refine c_seq ?_
      refine c_seq ?_
      refine reg_plain w0 (fun z => z = ib ∨ z = mb) ?_
      refine r_move hS hH.kp0 rfl rfl ?_; clear hS; intro a hS
      refine r_move hS hH.kp0 rfl rfl ?_; clear hS; intro a hS
      refine r_geq hS hH.kp0 rfl rfl rfl ?_; clear hS; intro a hS
      refine Sq.nil ?_
      refine then_n ?_
      refine c_condT hS rfl (DT (by omega)) ?_
      refine wp_exit ?_
      refine then_e ?_
      refine blk_e rfl ?_
      refine then_e ?_
      refine then_e ?_
      refine blk_hit ?_
      refine then_n ?_
      refine c_seq ?_
      refine reg_plain w0 (fun z => z = ib ∨ z = mb) ?_
      refine r_move hS hH.kp0 rfl rfl ?_; clear hS; intro a hS
      refine r_move hS hH.kp0 rfl rfl ?_; clear hS; intro a hS
      refine r_call (l := [.tmp 94]) hS rfl rfl Fc.fn44 rfl ?_
      refine Calls.mono (upto_no b11 b6 b5 b4 p (off + m) (by omega) _ (hH.get (b := b11) (by repeat (first | exact In.here | refine In.there ?_)))) ?_
      rintro e w1 ⟨rfl, hE⟩
      replace hH := hH.ext hE
      refine ⟨_, rfl, hH.kp0, ?_⟩
      clear hS; intro a hS
      refine Sq.nil ?_
      refine then_n ?_
      refine c_seq ?_
      refine reg_plain w0 (fun z => z = ib ∨ z = mb) ?_
      refine r_assign hS hH.kp0 rfl rfl ?_; clear hS; intro a hS
      refine Sq.nil ?_
      refine then_n ?_
      refine wp_ret ?_
      exact leave (.inl rfl) hS rfl (Res.tmp rfl Res.nil) ⟨rfl, l, clock, hl, (by rw [show max s (off + m) = s from by omega]; exact hc.go (hH.mod.mono hMC) (fun _ h => .inl h)), hH.get (b := mb) (by repeat (first | exact In.here | refine In.there ?_)), hH.get (b := ib) (by repeat (first | exact In.here | refine In.there ?_)), hH.mod⟩
    · have hle2 := hc2.le
      have hlen9 := hc.len
      have hlen8 : l0.length < l.length := by rw [hll]; simp
      have hnth : nthV row (0 + l0.length * 1) = some (.int .i64 (p : Int)) := by rw [Nat.zero_add, Nat.mul_one]; exact icells_nth hst (by rw [hll]; simp [kz])
      have hj9 : l0.length < (l.map kz).length := by rw [hll]; simp
      have hme : (⟨.int .i64 (p : Int), .slice (some ⟨qa, qo, none⟩) k qq, bn⟩ : MapEntry) ∈ l := by rw [hll]; simp
      refine c_seq ?_
      refine reg_plain w0 (fun z => z = ib ∨ z = mb) ?_
      refine r_lss hS hH.kp0 rfl rfl rfl ?_; clear hS; intro a hS
      refine Sq.nil ?_
      refine then_n ?_
      refine c_seq ?_
      refine c_condT hS rfl (DT (by rw [List.length_map]; omega)) ?_
      refine wp_skip ?_
      refine then_n ?_
      refine c_seq ?_
      refine wp_block ?_
      refine c_seq ?_
      refine reg_plain w0 (fun z => z = ib ∨ z = mb) ?_
      refine r_indexAddrS (j := l0.length) hS hH.kp0 rfl rfl Fc.slb76 rfl hj9 rfl ?_; clear hS; intro a hS
      refine r_load_sc hS hH (by repeat (first | exact Sub.nil | refine Sub.cons ?_ ?_ | exact In.here | refine In.there ?_)) rfl (by repeat (first | exact In.here | refine In.there ?_)) Fc.sc3 (v := .int .i64 (p : Int)) hnth rfl ?_; clear hS; intro a hS
      refine r_assign hS hH.kp0 rfl rfl ?_; clear hS; intro a hS
      refine Sq.nil ?_
      refine then_n ?_
      refine c_seq ?_
      refine reg_plain w0 (fun z => z = ib ∨ z = mb) ?_
      refine r_move hS hH.kp0 rfl rfl ?_; clear hS; intro a hS
      refine r_load_sc hS hH (by repeat (first | exact Sub.nil | refine Sub.cons ?_ ?_ | exact In.here | refine In.there ?_)) rfl (by repeat (first | exact In.here | refine In.there ?_)) Fc.sc58 (by rfl) rfl ?_; clear hS; intro a hS
      refine r_nilCheck hS hH.kp0 rfl rfl ?_; clear hS; intro a hS
      refine r_fieldAddr hS hH.kp0 rfl Fc.fo83_7 rfl ?_; clear hS; intro a hS
      refine r_load_sc hS hH (by repeat (first | exact Sub.nil | refine Sub.cons ?_ ?_ | exact In.here | refine In.there ?_)) rfl (by repeat (first | exact In.here | refine In.there ?_)) Fc.sc81 (by rfl) rfl ?_; clear hS; intro a hS
      refine r_move hS hH.kp0 rfl rfl ?_; clear hS; intro a hS
      refine r_look1Has (l := l) Fc.mtP hS hH (by repeat (first | exact Sub.nil | refine Sub.cons ?_ ?_ | exact In.here | refine In.there ?_)) rfl rfl (by repeat (first | exact In.here | refine In.there ?_)) hl hme (keyI p (by omega)) rfl ?_; clear hS; intro a hS
      refine r_lenSl hS hH.kp0 rfl Fc.isSlice22 rfl ?_; clear hS; intro a hS
      refine r_addN0 (m := p) (k := k) hS hH.kp0 rfl rfl (by omega) rfl ?_; clear hS; intro a hS
      refine r_assign hS hH.kp0 rfl rfl ?_; clear hS; intro a hS
      refine Sq.nil ?_
      refine then_n ?_
      refine c_seq ?_
      refine c_seq ?_
      refine reg_plain w0 (fun z => z = ib ∨ z = mb) ?_
      refine r_move hS hH.kp0 rfl rfl ?_; clear hS; intro a hS
      refine r_load_sc hS hH (by repeat (first | exact Sub.nil | refine Sub.cons ?_ ?_ | exact In.here | refine In.there ?_)) rfl (by repeat (first | exact In.here | refine In.there ?_)) Fc.sc3 (by rfl) rfl ?_; clear hS; intro a hS
      refine r_leq hS hH.kp0 rfl rfl rfl ?_; clear hS; intro a hS
      refine Sq.nil ?_
      refine then_n ?_
      refine c_condF hS rfl (DF (by omega)) ?_
      refine wp_skip ?_
      refine then_n ?_
      refine c_seq ?_
      refine c_seq ?_
      refine reg_plain w0 (fun z => z = ib ∨ z = mb) ?_
      refine r_move hS hH.kp0 rfl rfl ?_; clear hS; intro a hS
      refine r_move hS hH.kp0 rfl rfl ?_; clear hS; intro a hS
      refine r_geq hS hH.kp0 rfl rfl rfl ?_; clear hS; intro a hS
      refine Sq.nil ?_
      refine then_n ?_
      refine c_condF hS rfl (DF (by omega)) ?_
      refine wp_skip ?_
      refine then_n ?_
      refine c_seq ?_
      refine reg_plain w0 (fun z => z = ib ∨ z = mb) ?_
      refine r_move hS hH.kp0 rfl rfl ?_; clear hS; intro a hS
      refine r_move hS hH.kp0 rfl rfl ?_; clear hS; intro a hS
      refine r_call (l := [.tmp 87]) hS rfl rfl Fc.fn44 rfl ?_
      refine Calls.mono (upto_no b11 b6 b5 b4 p p (by omega) _ (hH.get (b := b11) (by repeat (first | exact In.here | refine In.there ?_)))) ?_
      rintro e w1 ⟨rfl, hE⟩
      replace hH := hH.ext hE
      refine ⟨_, rfl, hH.kp0, ?_⟩
      clear hS; intro a hS
      refine Sq.nil ?_
      refine then_n ?_
      refine reg_plain w0 (fun z => z = ib ∨ z = mb) ?_
      refine r_load_sc hS hH (by repeat (first | exact Sub.nil | refine Sub.cons ?_ ?_ | exact In.here | refine In.there ?_)) rfl (by repeat (first | exact In.here | refine In.there ?_)) Fc.sc3 (by rfl) rfl ?_; clear hS; intro a hS
      refine r_move hS hH.kp0 rfl rfl ?_; clear hS; intro a hS
      refine r_maxN (m := p) (k := p + k) hS hH.kp0 rfl rfl rfl ?_; clear hS; intro a hS
      rw [show max p (p + k) = p + k from by omega] at hS
      refine r_store1 hS hH rfl rfl rfl (by repeat (first | exact .here | apply In.there | apply Put.there | apply Del.there)) (by repeat (first | exact Sub.nil | refine Sub.cons ?_ ?_ | exact In.here | refine In.there ?_)) Fc.sz3 (of_decide_eq_true rfl) (by first | exact .inr (by assumption) | exact .inl (.inl rfl)) ?_
      clear hH; intro w hH
      refine Sq.nil ?_
      refine blk_n ?_
      refine then_n ?_
      refine reg_plain w0 (fun z => z = ib ∨ z = mb) ?_
      refine r_addN0 (m := l0.length) (k := 1) hS hH.kp0 rfl rfl (by omega) rfl ?_; clear hS; intro a hS
      refine r_move hS hH.kp0 rfl rfl ?_; clear hS; intro a hS
      refine Sq.nil ?_
      refine then_n ?_
      exact ⟨l2.length, by rw [hmm, List.length_cons]; omega, p + k, l0 ++ [⟨.int .i64 (p : Int), .slice (some ⟨qa, qo, none⟩) k qq, bn⟩], l2, by rw [hll]; simp, rfl, by omega, hc2, by rw [List.length_append, List.length_singleton]; exact hS.live ⟨rfl, rfl, rfl, rfl, rfl, rfl, rfl, rfl, rfl, rfl, trivial⟩, hH⟩

set_option maxRecDepth 100000 in
set_option maxHeartbeats 4000000 in
theorem iPut_t (ib mb room place limit reach : Nat) (fin : Int) (kn : Bool) (text : List UInt8) (l : List MapEntry) (clock s off m qc ba bo : Nat) (hl : MapL Try.prog 3 l clock) (hpt0 : place ≤ text.length) (hrs : reach = s) (hop : off ≤ place) (hps : place ≤ s) (hsl : s ≤ text.length) (hm1 : 1 ≤ m) (hom : off + m ≤ text.length) (hlim : off + m ≤ limit) (hlm : limit ≤ 4194304) (ht : text.length ≤ 1048576) (hkn : kn = true → ((off + m : Nat) : Int) ≤ fin ∧ (true = true → ((off + m : Nat) : Int) = fin)) (hfi : true = true → reach ≤ off + m) (hne : mb ≠ ib) (X : Nat → Prop) (w0 : World) (hX : ∀ z, X z → z < w0.heap.size) (hc : Chain (fun z => z = ib ∨ z = mb ∨ X z) w0 text l place s) (hb : BsF (fun z => z = ib ∨ z = mb) w0 (.slice (some ⟨ba, bo, none⟩) m qc) ((text.drop off).take m)) (hz : w0.heap[ib]? = some (.cells ([.bool true, .int .i64 (room : Int), .int .i64 (place : Int), .int .i64 (limit : Int), .int .i64 (reach : Int), .int .i64 fin, .bool kn, .map (some mb)] : List Value).toArray 83 (0, 0))) (hm : w0.heap[mb]? = some (.map l.toArray clock)) : Calls Try.prog 25 #[.pointer (some ⟨ib, 0, none⟩), .int .i64 (off : Int), .slice (some ⟨ba, bo, none⟩) m qc, .bool true] w0 fun e w' => e = .returned (.int .i64 0) ∧ ∃ (l' : List MapEntry) (clock' : Nat), MapL Try.prog 3 l' clock' ∧ Chain (fun z => z = ib ∨ z = mb ∨ X z) w' text l' place (max s (off + m)) ∧ w'.heap[mb]? = some (.map l'.toArray clock') ∧ w'.heap[ib]? = some (.cells ([.bool true, .int .i64 (room : Int), .int .i64 (place : Int), .int .i64 (limit : Int), .int .i64 ((max reach (off + m) : Nat) : Int), .int .i64 ((off + m : Nat) : Int), .bool true, .map (some mb)] : List Value).toArray 83 (0, 0)) ∧ Mod (fun z => z = ib ∨ z = mb) w0 w' := by
  refine enter Try.func25 rfl rfl rfl ?_
  intro a hS
  have hH := Hp.start w0 (fun z => z = ib ∨ z = mb)
  have hMC : ∀ z, (z = ib ∨ z = mb) → (z = ib ∨ z = mb ∨ X z) := fun z h => h.imp id .inl
  replace hH := (hH.know hm (by intro p hp; simp at hp)).know hz (by intro p hp; simp at hp; subst hp; exact hne)
  refine c_seq ?_
  refine reg_plain w0 (fun z => z = ib ∨ z = mb) ?_
  refine r_box hS hH (by repeat (first | exact Sub.nil | refine Sub.cons ?_ ?_ | exact In.here | refine In.there ?_)) rfl rfl rfl ?_
  clear hS hH; intro a w b4 hb4 hwb4 hS hH
  refine r_box hS hH (by repeat (first | exact Sub.nil | refine Sub.cons ?_ ?_ | exact In.here | refine In.there ?_)) rfl rfl rfl ?_
  clear hS hH; intro a w b5 hb5 hwb5 hS hH
  refine r_box hS hH (by repeat (first | exact Sub.nil | refine Sub.cons ?_ ?_ | exact In.here | refine In.there ?_)) rfl rfl rfl ?_
  clear hS hH; intro a w b6 hb6 hwb6 hS hH
  refine r_assign hS hH.kp0 rfl rfl ?_; clear hS; intro a hS
  refine Sq.nil ?_
  refine then_n ?_
  refine c_seq ?_
  refine wp_block ?_
  refine c_seq ?_
  refine reg_plain w0 (fun z => z = ib ∨ z = mb) ?_
  refine r_load_sc hS hH (by repeat (first | exact Sub.nil | refine Sub.cons ?_ ?_ | exact In.here | refine In.there ?_)) rfl (by repeat (first | exact In.here | refine In.there ?_)) Fc.sc58 (by rfl) rfl ?_; clear hS; intro a hS
  refine r_call (l := [.tmp 17]) hS rfl rfl Fc.fn42 rfl ?_
  refine Calls.mono (inone_c ib mb room place limit reach fin kn _ (hH.get (b := ib) (by repeat (first | exact In.here | refine In.there ?_)))) ?_
  rintro e w1 ⟨rfl, hE⟩
  replace hH := hH.ext hE
  refine ⟨_, rfl, hH.kp0, ?_⟩
  clear hS; intro a hS
  refine r_assign hS hH.kp0 rfl rfl ?_; clear hS; intro a hS
  refine Sq.nil ?_
  refine then_n ?_
  refine c_condF hS rfl rfl ?_
  refine c_seq ?_
  refine reg_plain w0 (fun z => z = ib ∨ z = mb) ?_
  refine r_load_sc hS hH (by repeat (first | exact Sub.nil | refine Sub.cons ?_ ?_ | exact In.here | refine In.there ?_)) rfl (by repeat (first | exact In.here | refine In.there ?_)) Fc.sc3 (by rfl) rfl ?_; clear hS; intro a hS
  refine r_lss hS hH.kp0 rfl rfl rfl ?_; clear hS; intro a hS
  refine r_move hS hH.kp0 rfl rfl ?_; clear hS; intro a hS
  refine Sq.guardYes hS rfl rfl rfl ?_
  refine r_load_sc hS hH (by repeat (first | exact Sub.nil | refine Sub.cons ?_ ?_ | exact In.here | refine In.there ?_)) rfl (by repeat (first | exact In.here | refine In.there ?_)) Fc.sc3 (by rfl) rfl ?_; clear hS; intro a hS
  refine Sq.guardYes hS rfl rfl rfl ?_
  refine r_load_sc hS hH (by repeat (first | exact Sub.nil | refine Sub.cons ?_ ?_ | exact In.here | refine In.there ?_)) rfl (by repeat (first | exact In.here | refine In.there ?_)) Fc.sc22 (by rfl) rfl ?_; clear hS; intro a hS
  refine Sq.guardYes hS rfl rfl rfl ?_
  refine r_lenSl hS hH.kp0 rfl Fc.isSlice22 rfl ?_; clear hS; intro a hS
  refine Sq.guardYes hS rfl rfl rfl ?_
  (first | refine r_sub hS hH.kp0 rfl rfl rfl (by omega) ?_ | refine r_subw hS hH.kp0 rfl rfl rfl ?_)
  clear hS; intro a hS
  refine Sq.guardYes hS rfl rfl rfl ?_
  refine r_gtr hS hH.kp0 rfl rfl rfl ?_; clear hS; intro a hS
  refine r_pickF hS hH.kp0 rfl rfl rfl rfl ?_; clear hS; intro a hS
  refine r_assign hS hH.kp0 rfl rfl ?_; clear hS; intro a hS
  refine Sq.nil ?_
  refine then_n ?_
  refine c_condF hS rfl (DF (by omega)) ?_
  refine wp_skip ?_
  refine blk_n ?_
  refine then_n ?_
  refine c_seq ?_
  refine reg_plain w0 (fun z => z = ib ∨ z = mb) ?_
  refine r_load_sc hS hH (by repeat (first | exact Sub.nil | refine Sub.cons ?_ ?_ | exact In.here | refine In.there ?_)) rfl (by repeat (first | exact In.here | refine In.there ?_)) Fc.sc3 (by rfl) rfl ?_; clear hS; intro a hS
  refine r_load_sc hS hH (by repeat (first | exact Sub.nil | refine Sub.cons ?_ ?_ | exact In.here | refine In.there ?_)) rfl (by repeat (first | exact In.here | refine In.there ?_)) Fc.sc22 (by rfl) rfl ?_; clear hS; intro a hS
  refine r_lenSl hS hH.kp0 rfl Fc.isSlice22 rfl ?_; clear hS; intro a hS
  refine r_addN0 (m := off) (k := m) hS hH.kp0 rfl rfl (by omega) rfl ?_; clear hS; intro a hS
  refine r_assign hS hH.kp0 rfl rfl ?_; clear hS; intro a hS
  refine Sq.nil ?_
  refine then_n ?_
  refine c_seq ?_
  refine c_seq ?_
  refine reg_plain w0 (fun z => z = ib ∨ z = mb) ?_
  refine r_load_sc hS hH (by repeat (first | exact Sub.nil | refine Sub.cons ?_ ?_ | exact In.here | refine In.there ?_)) rfl (by repeat (first | exact In.here | refine In.there ?_)) Fc.sc58 (by rfl) rfl ?_; clear hS; intro a hS
  refine r_move hS hH.kp0 rfl rfl ?_; clear hS; intro a hS
  refine r_move hS hH.kp0 rfl rfl ?_; clear hS; intro a hS
  refine r_call (l := [.tmp 33, .tmp 34, .tmp 35]) hS rfl rfl Fc.fn43 rfl ?_
  refine Calls.mono (iends_c ib mb room place limit reach fin kn (off + m) true hlim hkn hfi _ (hH.get (b := ib) (by repeat (first | exact In.here | refine In.there ?_)))) ?_
  rintro e w1 ⟨rfl, hE⟩
  replace hH := hH.ext hE
  refine ⟨_, rfl, hH.kp0, ?_⟩
  clear hS; intro a hS
  refine r_assign hS hH.kp0 rfl rfl ?_; clear hS; intro a hS
  refine Sq.nil ?_
  refine then_n ?_
  refine c_seq ?_
  refine reg_plain w0 (fun z => z = ib ∨ z = mb) ?_
  refine r_move hS hH.kp0 rfl rfl ?_; clear hS; intro a hS
  refine r_neq hS hH.kp0 rfl rfl rfl ?_; clear hS; intro a hS
  refine Sq.nil ?_
  refine then_n ?_
  refine c_condF hS rfl rfl ?_
  refine wp_skip ?_
  refine then_n ?_
  refine c_seq ?_
  refine reg_draw [(true, 0, [3]), (true, 1, [3]), (true, 2, [3]), (true, 3, [3]), (true, 4, []), (true, 5, [3]), (true, 6, [3]), (true, 7, [3]), (true, 8, [3]), (false, 9, [3])] Fc.mixed (by kernel_rfl) (by kernel_rfl) (by kernel_rfl) (by kernel_rfl) (by kernel_rfl) (by repeat (first | with_reducible exact steady_body | with_reducible exact steady_bodyQ | with_reducible exact steady_round | with_reducible apply steady_block | with_reducible apply steady_then | with_reducible apply steady_scope | exact steady_body)) hH ?_
  replace hH := hH.drew
  refine r_load_scS hS rfl (by repeat (first | exact In.here | refine In.there ?_)) Fc.sc58 (by rfl) rfl ?_; clear hS; intro a hS
  refine r_load_scS hS rfl (by repeat (first | exact In.here | refine In.there ?_)) Fc.sc58 (by rfl) rfl ?_; clear hS; intro a hS
  refine r_nilCheck hS trivial rfl rfl ?_; clear hS; intro a hS
  refine r_fieldAddr hS trivial rfl Fc.fo83_4 rfl ?_; clear hS; intro a hS
  refine r_load_scS hS rfl (by repeat (first | exact In.here | refine In.there ?_)) Fc.sc3 (by rfl) rfl ?_; clear hS; intro a hS
  refine r_move hS trivial rfl rfl ?_; clear hS; intro a hS
  refine r_maxN (m := reach) (k := off + m) hS trivial rfl rfl rfl ?_; clear hS; intro a hS
  refine r_nilCheck hS trivial rfl rfl ?_; clear hS; intro a hS
  refine r_fieldAddr hS trivial rfl Fc.fo83_4 rfl ?_; clear hS; intro a hS
  refine r_store1 hS hH rfl rfl rfl (by repeat (first | exact .here | apply In.there | apply Put.there | apply Del.there)) (by repeat (first | exact Sub.nil | refine Sub.cons ?_ ?_ | exact In.here | refine In.there ?_)) Fc.sz3 (of_decide_eq_true rfl) (by first | exact .inr (by assumption) | exact .inl (.inl rfl)) ?_
  clear hH; intro w hH
  refine Sq.nil ?_
  refine then_n ?_
  refine c_seq ?_
  refine c_seq ?_
  refine reg_plain w0 (fun z => z = ib ∨ z = mb) ?_
  refine r_move hS hH.kp0 rfl rfl ?_; clear hS; intro a hS
  refine Sq.nil ?_
  refine then_n ?_
  refine c_condT hS rfl rfl ?_
  refine reg_draw [(true, 0, [3]), (true, 1, [3]), (true, 2, [3]), (true, 3, [3]), (true, 4, [3]), (false, 5, [3]), (true, 6, [3]), (true, 7, [3]), (false, 8, [3])] Fc.mixed (by kernel_rfl) (by kernel_rfl) (by kernel_rfl) (by kernel_rfl) (by kernel_rfl) (by repeat (first | with_reducible exact steady_body | with_reducible exact steady_bodyQ | with_reducible exact steady_round | with_reducible apply steady_block | with_reducible apply steady_then | with_reducible apply steady_scope | exact steady_body)) hH ?_
  replace hH := hH.drew
  refine r_load_scS hS rfl (by repeat (first | exact In.here | refine In.there ?_)) Fc.sc58 (by rfl) rfl ?_; clear hS; intro a hS
  refine r_load_scS hS rfl (by repeat (first | exact In.here | refine In.there ?_)) Fc.sc58 (by rfl) rfl ?_; clear hS; intro a hS
  refine r_move hS trivial rfl rfl ?_; clear hS; intro a hS
  refine r_nilCheck hS trivial rfl rfl ?_; clear hS; intro a hS
  refine r_fieldAddr hS trivial rfl Fc.fo83_6 rfl ?_; clear hS; intro a hS
  refine r_store1 hS hH rfl rfl rfl (by repeat (first | exact .here | apply In.there | apply Put.there | apply Del.there)) (by repeat (first | exact Sub.nil | refine Sub.cons ?_ ?_ | exact In.here | refine In.there ?_)) Fc.sz4 (of_decide_eq_true rfl) (by first | exact .inr (by assumption) | exact .inl (.inl rfl)) ?_
  clear hH; intro w hH
  refine r_nilCheck hS trivial rfl rfl ?_; clear hS; intro a hS
  refine r_fieldAddr hS trivial rfl Fc.fo83_5 rfl ?_; clear hS; intro a hS
  refine r_store1 hS hH rfl rfl rfl (by repeat (first | exact .here | apply In.there | apply Put.there | apply Del.there)) (by repeat (first | exact Sub.nil | refine Sub.cons ?_ ?_ | exact In.here | refine In.there ?_)) Fc.sz3 (of_decide_eq_true rfl) (by first | exact .inr (by assumption) | exact .inl (.inl rfl)) ?_
  clear hH; intro w hH
  refine Sq.nil ?_
  refine then_n ?_
  refine c_seq ?_
  refine reg_draw [(true, 0, []), (true, 1, []), (true, 2, []), (true, 3, []), (true, 4, []), (true, 5, []), (false, 6, []), (false, 7, [])] Fc.mixed (by kernel_rfl) (by kernel_rfl) (by kernel_rfl) (by kernel_rfl) (by kernel_rfl) (by repeat (first | with_reducible exact steady_body | with_reducible exact steady_bodyQ | with_reducible exact steady_round | with_reducible apply steady_block | with_reducible apply steady_then | with_reducible apply steady_scope | exact steady_body)) hH ?_
  replace hH := hH.drew
  refine r_load_scS hS rfl (by repeat (first | exact In.here | refine In.there ?_)) Fc.sc3 (by rfl) rfl ?_; clear hS; intro a hS
  refine r_load_scS hS rfl (by repeat (first | exact In.here | refine In.there ?_)) Fc.sc58 (by rfl) rfl ?_; clear hS; intro a hS
  refine r_nilCheck hS trivial rfl rfl ?_; clear hS; intro a hS
  refine r_fieldAddr hS trivial rfl Fc.fo83_2 rfl ?_; clear hS; intro a hS
  refine r_load_scS hS rfl (by repeat (first | exact In.here | refine In.there ?_)) Fc.sc3 (by rfl) rfl ?_; clear hS; intro a hS
  refine r_maxN (m := off) (k := place) hS trivial rfl rfl rfl ?_; clear hS; intro a hS
  rw [show max off place = place from by omega] at hS
  refine r_alloc hS hH (by repeat (first | exact Sub.nil | refine Sub.cons ?_ ?_ | exact In.here | refine In.there ?_)) Fc.zc3 rfl ?_
  clear hS hH; intro a w b11 hb11 hwb11 hS hH
  refine r_store1 hS hH rfl rfl rfl (by repeat (first | exact .here | apply In.there | apply Put.there | apply Del.there)) (by repeat (first | exact Sub.nil | refine Sub.cons ?_ ?_ | exact In.here | refine In.there ?_)) Fc.sz3 (of_decide_eq_true rfl) (by first | exact .inr (by assumption) | exact .inl (.inl rfl)) ?_
  clear hH; intro w hH
  refine Sq.nil ?_
  refine then_n ?_
  refine c_seq ?_
  refine reg_plain w0 (fun z => z = ib ∨ z = mb) ?_
  refine r_makeFunc hS hH.kp0 rfl rfl rfl ?_; clear hS; intro a hS
  refine r_assign hS hH.kp0 rfl rfl ?_; clear hS; intro a hS
  refine Sq.nil ?_
  refine then_n ?_
  refine c_seq ?_
  refine c_seq ?_
  refine reg_plain w0 (fun z => z = ib ∨ z = mb) ?_
  refine r_load_sc hS hH (by repeat (first | exact Sub.nil | refine Sub.cons ?_ ?_ | exact In.here | refine In.there ?_)) rfl (by repeat (first | exact In.here | refine In.there ?_)) Fc.sc58 (by rfl) rfl ?_; clear hS; intro a hS
  refine r_call (l := [.tmp 64]) hS rfl rfl Fc.fn46 rfl ?_
  have hlt9 := hH.lt
  refine Calls.mono (istarts_c ib mb room place limit _ _ _ l clock kz hl (fun e he => (hc.key e he).1) hc.rising (by have := hc.len; omega) hne _ (hH.get (b := ib) (by repeat (first | exact In.here | refine In.there ?_))) (hH.get (b := mb) (by repeat (first | exact In.here | refine In.there ?_)))) ?_
  rintro e w1 ⟨v, rfl, hIS, hE⟩
  replace hH := hH.ext hE
  refine ⟨_, rfl, hH.kp0, ?_⟩
  clear hS; intro a hS
  rcases hIS with ⟨rfl, hnil⟩ | ⟨sb, sc, row, rfl, hsb, hsk, hsr, hsc, hst⟩
  · have hln : l = [] := by simpa using hnil
    have hps9 : place = s := by have h9 := hc; rw [hln] at h9; rcases h9.inv with ⟨_, h⟩ | ⟨_, _, _, _, _, _, h, _⟩; exact h; cases h
    refine r_lenSl hS hH.kp0 rfl Fc.isSlice76 rfl ?_; clear hS; intro a hS
    refine r_move hS hH.kp0 rfl rfl ?_; clear hS; intro a hS
    refine Sq.nil ?_
    refine then_n ?_
    refine wp_block ?_
    refine wp_loop_rounds 1 ?_
    refine rnd ?_
    refine c_seq ?_
    refine reg_plain w0 (fun z => z = ib ∨ z = mb) ?_
    refine r_lss hS hH.kp0 rfl rfl rfl ?_; clear hS; intro a hS
    refine Sq.nil ?_
    refine then_n ?_
    refine c_seq ?_
    refine c_condF hS rfl rfl ?_
    refine wp_exit ?_
    refine then_e ?_
    refine then_e ?_
    refine blk_hit ?_
    refine then_n ?_
    refine c_seq ?_
    refine reg_plain w0 (fun z => z = ib ∨ z = mb) ?_
    rcases (by omega : off + m ≤ place ∨ place < off + m) with hge | hlt
    · refine r_move hS hH.kp0 rfl rfl ?_; clear hS; intro a hS
      refine r_move hS hH.kp0 rfl rfl ?_; clear hS; intro a hS
      refine r_call (l := [.tmp 94]) hS rfl rfl Fc.fn44 rfl ?_
      refine Calls.mono (upto_no b11 b6 b5 b4 place (off + m) (by omega) _ (hH.get (b := b11) (by repeat (first | exact In.here | refine In.there ?_)))) ?_
      rintro e w1 ⟨rfl, hE⟩
      replace hH := hH.ext hE
      refine ⟨_, rfl, hH.kp0, ?_⟩
      clear hS; intro a hS
      refine Sq.nil ?_
      refine then_n ?_
      refine c_seq ?_
      refine reg_plain w0 (fun z => z = ib ∨ z = mb) ?_
      refine r_assign hS hH.kp0 rfl rfl ?_; clear hS; intro a hS
      refine Sq.nil ?_
      refine then_n ?_
      refine wp_ret ?_
      exact leave (.inl rfl) hS rfl (Res.tmp rfl Res.nil) ⟨rfl, l, clock, hl, (by rw [show max s (off + m) = s from by omega]; exact hc.go (hH.mod.mono hMC) (fun _ h => .inl h)), hH.get (b := mb) (by repeat (first | exact In.here | refine In.there ?_)), hH.get (b := ib) (by repeat (first | exact In.here | refine In.there ?_)), hH.mod⟩
    · refine r_move hS hH.kp0 rfl rfl ?_; clear hS; intro a hS
      refine r_move hS hH.kp0 rfl rfl ?_; clear hS; intro a hS
      refine r_call (l := [.tmp 94]) hS rfl rfl Fc.fn44 rfl ?_
      have hlib := lt_of_block (hH.get (b := ib) (by repeat (first | exact .here | apply In.there | apply Put.there | apply Del.there)))
      have hlmb := lt_of_block (hH.get (b := mb) (by repeat (first | exact .here | apply In.there | apply Put.there | apply Del.there)))
      refine Calls.mono (upto_new b11 b6 b5 b4 place (off + m) off m qc ba bo ib mb room place limit _ _ _ ((text.drop off).take m) l clock hl (by rw [hps9]; exact hc.fresh) (by rw [List.length_take, List.length_drop]; omega) (by omega) (by omega) (by omega) (by omega) (by have h9 := hH.nd; simp only [List.map_cons, List.map_nil] at h9; first | exact h9 | exact (List.nodup_cons.1 h9).2) _ (hH.get (b := mb) (by repeat (first | exact In.here | refine In.there ?_))) (hH.get (b := ib) (by repeat (first | exact In.here | refine In.there ?_))) (hH.get (b := b4) (by repeat (first | exact In.here | refine In.there ?_))) (hH.get (b := b5) (by repeat (first | exact In.here | refine In.there ?_))) (hH.get (b := b6) (by repeat (first | exact In.here | refine In.there ?_))) (hH.get (b := b11) (by repeat (first | exact In.here | refine In.there ?_))) (BsF.go hb hH.mod (fun _ h => h.elim))) ?_
      rintro e w1 ⟨cb, c2, cl, rfl, hcb, hck, hBc, hl9, hmk, hM9⟩
      have hcbn : ¬ (cb = ib ∨ cb = mb ∨ X cb) := fun h => by rcases h with h | h | h; exact absurd (Nat.lt_of_lt_of_le hlib (h ▸ hcb)) (Nat.lt_irrefl _); exact absurd (Nat.lt_of_lt_of_le hlmb (h ▸ hcb)) (Nat.lt_irrefl _); exact absurd (hX _ h) (Nat.not_lt.2 (Nat.le_trans hH.mod.size hcb))
      replace hH := hH.updN (by repeat (first | exact .here | apply In.there | apply Put.there | apply Del.there)) hM9 hmk (.inl (.inr rfl)) hcb hck
      refine ⟨_, rfl, hH.kp0, ?_⟩
      clear hS; intro a hS
      refine Sq.nil ?_
      refine then_n ?_
      refine c_seq ?_
      refine reg_plain w0 (fun z => z = ib ∨ z = mb) ?_
      refine r_assign hS hH.kp0 rfl rfl ?_; clear hS; intro a hS
      refine Sq.nil ?_
      refine then_n ?_
      refine wp_ret ?_
      subst hps9
      rw [cut_cut text (by omega) (by omega)] at hBc
      have hlq : ((text.drop place).take (off + m - place)).length = off + m - place := by rw [List.length_take, List.length_drop]; omega
      have hbq := BsF.of_blk (F := fun z => z = ib ∨ z = mb ∨ X z) (hH.get (b := cb) (by repeat (first | exact In.here | refine In.there ?_))) hcbn hBc.take hBc.le
      rw [hlq] at hbq
      have hpu := (hc.go (hH.mod.mono hMC) (fun _ h => .inl h)).push (bn := clock) (by omega) (by omega) hbq
      rw [show place + (off + m - place) = max place (off + m) from by omega] at hpu
      exact leave (.inl rfl) hS rfl (Res.tmp rfl Res.nil) ⟨rfl, _, _, hl9, hpu, hH.get (b := mb) (by repeat (first | exact In.here | refine In.there ?_)), hH.get (b := ib) (by repeat (first | exact In.here | refine In.there ?_)), hH.mod⟩
  · replace hH := hH.know hsk (fun p hp e => absurd (Nat.lt_of_lt_of_le (hlt9 p hp) hsb) (by rw [e]; exact Nat.lt_irrefl _))
    refine r_lenSl hS hH.kp0 rfl Fc.isSlice76 rfl ?_; clear hS; intro a hS
    refine r_move hS hH.kp0 rfl rfl ?_; clear hS; intro a hS
    refine Sq.nil ?_
    refine then_n ?_
    refine wp_block ?_
    refine c_loop (fun mm a w => ∃ (p : Nat) (l0 l1 : List MapEntry), l = l0 ++ l1 ∧ mm = l1.length ∧ place ≤ p ∧ Chain (fun z => z = ib ∨ z = mb ∨ X z) w0 text l1 p s ∧ St 96 (lv [(4, .pointer (some ⟨b4, 0, none⟩)), (5, .pointer (some ⟨b5, 0, none⟩)), (6, .pointer (some ⟨b6, 0, none⟩)), (8, .int .i64 0), (9, .int .i64 ((off + m : Nat) : Int)), (11, .pointer (some ⟨b11, 0, none⟩)), (12, .func (.func 44) #[] #[.pointer (some ⟨b11, 0, none⟩), .pointer (some ⟨b6, 0, none⟩), .pointer (some ⟨b5, 0, none⟩), .pointer (some ⟨b4, 0, none⟩)]), (65, .slice (some ⟨sb, 0, none⟩) (l.map kz).length sc), (66, .int .i64 ((l.map kz).length : Int)), (67, .int .i64 (l0.length : Int))]) a ∧ Hp w0 (fun z => z = ib ∨ z = mb) [(sb, .cells row.toArray 3 (0, 0)), (b11, .cells ([.int .i64 (p : Int)] : List Value).toArray 3 (0, 0)), (b6, .cells ([.slice (some ⟨ba, bo, none⟩) m qc] : List Value).toArray 22 (0, 0)), (b5, .cells ([.int .i64 (off : Int)] : List Value).toArray 3 (0, 0)), (b4, .cells ([.pointer (some ⟨ib, 0, none⟩)] : List Value).toArray 58 (0, 0)), (ib, .cells ([.bool true, .int .i64 (room : Int), .int .i64 (place : Int), .int .i64 (limit : Int), .int .i64 ((max reach (off + m) : Nat) : Int), .int .i64 ((off + m : Nat) : Int), .bool true, .map (some mb)] : List Value).toArray 83 (0, 0)), (mb, .map l.toArray clock)] w) (l.length) ?_ ?_
    · exact ⟨place, [], l, rfl, rfl, Nat.le_refl _, hc, hS.live ⟨rfl, rfl, rfl, rfl, rfl, rfl, rfl, rfl, rfl, rfl, trivial⟩, hH⟩
    clear hS hH; intro mm a w hI; obtain ⟨p, l0, l1, hll, hmm, hpl, hch, hS, hH⟩ := hI
    have hle1 := hch.le
    rcases hch.inv3 (off + m) with ⟨rfl, hps9⟩ | ⟨hge, k, qa, qo, qq, bn, l2, rfl, hk1, hk2, hkb, hc2⟩ | ⟨hlt, k, qa, qo, qq, bn, l2, rfl, hk1, hk2, hkb, hc2⟩
    · refine c_seq ?_
      refine reg_plain w0 (fun z => z = ib ∨ z = mb) ?_
      refine r_lss hS hH.kp0 rfl rfl rfl ?_; clear hS; intro a hS
      refine Sq.nil ?_
      refine then_n ?_
      refine c_seq ?_
      refine c_condF hS rfl (DF (by rw [List.length_map, hll, List.append_nil]; omega)) ?_
      refine wp_exit ?_
      refine then_e ?_
      refine then_e ?_
      refine blk_hit ?_
      refine then_n ?_
      refine c_seq ?_
      refine reg_plain w0 (fun z => z = ib ∨ z = mb) ?_
      rcases (by omega : off + m ≤ p ∨ p < off + m) with hge | hlt
      · refine r_move hS hH.kp0 rfl rfl ?_; clear hS; intro a hS
        refine r_move hS hH.kp0 rfl rfl ?_; clear hS; intro a hS
        refine r_call (l := [.tmp 94]) hS rfl rfl Fc.fn44 rfl ?_
        refine Calls.mono (upto_no b11 b6 b5 b4 p (off + m) (by omega) _ (hH.get (b := b11) (by repeat (first | exact In.here | refine In.there ?_)))) ?_
        rintro e w1 ⟨rfl, hE⟩
        replace hH := hH.ext hE
        refine ⟨_, rfl, hH.kp0, ?_⟩
        clear hS; intro a hS
        refine Sq.nil ?_
        refine then_n ?_
        refine c_seq ?_
        refine reg_plain w0 (fun z => z = ib ∨ z = mb) ?_
        refine r_assign hS hH.kp0 rfl rfl ?_; clear hS; intro a hS
        refine Sq.nil ?_
        refine then_n ?_
        refine wp_ret ?_
        exact leave (.inl rfl) hS rfl (Res.tmp rfl Res.nil) ⟨rfl, l, clock, hl, (by rw [show max s (off + m) = s from by omega]; exact hc.go (hH.mod.mono hMC) (fun _ h => .inl h)), hH.get (b := mb) (by repeat (first | exact In.here | refine In.there ?_)), hH.get (b := ib) (by repeat (first | exact In.here | refine In.there ?_)), hH.mod⟩
      · refine r_move hS hH.kp0 rfl rfl ?_; clear hS; intro a hS
        refine r_move hS hH.kp0 rfl rfl ?_; clear hS; intro a hS
        refine r_call (l := [.tmp 94]) hS rfl rfl Fc.fn44 rfl ?_
        have hlib := lt_of_block (hH.get (b := ib) (by repeat (first | exact .here | apply In.there | apply Put.there | apply Del.there)))
        have hlmb := lt_of_block (hH.get (b := mb) (by repeat (first | exact .here | apply In.there | apply Put.there | apply Del.there)))
        refine Calls.mono (upto_new b11 b6 b5 b4 p (off + m) off m qc ba bo ib mb room place limit _ _ _ ((text.drop off).take m) l clock hl (by rw [hps9]; exact hc.fresh) (by rw [List.length_take, List.length_drop]; omega) (by omega) (by omega) (by omega) (by omega) (by have h9 := hH.nd; simp only [List.map_cons, List.map_nil] at h9; first | exact h9 | exact (List.nodup_cons.1 h9).2) _ (hH.get (b := mb) (by repeat (first | exact In.here | refine In.there ?_))) (hH.get (b := ib) (by repeat (first | exact In.here | refine In.there ?_))) (hH.get (b := b4) (by repeat (first | exact In.here | refine In.there ?_))) (hH.get (b := b5) (by repeat (first | exact In.here | refine In.there ?_))) (hH.get (b := b6) (by repeat (first | exact In.here | refine In.there ?_))) (hH.get (b := b11) (by repeat (first | exact In.here | refine In.there ?_))) (BsF.go hb hH.mod (fun _ h => h.elim))) ?_
        rintro e w1 ⟨cb, c2, cl, rfl, hcb, hck, hBc, hl9, hmk, hM9⟩
        have hcbn : ¬ (cb = ib ∨ cb = mb ∨ X cb) := fun h => by rcases h with h | h | h; exact absurd (Nat.lt_of_lt_of_le hlib (h ▸ hcb)) (Nat.lt_irrefl _); exact absurd (Nat.lt_of_lt_of_le hlmb (h ▸ hcb)) (Nat.lt_irrefl _); exact absurd (hX _ h) (Nat.not_lt.2 (Nat.le_trans hH.mod.size hcb))
        replace hH := hH.updN (by repeat (first | exact .here | apply In.there | apply Put.there | apply Del.there)) hM9 hmk (.inl (.inr rfl)) hcb hck
        refine ⟨_, rfl, hH.kp0, ?_⟩
        clear hS; intro a hS
        refine Sq.nil ?_
        refine then_n ?_
        refine c_seq ?_
        refine reg_plain w0 (fun z => z = ib ∨ z = mb) ?_
        refine r_assign hS hH.kp0 rfl rfl ?_; clear hS; intro a hS
        refine Sq.nil ?_
        refine then_n ?_
        refine wp_ret ?_
        subst hps9
        rw [cut_cut text (by omega) (by omega)] at hBc
        have hlq : ((text.drop p).take (off + m - p)).length = off + m - p := by rw [List.length_take, List.length_drop]; omega
        have hbq := BsF.of_blk (F := fun z => z = ib ∨ z = mb ∨ X z) (hH.get (b := cb) (by repeat (first | exact In.here | refine In.there ?_))) hcbn hBc.take hBc.le
        rw [hlq] at hbq
        have hpu := (hc.go (hH.mod.mono hMC) (fun _ h => .inl h)).push (bn := clock) (by omega) (by omega) hbq
        rw [show p + (off + m - p) = max p (off + m) from by omega] at hpu
        exact leave (.inl rfl) hS rfl (Res.tmp rfl Res.nil) ⟨rfl, _, _, hl9, hpu, hH.get (b := mb) (by repeat (first | exact In.here | refine In.there ?_)), hH.get (b := ib) (by repeat (first | exact In.here | refine In.there ?_)), hH.mod⟩
    · have hle2 := hc2.le
      have hlen9 := hc.len
      have hlen8 : l0.length < l.length := by rw [hll]; simp
      have hnth : nthV row (0 + l0.length * 1) = some (.int .i64 (p : Int)) := by rw [Nat.zero_add, Nat.mul_one]; exact icells_nth hst (by rw [hll]; simp [kz])
      have hj9 : l0.length < (l.map kz).length := by rw [hll]; simp
      have hme : (⟨.int .i64 (p : Int), .slice (some ⟨qa, qo, none⟩) k qq, bn⟩ : MapEntry) ∈ l := by rw [hll]; simp
      refine c_seq ?_
      refine reg_plain w0 (fun z => z = ib ∨ z = mb) ?_
      refine r_lss hS hH.kp0 rfl rfl rfl ?_; clear hS; intro a hS
      refine Sq.nil ?_
      refine then_n ?_
      refine c_seq ?_
      refine c_condT hS rfl (DT (by rw [List.length_map]; omega)) ?_
      refine wp_skip ?_
      refine then_n ?_
      refine c_seq ?_
      refine wp_block ?_
      refine c_seq ?_
      refine reg_plain w0 (fun z => z = ib ∨ z = mb) ?_
      refine r_indexAddrS (j := l0.length) hS hH.kp0 rfl rfl Fc.slb76 rfl hj9 rfl ?_; clear hS; intro a hS
      refine r_load_sc hS hH (by repeat (first | exact Sub.nil | refine Sub.cons ?_ ?_ | exact In.here | refine In.there ?_)) rfl (by repeat (first | exact In.here | refine In.there ?_)) Fc.sc3 (v := .int .i64 (p : Int)) hnth rfl ?_; clear hS; intro a hS
      refine r_assign hS hH.kp0 rfl rfl ?_; clear hS; intro a hS
      refine Sq.nil ?_
      refine then_n ?_
      refine c_seq ?_
      refine reg_plain w0 (fun z => z = ib ∨ z = mb) ?_
      refine r_move hS hH.kp0 rfl rfl ?_; clear hS; intro a hS
      refine r_load_sc hS hH (by repeat (first | exact Sub.nil | refine Sub.cons ?_ ?_ | exact In.here | refine In.there ?_)) rfl (by repeat (first | exact In.here | refine In.there ?_)) Fc.sc58 (by rfl) rfl ?_; clear hS; intro a hS
      refine r_nilCheck hS hH.kp0 rfl rfl ?_; clear hS; intro a hS
      refine r_fieldAddr hS hH.kp0 rfl Fc.fo83_7 rfl ?_; clear hS; intro a hS
      refine r_load_sc hS hH (by repeat (first | exact Sub.nil | refine Sub.cons ?_ ?_ | exact In.here | refine In.there ?_)) rfl (by repeat (first | exact In.here | refine In.there ?_)) Fc.sc81 (by rfl) rfl ?_; clear hS; intro a hS
      refine r_move hS hH.kp0 rfl rfl ?_; clear hS; intro a hS
      refine r_look1Has (l := l) Fc.mtP hS hH (by repeat (first | exact Sub.nil | refine Sub.cons ?_ ?_ | exact In.here | refine In.there ?_)) rfl rfl (by repeat (first | exact In.here | refine In.there ?_)) hl hme (keyI p (by omega)) rfl ?_; clear hS; intro a hS
      refine r_lenSl hS hH.kp0 rfl Fc.isSlice22 rfl ?_; clear hS; intro a hS
      refine r_addN0 (m := p) (k := k) hS hH.kp0 rfl rfl (by omega) rfl ?_; clear hS; intro a hS
      refine r_assign hS hH.kp0 rfl rfl ?_; clear hS; intro a hS
      refine Sq.nil ?_
      refine then_n ?_
      refine c_seq ?_
      refine c_seq ?_
      refine reg_plain w0 (fun z => z = ib ∨ z = mb) ?_
      refine r_move hS hH.kp0 rfl rfl ?_; clear hS; intro a hS
      refine r_load_sc hS hH (by repeat (first | exact Sub.nil | refine Sub.cons ?_ ?_ | exact In.here | refine In.there ?_)) rfl (by repeat (first | exact In.here | refine In.there ?_)) Fc.sc3 (by rfl) rfl ?_; clear hS; intro a hS
      refine r_leq hS hH.kp0 rfl rfl rfl ?_; clear hS; intro a hS
      refine Sq.nil ?_
      refine then_n ?_
      refine c_condF hS rfl (DF (by omega)) ?_
      refine wp_skip ?_
      refine then_n ?_
      refine c_seq ?_
      refine c_seq ?_
      refine reg_plain w0 (fun z => z = ib ∨ z = mb) ?_
      refine r_move hS hH.kp0 rfl rfl ?_; clear hS; intro a hS
      refine r_move hS hH.kp0 rfl rfl ?_; clear hS; intro a hS
      refine r_geq hS hH.kp0 rfl rfl rfl ?_; clear hS; intro a hS
      refine Sq.nil ?_
      refine then_n ?_
      refine c_condT hS rfl (DT (by omega)) ?_
      refine wp_exit ?_
      refine then_e ?_
      refine blk_e rfl ?_
      refine then_e ?_
      refine then_e ?_
      refine blk_hit ?_
      refine then_n ?_
      refine c_seq ?_
      refine reg_plain w0 (fun z => z = ib ∨ z = mb) ?_
      refine r_move hS hH.kp0 rfl rfl ?_; clear hS; intro a hS
      refine r_move hS hH.kp0 rfl rfl ?_; clear hS; intro a hS
      refine r_call (l := [.tmp 94]) hS rfl rfl Fc.fn44 rfl ?_
      refine Calls.mono (upto_no b11 b6 b5 b4 p (off + m) (by omega) _ (hH.get (b := b11) (by repeat (first | exact In.here | refine In.there ?_)))) ?_
      rintro e w1 ⟨rfl, hE⟩
      replace hH := hH.ext hE
      refine ⟨_, rfl, hH.kp0, ?_⟩
      clear hS; intro a hS
      refine Sq.nil ?_
      refine then_n ?_
      refine c_seq ?_
      refine reg_plain w0 (fun z => z = ib ∨ z = mb) ?_
      refine r_assign hS hH.kp0 rfl rfl ?_; clear hS; intro a hS
      refine Sq.nil ?_
      refine then_n ?_
      refine wp_ret ?_
      exact leave (.inl rfl) hS rfl (Res.tmp rfl Res.nil) ⟨rfl, l, clock, hl, (by rw [show max s (off + m) = s from by omega]; exact hc.go (hH.mod.mono hMC) (fun _ h => .inl h)), hH.get (b := mb) (by repeat (first | exact In.here | refine In.there ?_)), hH.get (b := ib) (by repeat (first | exact In.here | refine In.there ?_)), hH.mod⟩
    · have hle2 := hc2.le
      have hlen9 := hc.len
      have hlen8 : l0.length < l.length := by rw [hll]; simp
      have hnth : nthV row (0 + l0.length * 1) = some (.int .i64 (p : Int)) := by rw [Nat.zero_add, Nat.mul_one]; exact icells_nth hst (by rw [hll]; simp [kz])
      have hj9 : l0.length < (l.map kz).length := by rw [hll]; simp
      have hme : (⟨.int .i64 (p : Int), .slice (some ⟨qa, qo, none⟩) k qq, bn⟩ : MapEntry) ∈ l := by rw [hll]; simp
      refine c_seq ?_
      refine reg_plain w0 (fun z => z = ib ∨ z = mb) ?_
      refine r_lss hS hH.kp0 rfl rfl rfl ?_; clear hS; intro a hS
      refine Sq.nil ?_
      refine then_n ?_
      refine c_seq ?_
      refine c_condT hS rfl (DT (by rw [List.length_map]; omega)) ?_
      refine wp_skip ?_
      refine then_n ?_
      refine c_seq ?_
      refine wp_block ?_
      refine c_seq ?_
      refine reg_plain w0 (fun z => z = ib ∨ z = mb) ?_
      refine r_indexAddrS (j := l0.length) hS hH.kp0 rfl rfl Fc.slb76 rfl hj9 rfl ?_; clear hS; intro a hS
      refine r_load_sc hS hH (by repeat (first | exact Sub.nil | refine Sub.cons ?_ ?_ | exact In.here | refine In.there ?_)) rfl (by repeat (first | exact In.here | refine In.there ?_)) Fc.sc3 (v := .int .i64 (p : Int)) hnth rfl ?_; clear hS; intro a hS
      refine r_assign hS hH.kp0 rfl rfl ?_; clear hS; intro a hS
      refine Sq.nil ?_
      refine then_n ?_
      refine c_seq ?_
      refine reg_plain w0 (fun z => z = ib ∨ z = mb) ?_
      refine r_move hS hH.kp0 rfl rfl ?_; clear hS; intro a hS
      refine r_load_sc hS hH (by repeat (first | exact Sub.nil | refine Sub.cons ?_ ?_ | exact In.here | refine In.there ?_)) rfl (by repeat (first | exact In.here | refine In.there ?_)) Fc.sc58 (by rfl) rfl ?_; clear hS; intro a hS
      refine r_nilCheck hS hH.kp0 rfl rfl ?_; clear hS; intro a hS
      refine r_fieldAddr hS hH.kp0 rfl Fc.fo83_7 rfl ?_; clear hS; intro a hS
      refine r_load_sc hS hH (by repeat (first | exact Sub.nil | refine Sub.cons ?_ ?_ | exact In.here | refine In.there ?_)) rfl (by repeat (first | exact In.here | refine In.there ?_)) Fc.sc81 (by rfl) rfl ?_; clear hS; intro a hS
      refine r_move hS hH.kp0 rfl rfl ?_; clear hS; intro a hS
      refine r_look1Has (l := l) Fc.mtP hS hH (by repeat (first | exact Sub.nil | refine Sub.cons ?_ ?_ | exact In.here | refine In.there ?_)) rfl rfl (by repeat (first | exact In.here | refine In.there ?_)) hl hme (keyI p (by omega)) rfl ?_; clear hS; intro a hS
      refine r_lenSl hS hH.kp0 rfl Fc.isSlice22 rfl ?_; clear hS; intro a hS
      refine r_addN0 (m := p) (k := k) hS hH.kp0 rfl rfl (by omega) rfl ?_; clear hS; intro a hS
      refine r_assign hS hH.kp0 rfl rfl ?_; clear hS; intro a hS
      refine Sq.nil ?_
      refine then_n ?_
      refine c_seq ?_
      refine c_seq ?_
      refine reg_plain w0 (fun z => z = ib ∨ z = mb) ?_
      refine r_move hS hH.kp0 rfl rfl ?_; clear hS; intro a hS
      refine r_load_sc hS hH (by repeat (first | exact Sub.nil | refine Sub.cons ?_ ?_ | exact In.here | refine In.there ?_)) rfl (by repeat (first | exact In.here | refine In.there ?_)) Fc.sc3 (by rfl) rfl ?_; clear hS; intro a hS
      refine r_leq hS hH.kp0 rfl rfl rfl ?_; clear hS; intro a hS
      refine Sq.nil ?_
      refine then_n ?_
      refine c_condF hS rfl (DF (by omega)) ?_
      refine wp_skip ?_
      refine then_n ?_
      refine c_seq ?_
      refine c_seq ?_
      refine reg_plain w0 (fun z => z = ib ∨ z = mb) ?_
      refine r_move hS hH.kp0 rfl rfl ?_; clear hS; intro a hS
      refine r_move hS hH.kp0 rfl rfl ?_; clear hS; intro a hS
      refine r_geq hS hH.kp0 rfl rfl rfl ?_; clear hS; intro a hS
      refine Sq.nil ?_
      refine then_n ?_
      refine c_condF hS rfl (DF (by omega)) ?_
      refine wp_skip ?_
      refine then_n ?_
      refine c_seq ?_
      refine reg_plain w0 (fun z => z = ib ∨ z = mb) ?_
      refine r_move hS hH.kp0 rfl rfl ?_; clear hS; intro a hS
      refine r_move hS hH.kp0 rfl rfl ?_; clear hS; intro a hS
      refine r_call (l := [.tmp 87]) hS rfl rfl Fc.fn44 rfl ?_
      refine Calls.mono (upto_no b11 b6 b5 b4 p p (by omega) _ (hH.get (b := b11) (by repeat (first | exact In.here | refine In.there ?_)))) ?_
      rintro e w1 ⟨rfl, hE⟩
      replace hH := hH.ext hE
      refine ⟨_, rfl, hH.kp0, ?_⟩
      clear hS; intro a hS
      refine Sq.nil ?_
      refine then_n ?_
      refine reg_plain w0 (fun z => z = ib ∨ z = mb) ?_
      refine r_load_sc hS hH (by repeat (first | exact Sub.nil | refine Sub.cons ?_ ?_ | exact In.here | refine In.there ?_)) rfl (by repeat (first | exact In.here | refine In.there ?_)) Fc.sc3 (by rfl) rfl ?_; clear hS; intro a hS
      refine r_move hS hH.kp0 rfl rfl ?_; clear hS; intro a hS
      refine r_maxN (m := p) (k := p + k) hS hH.kp0 rfl rfl rfl ?_; clear hS; intro a hS
      rw [show max p (p + k) = p + k from by omega] at hS
      refine r_store1 hS hH rfl rfl rfl (by repeat (first | exact .here | apply In.there | apply Put.there | apply Del.there)) (by repeat (first | exact Sub.nil | refine Sub.cons ?_ ?_ | exact In.here | refine In.there ?_)) Fc.sz3 (of_decide_eq_true rfl) (by first | exact .inr (by assumption) | exact .inl (.inl rfl)) ?_
      clear hH; intro w hH
      refine Sq.nil ?_
      refine blk_n ?_
      refine then_n ?_
      refine reg_plain w0 (fun z => z = ib ∨ z = mb) ?_
      refine r_addN0 (m := l0.length) (k := 1) hS hH.kp0 rfl rfl (by omega) rfl ?_; clear hS; intro a hS
      refine r_move hS hH.kp0 rfl rfl ?_; clear hS; intro a hS
      refine Sq.nil ?_
      refine then_n ?_
      exact ⟨l2.length, by rw [hmm, List.length_cons]; omega, p + k, l0 ++ [⟨.int .i64 (p : Int), .slice (some ⟨qa, qo, none⟩) k qq, bn⟩], l2, by rw [hll]; simp, rfl, by omega, hc2, by rw [List.length_append, List.length_singleton]; exact hS.live ⟨rfl, rfl, rfl, rfl, rfl, rfl, rfl, rfl, rfl, rfl, trivial⟩, hH⟩

theorem iPut_c (ib mb room place limit reach : Nat) (fin : Int) (kn fi : Bool) (text : List UInt8) (l : List MapEntry) (clock s off m qc ba bo : Nat) (hl : MapL Try.prog 3 l clock) (hpt0 : place ≤ text.length) (hrs : reach = s) (hop : off ≤ place) (hps : place ≤ s) (hsl : s ≤ text.length) (hm1 : 1 ≤ m) (hom : off + m ≤ text.length) (hlim : off + m ≤ limit) (hlm : limit ≤ 4194304) (ht : text.length ≤ 1048576) (hkn : kn = true → ((off + m : Nat) : Int) ≤ fin ∧ (fi = true → ((off + m : Nat) : Int) = fin)) (hfi : fi = true → reach ≤ off + m) (hne : mb ≠ ib) (X : Nat → Prop) (w0 : World) (hX : ∀ z, X z → z < w0.heap.size) (hc : Chain (fun z => z = ib ∨ z = mb ∨ X z) w0 text l place s) (hb : BsF (fun z => z = ib ∨ z = mb) w0 (.slice (some ⟨ba, bo, none⟩) m qc) ((text.drop off).take m)) (hz : w0.heap[ib]? = some (.cells ([.bool true, .int .i64 (room : Int), .int .i64 (place : Int), .int .i64 (limit : Int), .int .i64 (reach : Int), .int .i64 fin, .bool kn, .map (some mb)] : List Value).toArray 83 (0, 0))) (hm : w0.heap[mb]? = some (.map l.toArray clock)) : Calls Try.prog 25 #[.pointer (some ⟨ib, 0, none⟩), .int .i64 (off : Int), .slice (some ⟨ba, bo, none⟩) m qc, .bool fi] w0 fun e w' => e = .returned (.int .i64 0) ∧ ∃ (l' : List MapEntry) (clock' : Nat), MapL Try.prog 3 l' clock' ∧ Chain (fun z => z = ib ∨ z = mb ∨ X z) w' text l' place (max s (off + m)) ∧ w'.heap[mb]? = some (.map l'.toArray clock') ∧ w'.heap[ib]? = some (.cells ([.bool true, .int .i64 (room : Int), .int .i64 (place : Int), .int .i64 (limit : Int), .int .i64 ((max reach (off + m) : Nat) : Int), .int .i64 (if fi = true then ((off + m : Nat) : Int) else fin), .bool (fi || kn), .map (some mb)] : List Value).toArray 83 (0, 0)) ∧ Mod (fun z => z = ib ∨ z = mb) w0 w' := by
  cases fi
  · exact iPut_f ib mb room place limit reach fin kn text l clock s off m qc ba bo hl hpt0 hrs hop hps hsl hm1 hom hlim hlm ht hkn hfi hne X w0 hX hc hb hz hm
  · exact iPut_t ib mb room place limit reach fin kn text l clock s off m qc ba bo hl hpt0 hrs hop hps hsl hm1 hom hlim hlm ht hkn hfi hne X w0 hX hc hb hz hm
end Go.Proofs.Ytkhcbllphdhbdaa
