/- Rules of symbolic execution over any program of the model, that the claims of this folder use; part SymWrite. Conditions: those that each rule names. -/
import Derived.Test.YtkhcbllphdhbdaaSymGrow
namespace Go.Sym
open Go
/-! ### what is written behind a pointer -/
theorem Hp.modPutN {w0 w w1 : World} {S : Nat → Prop} {L L' : Blocks} {bw b' : Nat} {o o' ok : Obj} (h : Hp w0 S L w) (hm : Mod (· = bw) w w1) (hb : w1.heap[bw]? = some o') (hp : Put bw o o' L L') (hw : S bw ∨ w0.heap.size ≤ bw) (hn : w.heap.size ≤ b') (hk : w1.heap[b']? = some ok) : Hp w0 S ((b', ok) :: L') w1 :=
  (h.modPut hm hb hp hw).know hk (fun p hp' e => by
    have h1 : p.1 ∈ L.map Prod.fst := by rw [← hp.keys]; exact List.mem_map_of_mem hp'
    obtain ⟨q, hq, he⟩ := List.mem_map.1 h1
    have := h.lt q hq
    omega)
theorem Hp.modPut2 {w0 w w1 : World} {S : Nat → Prop} {L L1 L2 : Blocks} {bw b b' : Nat} {o o' ob ok : Obj} (h : Hp w0 S L w) (hm : Mod (fun x => x = bw ∨ x = b) w w1) (hd : Del b ob L L1) (hp : Put bw o o' L1 L2) (hb : w1.heap[bw]? = some o') (hw : S bw ∨ w0.heap.size ≤ bw) (hwb : S b ∨ w0.heap.size ≤ b) (hn : b' = b ∨ w.heap.size ≤ b') (hk : w1.heap[b']? = some ok) : Hp w0 S ((b', ok) :: L2) w1 := by
  have h1 := h.del hd
  have hne := hd.ne h.nd
  have hL2 : Hp w0 S L2 w1 := by
    refine ⟨fun p hp' => ?_, by rw [hp.keys]; exact h1.nd, h.mod.trans hm (fun c hc hcb => by rcases hcb with rfl | rfl; rcases hw with hs | hs; exact hs; omega; rcases hwb with hs | hs; exact hs; omega)⟩
    rcases hp.mem h1.nd p hp' with rfl | ⟨h2, h3⟩
    · exact hb
    · exact hm.heap_some (h1.blk p h2) (fun hh => by rcases hh with hh | hh; exact h3 hh; exact hne p h2 hh)
  refine hL2.know hk (fun p hp' e => ?_)
  have h4 : p.1 ∈ L1.map Prod.fst := by rw [← hp.keys]; exact List.mem_map_of_mem hp'
  obtain ⟨q, hq, he⟩ := List.mem_map.1 h4
  have h5 := h1.lt q hq
  have h6 := hne q hq
  rcases hn with rfl | hn
  · exact h6 (by omega)
  · omega
section
variable {P : Program} {ops : Array Oper} {Q : Exit → Act → World → Prop} {rest : List Item} {a : Act} {w w0 : World} {n : Nat} {R : Rg} {ds : List Deferred} {S : Nat → Prop} {L K : Blocks}
variable {f : Bool} {d : Nat} {ty : TypeId} {pos : String} {af : Array Edge}
/-- a string appended to bytes of the call's own -/
theorem r_appS {t t2 e : Nat} {x y : Operand} {b cap : Nat} {s : ByteArray} {l : List Value} {L' : Blocks} (u : List UInt8) (hS : StD ds n R a) (hH : Hp w0 S L w) (hx : ev R x = some (.slice (some ⟨b, 0, none⟩) u.length cap)) (hy : ev R y = some (.string s))
    (hi : Del b (.cells l.toArray e (0, 0)) L L') (hs : Sub K L') (he : elB P t = some (e, 1, 1)) (h2 : notInt P t2 = true) (hB : BB cap l u) (hbytes : u.length + s.size ≤ 140737488355328) (hw : w0.heap.size ≤ b) (hlt : Nat.blt d n = true)
    (kk : ∀ (a' : Act) (w' : World) (b' c : Nat) (l2 : List Value), w0.heap.size ≤ b' → BB c l2 (u ++ s.data.toList) → StD ds n (up R d (.slice (some ⟨b', 0, none⟩) (u ++ s.data.toList).length c)) a' → Hp w0 S ((b', .cells l2.toArray e (0, 0)) :: L') w' → Sq P ops Q rest a' w') :
    Sq P ops Q ((false, ⟨some d, .call ⟨.builtin .append, #[x, y], #[t, t2]⟩, ty, pos, af, none⟩, Kp w0 S K) :: rest) a w :=
  r_append_own2 hS hH hx hy hi hs he h2 (by rw [hB.len, Nat.mul_one]) hB.le (src_string s) (by rw [Nat.mul_one]; exact hbytes) hw hlt fun a' w' b' c l2 h1 h3 h4 h5 _ hS' hH' => by
    have e1 : u.length + s.size = (u ++ s.data.toList).length := by rw [List.length_append, Array.length_toList]; rfl
    rw [e1] at hS' h4
    refine kk a' w' b' c l2 h1 ⟨by rw [h3, Nat.mul_one], h4, ?_⟩ hS' hH'
    rw [e1, Nat.mul_one, Nat.mul_one] at h5
    rw [h5, hB.take, List.map_append]
end
/-- some flags as one number -/
def flagN : List Bool → Nat
  | [] => 0
  | [x] => if x then 1 else 0
  | x :: y :: _ => (if x then 1 else 0) + (if y then 2 else 0)
end Go.Sym
