/- Rules of symbolic execution over any program of the model, that the claims of this folder use; part SymMsg2. Conditions: those that each rule names. -/
import Derived.Test.YtkhcbllphdhbdaaSymKind
namespace Go.Sym
open Go
theorem bodyB_len {kd : Int} {rnd shr : List UInt8} {name : ByteArray} {ptl : List ByteArray} {prm tck bnd : List UInt8} {ea ag : Bool} {mrk : List UInt8} {li : Int} (h : mayM kd name.size ptl.length prm.length tck.length (bzN ea bnd) (oddN ptl) li) (h1 : rnd.length = 16) (h2 : shr.length = 16) (h3 : bnd.length = 16) (h4 : mrk.length = 16) : (bodyB kd rnd shr name ptl prm tck bnd ea ag mrk li).length ≤ 100000 := by
  obtain ⟨m1, m4, m8, m11⟩ := h
  have hn : name.data.toList.length = name.size := by rw [Array.length_toList]; rfl
  unfold bodyB
  split
  · rename_i e
    obtain ⟨_, hp1, hp2, hp3, hp4, hp5, hp6⟩ := m1 e
    have := prsB_len ptl hp3
    split <;> simp only [List.length_append, List.length_cons, List.length_nil, beB_len] <;> omega
  · split
    · simp only [List.length_append, List.length_cons, List.length_nil]; omega
    · split
      · rename_i e
        obtain ⟨_, _, _, hq⟩ := m4 e
        simp only [List.length_append, List.length_cons, List.length_nil, beB_len]; omega
      · split
        · rename_i e
          obtain ⟨hq1, hq2, hq3, hq4⟩ := m8 e
          have := prsB_len ptl hq3
          simp only [List.length_append, List.length_cons, List.length_nil, beB_len]; omega
        · split
          · rename_i e
            have := m11 e
            simp only [List.length_append, beB_len]; omega
          · omega
/-- a message's bytes -/
def msgB (kd : Int) (B : List UInt8) : List UInt8 := beB kd.toNat 1 ++ beB B.length 3 ++ B
theorem msgB_len (kd : Int) (B : List UInt8) : (msgB kd B).length = 4 + B.length := by simp only [msgB, List.length_append, beB_len]
theorem Hp.modNew {w0 w w1 : World} {S : Nat → Prop} {L L' : Blocks} {b b' : Nat} {ob ok : Obj} (h : Hp w0 S L w) (hm : Mod (fun x => x = b) w w1) (hd : Del b ob L L') (hwb : S b ∨ w0.heap.size ≤ b) (hn : b' = b ∨ w.heap.size ≤ b') (hk : w1.heap[b']? = some ok) : Hp w0 S ((b', ok) :: L') w1 := by
  have h1 := h.del hd
  have hne := hd.ne h.nd
  have hL2 : Hp w0 S L' w1 := ⟨fun p hp' => hm.heap_some (h1.blk p hp') (fun hh => hne p hp' hh), h1.nd, h.mod.trans hm (fun c hc hcb => by subst hcb; rcases hwb with hs | hs; exact hs; omega)⟩
  refine hL2.know hk (fun p hp e => ?_)
  have h5 := h1.lt p hp
  have h6 := hne p hp
  rcases hn with rfl | hn
  · exact h6 e
  · omega
end Go.Sym

namespace Go.Sym
open Go
theorem BB.preBs {cap b n : Nat} {k : List Value} {M : List UInt8} {w : World} {T : TypeId} {fz : Nat × Nat} (h : BB cap k M) (hn : n ≤ M.length) (hb : w.heap[b]? = some (.cells k.toArray T fz)) : Bs w (.slice (some ⟨b, 0, none⟩) n cap) (M.take n) := by
  have e : (M.take n).length = n := by rw [List.length_take]; omega
  have hle := h.le
  have h1 : (k.drop 0).take (M.take n).length = (M.take n).map byteV := by
    rw [e, List.drop_zero, List.map_take, ← h.take, List.take_take, Nat.min_eq_left hn]
  have := Bs.row (o := 0) (u := M.take n) (cap := cap) hb h1 (by omega)
  rw [e] at this
  exact this
theorem BB.setAt {cap j : Nat} {l : List Value} {u : List UInt8} {y : UInt8} (h : BB cap l u) (hj : j < u.length) : BB cap (spl l (0 + j * 1) [byteV y]) (u.set j y) := by
  have hle := h.le
  have hlen := h.len
  have e : spl l (0 + j * 1) [byteV y] = l.set j (byteV y) := by
    rw [show 0 + j * 1 = j by omega]
    exact spl1_eq (by omega)
  refine ⟨by rw [e, List.length_set]; exact h.len, by rw [List.length_set]; exact h.le, ?_⟩
  rw [e, List.length_set, List.take_set, h.take, List.map_set]
end Go.Sym
