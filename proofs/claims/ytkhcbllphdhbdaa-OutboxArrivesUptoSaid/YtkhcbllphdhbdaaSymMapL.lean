/- Rules of symbolic execution over any program of the model, that the claims of this folder use; part SymMapL. Conditions: those that each rule names. -/
import Derived.Test.YtkhcbllphdhbdaaSymSet
import Derived.Maps.RangeRun
import Derived.Maps.Keyed
/- Maps whose entries are known one by one, and ranging over a map. -/
namespace Go.Sym
open Go
open Go.WideMaps (KeyLaw)
open Go.ChangeMaps (setBlock)

/-- a map's entries, one by one: their keys read, no key stands twice, no stamp twice, and none is of the future -/
structure MapL (P : Program) (k : TypeId) (l : List MapEntry) (clock : Nat) : Prop where
  keys : ∀ e ∈ l, ∃ x, keyOf P k e.key = some x
  apart : l.Pairwise fun p q => p.key ≠ q.key
  old : ∀ e ∈ l, e.born < clock
  nd : (l.map (·.born)).Nodup
theorem MapL.nil {P : Program} {k : TypeId} {clock : Nat} : MapL P k [] clock := ⟨by simp, by simp, by simp, by simp⟩
theorem MapL.tail {P : Program} {k : TypeId} {e : MapEntry} {l : List MapEntry} {clock : Nat} (h : MapL P k (e :: l) clock) : MapL P k l clock :=
  ⟨fun x hx => h.keys x (List.mem_cons_of_mem _ hx), (List.pairwise_cons.1 h.apart).2, fun x hx => h.old x (List.mem_cons_of_mem _ hx), (List.nodup_cons.1 (by simpa using h.nd)).2⟩
theorem MapL.push {P : Program} {k : TypeId} {key v : Value} {x : Lit} {l : List MapEntry} {clock : Nat} (h : MapL P k l clock) (hk : keyOf P k key = some x) (hn : ∀ e ∈ l, e.key ≠ key) : MapL P k (l ++ ([⟨key, v, clock⟩] : List MapEntry)) (clock + 1) := by
  refine ⟨fun e he => ?_, ?_, fun e he => ?_, ?_⟩
  · rcases List.mem_append.1 he with he | he
    · exact h.keys e he
    · rw [List.mem_singleton.1 he]; exact ⟨x, hk⟩
  · exact List.pairwise_append.2 ⟨h.apart, by simp, fun p hp q hq => by rw [List.mem_singleton.1 hq]; exact hn p hp⟩
  · rcases List.mem_append.1 he with he | he
    · exact Nat.lt_succ_of_lt (h.old e he)
    · rw [List.mem_singleton.1 he]; exact Nat.lt_succ_self _
  · rw [List.map_append, List.nodup_append]
    refine ⟨h.nd, by simp, fun p hp q hq => ?_⟩
    obtain ⟨e, he, rfl⟩ := List.mem_map.1 hp
    simp at hq
    have := h.old e he
    omega
/-- a map's type with its keys' law and its elements' nought -/
structure MapTyK (P : Program) (t k e : TypeId) (z : Value) : Prop where
  und : P.underlying t = some (.map k e)
  zero : ∀ w, (zeroValue e).run P w = .ok z w
  law : Maps.Keyed P k
theorem MapL.has {P : Program} {k : TypeId} {l : List MapEntry} {clock : Nat} (h : MapL P k l clock) (K : Maps.Keyed P k) {p : MapEntry} (hp : p ∈ l) {lx : Lit} (hk : keyOf P k p.key = some lx) (w : World) : ∃ j, (Instr.findKey k p.key l).run P w = .ok (some (j, p.val)) w ∧ l[j]? = some p := by
  rcases K.find w hk l h.keys with ⟨_, h2⟩ | ⟨j, e, h1, h2, h3⟩
  · exact absurd rfl (h2 p hp)
  · have := pairwise_eq h.apart (List.mem_of_getElem? h2) hp h3
    subst this
    exact ⟨j, h1, h2⟩
theorem MapL.hasnt {P : Program} {k : TypeId} {l : List MapEntry} {clock : Nat} (h : MapL P k l clock) (K : Maps.Keyed P k) {x : Value} (hn : ∀ e ∈ l, e.key ≠ x) {lx : Lit} (hk : keyOf P k x = some lx) (w : World) : (Instr.findKey k x l).run P w = .ok none w := by
  rcases K.find w hk l h.keys with ⟨h1, _⟩ | ⟨j, e, h1, h2, h3⟩
  · exact h1
  · exact absurd h3 (hn e (List.mem_of_getElem? h2))
theorem MapTyK.run_has {P : Program} {w : World} {t k e b clock : Nat} {z : Value} {l : List MapEntry} {p : MapEntry} {lx : Lit} (T : MapTyK P t k e z) (hb : w.heap[b]? = some (.map l.toArray clock)) (h : MapL P k l clock) (hp : p ∈ l) (hk : keyOf P k p.key = some lx) (c : Bool) :
    (Instr.lookup t (.map (some b)) p.key c).run P w = .ok (if c then .tuple #[p.val, .bool true] else p.val) w := by
  have hgo : (getObj b).run P w = .ok (.map l.toArray clock) w := by simp [getObj, Sem.run, hb]
  obtain ⟨j, h1, _⟩ := h.has T.law hp hk w
  cases c <;> simp [Instr.lookup, run_underlying T.und, hgo, T.law.check w _ hk, h1]
theorem MapTyK.run_no {P : Program} {w : World} {t k e b clock : Nat} {z x : Value} {l : List MapEntry} {lx : Lit} (T : MapTyK P t k e z) (hb : w.heap[b]? = some (.map l.toArray clock)) (h : MapL P k l clock) (hp : ∀ q ∈ l, q.key ≠ x) (hk : keyOf P k x = some lx) (c : Bool) :
    (Instr.lookup t (.map (some b)) x c).run P w = .ok (if c then .tuple #[z, .bool false] else z) w := by
  have hgo : (getObj b).run P w = .ok (.map l.toArray clock) w := by simp [getObj, Sem.run, hb]
  have h1 := h.hasnt T.law hp hk w
  cases c <;> simp [Instr.lookup, run_underlying T.und, hgo, T.law.check w _ hk, h1, T.zero]

section
variable {P : Program} {ops : Array Oper} {Q : Exit → Act → World → Prop} {rest : List Item} {a : Act} {w w0 : World} {n : Nat} {R : Rg} {ds : List Deferred} {S : Nat → Prop} {L K : Blocks}
variable {f : Bool} {d : Nat} {ty : TypeId} {pos : String} {af : Array Edge}

/-- look-ups of a key that is there, and of one that is not -/
theorem r_lookHas {t k e b clock : Nat} {x y : Operand} {l : List MapEntry} {z : Value} {p : MapEntry} {lx : Lit} (T : MapTyK P t k e z) (hS : StD ds n R a) (hH : Hp w0 S L w) (hs : Sub K L) (hx : ev R x = some (.map (some b))) (hy : ev R y = some p.key) (hi : In b (.map l.toArray clock) L) (h : MapL P k l clock) (hp : p ∈ l) (hk : keyOf P k p.key = some lx) (hlt : Nat.blt d n = true)
    (kk : ∀ a', StD ds n (up R d (.tuple #[p.val, .bool true])) a' → Sq P ops Q rest a' w) : Sq P ops Q ((false, ⟨some d, .lookup t x y true, ty, pos, af, none⟩, Kp w0 S K) :: rest) a w :=
  Sq.done rfl (by simp [execOp, hS.val hx, hS.val hy, T.run_has (hH.get hi) h hp hk true]) (hH.kp hs) (kk _ (hS.put hlt _))
theorem r_lookNo {t k e b clock : Nat} {x y : Operand} {l : List MapEntry} {z : Value} {key : Value} {lx : Lit} (T : MapTyK P t k e z) (hS : StD ds n R a) (hH : Hp w0 S L w) (hs : Sub K L) (hx : ev R x = some (.map (some b))) (hy : ev R y = some key) (hi : In b (.map l.toArray clock) L) (h : MapL P k l clock) (hp : ∀ q ∈ l, q.key ≠ key) (hk : keyOf P k key = some lx) (hlt : Nat.blt d n = true)
    (kk : ∀ a', StD ds n (up R d (.tuple #[z, .bool false])) a' → Sq P ops Q rest a' w) : Sq P ops Q ((false, ⟨some d, .lookup t x y true, ty, pos, af, none⟩, Kp w0 S K) :: rest) a w :=
  Sq.done rfl (by simp [execOp, hS.val hx, hS.val hy, T.run_no (hH.get hi) h hp hk true]) (hH.kp hs) (kk _ (hS.put hlt _))
theorem r_look1Has {t k e b clock : Nat} {x y : Operand} {l : List MapEntry} {z : Value} {p : MapEntry} {lx : Lit} (T : MapTyK P t k e z) (hS : StD ds n R a) (hH : Hp w0 S L w) (hs : Sub K L) (hx : ev R x = some (.map (some b))) (hy : ev R y = some p.key) (hi : In b (.map l.toArray clock) L) (h : MapL P k l clock) (hp : p ∈ l) (hk : keyOf P k p.key = some lx) (hlt : Nat.blt d n = true)
    (kk : ∀ a', StD ds n (up R d (p.val)) a' → Sq P ops Q rest a' w) : Sq P ops Q ((false, ⟨some d, .lookup t x y false, ty, pos, af, none⟩, Kp w0 S K) :: rest) a w :=
  Sq.done rfl (by simp [execOp, hS.val hx, hS.val hy, T.run_has (hH.get hi) h hp hk false]) (hH.kp hs) (kk _ (hS.put hlt _))
theorem r_lookHasS {t k e b clock : Nat} {x y : Operand} {l : List MapEntry} {z : Value} {p : MapEntry} {lx : Lit} (T : MapTyK P t k e z) (hS : StD ds n R a) (hx : ev R x = some (.map (some b))) (hy : ev R y = some p.key) (hi : In b (.map l.toArray clock) K) (h : MapL P k l clock) (hp : p ∈ l) (hk : keyOf P k p.key = some lx) (hlt : Nat.blt d n = true)
    (kk : ∀ a', StD ds n (up R d (.tuple #[p.val, .bool true])) a' → Sq P ops Q rest a' w) : Sq P ops Q ((true, ⟨some d, .lookup t x y true, ty, pos, af, none⟩, Kp w0 S K) :: rest) a w :=
  Sq.soft rfl (fun w' hw' => by simp [execOp, hS.val hx, hS.val hy, T.run_has (hw'.1 _ hi.mem) h hp hk true]) (kk _ (hS.put hlt _))
theorem r_lookNoS {t k e b clock : Nat} {x y : Operand} {l : List MapEntry} {z : Value} {key : Value} {lx : Lit} (T : MapTyK P t k e z) (hS : StD ds n R a) (hx : ev R x = some (.map (some b))) (hy : ev R y = some key) (hi : In b (.map l.toArray clock) K) (h : MapL P k l clock) (hp : ∀ q ∈ l, q.key ≠ key) (hk : keyOf P k key = some lx) (hlt : Nat.blt d n = true)
    (kk : ∀ a', StD ds n (up R d (.tuple #[z, .bool false])) a' → Sq P ops Q rest a' w) : Sq P ops Q ((true, ⟨some d, .lookup t x y true, ty, pos, af, none⟩, Kp w0 S K) :: rest) a w :=
  Sq.soft rfl (fun w' hw' => by simp [execOp, hS.val hx, hS.val hy, T.run_no (hw'.1 _ hi.mem) h hp hk true]) (kk _ (hS.put hlt _))
theorem r_look1HasS {t k e b clock : Nat} {x y : Operand} {l : List MapEntry} {z : Value} {p : MapEntry} {lx : Lit} (T : MapTyK P t k e z) (hS : StD ds n R a) (hx : ev R x = some (.map (some b))) (hy : ev R y = some p.key) (hi : In b (.map l.toArray clock) K) (h : MapL P k l clock) (hp : p ∈ l) (hk : keyOf P k p.key = some lx) (hlt : Nat.blt d n = true)
    (kk : ∀ a', StD ds n (up R d (p.val)) a' → Sq P ops Q rest a' w) : Sq P ops Q ((true, ⟨some d, .lookup t x y false, ty, pos, af, none⟩, Kp w0 S K) :: rest) a w :=
  Sq.soft rfl (fun w' hw' => by simp [execOp, hS.val hx, hS.val hy, T.run_has (hw'.1 _ hi.mem) h hp hk false]) (kk _ (hS.put hlt _))
/-- an entry more, at a key that was not there -/
theorem r_mapNew {L' : Blocks} {t k e b clock : Nat} {x y u : Operand} {l : List MapEntry} {z key v : Value} {lx : Lit} (T : MapTyK P t k e z) (hS : StD ds n R a) (hH : Hp w0 S L w) (hx : ev R x = some (.map (some b))) (hy : ev R y = some key) (hu : ev R u = some v) (hi : In b (.map l.toArray clock) L) (h : MapL P k l clock) (hk : keyOf P k key = some lx) (hn : ∀ q ∈ l, q.key ≠ key) (hw : S b ∨ w0.heap.size ≤ b)
    (hp : Put b (.map l.toArray clock) (.map (l ++ ([⟨key, v, clock⟩] : List MapEntry)).toArray (clock + 1)) L L') (hsub : Sub K L')
    (kk : ∀ w', MapL P k (l ++ ([⟨key, v, clock⟩] : List MapEntry)) (clock + 1) → Hp w0 S L' w' → Sq P ops Q rest a w') : Sq P ops Q ((false, ⟨none, .mapUpdate t x y u, ty, pos, af, none⟩, Kp w0 S K) :: rest) a w := by
  have hb := hH.get hi
  have hgo : (getObj b).run P w = .ok (.map l.toArray clock) w := by simp [getObj, Sem.run, hb]
  have hso : ∀ o, (setObj b o).run P w = .ok () { w with heap := w.heap.setIfInBounds b o } := fun o => by simp [setObj, Sem.run, hb]
  have hH' := hH.turned hp (Turned.obj hb) hw
  refine Sq.skip (w' := { w with heap := w.heap.setIfInBounds b (.map (l ++ ([⟨key, v, clock⟩] : List MapEntry)).toArray (clock + 1)) }) rfl ?_ (hH'.kp hsub) (kk _ (h.push hk hn) hH')
  have h1' := h.hasnt T.law hn hk w
  simp [execOp, hS.val hx, hS.val hy, hS.val hu, Instr.mapUpdate, run_underlying T.und, hgo, T.law.check w _ hk, h1', hso]
/-- 'range m' -/
theorem r_rangeM {t k e b clock : Nat} {x : Operand} {l : List MapEntry} {z : Value} (T : MapTyK P t k e z) (hS : StD ds n R a) (hH : Hp w0 S L w) (hs : Sub K L) (hx : ev R x = some (.map (some b))) (hi : In b (.map l.toArray clock) L) (hlt : Nat.blt d n = true)
    (kk : ∀ a' w' r, w0.heap.size ≤ r → w.heap.size ≤ r → StD ds n (up R d (.pointer (some ⟨r, 0, none⟩))) a' → Hp w0 S ((r, .mapIter (some b) clock #[] clock) :: L) w' → Sq P ops Q rest a' w') : Sq P ops Q ((false, ⟨some d, .range t x, ty, pos, af, none⟩, Kp w0 S K) :: rest) a w := by
  have hH' := hH.alloc (.mapIter (some b) clock #[] clock)
  refine Sq.done (w' := w.alloc (.mapIter (some b) clock #[] clock)) (v := .pointer (some ⟨w.heap.size, 0, none⟩)) rfl ?_ ⟨fun p hp => hH'.blk p (List.mem_cons_of_mem _ (hs.mem p hp)), hH'.mod⟩ (kk _ _ w.heap.size hH.mod.size (Nat.le_refl _) (hS.put hlt _) hH')
  simp [execOp, hS.val hx, run_range_map w t k e b l.toArray clock T.und (hH.get hi)]
/-- the stamps of what came -/
def borns (dn : List MapEntry) : Array Nat := (dn.map (·.born)).toArray
theorem MapL.same {k : TypeId} {l : List MapEntry} {clock : Nat} (h : MapL P k l clock) {e e' : MapEntry} (he : e ∈ l) (he' : e' ∈ l) (hb : e.born = e'.born) : e = e' := by
  have := h.nd
  clear h
  induction l with
  | nil => cases he
  | cons x r ih =>
    rw [List.map_cons, List.nodup_cons] at this
    rcases List.mem_cons.1 he with k1 | k1 <;> rcases List.mem_cons.1 he' with k2 | k2
    · rw [k1, k2]
    · exact absurd (List.mem_map.2 ⟨e', k2, by rw [← hb, k1]⟩) this.1
    · exact absurd (List.mem_map.2 ⟨e, k1, by rw [hb, k2]⟩) this.1
    · exact ih k1 k2 this.2
/-- the next entry, whichever, or the end -/
theorem r_nextM {k b r clock : Nat} {x : Operand} {l dn : List MapEntry} {L' : MapEntry → Blocks} (hS : StD ds n R a) (hH : Hp w0 S L w) (hs : Sub K L) (hx : ev R x = some (.pointer (some ⟨r, 0, none⟩))) (hb : In b (.map l.toArray clock) L) (hr : In r (.mapIter (some b) clock (borns dn) clock) L) (h : MapL P k l clock) (hd : ∀ e ∈ dn, e ∈ l) (hw : S r ∨ w0.heap.size ≤ r) (hlt : Nat.blt d n = true)
    (hp : ∀ e, Put r (.mapIter (some b) clock (borns dn) clock) (.mapIter (some b) clock (borns (dn ++ [e])) clock) L (L' e)) (hsub : ∀ e, Sub K (L' e))
    (k0 : (∀ e ∈ l, e ∈ dn) → ∀ a', StD ds n (up R d (.tuple #[.bool false])) a' → Sq P ops Q rest a' w)
    (k1 : ∀ e a' w', e ∈ l → e ∉ dn → Hp w0 S (L' e) w' → Mod (· = r) w w' → StD ds n (up R d (.tuple #[.bool true, e.key, e.val])) a' → Sq P ops Q rest a' w') :
    Sq P ops Q ((false, ⟨some d, .next x false, ty, pos, af, none⟩, Kp w0 S K) :: rest) a w := by
  have hpush : ∀ e : MapEntry, (borns dn).push e.born = borns (dn ++ [e]) := fun e => by simp [borns]
  rcases run_next_at (P := P) w ty r b clock clock (borns dn) l.toArray clock (hH.get hr) (hH.get hb) (fun e he => h.old e (by simpa using he)) (Nat.le_refl _) with ⟨h0, hrun⟩ | ⟨e, he, w1, hal, hrun⟩
  · refine Sq.done (v := .tuple #[.bool false]) rfl (by simp [execOp, hS.val hx, hrun]) (hH.kp hs) (k0 (fun e he => ?_) _ (hS.put hlt _))
    have := all_seen l.toArray (borns dn) h0 e (by simpa using he)
    rw [Array.contains_iff_mem] at this
    simp only [borns, List.mem_toArray, List.mem_map] at this
    obtain ⟨y, hy, hyb⟩ := this
    rw [← h.same (hd y hy) he hyb]; exact hy
  · obtain ⟨hem, hes⟩ := mem_left he
    have hem' : e ∈ l := by simpa using hem
    have hnot : e ∉ dn := fun hin => by
      have : (borns dn).contains e.born = true := by
        rw [Array.contains_iff_mem]; simp only [borns, List.mem_toArray, List.mem_map]; exact ⟨e, hin, rfl⟩
      rw [this] at hes; cases hes
    rw [hpush] at hrun
    have hlt2 := lt_of_block (hH.get hr)
    have hH1 : Hp w0 S L w1 := by
      rcases hal with rfl | rfl
      · exact hH
      · exact hH.drew
    have hlt3 : r < w1.heap.size := by rcases hal with rfl | rfl <;> exact hlt2
    have hT : Turned r (.mapIter (some b) clock (borns (dn ++ [e])) clock) w1 (setBlock w1 r (.mapIter (some b) clock (borns (dn ++ [e])) clock)) :=
      ⟨rfl, rfl, rfl, by simp [setBlock], by simp [setBlock, hlt3], fun c hc => by simp [setBlock, Array.getElem?_setIfInBounds_ne (Ne.symm hc)]⟩
    have hH' := hH1.turned (hp e) hT hw
    have hM : Mod (· = r) w (setBlock w1 r (.mapIter (some b) clock (borns (dn ++ [e])) clock)) := by
      have h9 : Mod (· = r) w1 (setBlock w1 r (.mapIter (some b) clock (borns (dn ++ [e])) clock)) := hT.mod
      rcases hal with rfl | rfl
      · exact h9
      · exact ⟨h9.os, h9.tape, h9.output, h9.size, h9.block⟩
    exact Sq.done (v := .tuple #[.bool true, e.key, e.val]) rfl (by simp [execOp, hS.val hx, hrun]) (hH'.kp (hsub e)) (k1 e _ _ hem' hnot hH' hM (hS.put hlt _))
/-- the entry that the step told -/
theorem r_entryM {k b r clock : Nat} {x : Operand} {l dn : List MapEntry} {e : MapEntry} (hS : StD ds n R a) (hH : Hp w0 S L w) (hs : Sub K L) (hx : ev R x = some (.pointer (some ⟨r, 0, none⟩))) (hb : In b (.map l.toArray clock) L) (hr : In r (.mapIter (some b) clock (borns (dn ++ [e])) clock) L) (h : MapL P k l clock) (he : e ∈ l) (hlt : Nat.blt d n = true)
    (kk : ∀ a', StD ds n (up R d (.tuple #[e.key, e.val])) a' → Sq P ops Q rest a' w) :
    Sq P ops Q ((false, ⟨some d, .entry x, ty, pos, af, none⟩, Kp w0 S K) :: rest) a w := by
  have hpush : borns (dn ++ [e]) = (borns dn).push e.born := by simp [borns]
  have hr' := hH.get hr
  rw [hpush] at hr'
  have hrun := run_entry_at (P := P) w r b clock (borns dn) l.toArray clock e hr' (hH.get hb) (by simpa using he) (by simpa using h.nd)
  exact Sq.done (v := .tuple #[e.key, e.val]) rfl (by simp [execOp, hS.val hx, hrun]) (hH.kp hs) (kk _ (hS.put hlt _))
/-- the first entry is struck out -/
theorem r_del1 {L' : Blocks} {t k e b clock : Nat} {x y : Operand} {l : List MapEntry} {z : Value} {p : MapEntry} {lx : Lit} (T : MapTyK P t k e z) (hS : StD ds n R a) (hH : Hp w0 S L w) (hx : ev R x = some (.map (some b))) (hy : ev R y = some p.key) (hi : In b (.map (p :: l).toArray clock) L) (h : MapL P k (p :: l) clock) (hk : keyOf P k p.key = some lx) (hw : S b ∨ w0.heap.size ≤ b) 
    (hp : Put b (.map (p :: l).toArray clock) (.map l.toArray clock) L L') (hsub : Sub K L')
    (kk : ∀ w', MapL P k l clock → Hp w0 S L' w' → Sq P ops Q rest a w') : Sq P ops Q ((false, ⟨none, .call ⟨.builtin .delete, #[x, y], #[t, k]⟩, ty, pos, af, none⟩, Kp w0 S K) :: rest) a w := by
  have hb := hH.get hi
  have hgo : (getObj b).run P w = .ok (.map (p :: l).toArray clock) w := by simp [getObj, Sem.run, hb]
  have hso : ∀ o, (setObj b o).run P w = .ok () { w with heap := w.heap.setIfInBounds b o } := fun o => by simp [setObj, Sem.run, hb]
  have hH' := hH.turned hp (Turned.obj hb) hw
  have hrun : (Builtin.delete_ #[t, k] ty #[.map (some b), p.key]).run P w = .ok (.tuple #[]) { w with heap := w.heap.setIfInBounds b (.map l.toArray clock) } := by
    obtain ⟨j, h1', hj⟩ := h.has T.law (p := p) (by simp) hk w
    have hj0 : j = 0 := by
      cases j with
      | zero => rfl
      | succ j =>
        have hm : p ∈ l := List.mem_of_getElem? (by simpa using hj)
        exact absurd rfl ((List.pairwise_cons.1 h.apart).1 p hm)
    subst hj0
    simp [Builtin.delete_, run_underlying T.und, hgo, T.law.check w _ hk, h1', hso]
  exact Sq.done (v := .tuple #[]) rfl (by simp [execOp, resolve, invoke, builtin, hS.val hx, hS.val hy, hrun]) (hH'.kp hsub) (kk _ h.tail hH')
end
end Go.Sym

/- Lists without doubles; a slice of one's own over worlds; sorted lists. -/
namespace Go.Sym
open Go
open Classical in
theorem nodup_le {α : Type} {dn l : List α} (hn : dn.Nodup) (hs : ∀ e ∈ dn, e ∈ l) : dn.length ≤ l.length := by
  induction dn generalizing l with
  | nil => simp
  | cons x r ih =>
    obtain ⟨h1, h2⟩ := List.nodup_cons.1 hn
    have hx := hs x (by simp)
    have := ih (l := l.erase x) h2 (fun e he => (List.mem_erase_of_ne (fun h => by subst h; exact h1 he)).2 (hs e (List.mem_cons_of_mem _ he)))
    rw [List.length_erase_of_mem hx] at this
    have : 0 < l.length := List.length_pos_of_mem hx
    simp only [List.length_cons]; omega
open Classical in
theorem perm_of {α : Type} {dn l : List α} (hn : dn.Nodup) (hl : l.Nodup) (h1 : ∀ e ∈ dn, e ∈ l) (h2 : ∀ e ∈ l, e ∈ dn) : dn.Perm l := by
  induction dn generalizing l with
  | nil =>
    cases l with
    | nil => exact .nil
    | cons x r => exact absurd (h2 x (by simp)) (by simp)
  | cons x r ih =>
    obtain ⟨h3, h4⟩ := List.nodup_cons.1 hn
    have hx := h1 x (by simp)
    refine ((ih (l := l.erase x) h4 (hl.erase x) (fun e he => (List.mem_erase_of_ne (fun h => by subst h; exact h3 he)).2 (h1 e (List.mem_cons_of_mem _ he))) (fun e he => ?_)).cons x).trans (List.perm_cons_erase hx).symm
    have hne : e ≠ x := fun h => by subst h; exact (hl.not_mem_erase) he
    rcases List.mem_cons.1 (h2 e (List.mem_of_mem_erase he)) with h | h
    · exact absurd h hne
    · exact h
/-- a list that is the other one in another order, sorted, is the other one, where that one rises -/
theorem sorted_eq {xs ys : List Int} (hp : xs.Perm ys) (hy : ys.Pairwise (· < ·)) : (xs.mergeSort fun x y => decide (x ≤ y)) = ys := by
  have h1 : (xs.mergeSort fun x y => decide (x ≤ y)).Pairwise (fun x y => x ≤ y) := by
    have := List.pairwise_mergeSort (le := fun x y : Int => decide (x ≤ y)) (by intro a b c; simp; omega) (by intro a b; simp; omega) xs
    simpa using this
  exact ((List.mergeSort_perm xs _).trans hp).eq_of_pairwise (fun a b _ _ h h' => by omega) h1 (hy.imp (fun h => by omega))
theorem MapL.nodup {P : Program} {k : TypeId} {l : List MapEntry} {clock : Nat} (h : MapL P k l clock) : l.Nodup := h.apart.imp (fun hne e => hne (by rw [e]))
theorem KO.go {S F : Nat → Prop} {w0 w w' : World} {L : Blocks} {es e m : Nat} {v : Value} {xs : List Value} (h : KO S w0 L es e w v m xs) (hM : Mod F w w') (hF : ∀ b, F b → ∃ p ∈ L, p.1 = b) : KO S w0 L es e w' v m xs := by
  rcases h with h | ⟨b, cap, l, h1, h2, h3, h4, h5⟩
  · exact .inl h
  · refine .inr ⟨b, cap, l, h1, h2, h3, ?_, h5⟩
    rw [hM.block b (lt_of_block h4) (fun hb => by obtain ⟨p, hp, e⟩ := hF b hb; exact h3 p hp e)]; exact h4
theorem KO.list {S : Nat → Prop} {w0 w : World} {L L' : Blocks} {es e m : Nat} {v : Value} {xs : List Value} (h : KO S w0 L es e w v m xs) (hs : ∀ p ∈ L', (∃ q ∈ L, q.1 = p.1) ∨ w.heap.size ≤ p.1) : KO S w0 L' es e w v m xs := by
  rcases h with h | ⟨b, cap, l, h1, h2, h3, h4, h5⟩
  · exact .inl h
  · refine .inr ⟨b, cap, l, h1, h2, fun p hp hb => ?_, h4, h5⟩
    rcases hs p hp with ⟨q, hq, e⟩ | h
    · exact h3 q hq (e.trans hb)
    · have := lt_of_block h4; omega
theorem src_int {P : Program} {w : World} {b : Nat} {T : TypeId} {x : Int} (h : w.heap[b]? = some (.cells ([.int .i64 x] : List Value).toArray T (0, 0))) : Src P 1 w (.slice (some ⟨b, 0, none⟩) 1 1) 1 [.int .i64 x] :=
  (Sl.of_block (es := 1) (m := 1) (cap := 1) h (by simp) (Nat.le_refl _)).src (by intro u hu; simp only [Nat.mul_one, List.take_succ_cons, List.take_zero, List.mem_cons, List.not_mem_nil, or_false] at hu; rcases hu with rfl; rfl)
theorem Hp.own {w0 w w1 : World} {S F : Nat → Prop} {L : Blocks} (h : Hp w0 S L w) (hM : Mod F w w1) (hF : ∀ p ∈ L, ¬ F p.1) (hS : ∀ x, F x → S x ∨ w0.heap.size ≤ x) : Hp w0 S L w1 :=
  ⟨fun p hp => hM.heap_some (h.blk p hp) (hF p hp), h.nd, h.mod.trans hM (fun c hc hf => (hS c hf).resolve_right (by omega))⟩
/-- the places where pieces begin, rising, in a slice -/
def ISl (w0 w : World) (e3 : TypeId) (v : Value) (ks : List Int) : Prop :=
  (v = .slice none 0 0 ∧ ks = []) ∨ ∃ (b cap : Nat) (row : List Value), v = .slice (some ⟨b, 0, none⟩) ks.length cap ∧ w0.heap.size ≤ b ∧ w.heap[b]? = some (.cells row.toArray e3 (0, 0)) ∧ row.length = cap ∧ ks.length ≤ cap ∧ row.take ks.length = icells ks
theorem KO.isl {w0 w : World} {L : Blocks} {e3 : TypeId} {v : Value} {ks : List Int} (h : KO Nobody w0 L 1 e3 w v ks.length (icells ks)) : ISl w0 w e3 v ks := by
  rcases h with ⟨h1, h2, _⟩ | ⟨b, cap, l, h1, h2, _, h4, h5, h6, h7⟩
  · exact .inl ⟨h1, List.eq_nil_of_length_eq_zero h2⟩
  · exact .inr ⟨b, cap, l, h1, h2.resolve_left (fun h => h), h4, by omega, h6, by simpa using h7⟩
section
variable {P : Program} {ops : Array Oper} {Q : Exit → Act → World → Prop} {rest : List Item} {a : Act} {w w0 : World} {n : Nat} {R : Rg} {ds : List Deferred} {S : Nat → Prop} {L K : Blocks}
variable {f : Bool} {d : Nat} {ty : TypeId} {pos : String} {af : Array Edge}
/-- a slice built: the world grows by it alone -/
theorem r_buildSliceW {t e es len : Nat} {parts : List (Nat × Operand)} {vs zs cs : List Value} (hS : StD ds n R a) (hH : Hp w0 S L w) (hs : Sub K L) (hv : evs R (parts.map (·.2)) = some vs) (hz : bslB P t len = some (e, es, zs)) (hf : bldA (fun i => some (i * es, es)) zs 0 ((parts.map (·.1)).zip vs) = some cs) (hlt : Nat.blt d n = true)
    (k : ∀ a' w' b, w0.heap.size ≤ b → w.heap.size ≤ b → Ext w w' → StD ds n (up R d (.slice (some ⟨b, 0, none⟩) len len)) a' → Hp w0 S ((b, .cells cs.toArray e (0, 0)) :: L) w' → Sq P ops Q rest a' w') :
    Sq P ops Q ((false, ⟨some d, .buildSlice t len parts.toArray, ty, pos, af, none⟩, Kp w0 S K) :: rest) a w := by
  have h := hS.vals hv
  have e1 : (parts.map fun x => match x with | (i, x) => (i, a.eval x)) = (parts.map (·.1)).zip vs := by
    rw [← h, List.map_map]
    clear h hv hf k
    induction parts with
    | nil => rfl
    | cons p r ih => simp [ih]
  unfold bslB at hz
  split at hz
  · rename_i e' hu
    split at hz
    · rename_i i hi
      split at hz
      · rename_i z hzz
        split at hz
        · rename_i hc
          obtain ⟨c1, c2, c3⟩ := hc
          simp only [Option.some.injEq, Prod.mk.injEq] at hz
          obtain ⟨rfl, rfl, rfl⟩ := hz
          have hfill := fill_of _ _ _ _ (bldA_fill0 hf)
          have hH' := hH.alloc (.cells cs.toArray e' (0, 0))
          refine Sq.done (w' := w.alloc (.cells cs.toArray e' (0, 0))) (v := .slice (some ⟨w.heap.size, 0, none⟩) len len) rfl ?_ ⟨fun p hp => hH'.blk p (List.mem_cons_of_mem _ (hs.mem p hp)), hH'.mod⟩ (k _ _ w.heap.size hH.mod.size (Nat.le_refl _) (Ext.alloc _ _) (hS.put hlt _) hH')
          have c2' : ¬ len * i.size = 0 := by omega
          have c3' : ¬ len * i.size > 2 ^ 24 := by omega
          simp only [execOp, List.map_toArray, Sem.run_bind]
          rw [e1]
          simp only [Instr.buildSlice, Sem.run_bind, run_underlying hu, Result.andThen_ok, sizeOf, typeInfo, run_program, hi, Sem.run_pure, c3', c2', if_false, zeroValue, hzz]
          have e2 : (Array.range (len * i.size)).map (fun x => z.cells[x % z.cells.size]!) = (((Array.range (len * i.size)).toList.map fun j => z.cells[j % z.cells.size]!)).toArray := by
            apply Array.ext'; simp
          rw [e2, hfill]
          simp [newRow]
        · cases hz
      · cases hz
    · cases hz
  · cases hz
end
end Go.Sym

/- The pieces of an inbox: one behind the other. -/
namespace Go.Sym
open Go
/-- entries whose pieces lie one behind the other, from p up to s -/
inductive Chain (F : Nat → Prop) (w : World) (text : List UInt8) : List MapEntry → Nat → Nat → Prop
  | nil {s : Nat} : Chain F w text [] s s
  | cons {p k ba bo qc bn s : Nat} {l : List MapEntry} (h1 : 1 ≤ k) (h2 : p + k ≤ text.length) (hb : BsF F w (.slice (some ⟨ba, bo, none⟩) k qc) ((text.drop p).take k)) (h : Chain F w text l (p + k) s) :
      Chain F w text (⟨.int .i64 (p : Int), .slice (some ⟨ba, bo, none⟩) k qc, bn⟩ :: l) p s
def kz (e : MapEntry) : Int := match e.key with | .int _ x => x | _ => 0
variable {F F' : Nat → Prop} {w w' : World} {text : List UInt8} {l : List MapEntry} {p s : Nat}
theorem Chain.le (h : Chain F w text l p s) : p ≤ s := by
  induction h with
  | nil => exact Nat.le_refl _
  | cons h1 _ _ _ ih => omega
theorem Chain.go (h : Chain F w text l p s) (k : Mod F w w') (hF : ∀ x, F' x → F x ∨ w.heap.size ≤ x) : Chain F' w' text l p s := by
  induction h with
  | nil => exact .nil
  | cons h1 h2 hb _ ih => exact .cons h1 h2 (hb.go k hF) ih
theorem Chain.key (h : Chain F w text l p s) : ∀ e ∈ l, e.key = .int .i64 (kz e) ∧ (p : Int) ≤ kz e ∧ kz e < (s : Int) := by
  induction h with
  | nil => simp
  | cons h1 h2 hb h ih =>
    intro e he
    have hle := h.le
    rcases List.mem_cons.1 he with rfl | he
    · exact ⟨rfl, Int.le_refl _, by simp only [kz]; omega⟩
    · obtain ⟨k1, k2, k3⟩ := ih e he
      exact ⟨k1, by omega, k3⟩
theorem Chain.rising (h : Chain F w text l p s) : (l.map kz).Pairwise (· < ·) := by
  induction h with
  | nil => simp
  | cons h1 h2 hb h ih =>
    rw [List.map_cons, List.pairwise_cons]
    refine ⟨fun x hx => ?_, ih⟩
    obtain ⟨e, he, rfl⟩ := List.mem_map.1 hx
    have := (h.key e he).2.1
    simp only [kz] at this ⊢; omega
theorem Chain.fresh (h : Chain F w text l p s) : ∀ e ∈ l, e.key ≠ .int .i64 (s : Int) := fun e he hk => by
  obtain ⟨k1, _, k3⟩ := h.key e he
  rw [k1] at hk
  simp only [Value.int.injEq, true_and] at hk
  omega
theorem Chain.push (h : Chain F w text l p s) {k ba bo qc bn : Nat} (h1 : 1 ≤ k) (h2 : s + k ≤ text.length) (hb : BsF F w (.slice (some ⟨ba, bo, none⟩) k qc) ((text.drop s).take k)) :
    Chain F w text (l ++ [⟨.int .i64 (s : Int), .slice (some ⟨ba, bo, none⟩) k qc, bn⟩]) p (s + k) := by
  induction h with
  | nil => exact .cons h1 h2 hb .nil
  | cons k1 k2 kb _ ih => exact .cons k1 k2 kb (ih h2 hb)
theorem Chain.len (h : Chain F w text l p s) : l.length + p ≤ s := by
  induction h with
  | nil => simp
  | cons h1 _ _ _ ih => simp only [List.length_cons]; omega
theorem Chain.inv (h : Chain F w text l p s) : (l = [] ∧ p = s) ∨ ∃ k ba bo qc bn l2, l = (⟨.int .i64 (p : Int), .slice (some ⟨ba, bo, none⟩) k qc, bn⟩ : MapEntry) :: l2 ∧ 1 ≤ k ∧ p + k ≤ text.length ∧ BsF F w (.slice (some ⟨ba, bo, none⟩) k qc) ((text.drop p).take k) ∧ Chain F w text l2 (p + k) s := by
  cases h with
  | nil => exact .inl ⟨rfl, rfl⟩
  | cons h1 h2 hb h => exact .inr ⟨_, _, _, _, _, _, rfl, h1, h2, hb, h⟩
theorem Chain.inv3 (h : Chain F w text l p s) (q : Nat) : (l = [] ∧ p = s) ∨ (q ≤ p ∧ ∃ k ba bo qc bn l2, l = (⟨.int .i64 (p : Int), .slice (some ⟨ba, bo, none⟩) k qc, bn⟩ : MapEntry) :: l2 ∧ 1 ≤ k ∧ p + k ≤ text.length ∧ BsF F w (.slice (some ⟨ba, bo, none⟩) k qc) ((text.drop p).take k) ∧ Chain F w text l2 (p + k) s) ∨ (p < q ∧ ∃ k ba bo qc bn l2, l = (⟨.int .i64 (p : Int), .slice (some ⟨ba, bo, none⟩) k qc, bn⟩ : MapEntry) :: l2 ∧ 1 ≤ k ∧ p + k ≤ text.length ∧ BsF F w (.slice (some ⟨ba, bo, none⟩) k qc) ((text.drop p).take k) ∧ Chain F w text l2 (p + k) s) := by
  rcases h.inv with h | h
  · exact .inl h
  · rcases Nat.lt_or_ge p q with h9 | h9
    · exact .inr (.inr ⟨h9, h⟩)
    · exact .inr (.inl ⟨h9, h⟩)
theorem take_more {α : Type} (t : List α) {a p k : Nat} (h : a ≤ p) : (t.drop a).take (p + k - a) = (t.drop a).take (p - a) ++ (t.drop p).take k := by
  rw [show p + k - a = (p - a) + k from by omega, List.take_add, List.drop_drop, show a + (p - a) = p from by omega]
theorem KO.shape {S : Nat → Prop} {w0 : World} {L : Blocks} {es e m : Nat} {v : Value} {xs : List Value} (h : KO S w0 L es e w v m xs) : ∃ q cap, v = .slice q m cap := by
  rcases h with ⟨rfl, rfl, _⟩ | ⟨b, cap, l, rfl, _⟩
  · exact ⟨_, _, rfl⟩
  · exact ⟨_, _, rfl⟩
end Go.Sym

/- Rows of numbers; pieces of pieces. -/
namespace Go.Sym
open Go
theorem icells_nth {row : List Value} {ks : List Int} (h : row.take ks.length = icells ks) {j : Nat} {x : Int} (hx : ks[j]? = some x) : nthV row j = some (.int .i64 x) := by
  have hj : j < ks.length := (List.getElem?_eq_some_iff.1 hx).1
  rw [nthV_eq]
  have := congrArg (·[j]?) h
  simp only [List.getElem?_take, if_pos hj, icells, List.getElem?_map, hx, Option.map_some] at this
  exact this
theorem cut_cut {α : Type} (t : List α) {o m s : Nat} (h1 : o ≤ s) (h2 : s ≤ o + m) : (((t.drop o).take m).drop (s - o)).take (o + m - s) = (t.drop s).take (o + m - s) := by
  rw [List.drop_take, List.drop_drop, List.take_take, show o + (s - o) = s from by omega, show min (o + m - s) (m - (s - o)) = o + m - s from by omega]
theorem Hp.updN {w0 w w' : World} {S : Nat → Prop} {L L' : Blocks} {b c : Nat} {o o' oc : Obj} (h : Hp w0 S L w) (hp : Put b o o' L L') (hm : Mod (· = b) w w') (hb : w'.heap[b]? = some o') (hS : S b ∨ w0.heap.size ≤ b) (hc : w.heap.size ≤ c) (hk : w'.heap[c]? = some oc) : Hp w0 S ((c, oc) :: L') w' :=
  (h.upd hp hm hb hS).know hk (fun p hp' e => by
    have h1 : p.1 ∈ L'.map Prod.fst := List.mem_map.2 ⟨p, hp', rfl⟩
    rw [hp.keys] at h1
    obtain ⟨q, hq, e2⟩ := List.mem_map.1 h1
    have := h.lt q hq
    omega)
end Go.Sym

/- A piece of any slice of bytes; nothing appended to nothing. -/
namespace Go.Sym
open Go
section
variable {P : Program} {ops : Array Oper} {Q : Exit → Act → World → Prop} {rest : List Item} {a : Act} {w w0 : World} {n : Nat} {R : Rg} {ds : List Deferred} {S : Nat → Prop} {L K : Blocks}
variable {f : Bool} {d : Nat} {ty : TypeId} {pos : String} {af : Array Edge}
theorem r_slP {t m cap ll hh : Nat} {q : Option Addr} {x y z : Operand} {kk kk' : IntKind} {i j : Int} (hS : StD ds n R a) (hSw : Sf f (Kp w0 S K) w) (hx : ev R x = some (.slice q m cap)) (hy : ev R y = some (.int kk i)) (hz : ev R z = some (.int kk' j)) (ht : slB P t = some 1) (hi : i = ll) (hj : j = hh) (hle : ll ≤ hh) (hle2 : hh ≤ m) (hmc : m ≤ cap) (hq : q = none → cap = 0) (hlt : Nat.blt d n = true)
    (k : ∀ a' v', (∀ w l, Bs w (.slice q m cap) l → Bs w v' ((l.drop ll).take (hh - ll))) → StD ds n (up R d v') a' → Sq P ops Q rest a' w) : Sq P ops Q ((f, ⟨some d, .slice t x (some y) (some z) none, ty, pos, af, none⟩, Kp w0 S K) :: rest) a w := by
  cases q with
  | none =>
    have hc := hq rfl
    subst hc
    have hm : m = 0 := by omega
    have h1 : hh = 0 := by omega
    have h2 : ll = 0 := by omega
    subst hm h1 h2 hi hj
    refine r_slLoHiN hS hSw hx hy hz ht hlt fun a' h => k a' _ (fun w l hb => ?_) h
    have hl : l = [] := by
      obtain ⟨p, cap, hs⟩ := hb
      have hv := hs.val
      injection hv with e1 e2 e3
      exact List.eq_nil_of_length_eq_zero e2.symm
    subst hl
    simpa using Bs.nil w
  | some A =>
    obtain ⟨e, i', hu, hi', hes⟩ := slB_parts ht
    have hle3 : hh ≤ cap := by omega
    subst hi hj
    refine r_pure (v := .slice (some (if cap = ll then A else A.add (ll * 1))) (hh - ll) (cap - ll)) hS hSw hlt (fun w => ?_) (fun a' h => k a' _ (fun w l hb => ?_) h)
    · simp [execOp, hS.val hx, hS.val hy, hS.val hz, Instr.sliceAt, Instr.slice, run_underlying hu, Instr.sliceBounds, Instr.sliceBound, asIntOf, hle, hle3, sizeOf, typeInfo, hi', ← hes]
      split <;> rfl
    · obtain ⟨p, c2, hs⟩ := hb
      have hv := hs.val
      injection hv with e1 e2 e3
      subst e1 e2 e3
      have hlen : ((l.drop ll).take (hh - ll)).length = hh - ll := by rw [List.length_take, List.length_drop]; omega
      refine ⟨_, _, by rw [hlen], by simp, by rw [hlen]; omega, fun i u hu => ?_, fun h => by cases h⟩
      have hi : i < hh - ll := by
        have := (List.getElem?_eq_some_iff.1 hu).1
        simp at this; omega
      rw [if_neg (by omega)]
      have hu2 : (l.map byteV)[ll + i]? = some u := by
        rw [List.getElem?_map, List.getElem?_take, if_pos hi, List.getElem?_drop] at hu
        rw [List.getElem?_map]; exact hu
      obtain ⟨b, o, e, hc⟩ := hs.cells _ u hu2
      cases e
      refine ⟨_, _, congrArg some add_eq, ?_⟩
      rw [Nat.mul_one, Nat.add_assoc]
      exact hc
theorem r_append_K0 {t t2 e es by' : Nat} {x y : Operand} {vy : Value} (hS : StD ds n R a) (hK : Kp w0 S K w) (hx : ev R x = some (.slice none 0 0)) (hy : ev R y = some vy)
    (he : elB P t = some (e, es, by')) (h2 : notInt P t2 = true) (hsrc : Src P es w vy 0 []) (hlt : Nat.blt d n = true)
    (kk : ∀ (a' : Act), StD ds n (up R d (.slice none 0 0)) a' → Sq P ops Q rest a' w) :
    Sq P ops Q ((false, ⟨some d, .call ⟨.builtin .append, #[x, y], #[t, t2]⟩, ty, pos, af, none⟩, Kp w0 S K) :: rest) a w := by
  have hr : (Builtin.append_ #[t, t2] ty #[.slice none 0 0, vy]).run P w = .ok (.slice none 0 0) w := by
    obtain ⟨i, z, hu, hi, hz, rfl, rfl, hzs, hby⟩ := elB_parts he
    unfold notInt at h2
    split at h2
    · cases h2
    · rename_i u2 hn hu2
      have hz2 : (u2 matches .int _) = false := by cases u2 <;> simp_all
      simp only [Builtin.append_, List.getElem?_toArray, List.getElem?_cons_zero, List.getElem?_cons_succ, Sem.run_bind, run_underlying hu, Result.andThen_ok, sizeOf, typeInfo, run_program, hi, Sem.run_pure, run_underlying hu2]
      simp only [Bool.false_eq_true, if_false, hsrc.len w rfl, Result.andThen_ok, Nat.zero_add, Nat.le_refl, if_true, Bool.not_false, hsrc.cells w rfl, Sem.run_pure, Sem.run_bind]
    · cases h2
  exact Sq.done rfl (run_append_op hS hx hy hr) hK (kk _ (hS.put hlt _))
end
end Go.Sym
