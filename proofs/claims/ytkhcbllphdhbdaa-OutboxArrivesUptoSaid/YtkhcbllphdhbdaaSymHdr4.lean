/- Rules of symbolic execution over any program of the model, that the claims of this folder use; part SymHdr4. Conditions: those that each rule names. -/
import Derived.Test.YtkhcbllphdhbdaaSymHdr3
namespace Go.Sym
open Go
section
variable {P : Program} {ops : Array Oper} {Q : Exit → Act → World → Prop} {rest : List Item} {a : Act} {w w0 : World} {n : Nat} {R : Rg} {ds : List Deferred} {S : Nat → Prop} {L K : Blocks}
variable {d : Nat} {ty : TypeId} {pos : String} {af : Array Edge}
/-- append to a slice of the call's own, whose block lies behind all known ones -/
theorem r_append_OB {B : Nat} {t t2 e es by' m k : Nat} {x y : Operand} {v vy : Value} {xs new : List Value} (hS : StD ds n R a) (hH : Hp w0 S L w) (hs : Sub K L) (hx : ev R x = some v) (hy : ev R y = some vy) (hO : Own B es e w v m xs) (hLB : ∀ p ∈ L, p.1 < B) (hB : w0.heap.size ≤ B) (hBw : B ≤ w.heap.size)
    (he : elB P t = some (e, es, by')) (h2 : notInt P t2 = true) (hsrc : Src P es w vy k new) (hk : 0 < k) (hbytes : (m + k) * by' ≤ 140737488355328) (hlt : Nat.blt d n = true)
    (kk : ∀ (a' : Act) (w' : World) (v' : Value), Own B es e w' v' (m + k) (xs ++ new) → Mod (B ≤ ·) w w' → StD ds n (up R d v') a' → Hp w0 S L w' → Sq P ops Q rest a' w') :
    Sq P ops Q ((false, ⟨some d, .call ⟨.builtin .append, #[x, y], #[t, t2]⟩, ty, pos, af, none⟩, Kp w0 S K) :: rest) a w := by
  rcases hO with ⟨rfl, rfl, rfl⟩ | ⟨b, cap, l, rfl, hBb, hb, hl, hm, rfl⟩
  · have hold : Sl es w (.slice none 0 0) [] 0 none 0 := ⟨rfl, by simp, Nat.le_refl _, fun i u h => by simp at h, fun _ => rfl⟩
    obtain ⟨c, zs, hr, hc, hlen⟩ := run_append_grow' (P := P) (ty := ty) he h2 hsrc hold (by omega) hbytes
    have hHd := (hH.drew).alloc (.cells ([] ++ new ++ zs).toArray e (0, 0))
    refine Sq.done rfl (run_append_op hS hx hy hr) ((hHd.del .here).kp hs) (kk _ _ _ (.inr ⟨w.heap.size, c, _, rfl, hBw, hHd.get .here, hlen, hc, ?_⟩) (((Ext.drew w).trans (Ext.alloc w.drew _)).mono (fun _ h => h.elim)) (hS.put hlt _) (hHd.del .here))
    have : ([] ++ new : List Value).length = (0 + k) * es := by simp [hsrc.size]
    rw [← this, List.take_left]
  · obtain ⟨w', b', c, l2, hr, hmod, hb', hhb, hl2, hc, htk⟩ := run_append_blk (P := P) (ty := ty) he h2 hb hl hm hsrc hbytes
    have hH' : Hp w0 S L w' := ⟨fun p hp => hmod.heap_some (hH.blk p hp) (fun e => by have := hLB p hp; omega), hH.nd, hH.mod.trans hmod (fun c hc hcb => by subst hcb; omega)⟩
    refine Sq.done rfl (run_append_op hS hx hy hr) (hH'.kp hs) (kk _ w' _ (.inr ⟨b', c, l2, rfl, ?_, hhb, hl2, hc, htk⟩) (hmod.mono (fun c hc => by subst hc; exact hBb)) (hS.put hlt _) hH')
    rcases hb' with rfl | h
    · exact hBb
    · exact Nat.le_trans hBw h
end
section
variable {P : Program} {ops : Array Oper} {Q : Exit → Act → World → Prop} {rest : List Item} {a : Act} {w w0 : World} {n : Nat} {R : Rg} {ds : List Deferred} {S : Nat → Prop} {L K : Blocks}
variable {d : Nat} {ty : TypeId} {pos : String} {af : Array Edge}
/-- append to a slice of the call's own: the block stays, or a new one comes -/
theorem r_append_own2 {t t2 e es by' : Nat} {x y : Operand} {b m cap k : Nat} {vy : Value} {l new : List Value} {L' : Blocks} (hS : StD ds n R a) (hH : Hp w0 S L w) (hx : ev R x = some (.slice (some ⟨b, 0, none⟩) m cap)) (hy : ev R y = some vy)
    (hi : Del b (.cells l.toArray e (0, 0)) L L') (hs : Sub K L') (he : elB P t = some (e, es, by')) (h2 : notInt P t2 = true) (hl : l.length = cap * es) (hm : m ≤ cap) (hsrc : Src P es w vy k new) (hbytes : (m + k) * by' ≤ 140737488355328) (hw : w0.heap.size ≤ b) (hlt : Nat.blt d n = true)
    (kk : ∀ (a' : Act) (w' : World) (b' c : Nat) (l2 : List Value), w0.heap.size ≤ b' → l2.length = c * es → m + k ≤ c → l2.take ((m + k) * es) = l.take (m * es) ++ new → Mod (· = b) w w' → StD ds n (up R d (.slice (some ⟨b', 0, none⟩) (m + k) c)) a' → Hp w0 S ((b', .cells l2.toArray e (0, 0)) :: L') w' → Sq P ops Q rest a' w') :
    Sq P ops Q ((false, ⟨some d, .call ⟨.builtin .append, #[x, y], #[t, t2]⟩, ty, pos, af, none⟩, Kp w0 S K) :: rest) a w := by
  have hb := hH.blk _ hi.old
  have hH' := hH.del hi
  have hne := hi.ne hH.nd
  obtain ⟨w', b', c, l2, hr, hmod, hb', hhb, hl2, hc, htk⟩ := run_append_blk (P := P) (ty := ty) he h2 hb hl hm hsrc hbytes
  have hne' : ∀ p ∈ L', p.1 ≠ b' := fun p hp => by
    rcases hb' with rfl | h
    · exact hne p hp
    · have := lt_of_block (hH'.blk p hp); omega
  have hHw : Hp w0 S ((b', .cells l2.toArray e (0, 0)) :: L') w' := by
    refine ⟨fun p hp => ?_, by simp only [List.map_cons, List.nodup_cons]; exact ⟨fun hm => by obtain ⟨p, hp, e⟩ := List.mem_map.1 hm; exact hne' p hp e, hH'.nd⟩, hH.mod.trans hmod (fun c hc hcb => by subst hcb; omega)⟩
    rcases List.mem_cons.1 hp with rfl | hp
    · exact hhb
    · exact hmod.heap_some (hH'.blk p hp) (hne p hp)
  have hw' : w0.heap.size ≤ b' := by
    rcases hb' with rfl | h
    · exact hw
    · exact Nat.le_trans hH.mod.size h
  exact Sq.done rfl (run_append_op hS hx hy hr) ⟨fun p hp => hHw.blk p (List.mem_cons_of_mem _ (hs.mem p hp)), hHw.mod⟩ (kk _ w' b' c l2 hw' hl2 hc htk hmod (hS.put hlt _) hHw)
end
theorem Own.up {B es m : Nat} {e : TypeId} {w w' : World} {v : Value} {xs : List Value} {F : Nat → Prop} (h : Own B es e w v m xs) (k : Mod F w w') (hF : ∀ x, F x → x < B) : Own B es e w' v m xs := by
  rcases h with h | ⟨b, cap, l, h1, h2, hb, h3⟩
  · exact .inl h
  · exact .inr ⟨b, cap, l, h1, h2, k.heap_some hb (fun e => by have := hF _ e; omega), h3⟩
theorem Own.mono' {B B' es m : Nat} {e : TypeId} {w : World} {v : Value} {xs : List Value} (h : Own B es e w v m xs) (hb : B' ≤ B) : Own B' es e w v m xs := by
  rcases h with h | ⟨b, cap, l, h1, h2, h3⟩
  · exact .inl h
  · exact .inr ⟨b, cap, l, h1, Nat.le_trans hb h2, h3⟩
/-! ### what stands behind a long header's identifiers -/
def z16 : List UInt8 := [0, 0, 0, 0, 0, 0, 0, 0, 0, 0, 0, 0, 0, 0, 0, 0]
structure Lr where
  kind : Int
  token : List UInt8
  len : Nat
  list : List Int
  tag : List UInt8
  c : Cu
def words (l : List UInt8) (p k : Nat) : List Int := (List.range k).map (fun j => ((beN ((l.drop (p + 4 * j)).take 4) : Nat) : Int))
def tailC (l : List UInt8) (kd : Int) (tok : List UInt8) (c : Cu) : Lr := ⟨kd, tok, (longC l c).1, [], z16, okC (longC l c).2 (decide ((l.length : Int) - (longC l c).2.p ≥ (longC l c).1)) 10⟩
def initC (l : List UInt8) (c : Cu) : Lr :=
  if (okC (longC l c).2 (decide (((longC l c).1 : Int) ≤ 512)) 11).bad = 0 then tailC l 0 (bytesC l (longC l c).1 (okC (longC l c).2 (decide (((longC l c).1 : Int) ≤ 512)) 11)).1 (bytesC l (longC l c).1 (okC (longC l c).2 (decide (((longC l c).1 : Int) ≤ 512)) 11)).2
  else tailC l 0 [] (okC (longC l c).2 (decide (((longC l c).1 : Int) ≤ 512)) 11)
def retryC2 (l : List UInt8) (tok : List UInt8) (c4 : Cu) : Lr := ⟨3, tok, 0, [], if (bytesC l 16 c4).1.length = 16 then (bytesC l 16 c4).1 else z16, (bytesC l 16 c4).2⟩
def okTok (tok : List UInt8) : Bool := decide (0 < tok.length) && decide (tok.length ≤ 512)
def retryC (l : List UInt8) (c : Cu) : Lr :=
  if (okC c (decide ((l.length : Int) - c.p ≥ 16)) 10).bad = 0 then retryC2 l (bytesC l (l.length - c.p - 16) (okC c (decide ((l.length : Int) - c.p ≥ 16)) 10)).1 (okC (bytesC l (l.length - c.p - 16) (okC c (decide ((l.length : Int) - c.p ≥ 16)) 10)).2 (okTok (bytesC l (l.length - c.p - 16) (okC c (decide ((l.length : Int) - c.p ≥ 16)) 10)).1) 11)
  else ⟨3, [], 0, [], z16, okC c (decide ((l.length : Int) - c.p ≥ 16)) 10⟩
def knownC (l : List UInt8) (x0 : Nat) (c : Cu) : Lr :=
  if x0 / 16 % 4 = 3 then retryC l (okC c (x0.testBit 6) 11) else if x0 / 16 % 4 = 0 then initC l (okC c (x0.testBit 6) 11) else tailC l ((x0 / 16 % 4 : Nat) : Int) [] (okC c (x0.testBit 6) 11)
def okVers (l : List UInt8) (p : Nat) : Bool := decide (0 < l.length - p) && decide ((l.length - p) % 4 = 0)
def versC (l : List UInt8) (c : Cu) : Lr :=
  if (okC c (okVers l c.p) 11).bad = 0 then ⟨4, [], 0, words l c.p ((l.length - c.p) / 4), z16, ⟨l.length, 0⟩⟩ else ⟨4, [], 0, [], z16, okC c (okVers l c.p) 11⟩
def hlongC (l : List UInt8) (x0 : Nat) (ve : Int) (c : Cu) : Lr :=
  if c.bad = 0 then (if ve = 0 then versC l c else if ve = 1 then knownC l x0 c else ⟨6, [], 0, [], z16, c⟩) else ⟨0, [], 0, [], z16, c⟩
theorem words_succ (l : List UInt8) (p k : Nat) : words l p (k + 1) = words l p k ++ [((beN ((l.drop (p + 4 * k)).take 4) : Nat) : Int)] := by
  simp [words, List.range_succ]
/-- bytes that were read: none behind an error, else in a block of their own -/
def GotB (B : Nat) (T : TypeId) (w : World) (r : Value) (u : List UInt8) (c : Cu) : Prop := (c.bad ≠ 0 ∧ r = .slice none 0 0 ∧ u = []) ∨ (c.bad = 0 ∧ ∃ (rb cap : Nat) (l2 : List Value), r = .slice (some ⟨rb, 0, none⟩) u.length cap ∧ B ≤ rb ∧ w.heap[rb]? = some (.cells l2.toArray T (0, 0)) ∧ u.length ≤ cap ∧ l2.length = cap ∧ l2.take u.length = u.map byteV)
theorem GotB.mono {B B' : Nat} {T : TypeId} {w : World} {r : Value} {u : List UInt8} {c : Cu} (h : GotB B T w r u c) (k : B' ≤ B) : GotB B' T w r u c := by
  rcases h with h | ⟨h, rb, cap, l2, h1, h2, h3⟩
  · exact .inl h
  · exact .inr ⟨h, rb, cap, l2, h1, Nat.le_trans k h2, h3⟩
theorem GotB.bs {B : Nat} {T : TypeId} {w : World} {r : Value} {u : List UInt8} {c : Cu} (h : GotB B T w r u c) : Bs w r u := by
  rcases h with ⟨_, rfl, rfl⟩ | ⟨_, rb, cap, l2, rfl, _, h3, h4, h5, h6⟩
  · exact Bs.nil w
  · exact (BsF.row (F := Nobody) h3 (fun h => h) (by omega) h4 (by rw [Nat.mul_one]; exact h6) rfl).bs
theorem Hp.bound {w0 w : World} {S : Nat → Prop} {L : Blocks} (h : Hp w0 S L w) : ∃ B, w.heap.size = B ∧ (∀ p ∈ L, p.1 < B) ∧ w0.heap.size ≤ B := ⟨_, rfl, fun p hp => lt_of_block (h.blk p hp), h.mod.size⟩
theorem src_one {P : Program} {w : World} {b : Nat} {u : Value} {T : TypeId} {fz : Nat × Nat} (hb : w.heap[b]? = some (.cells [u].toArray T fz)) (h1 : u.oneCell' = true) : Src P 1 w (.slice (some ⟨b, 0, none⟩) 1 1) 1 [u] := by
  have := Sl.of_block (es := 1) (m := 1) (cap := 1) hb (by simp) (Nat.le_refl _)
  exact Sl.src (by simpa using this) (by intro v hv; rw [List.mem_singleton.1 hv]; exact h1)
theorem Own.one {B es m : Nat} {e : TypeId} {w : World} {v : Value} {xs : List Value} (h : Own B es e w v m xs) : v.oneCell' = true := by
  rcases h with ⟨rfl, _, _⟩ | ⟨b, cap, l, rfl, _⟩ <;> rfl
theorem ok_true {p : Nat} {b e : Int} {is : Bool} (h : (okC ⟨p, b⟩ is e).bad = 0) (he : e ≠ 0) : b = 0 ∧ is = true := by
  by_cases hb : b = 0
  · cases is
    · rw [okC_no hb rfl] at h; exact absurd h he
    · exact ⟨hb, rfl⟩
  · rw [okC_yes (.inl hb)] at h; exact absurd h hb
theorem ok_bad {p : Nat} {b e : Int} {is : Bool} : okC ⟨p, b⟩ is e = ⟨p, (okC ⟨p, b⟩ is e).bad⟩ := by
  have := okC_p ⟨p, b⟩ is e
  generalize okC ⟨p, b⟩ is e = z at this
  obtain ⟨zp, zb⟩ := z
  simp only at this
  rw [this]
theorem spl_tag {a0 a1 a2 a3 a4 a5 a6 a7 : Value} {t : List UInt8} (h : t.length = 16 ∨ t = []) : spl ([a0, a1, a2, a3, a4, a5, a6, a7] ++ hcells z16) 8 (t.map byteV) = [a0, a1, a2, a3, a4, a5, a6, a7] ++ hcells (if t.length = 16 then t else z16) := by
  rcases h with h | rfl
  · rw [if_pos h]
    simp only [spl, List.length_map, h]
    simp [hcells, z16]
  · simp [spl]
end Go.Sym
