/- Rules of symbolic execution over any program of the model, that the claims of this folder use; part SymSlice. Conditions: those that each rule names. -/
import Derived.Test.YtkhcbllphdhbdaaSymCode
import Derived.Lib.ConvBytes
namespace Go.Sym
open Go

/-- one block less -/
inductive Del (b : Nat) (o : Obj) : Blocks → Blocks → Prop
  | here {X : Blocks} : Del b o ((b, o) :: X) X
  | there {x : Nat × Obj} {X Y : Blocks} : Del b o X Y → Del b o (x :: X) (x :: Y)
theorem Del.old {b : Nat} {o : Obj} {L L' : Blocks} (h : Del b o L L') : (b, o) ∈ L := by
  induction h with
  | here => simp
  | there _ ih => exact List.mem_cons_of_mem _ ih
theorem Del.sub {b : Nat} {o : Obj} {L L' : Blocks} (h : Del b o L L') : L'.Sublist L := by
  induction h with
  | here => exact List.sublist_cons_self _ _
  | there _ ih => exact ih.cons_cons _
theorem Del.ne {b : Nat} {o : Obj} {L L' : Blocks} (h : Del b o L L') (nd : (L.map Prod.fst).Nodup) : ∀ p ∈ L', p.1 ≠ b := by
  induction h with
  | here =>
    simp only [List.map_cons, List.nodup_cons] at nd
    intro p hp e
    exact nd.1 (List.mem_map.2 ⟨p, hp, e⟩)
  | there h ih =>
    simp only [List.map_cons, List.nodup_cons] at nd
    intro p hp
    rcases List.mem_cons.1 hp with rfl | hp
    · intro e; exact nd.1 (List.mem_map.2 ⟨_, h.old, e.symm⟩)
    · exact ih nd.2 p hp
theorem wr_take {r l : List Value} {o : Nat} (h : o + r.length ≤ l.length) : (wr l o r).take (o + r.length) = l.take o ++ r := by
  rw [wr_eq r l o h]
  have : (l.take o ++ r).length = o + r.length := by simp; omega
  rw [← this, List.take_left]
section
variable {P : Program} {ops : Array Oper} {Q : Exit → Act → World → Prop} {rest : List Item} {a : Act} {w w0 : World} {n : Nat} {R : Rg} {ds : List Deferred} {S : Nat → Prop} {L K : Blocks}
variable {f : Bool} {d : Nat} {ty : TypeId} {pos : String} {af : Array Edge}

/-! ### slices that are read -/
/-- v is a slice of m elements of es cells each, and these hold vs. -/
structure Sl (es : Nat) (w : World) (v : Value) (vs : List Value) (m : Nat) (p : Option Addr) (cap : Nat) : Prop where
  val : v = .slice p m cap
  len : vs.length = m * es
  le : m ≤ cap
  cells : ∀ i u, vs[i]? = some u → ∃ b o, p = some ⟨b, o, none⟩ ∧ w.cell? ⟨b, o + i, none⟩ = some u
  nil : p = none → cap = 0
theorem Sl.ext {es : Nat} {v : Value} {vs : List Value} {m cap : Nat} {p : Option Addr} {w' : World} (h : Sl es w v vs m p cap) (k : Ext w w') : Sl es w' v vs m p cap :=
  ⟨h.val, h.len, h.le, fun i u hu => by obtain ⟨b, o, e, hc⟩ := h.cells i u hu; exact ⟨b, o, e, k.cell_some hc⟩, h.nil⟩
theorem Sl.mod {es : Nat} {v : Value} {vs : List Value} {m cap : Nat} {p : Option Addr} {w' : World} (h : Sl es w v vs m p cap) (k : Mod S w w') (hn : ∀ b o, p = some ⟨b, o, none⟩ → ¬ S b) : Sl es w' v vs m p cap :=
  ⟨h.val, h.len, h.le, fun i u hu => by obtain ⟨b, o, e, hc⟩ := h.cells i u hu; exact ⟨b, o, e, k.cell_some hc (hn b o e)⟩, h.nil⟩
def byteV (b : UInt8) : Value := .int .u8 b.toNat
/-- v is a slice of bytes that reads l -/
def Bs (w : World) (v : Value) (l : List UInt8) : Prop := ∃ p cap, Sl 1 w v (l.map byteV) l.length p cap
theorem Bs.ext {v : Value} {l : List UInt8} {w' : World} (h : Bs w v l) (k : Ext w w') : Bs w' v l := by
  obtain ⟨p, cap, h⟩ := h; exact ⟨p, cap, h.ext k⟩
theorem Bs.nil (w : World) : Bs w (.slice none 0 0) [] := ⟨none, 0, rfl, by simp, Nat.le_refl _, fun i u h => by simp at h, fun _ => rfl⟩
theorem Sl.load {es : Nat} {v : Value} {vs : List Value} {m cap : Nat} {p : Option Addr} (h : Sl es w v vs m p cap) (n : Nat) (hn : n ≤ m) (w' : World) (hw : w'.heap = w.heap) : (Builtin.firstCells es n v).run P w' = .ok (vs.take (n * es)).toArray w' := by
  rw [h.val]
  cases p with
  | none =>
    have hm : m = 0 := by have := h.nil rfl; have := h.le; omega
    subst hm
    have hn0 : n = 0 := by omega
    subst hn0
    simp [Builtin.firstCells]
  | some a =>
    simp only [Builtin.firstCells]
    have hlen : (vs.take (n * es)).length = n * es := by rw [List.length_take, h.len]; exact Nat.min_eq_left (Nat.mul_le_mul_right _ hn)
    have hc : ∀ x, w'.cell? x = w.cell? x := fun x => by simp [World.cell?, hw]
    have := run_loadCells_list (P := P) w' a (vs.take (n * es)) (fun j u hu => by
      have hu' : vs[j]? = some u := by
        rw [List.getElem?_take] at hu
        split at hu
        · exact hu
        · cases hu
      obtain ⟨b, o, e, hx⟩ := h.cells j u hu'
      cases e
      rw [add_eq, hc]; exact hx)
    rwa [hlen] at this
/-- a slice that begins a block -/
theorem Sl.of_block {es b m cap : Nat} {l : List Value} {T : TypeId} {fz : Nat × Nat} (hb : w.heap[b]? = some (.cells l.toArray T fz)) (hl : m * es ≤ l.length) (hc : m ≤ cap) : Sl es w (.slice (some ⟨b, 0, none⟩) m cap) (l.take (m * es)) m (some ⟨b, 0, none⟩) cap :=
  ⟨rfl, by rw [List.length_take]; exact Nat.min_eq_left hl, hc, fun i u hu => ⟨b, 0, rfl, by
    rw [cell_of_row w b (0 + i) _ T fz hb, Nat.zero_add, List.getElem?_toArray]
    rw [List.getElem?_take] at hu
    split at hu
    · exact hu
    · cases hu⟩, fun h => by cases h⟩

/-! ### bytes and texts -/
def strOf (l : List UInt8) : ByteArray := ⟨l.toArray⟩
def isU8 (P : Program) (t : TypeId) : Bool := match P.underlying t with
  | some (.int .u8) => true
  | _ => false
def u8s (P : Program) (t : TypeId) : Bool := match P.underlying t with
  | some (.slice e) => isU8 P e && (P.info? e).any (·.size == 1)
  | _ => false
theorem isU8_eq {t : TypeId} (h : isU8 P t = true) : P.underlying t = some (.int .u8) := by
  unfold isU8 at h
  split at h
  · assumption
  · cases h
theorem u8s_parts {t : TypeId} (h : u8s P t = true) : ∃ e i, P.underlying t = some (.slice e) ∧ P.underlying e = some (.int .u8) ∧ P.info? e = some i ∧ i.size = 1 := by
  unfold u8s at h
  split at h
  · rename_i e hu
    simp only [Bool.and_eq_true] at h
    cases hi : P.info? e with
    | none => simp [hi] at h
    | some i => exact ⟨e, i, hu, isU8_eq h.1, hi ▸ rfl, by simpa [hi] using h.2⟩
  · cases h
theorem run_bytesStr {s t : TypeId} {v : Value} {l : List UInt8} (hs : u8s P s = true) (ht : isStr P t = true) (h : Bs w v l) :
    (convert s t v).run P w = .ok (.string (strOf l)) w := by
  obtain ⟨p, cap, h⟩ := h
  obtain ⟨e, i, hs', hb, hi, hsz⟩ := u8s_parts hs
  unfold isStr at ht
  split at ht
  · rename_i hu
    have hv := h.val
    cases p with
    | none =>
      have hm : l.length = 0 := by have := h.nil rfl; have := h.le; omega
      have : l = [] := List.eq_nil_of_length_eq_zero hm
      subst this
      rw [hv, run_convert_bytes_string w s t e _ _ _ hs' hb hu]
      simp [Conv.bytesToString, strOf, ByteArray.empty, ByteArray.emptyWithCapacity]; rfl
    | some a =>
      have hf := h.load (P := P) l.length (Nat.le_refl _) w rfl
      rw [hv] at hf
      simp only [Builtin.firstCells, Nat.mul_one] at hf
      rw [hv, run_convert_bytes_string w s t e _ _ _ hs' hb hu, run_bytesToString w a l.length cap (l.map fun b => (b.toNat : Int)) (by
        rw [hf]; congr 2
        rw [List.take_of_length_le (by simp), List.map_map]; rfl)]
      rw [foldl_push_bytes]
      simp [strOf, ByteArray.empty, ByteArray.emptyWithCapacity, List.map_map, Function.comp_def]; rfl
  · cases ht
theorem r_bytesStr {s t : TypeId} {x : Operand} {v : Value} {l : List UInt8} (hS : StD ds n R a) (hK : Kp w0 S K w) (hx : ev R x = some v) (hb : Bs w v l) (hs : u8s P s = true) (ht : isStr P t = true) (hlt : Nat.blt d n = true)
    (k : ∀ a', StD ds n (up R d (.string (strOf l))) a' → Sq P ops Q rest a' w) : Sq P ops Q ((false, ⟨some d, .convert s t x, ty, pos, af, none⟩, Kp w0 S K) :: rest) a w :=
  Sq.done rfl (by simp [execOp, hS.val hx, run_bytesStr hs ht hb]) hK (k _ (hS.put hlt _))
theorem r_bytesStrS {s t : TypeId} {x : Operand} {v : Value} {l : List UInt8} (hS : StD ds n R a) (hx : ev R x = some v) (hb : ∀ w, Kp w0 S K w → Bs w v l) (hs : u8s P s = true) (ht : isStr P t = true) (hlt : Nat.blt d n = true)
    (k : ∀ a', StD ds n (up R d (.string (strOf l))) a' → Sq P ops Q rest a' w) : Sq P ops Q ((true, ⟨some d, .convert s t x, ty, pos, af, none⟩, Kp w0 S K) :: rest) a w :=
  Sq.soft rfl (fun w' hw' => by simp [execOp, hS.val hx, run_bytesStr hs ht (hb w' hw')]) (k _ (hS.put hlt _))

/-! ### loads through a slice -/
theorem r_load_cell {t : Nat} {x : Operand} {p : Addr} {v : Value} (hS : StD ds n R a) (hK : Kp w0 S K w) (hx : ev R x = some (.pointer (some p))) (hc : w.cell? p = some v) (ht : scB P t = true) (hlt : Nat.blt d n = true)
    (k : ∀ a', StD ds n (up R d v) a' → Sq P ops Q rest a' w) : Sq P ops Q ((false, ⟨some d, .load t x, ty, pos, af, none⟩, Kp w0 S K) :: rest) a w :=
  Sq.done rfl (by simp [execOp, hS.val hx, Instr.loadAt, Instr.sureAddr, loadVar, run_isAgg_sc ht, hc]) hK (k _ (hS.put hlt v))
theorem r_load_cellS {t : Nat} {x : Operand} {p : Addr} {v : Value} (hS : StD ds n R a) (hx : ev R x = some (.pointer (some p))) (hc : ∀ w, Kp w0 S K w → w.cell? p = some v) (ht : scB P t = true) (hlt : Nat.blt d n = true)
    (k : ∀ a', StD ds n (up R d v) a' → Sq P ops Q rest a' w) : Sq P ops Q ((true, ⟨some d, .load t x, ty, pos, af, none⟩, Kp w0 S K) :: rest) a w :=
  Sq.soft rfl (fun w' hw' => by simp [execOp, hS.val hx, Instr.loadAt, Instr.sureAddr, loadVar, run_isAgg_sc ht, hc w' hw']) (k _ (hS.put hlt v))
/-- several cells -/
theorem run_loadVar_cells {t b o m : Nat} {l : List Value} (ht : agB P t = some m) (hl : l.length = m) (hc : ∀ i u, l[i]? = some u → w.cell? ⟨b, o + i, none⟩ = some u) : (loadVar t ⟨b, o, none⟩).run P w = .ok (.agg l.toArray) w := by
  have h := run_loadCells_list (P := P) w ⟨b, o, none⟩ l (fun j v hv => by rw [add_eq]; exact hc j v hv)
  rw [hl] at h
  simp [loadVar, run_isAgg_ag ht, run_size_ag ht, h]
theorem r_load_cells {t b o m : Nat} {x : Operand} {l : List Value} (hS : StD ds n R a) (hK : Kp w0 S K w) (hx : ev R x = some (.pointer (some ⟨b, o, none⟩))) (ht : agB P t = some m) (hl : l.length = m) (hc : ∀ i u, l[i]? = some u → w.cell? ⟨b, o + i, none⟩ = some u) (hlt : Nat.blt d n = true)
    (k : ∀ a', StD ds n (up R d (.agg l.toArray)) a' → Sq P ops Q rest a' w) : Sq P ops Q ((false, ⟨some d, .load t x, ty, pos, af, none⟩, Kp w0 S K) :: rest) a w :=
  Sq.done rfl (by simp [execOp, hS.val hx, Instr.loadAt, Instr.sureAddr, run_loadVar_cells ht hl hc]) hK (k _ (hS.put hlt _))

/-! ### a literal of a slice -/
def bslB (P : Program) (t len : Nat) : Option (TypeId × Nat × List Value) :=
  match P.underlying t with
  | some (.slice e) => match P.info? e with
    | some i => match i.zero with
      | some z => if i.size = z.cells.size ∧ 0 < len * i.size ∧ len * i.size ≤ 2 ^ 24 then some (e, i.size, (Array.range (len * i.size)).toList.map fun j => z.cells[j % z.cells.size]!) else none
      | none => none
    | none => none
  | _ => none
theorem r_buildSlice {t e es len : Nat} {parts : List (Nat × Operand)} {vs zs cs : List Value} (hS : StD ds n R a) (hH : Hp w0 S L w) (hs : Sub K L) (hv : evs R (parts.map (·.2)) = some vs) (hz : bslB P t len = some (e, es, zs)) (hf : bldA (fun i => some (i * es, es)) zs 0 ((parts.map (·.1)).zip vs) = some cs) (hlt : Nat.blt d n = true)
    (k : ∀ a' w' b, w0.heap.size ≤ b → w.heap.size ≤ b → StD ds n (up R d (.slice (some ⟨b, 0, none⟩) len len)) a' → Hp w0 S ((b, .cells cs.toArray e (0, 0)) :: L) w' → Sq P ops Q rest a' w') :
    Sq P ops Q ((false, ⟨some d, .buildSlice t len parts.toArray, ty, pos, af, none⟩, Kp w0 S K) :: rest) a w := by
  have h := hS.vals hv
  have e1 : (parts.map fun x => match x with | (i, x) => (i, a.eval x)) = (parts.map (·.1)).zip vs := by
    rw [← h, List.map_map]
    clear h hv hf k
    induction parts with
    | nil => rfl
    | cons p r ih => simp [ih]
  unfold bslB at hz
  split at hz
  · rename_i e' hu
    split at hz
    · rename_i i hi
      split at hz
      · rename_i z hzz
        split at hz
        · rename_i hc
          obtain ⟨c1, c2, c3⟩ := hc
          simp only [Option.some.injEq, Prod.mk.injEq] at hz
          obtain ⟨rfl, rfl, rfl⟩ := hz
          have hfill := fill_of _ _ _ _ (bldA_fill0 hf)
          have hH' := hH.alloc (.cells cs.toArray e' (0, 0))
          refine Sq.done (w' := w.alloc (.cells cs.toArray e' (0, 0))) (v := .slice (some ⟨w.heap.size, 0, none⟩) len len) rfl ?_ ⟨fun p hp => hH'.blk p (List.mem_cons_of_mem _ (hs.mem p hp)), hH'.mod⟩ (k _ _ w.heap.size hH.mod.size (Nat.le_refl _) (hS.put hlt _) hH')
          have c2' : ¬ len * i.size = 0 := by omega
          have c3' : ¬ len * i.size > 2 ^ 24 := by omega
          simp only [execOp, List.map_toArray, Sem.run_bind]
          rw [e1]
          simp only [Instr.buildSlice, Sem.run_bind, run_underlying hu, Result.andThen_ok, sizeOf, typeInfo, run_program, hi, Sem.run_pure, c3', c2', if_false, zeroValue, hzz]
          have e2 : (Array.range (len * i.size)).map (fun x => z.cells[x % z.cells.size]!) = (((Array.range (len * i.size)).toList.map fun j => z.cells[j % z.cells.size]!)).toArray := by
            apply Array.ext'; simp
          rw [e2, hfill]
          simp [newRow]
        · cases hz
      · cases hz
    · cases hz
  · cases hz

/-! ### append -/
/-- what is appended: n elements, whose cells are 'new' -/
structure Src (P : Program) (es : Nat) (w : World) (x : Value) (n : Nat) (new : List Value) : Prop where
  len : ∀ w', w'.heap = w.heap → (Builtin.lenOf x).run P w' = .ok n w'
  cells : ∀ w', w'.heap = w.heap → (Builtin.firstCells es n x).run P w' = .ok new.toArray w'
  size : new.length = n * es
  one : ∀ u ∈ new, u.oneCell' = true
theorem Sl.src {es : Nat} {v : Value} {vs : List Value} {m cap : Nat} {p : Option Addr} (h : Sl es w v vs m p cap) (h1 : ∀ u ∈ vs, u.oneCell' = true) : Src P es w v m vs :=
  ⟨fun w' _ => by rw [h.val]; simp [Builtin.lenOf], fun w' hw => by have := h.load (P := P) m (Nat.le_refl _) w' hw; rwa [List.take_of_length_le (by rw [h.len]; exact Nat.le_refl _)] at this, h.len, h1⟩
theorem one_bytes (l : List UInt8) : ∀ u ∈ l.map byteV, u.oneCell' = true := by
  intro u hu
  obtain ⟨b, _, rfl⟩ := List.mem_map.1 hu
  rfl
theorem Bs.src {v : Value} {l : List UInt8} (h : Bs w v l) : Src P 1 w v l.length (l.map byteV) := by
  obtain ⟨p, cap, h⟩ := h; exact h.src (one_bytes l)
theorem src_string (s : ByteArray) : Src P 1 w (.string s) s.size (s.data.toList.map byteV) :=
  ⟨fun w' _ => by simp [Builtin.lenOf], fun w' _ => by
    have e : s.extract 0 s.size = s := by simp
    simp only [Builtin.firstCells, e, Sem.run_pure]
    congr 2
    apply Array.ext'
    rw [Array.toList_map]; rfl, by rw [List.length_map, Nat.mul_one, Array.length_toList]; rfl, one_bytes _⟩
/-- the element type of a slice, as append asks for it: its type, cells, bytes, zero cells -/
def elB (P : Program) (t : TypeId) : Option (TypeId × Nat × Nat) :=
  match P.underlying t with
  | some (.slice e) => match P.info? e with
    | some i => match i.zero with
      | some z => if i.size = z.cells.size ∧ 0 < i.bytes then some (e, i.size, i.bytes) else none
      | none => none
    | none => none
  | _ => none
theorem elB_parts {t e es by' : Nat} (h : elB P t = some (e, es, by')) : ∃ i z, P.underlying t = some (.slice e) ∧ P.info? e = some i ∧ i.zero = some z ∧ i.size = es ∧ i.bytes = by' ∧ z.cells.size = es ∧ 0 < by' := by
  unfold elB at h
  split at h
  · rename_i e' hu
    split at h
    · rename_i i hi
      split at h
      · rename_i z hz
        split at h
        · rename_i hc
          simp only [Option.some.injEq, Prod.mk.injEq] at h
          obtain ⟨rfl, rfl, rfl⟩ := h
          exact ⟨i, z, hu, hi, hz, rfl, rfl, hc.1.symm, hc.2⟩
        · cases h
      · cases h
    · cases h
  · cases h
def notInt (P : Program) (t : TypeId) : Bool := match P.underlying t with
  | some (.int _) => false
  | some _ => true
  | none => false
theorem run_append_room' {t t2 e es by' : Nat} (he : elB P t = some (e, es, by')) (h2 : notInt P t2 = true) {b o m cap n : Nat} {x : Value} {new l : List Value} {T : TypeId} (hx : Src P es w x n new) (hb : w.heap[b]? = some (.cells l.toArray T (0, 0))) (hroom : m + n ≤ cap) (hl : o + m * es + new.length ≤ l.length) :
    ∃ w', (Builtin.append_ #[t, t2] ty #[.slice (some ⟨b, o, none⟩) m cap, x]).run P w = .ok (.slice (some ⟨b, o, none⟩) (m + n) cap) w' ∧ Turned b (.cells (wr l (o + m * es) new).toArray T (0, 0)) w w' := by
  obtain ⟨i, z, hu, hi, hz, rfl, rfl, hzs, hby⟩ := elB_parts he
  obtain ⟨w', hr, hq⟩ := run_storeCells (P := P) new l (o + m * i.size) 0 w hb hx.one (by omega)
  refine ⟨w', ?_, hq⟩
  unfold notInt at h2
  split at h2
  · cases h2
  · rename_i u2 hn hu2
    have hz2 : (u2 matches .int _) = false := by cases u2 <;> simp_all
    simp only [Builtin.append_, List.getElem?_toArray, List.getElem?_cons_zero, List.getElem?_cons_succ, Sem.run_bind, run_underlying hu, Result.andThen_ok, sizeOf, typeInfo, run_program, hi, Sem.run_pure, run_underlying hu2]
    simp only [Bool.false_eq_true, if_false, hx.len w rfl, Result.andThen_ok, hroom, if_true, Bool.not_false, Sem.run_bind, hx.cells w rfl, add_eq, hr, Sem.run_pure]
  · cases h2
theorem run_append_grow' {t t2 e es by' : Nat} (he : elB P t = some (e, es, by')) (h2 : notInt P t2 = true) {p : Option Addr} {m cap n : Nat} {x : Value} {new old : List Value} (hx : Src P es w x n new) (hold : Sl es w (.slice p m cap) old m p cap) (hroom : cap < m + n) (hbytes : (m + n) * by' ≤ 140737488355328) :
    ∃ c zs, (Builtin.append_ #[t, t2] ty #[.slice p m cap, x]).run P w = .ok (.slice (some ⟨w.heap.size, 0, none⟩) (m + n) c) (w.drew.alloc (.cells (old ++ new ++ zs).toArray e (0, 0))) ∧ m + n ≤ c ∧ (old ++ new ++ zs).length = c * es := by
  obtain ⟨i, z, hu, hi, hz, rfl, rfl, hzs, hby⟩ := elB_parts he
  have hge := grownCap_ge w (m + n) cap e
  refine ⟨grownCap w (m + n) cap e, (Builtin.zeroCells z.cells (grownCap w (m + n) cap e - (m + n))).toList, ?_, hge, ?_⟩
  · unfold notInt at h2
    split at h2
    · cases h2
    · rename_i u2 hn hu2
      have hz2 : (u2 matches .int _) = false := by cases u2 <;> simp_all
      have hn : ¬ (m + n ≤ cap) := by omega
      have hfit := growslice_fits (need := m + n) (old := cap) (bytes := i.bytes) hroom hbytes
      have h48' : ¬ (Builtin.nextslicecap (m + n) cap * i.bytes > 2 ^ 48) := by omega
      have hb0 : ¬ i.bytes = 0 := by omega
      have hd : w.drew.heap = w.heap := rfl
      have hm : (Builtin.firstCells i.size m (.slice p m cap)).run P w.drew = .ok old.toArray w.drew := by
        have := hold.load (P := P) m (Nat.le_refl _) w.drew hd
        rwa [List.take_of_length_le (by rw [hold.len]; exact Nat.le_refl _)] at this
      have hx' := hx.cells w.drew hd
      have e1 : old.toArray ++ new.toArray ++ Builtin.zeroCells z.cells (grownCap w (m + n) cap e - (m + n)) = (old ++ new ++ (Builtin.zeroCells z.cells (grownCap w (m + n) cap e - (m + n))).toList).toArray := by
        apply Array.ext'; simp
      simp only [Builtin.append_, List.getElem?_toArray, List.getElem?_cons_zero, List.getElem?_cons_succ, Sem.run_bind, run_underlying hu, Result.andThen_ok, sizeOf, typeInfo, run_program, hi, Sem.run_pure, run_underlying hu2]
      simp only [Bool.false_eq_true, if_false, hx.len w rfl, Result.andThen_ok, hn, Sem.run_bind, Sem.run_pure, run_program, hi, h48', hb0, or_false, and_false, run_choose, Question.forced, run_askRoom]
      have e2 : (Question.appendCap (m + n) cap e).cut (w.tape w.drawn (.appendCap (m + n) cap e)) = grownCap w (m + n) cap e := rfl
      rw [e2]
      simp only [World.drew_eq, hm, Result.andThen_ok, Bool.not_false, if_true, hx', zeroValue, Sem.run_bind, typeInfo, run_program, hi, hz, Sem.run_pure, newRow, run_newObj]
      rw [e1]
      rfl
    · cases h2
  · simp only [List.length_append, hold.len, hx.size, Array.length_toList, size_zeroCells, hzs, ← Nat.add_mul]
    congr 1
    omega
theorem Hp.del (h : Hp w0 S L w) {b : Nat} {o : Obj} {L' : Blocks} (hd : Del b o L L') : Hp w0 S L' w := ⟨fun p hp => h.blk p (hd.sub.subset hp), h.nd.sublist (hd.sub.map _), h.mod⟩
theorem run_append_op {t t2 : Nat} {x y : Operand} {vx vy v : Value} {w' : World} (hS : StD ds n R a) (hx : ev R x = some vx) (hy : ev R y = some vy) (h : (Builtin.append_ #[t, t2] ty #[vx, vy]).run P w = .ok v w') :
    (execOp a.eval ⟨some d, .call ⟨.builtin .append, #[x, y], #[t, t2]⟩, ty, pos, af, none⟩).run P w = .ok (.value v) w' := by
  simp only [execOp, resolve, Sem.run_bind, Sem.run_pure, Result.andThen_ok, invoke, builtin, List.map_toArray, List.map_cons, List.map_nil, hS.val hx, hS.val hy, h]
theorem run_append_blk {t t2 e es by' b m cap k : Nat} {vy : Value} {l new : List Value} (he : elB P t = some (e, es, by')) (h2 : notInt P t2 = true) (hb : w.heap[b]? = some (.cells l.toArray e (0, 0))) (hl : l.length = cap * es) (hm : m ≤ cap) (hsrc : Src P es w vy k new) (hbytes : (m + k) * by' ≤ 140737488355328) :
    ∃ (w' : World) (b' c : Nat) (l2 : List Value), (Builtin.append_ #[t, t2] ty #[.slice (some ⟨b, 0, none⟩) m cap, vy]).run P w = .ok (.slice (some ⟨b', 0, none⟩) (m + k) c) w' ∧ Mod (· = b) w w' ∧ (b' = b ∨ w.heap.size ≤ b') ∧
      w'.heap[b']? = some (.cells l2.toArray e (0, 0)) ∧ l2.length = c * es ∧ m + k ≤ c ∧ l2.take ((m + k) * es) = l.take (m * es) ++ new := by
  have hle : m * es ≤ l.length := by rw [hl]; exact Nat.mul_le_mul_right _ hm
  by_cases hroom : m + k ≤ cap
  · have hfit : 0 + m * es + new.length ≤ l.length := by rw [hsrc.size, Nat.zero_add, ← Nat.add_mul, hl]; exact Nat.mul_le_mul_right _ hroom
    obtain ⟨w', hr, hq⟩ := run_append_room' (P := P) (ty := ty) he h2 hsrc hb hroom hfit
    refine ⟨w', b, cap, _, hr, hq.mod, .inl rfl, hq.here, by rw [wr_length, hl], hroom, ?_⟩
    have := wr_take (r := new) (l := l) (o := 0 + m * es) hfit
    rw [Nat.zero_add, hsrc.size, ← Nat.add_mul] at this
    rw [Nat.zero_add]; exact this
  · have hold := Sl.of_block (m := m) (cap := cap) hb hle hm
    obtain ⟨c, zs, hr, hc, hlen⟩ := run_append_grow' (P := P) (ty := ty) he h2 hsrc hold (by omega) hbytes
    refine ⟨_, w.heap.size, c, _, hr, ((Ext.drew w).trans (Ext.alloc w.drew _)).mono (fun _ h => h.elim), .inr (Nat.le_refl _), heap_alloc_new w.drew _, hlen, hc, ?_⟩
    have : (l.take (m * es) ++ new).length = (m + k) * es := by rw [List.length_append, hold.len, hsrc.size, ← Nat.add_mul]
    rw [← this, List.take_left]
/-- append to a slice that the call made -/
theorem r_append_own {t t2 e es by' : Nat} {x y : Operand} {b m cap k : Nat} {vy : Value} {l new : List Value} {L' : Blocks} (hS : StD ds n R a) (hH : Hp w0 S L w) (hx : ev R x = some (.slice (some ⟨b, 0, none⟩) m cap)) (hy : ev R y = some vy)
    (hi : Del b (.cells l.toArray e (0, 0)) L L') (hs : Sub K L') (he : elB P t = some (e, es, by')) (h2 : notInt P t2 = true) (hl : l.length = cap * es) (hm : m ≤ cap) (hsrc : Src P es w vy k new) (hbytes : (m + k) * by' ≤ 140737488355328) (hw : S b ∨ w0.heap.size ≤ b) (hlt : Nat.blt d n = true)
    (kk : ∀ (a' : Act) (w' : World) (b' c : Nat) (l2 : List Value), (S b' ∨ w0.heap.size ≤ b') → l2.length = c * es → m + k ≤ c → l2.take ((m + k) * es) = l.take (m * es) ++ new → Mod (· = b) w w' → StD ds n (up R d (.slice (some ⟨b', 0, none⟩) (m + k) c)) a' → Hp w0 S ((b', .cells l2.toArray e (0, 0)) :: L') w' → Sq P ops Q rest a' w') :
    Sq P ops Q ((false, ⟨some d, .call ⟨.builtin .append, #[x, y], #[t, t2]⟩, ty, pos, af, none⟩, Kp w0 S K) :: rest) a w := by
  have hb := hH.blk _ hi.old
  have hH' := hH.del hi
  have hne := hi.ne hH.nd
  obtain ⟨w', b', c, l2, hr, hmod, hb', hhb, hl2, hc, htk⟩ := run_append_blk (P := P) (ty := ty) he h2 hb hl hm hsrc hbytes
  have hne' : ∀ p ∈ L', p.1 ≠ b' := fun p hp => by
    rcases hb' with rfl | h
    · exact hne p hp
    · have := lt_of_block (hH'.blk p hp); omega
  have hHw : Hp w0 S ((b', .cells l2.toArray e (0, 0)) :: L') w' := by
    refine ⟨fun p hp => ?_, by simp only [List.map_cons, List.nodup_cons]; exact ⟨fun hm => by obtain ⟨p, hp, e⟩ := List.mem_map.1 hm; exact hne' p hp e, hH'.nd⟩, hH.mod.trans hmod (fun c hc hcb => by subst hcb; rcases hw with hs | hs; exact hs; omega)⟩
    rcases List.mem_cons.1 hp with rfl | hp
    · exact hhb
    · exact hmod.heap_some (hH'.blk p hp) (hne p hp)
  have hw' : S b' ∨ w0.heap.size ≤ b' := by
    rcases hb' with rfl | h
    · exact hw
    · exact .inr (Nat.le_trans hH.mod.size h)
  exact Sq.done rfl (run_append_op hS hx hy hr) ⟨fun p hp => hHw.blk p (List.mem_cons_of_mem _ (hs.mem p hp)), hHw.mod⟩ (kk _ w' b' c l2 hw' hl2 hc htk hmod (hS.put hlt _) hHw)
end
end Go.Sym
