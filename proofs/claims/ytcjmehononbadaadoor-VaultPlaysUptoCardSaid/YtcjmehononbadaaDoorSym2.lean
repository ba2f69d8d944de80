/- Rules of symbolic execution over any program of the model, that the claims of this folder use; part Sym2. Conditions: those that each rule names. -/
import Derived.Test.YtcjmehononbadaaDoorSym1
import Derived.Lib.ConvBytes
namespace Go.Sym
open Go

section
variable {P : Program} {ops : Array Oper} {Q : Exit→Act→World→Prop} {rest : List Item} {a : Act} {w w0 : World} {n : Nat} {R : Rg} {ds : List Deferred} {S : Nat→Prop} {L K : Blocks}
variable {f : Bool} {d : Nat} {ty : TypeId} {pos : String} {af : Array Edge}

/-! ### memory -/
/-- how many cells a struct or array type has -/
def agB (P : Program) (t : TypeId) : Option Nat :=
 match P.underlying t with
 | some (.struct _) | some (.array _ _) => (P.info? t).map (·.size)
 | _ => none
def scB (P : Program) (t : TypeId) : Bool :=
 match P.underlying t with
 | some (.struct _) | some (.array _ _) => false
 | some _ => (P.info? t).any (·.size == 1)
 | none => false
/-- the cells of a type's zero value -/
def zcB (P : Program) (t : TypeId) : Option (List Value):=((P.info? t).bind (·.zero)).map (·.cells.toList)
def rd (cs : List Value) (o n : Nat) : List Value:=(cs.drop o).take n

theorem run_isAgg_ag {t n : Nat} (h : agB P t = some n) (w : World) : (isAgg t).run P w = .ok true w:=by
  unfold agB at h
  split at h <;> simp_all [isAgg,underlying]
theorem run_size_ag {t n : Nat} (h : agB P t = some n) (w : World) : (sizeOf t).run P w = .ok n w:=by
 have : (P.info? t).map (·.size) = some n:=by unfold agB at h; split at h <;> simp_all
 cases hi : P.info? t with
 | none => simp [hi] at this
 | some i => simp [hi] at this; simp [sizeOf,typeInfo,hi,this]
theorem run_isAgg_sc {t : Nat} (h : scB P t = true) (w : World) : (isAgg t).run P w = .ok false w:=by
 unfold scB at h
 split at h
 ·cases h
 ·cases h
 ·rename_i d hu h1 h2
  unfold isAgg
  rw [Sem.run_bind,run_underlying h2 w]
  cases d <;> simp_all
 ·cases h
theorem run_loadVar_sc {t b o : Nat} {cs : Array Value} {T : TypeId} {fz : Nat × Nat} {v : Value} (ht : scB P t = true) (hb : w.heap[b]? = some (.cells cs T fz)) (hv : cs[o]? = some v) :
    (loadVar t ⟨b,o,none⟩).run P w = .ok v w:=by
  simp [loadVar,run_isAgg_sc ht,cell_of_row w b o cs T fz hb,hv]
theorem run_loadVar_ag {t b o n : Nat} {l : List Value} {T : TypeId} {fz : Nat × Nat} (ht : agB P t = some n) (hb : w.heap[b]? = some (.cells l.toArray T fz)) (hn : o + n≤l.length) :
  (loadVar t ⟨b,o,none⟩).run P w = .ok (.agg (rd l o n).toArray) w:=by
 have hl : (rd l o n).length = n:=by simp [rd]; omega
 have h:=run_loadCells_list (P:=P) w ⟨b,o,none⟩ (rd l o n) (fun j v hv => by
  rw [add_eq,cell_of_row w b (o + j) _ T fz hb]
  have hj : j < n:=by
   rcases Nat.lt_or_ge j n with h | h
   ·exact h
   ·rw [List.getElem?_eq_none (by omega)] at hv; cases hv
  simpa [rd,List.getElem?_take,hj,List.getElem?_drop] using hv)
 rw [hl] at h
 simp [loadVar,run_isAgg_ag ht,run_size_ag ht,h]

/-- the i-th -/
def nthV : List Value→Nat→Option Value
  | [],_ => none
  | v :: _,0 => some v
  | _ :: r,i + 1 => nthV r i
theorem nthV_eq : ∀ (l : List Value) (i : Nat),nthV l i = l[i]?
  | [],i => by simp [nthV]
  | v :: r,0 => by simp [nthV]
  | v :: r,i + 1 => by simp [nthV,nthV_eq r i]
theorem r_load_sc {t o b : Nat} {x : Operand} {l : List Value} {T : TypeId} {fz : Nat × Nat} {v : Value} (hS : StD ds n R a) (hH : Hp w0 S L w) (hs : Sub K L) (hx : ev R x = some (.pointer (some ⟨b,o,none⟩))) (hi : In b (.cells l.toArray T fz) L) (ht : scB P t = true) (hv : nthV l o = some v) (hlt : Nat.blt d n = true)
    (k : ∀ a',StD ds n (up R d v) a'→Sq P ops Q rest a' w) : Sq P ops Q ((false,⟨some d,.load t x,ty,pos,af,none⟩,Kp w0 S K) :: rest) a w :=
  Sq.done rfl (by simp [execOp,hS.val hx,Instr.loadAt,Instr.sureAddr,run_loadVar_sc ht (hH.get hi) (show l.toArray[o]? = some v by rw [List.getElem?_toArray,←nthV_eq,hv])]) (hH.kp hs) (k _ (hS.put hlt v))
theorem x_load_sc {t o b : Nat} {x : Operand} {l : List Value} {T : TypeId} {fz : Nat × Nat} {v : Value} (hH : Hp w0 S L w) (hs : Sub K L) (hx : ev R x = some (.pointer (some ⟨b,o,none⟩))) (hi : In b (.cells l.toArray T fz) L) (ht : scB P t = true) (hv : nthV l o = some v) (hlt : Nat.blt d n = true) (k : ∀ a',StD ds n (up R d v) a'→Sq P ops Q rest a' w) : ∀ a,StD ds n R a→Sq P ops Q ((false,⟨some d,.load t x,ty,pos,af,none⟩,Kp w0 S K) :: rest) a w:=fun _ hS => r_load_sc hS hH hs hx hi ht hv hlt k
theorem r_load_scS {t o b : Nat} {x : Operand} {l : List Value} {T : TypeId} {fz : Nat × Nat} {v : Value} (hS : StD ds n R a) (hx : ev R x = some (.pointer (some ⟨b,o,none⟩))) (hi : In b (.cells l.toArray T fz) K) (ht : scB P t = true) (hv : nthV l o = some v) (hlt : Nat.blt d n = true)
    (k : ∀ a',StD ds n (up R d v) a'→Sq P ops Q rest a' w) : Sq P ops Q ((true,⟨some d,.load t x,ty,pos,af,none⟩,Kp w0 S K) :: rest) a w :=
  Sq.soft rfl (fun w' hw' => by simp [execOp,hS.val hx,Instr.loadAt,Instr.sureAddr,run_loadVar_sc ht (hw'.1 _ hi.mem) (show l.toArray[o]? = some v by rw [List.getElem?_toArray,←nthV_eq,hv])]) (k _ (hS.put hlt v))
theorem x_load_scS {t o b : Nat} {x : Operand} {l : List Value} {T : TypeId} {fz : Nat × Nat} {v : Value} (hx : ev R x = some (.pointer (some ⟨b,o,none⟩))) (hi : In b (.cells l.toArray T fz) K) (ht : scB P t = true) (hv : nthV l o = some v) (hlt : Nat.blt d n = true) (k : ∀ a',StD ds n (up R d v) a'→Sq P ops Q rest a' w) : ∀ a,StD ds n R a→Sq P ops Q ((true,⟨some d,.load t x,ty,pos,af,none⟩,Kp w0 S K) :: rest) a w:=fun _ hS => r_load_scS hS hx hi ht hv hlt k
theorem r_load_ag {t o b m : Nat} {x : Operand} {l : List Value} {T : TypeId} {fz : Nat × Nat} (hS : StD ds n R a) (hH : Hp w0 S L w) (hs : Sub K L) (hx : ev R x = some (.pointer (some ⟨b,o,none⟩))) (hi : In b (.cells l.toArray T fz) L) (ht : agB P t = some m) (hv : o + m≤l.length) (hlt : Nat.blt d n = true)
    (k : ∀ a',StD ds n (up R d (.agg (rd l o m).toArray)) a'→Sq P ops Q rest a' w) : Sq P ops Q ((false,⟨some d,.load t x,ty,pos,af,none⟩,Kp w0 S K) :: rest) a w :=
  Sq.done rfl (by simp [execOp,hS.val hx,Instr.loadAt,Instr.sureAddr,run_loadVar_ag ht (hH.get hi) hv]) (hH.kp hs) (k _ (hS.put hlt _))
theorem r_load_agS {t o b m : Nat} {x : Operand} {l : List Value} {T : TypeId} {fz : Nat × Nat} (hS : StD ds n R a) (hx : ev R x = some (.pointer (some ⟨b,o,none⟩))) (hi : In b (.cells l.toArray T fz) K) (ht : agB P t = some m) (hv : o + m≤l.length) (hlt : Nat.blt d n = true)
    (k : ∀ a',StD ds n (up R d (.agg (rd l o m).toArray)) a'→Sq P ops Q rest a' w) : Sq P ops Q ((true,⟨some d,.load t x,ty,pos,af,none⟩,Kp w0 S K) :: rest) a w :=
  Sq.soft rfl (fun w' hw' => by simp [execOp,hS.val hx,Instr.loadAt,Instr.sureAddr,run_loadVar_ag ht (hw'.1 _ hi.mem) hv]) (k _ (hS.put hlt _))
theorem rd_all {l : List Value} {m : Nat} (h : l.length = m) : rd l 0 m = l:=by subst h; simp [rd]
theorem r_load_row {t b m : Nat} {x : Operand} {l : List Value} {T : TypeId} {fz : Nat × Nat} (hS : StD ds n R a) (hH : Hp w0 S L w) (hs : Sub K L) (hx : ev R x = some (.pointer (some ⟨b,0,none⟩))) (hi : In b (.cells l.toArray T fz) L) (ht : agB P t = some m) (hv : l.length = m) (hlt : Nat.blt d n = true)
    (k : ∀ a',StD ds n (up R d (.agg l.toArray)) a'→Sq P ops Q rest a' w) : Sq P ops Q ((false,⟨some d,.load t x,ty,pos,af,none⟩,Kp w0 S K) :: rest) a w :=
  r_load_ag hS hH hs hx hi ht (by omega) hlt (by rw [rd_all hv]; exact k)
theorem x_load_row {t b m : Nat} {x : Operand} {l : List Value} {T : TypeId} {fz : Nat × Nat} (hH : Hp w0 S L w) (hs : Sub K L) (hx : ev R x = some (.pointer (some ⟨b,0,none⟩))) (hi : In b (.cells l.toArray T fz) L) (ht : agB P t = some m) (hv : l.length = m) (hlt : Nat.blt d n = true) (k : ∀ a',StD ds n (up R d (.agg l.toArray)) a'→Sq P ops Q rest a' w) : ∀ a,StD ds n R a→Sq P ops Q ((false,⟨some d,.load t x,ty,pos,af,none⟩,Kp w0 S K) :: rest) a w:=fun _ hS => r_load_row hS hH hs hx hi ht hv hlt k
theorem r_load_rowS {t b m : Nat} {x : Operand} {l : List Value} {T : TypeId} {fz : Nat × Nat} (hS : StD ds n R a) (hx : ev R x = some (.pointer (some ⟨b,0,none⟩))) (hi : In b (.cells l.toArray T fz) K) (ht : agB P t = some m) (hv : l.length = m) (hlt : Nat.blt d n = true)
    (k : ∀ a',StD ds n (up R d (.agg l.toArray)) a'→Sq P ops Q rest a' w) : Sq P ops Q ((true,⟨some d,.load t x,ty,pos,af,none⟩,Kp w0 S K) :: rest) a w :=
  r_load_agS hS hx hi ht (by omega) hlt (by rw [rd_all hv]; exact k)

theorem x_load_rowS {t b m : Nat} {x : Operand} {l : List Value} {T : TypeId} {fz : Nat × Nat} (hx : ev R x = some (.pointer (some ⟨b,0,none⟩))) (hi : In b (.cells l.toArray T fz) K) (ht : agB P t = some m) (hv : l.length = m) (hlt : Nat.blt d n = true) (k : ∀ a',StD ds n (up R d (.agg l.toArray)) a'→Sq P ops Q rest a' w) : ∀ a,StD ds n R a→Sq P ops Q ((true,⟨some d,.load t x,ty,pos,af,none⟩,Kp w0 S K) :: rest) a w:=fun _ hS => r_load_rowS hS hx hi ht hv hlt k
/-! ### storing -/
/-- w' is w but that block b is o now. -/
structure Turned (b : Nat) (o : Obj) (w w' : World) : Prop where
  os : w'.os = w.os
  tape : w'.tape = w.tape
  output : w'.output = w.output
  size : w'.heap.size = w.heap.size
  here : w'.heap[b]? = some o
  other : ∀ c,c≠b→w'.heap[c]? = w.heap[c]?
theorem Turned.trans {b : Nat} {o o' : Obj} {u v w : World} (h : Turned b o u v) (k : Turned b o' v w) : Turned b o' u w :=
  ⟨k.os.trans h.os,k.tape.trans h.tape,k.output.trans h.output,k.size.trans h.size,k.here,fun c hc => (k.other c hc).trans (h.other c hc)⟩
theorem Turned.mod {b : Nat} {o : Obj} {w w' : World} (h : Turned b o w w') : Mod (· = b) w w' :=
 ⟨h.os,h.tape,h.output,Nat.le_of_eq h.size.symm,fun c _ hn => h.other c hn⟩
theorem Turned.cell {w : World} {b o : Nat} {cs : Array Value} {T : TypeId} (v : Value) (hb : w.heap[b]? = some (.cells cs T (0,0))) : Turned b (.cells (cs.setIfInBounds o v) T (0,0)) w (w.setCell ⟨b,o,none⟩ v) :=
  ⟨rfl,rfl,rfl,by simp,heap_setCell_same w b o cs T v hb,fun c hc => heap_setCell_other w ⟨b,o,none⟩ c v hc⟩
theorem Hp.turned (h : Hp w0 S L w) {b : Nat} {o o' : Obj} {w' : World} {L' : Blocks} (hp : Put b o o' L L') (ht : Turned b o' w w') (hw : S b∨w0.heap.size≤b) : Hp w0 S L' w':=by
 refine ⟨fun p hp' => ?_,by rw [hp.keys]; exact h.nd,?_⟩
 ·rcases hp.mem h.nd p hp' with rfl | ⟨h1,h2⟩
  ·exact ht.here
  ·rw [ht.other p.1 h2]; exact h.blk p h1
 ·refine h.mod.trans ht.mod (fun c hc hcb => ?_)
  subst hcb
  rcases hw with hs | hs
  ·exact hs
  ·omega
/-- a list written over another from a place on -/
def wr (l : List Value) : Nat→List Value→List Value
  | _,[] => l
  | o,v :: r => wr (l.set o v) (o + 1) r
theorem wr_length : ∀ (r l : List Value) (o : Nat),(wr l o r).length = l.length
  | [],l,o => rfl
  | v :: r,l,o => by simp [wr,wr_length r]
theorem wr_eq : ∀ (r l : List Value) (o : Nat),o + r.length≤l.length→wr l o r = l.take o++r++l.drop (o + r.length)
  | [],l,o,h => by simp [wr]
  | v :: r,l,o,h => by
    simp only [List.length_cons] at h
    rw [wr,wr_eq r (l.set o v) (o + 1) (by simp; omega)]
    have e1 : (l.set o v).take (o + 1) = l.take o++[v]:=by
      rw [List.take_succ_eq_append_getElem (by simp; omega),List.take_set_of_le (Nat.le_refl _)]
      simp
    have e2 : (l.set o v).drop (o + 1 + r.length) = l.drop (o + (r.length + 1)):=by
      rw [List.drop_set_of_lt (by omega)]
      congr 1
      omega
    rw [e1,e2]
    simp
/-- the same,read off at once -/
def spl (l : List Value) (o : Nat) (vs : List Value) : List Value:=l.take o++(vs++l.drop (o + vs.length))
theorem spl_wr {l vs : List Value} {o : Nat} (h : o + vs.length≤l.length) : wr l o vs = spl l o vs:=by
  rw [wr_eq vs l o h,spl,List.append_assoc]
theorem run_storeCells {b : Nat} {T : TypeId} : ∀ (r l : List Value) (o i : Nat) (w : World),w.heap[b]? = some (.cells l.toArray T (0,0))→(∀ v∈r,v.oneCell' = true)→o + i + r.length≤l.length →
    ∃ w',(storeCells ⟨b,o,none⟩ r i).run P w = .ok () w'∧Turned b (.cells (wr l (o + i) r).toArray T (0,0)) w w'
  | [],l,o,i,w,hb,h1,hl => ⟨w,by simp [storeCells],⟨rfl,rfl,rfl,rfl,hb,fun _ _ => rfl⟩⟩
  | v :: r,l,o,i,w,hb,h1,hl => by
    have ht:=Turned.cell (o:=o + i) v hb
    have hb':=ht.here
    simp only [List.setIfInBounds_toArray] at hb' ht
    simp only [List.length_cons] at hl
    obtain ⟨w',hr,hq⟩:=run_storeCells r (l.set (o + i) v) o (i + 1) _ hb' (fun u hu => h1 u (List.mem_cons_of_mem _ hu)) (by simp; omega)
    refine ⟨w',?_,ht.trans hq⟩
    have hc : w.cell? ⟨b,o + i,none⟩ = some (l[o + i]'(by omega)):=by rw [cell_of_row w b (o + i) _ T (0,0) hb]; simp
    simp only [storeCells,Sem.run_bind,add_eq,run_store P w _ v .plain (h1 v (by simp)),hc,frozen_of_row w b (o + i) _ T hb]
    simpa using hr
def sizeB (P : Program) (t : TypeId) (n : Nat) : Bool:=(P.info? t).any (·.size == n)
theorem run_sizeB {t n : Nat} (h : sizeB P t n = true) (w : World) : (sizeOf t).run P w = .ok n w:=by
  unfold sizeB at h
  cases hi : P.info? t with
  | none => simp [hi] at h
  | some i => simp [hi] at h; simp [sizeOf,typeInfo,hi,h]
theorem run_storeVar {t b o : Nat} {l : List Value} {T : TypeId} {v : Value} (ht : sizeB P t v.cells.toList.length = true) (hb : w.heap[b]? = some (.cells l.toArray T (0,0))) (h1 : ∀ u∈v.cells.toList,u.oneCell' = true) (hl : o + v.cells.toList.length≤l.length) :
    ∃ w',(storeVar t ⟨b,o,none⟩ v).run P w = .ok () w'∧Turned b (.cells (wr l o v.cells.toList).toArray T (0,0)) w w':=by
  obtain ⟨w',hr,hq⟩:=run_storeCells (P:=P) v.cells.toList l o 0 w hb h1 (by omega)
  exact ⟨w',by simpa [storeVar,run_sizeB ht] using hr,hq⟩
theorem r_store {t o b : Nat} {x y : Operand} {l vs : List Value} {T : TypeId} {v : Value} {L' : Blocks} (hS : StD ds n R a) (hH : Hp w0 S L w) (hx : ev R x = some (.pointer (some ⟨b,o,none⟩))) (hy : ev R y = some v) (hvs : v.cells = vs.toArray) (hi : Put b (.cells l.toArray T (0,0)) (.cells (spl l o vs).toArray T (0,0)) L L') (hs : Sub K L')
    (ht : sizeB P t vs.length = true) (h1 : ∀ u∈vs,u.oneCell' = true) (hl : o + vs.length≤l.length) (hw : S b∨w0.heap.size≤b)
    (k : ∀ w',Hp w0 S L' w'→Sq P ops Q rest a w') : Sq P ops Q ((false,⟨none,.store t x y,ty,pos,af,none⟩,Kp w0 S K) :: rest) a w:=by
  obtain ⟨w',hr,hq⟩:=run_storeVar (P:=P) (w:=w) (t:=t) (b:=b) (o:=o) (l:=l) (T:=T) (v:=v) (by rw [hvs]; exact ht) (hH.blk _ hi.old) (by rw [hvs]; exact h1) (by rw [hvs]; exact hl)
  rw [hvs,spl_wr hl] at hq
  have hH':=hH.turned hi hq hw
  exact Sq.skip (w':=w') rfl (by simp [execOp,hS.val hx,hS.val hy,Instr.storeAt,Instr.sureAddr,hr]) (hH'.kp hs) (k w' hH')
/-- one cell -/
theorem r_store1 {t o b : Nat} {x y : Operand} {l : List Value} {T : TypeId} {v : Value} {L' : Blocks} (hS : StD ds n R a) (hH : Hp w0 S L w) (hx : ev R x = some (.pointer (some ⟨b,o,none⟩))) (hy : ev R y = some v) (h1 : v.oneCell' = true) (hi : Put b (.cells l.toArray T (0,0)) (.cells (spl l o [v]).toArray T (0,0)) L L') (hs : Sub K L')
    (ht : sizeB P t 1 = true) (hl : o < l.length) (hw : S b∨w0.heap.size≤b)
    (k : ∀ w',Hp w0 S L' w'→Sq P ops Q rest a w') : Sq P ops Q ((false,⟨none,.store t x y,ty,pos,af,none⟩,Kp w0 S K) :: rest) a w :=
  r_store (vs:=[v]) hS hH hx hy (by cases v <;> first | rfl | (simp [Value.oneCell'] at h1)) hi hs ht (by simpa using h1) (by simp; omega) hw k
theorem spl_all {l vs : List Value} (h : l.length = vs.length) : spl l 0 vs = vs:=by simp [spl,←h]
/-- a whole block -/
theorem r_store_row {t b : Nat} {x y : Operand} {l vs : List Value} {T : TypeId} {L' : Blocks} (hS : StD ds n R a) (hH : Hp w0 S L w) (hx : ev R x = some (.pointer (some ⟨b,0,none⟩))) (hy : ev R y = some (.agg vs.toArray)) (hi : Put b (.cells l.toArray T (0,0)) (.cells vs.toArray T (0,0)) L L') (hs : Sub K L')
    (ht : sizeB P t vs.length = true) (h1 : ∀ u∈vs,u.oneCell' = true) (hl : l.length = vs.length) (hw : S b∨w0.heap.size≤b)
    (k : ∀ w',Hp w0 S L' w'→Sq P ops Q rest a w') : Sq P ops Q ((false,⟨none,.store t x y,ty,pos,af,none⟩,Kp w0 S K) :: rest) a w :=
  r_store (vs:=vs) hS hH hx hy rfl (by rw [spl_all hl]; exact hi) hs ht h1 (by omega) hw k

/-! ### new blocks -/
theorem r_new {op : Op} {o : Obj} (hS : StD ds n R a) (hH : Hp w0 S L w) (hs : Sub K L) (hlt : Nat.blt d n = true) (hp : (execOp a.eval ⟨some d,op,ty,pos,af,none⟩).run P w = .ok (.value (.pointer (some ⟨w.heap.size,0,none⟩))) (w.alloc o))
    (k : ∀ a' w' b,w0.heap.size≤b→w.heap.size≤b→StD ds n (up R d (.pointer (some ⟨b,0,none⟩))) a'→Hp w0 S ((b,o) :: L) w'→Sq P ops Q rest a' w') : Sq P ops Q ((false,⟨some d,op,ty,pos,af,none⟩,Kp w0 S K) :: rest) a w :=
  have hH':=hH.alloc o
  have hK' : Kp w0 S K (w.alloc o):=⟨fun p hp => hH'.blk p (List.mem_cons_of_mem _ (hs.mem p hp)),hH'.mod⟩
  Sq.done (w':=w.alloc o) rfl hp hK' (k _ _ w.heap.size hH.mod.size (Nat.le_refl _) (hS.put hlt _) hH')
theorem r_box {t : Nat} {x : Operand} {v : Value} {cs : List Value} (hS : StD ds n R a) (hH : Hp w0 S L w) (hs : Sub K L) (hx : ev R x = some v) (hv : v.cells = cs.toArray) (hlt : Nat.blt d n = true)
    (k : ∀ a' w' b,w0.heap.size≤b→w.heap.size≤b→StD ds n (up R d (.pointer (some ⟨b,0,none⟩))) a'→Hp w0 S ((b,.cells cs.toArray t (0,0)) :: L) w'→Sq P ops Q rest a' w') : Sq P ops Q ((false,⟨some d,.box t x,ty,pos,af,none⟩,Kp w0 S K) :: rest) a w :=
  r_new hS hH hs hlt (by simp [execOp,hS.val hx,Instr.box,newVar,newRow,hv]) k
theorem r_alloc {t : Nat} {cs : List Value} (hS : StD ds n R a) (hH : Hp w0 S L w) (hs : Sub K L) (hv : zcB P t = some cs) (hlt : Nat.blt d n = true)
    (k : ∀ a' w' b,w0.heap.size≤b→w.heap.size≤b→StD ds n (up R d (.pointer (some ⟨b,0,none⟩))) a'→Hp w0 S ((b,.cells cs.toArray t (0,0)) :: L) w'→Sq P ops Q rest a' w') : Sq P ops Q ((false,⟨some d,.alloc t,ty,pos,af,none⟩,Kp w0 S K) :: rest) a w:=by
  refine r_new hS hH hs hlt ?_ k
  unfold zcB at hv
  cases hi : P.info? t with
  | none => simp [hi] at hv
  | some i =>
    cases hz : i.zero with
    | none => simp [hi,hz] at hv
    | some z => simp [hi,hz] at hv; subst hv; simp [execOp,Instr.alloc,zeroValue,typeInfo,hi,hz,newVar,newRow]
/-- a literal of a struct or an array: its cells are told,and checked by 'hb' -/
theorem r_build {t : Nat} {parts : List (Nat × Operand)} {vs : List Value} {cs : Array Value} (hS : StD ds n R a) (hSw : Sf f (Kp w0 S K) w) (hv : evs R (parts.map (·.2)) = some vs) (hlt : Nat.blt d n = true)
  (hb : ∀ w,(Instr.build t ((parts.map (·.1)).zip vs).toArray).run P w = .ok (.agg cs) w)
  (k : ∀ a',StD ds n (up R d (.agg cs)) a'→Sq P ops Q rest a' w) : Sq P ops Q ((f,⟨some d,.build t parts.toArray,ty,pos,af,none⟩,Kp w0 S K) :: rest) a w:=by
 have h:=hS.vals hv
 have e : (parts.map fun p => (p.1,a.eval p.2)) = (parts.map (·.1)).zip vs:=by
  rw [←h,List.map_map]
  clear h hv hb k
  induction parts with
  | nil => rfl
  | cons p r ih => simp [ih]
 exact r_pure hS hSw hlt (fun w => by simp only [execOp,List.map_toArray,Sem.run_bind]; rw [show (parts.map fun x => match x with | (i,x) => (i,a.eval x)) = (parts.map (·.1)).zip vs from e,hb w]; rfl) k

end
end Go.Sym
namespace Go.Sym
open Go

section
variable {P : Program} {ops : Array Oper} {Q : Exit→Act→World→Prop} {rest : List Item} {a : Act} {w w0 : World} {n : Nat} {R : Rg} {ds : List Deferred} {S : Nat→Prop} {L K : Blocks}
variable {f : Bool} {d : Nat} {ty : TypeId} {pos : String} {af : Array Edge}

/-! ### building -/
theorem fill_fold (off : Nat) : ∀ (vs : List Value) (j : Nat) (l : List Value),(vs.zipIdx j).foldl (fun cs p => cs.setIfInBounds (off + p.2) p.1) l.toArray = (wr l (off + j) vs).toArray
  | [],j,l => by simp [wr]
  | v :: r,j,l => by
    simp only [List.zipIdx_cons,List.foldl_cons,List.setIfInBounds_toArray,wr]
    rw [fill_fold off r (j + 1) (l.set (off + j) v),Nat.add_assoc]
def fillL (pl : Nat→Option (Nat × Nat)) : List Value→List (Nat × Value)→Option (List Value)
  | zs,[] => some zs
  | zs,(i,v) :: r => match pl i with
    | none => none
    | some (off,size) => if Nat.beq v.cells.toList.length size && Nat.ble (off + size) zs.length then fillL pl (wr zs off v.cells.toList) r else none
theorem fill_of (pl : Nat→Option (Nat × Nat)) : ∀ (parts : List (Nat × Value)) (zs cs : List Value),fillL pl zs parts = some cs→Instr.fill pl zs.toArray parts = some cs.toArray
 | [],zs,cs,h => by simp [fillL] at h; simp [Instr.fill,h]
 | (i,v) :: r,zs,cs,h => by
  simp only [fillL] at h
  unfold Instr.fill
  cases hp : pl i with
  | none => simp [hp] at h
  | some q =>
   obtain ⟨off,size⟩:=q
   simp only [hp] at h
   split at h
   ·rename_i hc
    simp only [Bool.and_eq_true,Nat.beq_eq,Nat.ble_eq] at hc
    obtain ⟨h1,h2⟩:=hc
    have h1' : v.cells.size = size:=by rw [←Array.length_toList]; exact h1
    have : ¬ (v.cells.size≠size || decide (off + v.cells.size > zs.toArray.size)) = true:=by simp [h1']; omega
    simp only [this]
    have e : (v.cells.zipIdx.foldl (fun cs x => match x with | (c,j) => cs.setIfInBounds (off + j) c) zs.toArray) = (wr zs off v.cells.toList).toArray:=by
     have:=fill_fold off v.cells.toList 0 zs
     rw [Nat.add_zero] at this
     rw [←this,←Array.foldl_toList]
     simp
    simp only [if_false,Bool.false_eq_true]
    rw [e]
    exact fill_of pl r _ cs h
   ·cases h
/-- a literal's cells: what is told stands in its place,the rest is zero (the parts in order) -/
def bldA (pl : Nat→Option (Nat × Nat)) (zs : List Value) : Nat→List (Nat × Value)→Option (List Value)
  | o,[] => some (zs.drop o)
  | o,(i,v) :: r => match pl i with
    | none => none
    | some (off,size) => bif Nat.beq v.cells.toList.length size && Nat.ble o off && Nat.ble (off + size) zs.length then
        match bldA pl zs (off + size) r with
        | some t => some ((zs.drop o).take (off - o)++(v.cells.toList++t))
        | none => none
      else none
theorem bldA_fill (pl : Nat→Option (Nat × Nat)) (zs : List Value) : ∀ (parts : List (Nat × Value)) (o : Nat) (X t : List Value),bldA pl zs o parts = some t→X.length = zs.length→X.drop o = zs.drop o→fillL pl X parts = some (X.take o++t)
  | [],o,X,t,h,hl,hd => by simp [bldA] at h; subst h; rw [←hd]; simp [fillL]
  | (i,v) :: r,o,X,t,h,hl,hd => by
    simp only [bldA] at h
    simp only [fillL]
    cases hp : pl i with
    | none => simp [hp] at h
    | some q =>
      obtain ⟨off,size⟩:=q
      simp only [hp] at h ⊢
      cases hc : (Nat.beq v.cells.toList.length size && Nat.ble o off && Nat.ble (off + size) zs.length) with
      | false => rw [hc] at h; cases h
      | true =>
        rw [hc] at h
        simp only [Bool.and_eq_true] at hc
        obtain ⟨⟨c1,c2⟩,c3⟩:=hc
        have e1:=Nat.eq_of_beq_eq_true c1
        have e2:=Nat.le_of_ble_eq_true c2
        have e3:=Nat.le_of_ble_eq_true c3
        rw [if_pos (by rw [Bool.and_eq_true]; exact ⟨c1,by rw [hl]; exact c3⟩)]
        simp only [cond_true] at h
        cases hb : bldA pl zs (off + size) r with
        | none => simp [hb] at h
        | some t' =>
          simp only [hb,Option.some.injEq] at h
          have hfit : off + v.cells.toList.length≤X.length:=by omega
          have hw : wr X off v.cells.toList = X.take off++v.cells.toList++X.drop (off + v.cells.toList.length):=wr_eq _ _ _ hfit
          have hlen : (wr X off v.cells.toList).length = zs.length:=by rw [wr_length,hl]
          have ht : (wr X off v.cells.toList).take (off + size) = X.take off++v.cells.toList:=by
            rw [hw,←e1]
            have : (X.take off++v.cells.toList).length = off + v.cells.toList.length:=by simp; omega
            rw [←this,List.take_left]
          have hdr : (wr X off v.cells.toList).drop (off + size) = zs.drop (off + size):=by
            rw [hw,←e1]
            have : (X.take off++v.cells.toList).length = off + v.cells.toList.length:=by simp; omega
            rw [←this,List.drop_left,this]
            have h2 : X.drop (off + v.cells.toList.length) = (X.drop o).drop (off + v.cells.toList.length - o):=by rw [List.drop_drop]; congr 1; omega
            rw [h2,hd,List.drop_drop]; congr 1; omega
          rw [bldA_fill pl zs r (off + size) _ t' hb hlen hdr,ht,←h]
          have h3 : X.take off = X.take o++(zs.drop o).take (off - o):=by
            rw [←hd]
            have : off = o + (off - o):=by omega
            conv => lhs; rw [this,List.take_add]
          rw [h3]; simp
theorem bldA_fill0 {pl : Nat→Option (Nat × Nat)} {zs cs : List Value} {parts : List (Nat × Value)} (h : bldA pl zs 0 parts = some cs) : fillL pl zs parts = some cs:=by
  have:=bldA_fill pl zs parts 0 zs cs h rfl rfl
  simpa using this
def placesB (P : Program) (t : TypeId) : Option (List (Nat × Nat)) :=
  match P.underlying t with
  | some (.struct fields) => fields.toList.mapM fun f => (P.info? f.type).map fun i => (f.offset,i.size)
  | _ => none
def arrB (P : Program) (t : TypeId) : Option (Nat × Nat) :=
  match P.underlying t with
  | some (.array len elem) => (P.info? elem).map fun i => (len,i.size)
  | _ => none
theorem run_zero {t : Nat} {zs : List Value} (h : zcB P t = some zs) (w : World) : ∃ z,(zeroValue t).run P w = .ok z w∧z.cells = zs.toArray:=by
  unfold zcB at h
  cases hi : P.info? t with
  | none => simp [hi] at h
  | some i =>
    cases hz : i.zero with
    | none => simp [hi,hz] at h
    | some z => simp [hi,hz] at h; exact ⟨z,by simp [zeroValue,typeInfo,hi,hz],by rw [←h]⟩
theorem run_places : ∀ (fs : List Field) (pl : List (Nat × Nat)) (w : World),(fs.mapM fun f => (P.info? f.type).map fun i => (f.offset,i.size)) = some pl →
    (fs.mapM (fun f => do pure (f.offset,←sizeOf f.type) : Field→Sem (Nat × Nat))).run P w = .ok pl w
  | [],pl,w,h => by simp at h; subst h; simp
  | x :: r,pl,w,h => by
    simp only [List.mapM_cons,Option.bind_eq_bind,Option.pure_def,Option.bind_eq_some_iff] at h
    obtain ⟨p,hp,q,hq,e⟩:=h
    cases e
    cases hi : P.info? x.type with
    | none => simp [hi] at hp
    | some i =>
      simp [hi] at hp
      have ih:=run_places r q w hq
      simp only [List.mapM_cons,Sem.run_bind,sizeOf,typeInfo,run_program,Result.andThen_ok,hi,Sem.run_pure] at ih ⊢
      rw [ih]; simp [←hp]
theorem run_build_struct {t : Nat} {zs cs : List Value} {pl : List (Nat × Nat)} {parts : List (Nat × Value)} (hz : zcB P t = some zs) (hp : placesB P t = some pl) (hf : fillL (pl[·]?) zs parts = some cs) (w : World) :
  (Instr.build t parts.toArray).run P w = .ok (.agg cs.toArray) w:=by
 obtain ⟨z,hz1,hz2⟩:=run_zero hz w
 unfold placesB at hp
 split at hp
 ·rename_i fields hu
  have h:=run_places (P:=P) fields.toList pl w hp
  have hm : (fields.mapM (fun f => do pure (f.offset,←sizeOf f.type) : Field→Sem (Nat × Nat))).run P w = .ok pl.toArray w:=by
   rw [Array.mapM_eq_mapM_toList,Sem.run_map,h]; rfl
  have hfill:=fill_of _ parts zs cs hf
  have e : (fun i : Nat => pl.toArray[i]?) = fun i : Nat => pl[i]?:=by funext i; simp
  simp only [Instr.build,Sem.run_bind,hz1,Result.andThen_ok,run_underlying hu,hm]
  rw [hz2,e,hfill]
  simp
 ·cases hp
theorem run_build_array {t len es : Nat} {zs cs : List Value} {parts : List (Nat × Value)} (hz : zcB P t = some zs) (hp : arrB P t = some (len,es)) (hf : fillL (fun i => some (i * es,es)) zs parts = some cs) (w : World) :
  (Instr.build t parts.toArray).run P w = .ok (.agg cs.toArray) w:=by
 obtain ⟨z,hz1,hz2⟩:=run_zero hz w
 unfold arrB at hp
 split at hp
 ·rename_i len' elem hu
  cases hi : P.info? elem with
  | none => simp [hi] at hp
  | some i =>
   simp [hi] at hp
   obtain ⟨rfl,rfl⟩:=hp
   have hfill:=fill_of _ parts zs cs hf
   simp only [Instr.build,Sem.run_bind,hz1,Result.andThen_ok,run_underlying hu,sizeOf,typeInfo,run_program,hi,Sem.run_pure]
   rw [hz2,hfill]
   simp
 ·cases hp
theorem r_buildS {t : Nat} {parts : List (Nat × Operand)} {vs : List Value} {zs cs : List Value} {pl : List (Nat × Nat)} (hS : StD ds n R a) (hSw : Sf f (Kp w0 S K) w) (hv : evs R (parts.map (·.2)) = some vs) (hlt : Nat.blt d n = true)
  (hz : zcB P t = some zs) (hp : placesB P t = some pl) (hf : bldA (pl[·]?) zs 0 ((parts.map (·.1)).zip vs) = some cs)
  (k : ∀ a',StD ds n (up R d (.agg cs.toArray)) a'→Sq P ops Q rest a' w) : Sq P ops Q ((f,⟨some d,.build t parts.toArray,ty,pos,af,none⟩,Kp w0 S K) :: rest) a w :=
 r_build hS hSw hv hlt (run_build_struct hz hp (bldA_fill0 hf)) k
theorem x_buildS {t : Nat} {parts : List (Nat × Operand)} {vs : List Value} {zs cs : List Value} {pl : List (Nat × Nat)} (hSw : Sf f (Kp w0 S K) w) (hv : evs R (parts.map (·.2)) = some vs) (hlt : Nat.blt d n = true) (hz : zcB P t = some zs) (hp : placesB P t = some pl) (hf : bldA (pl[·]?) zs 0 ((parts.map (·.1)).zip vs) = some cs) (k : ∀ a',StD ds n (up R d (.agg cs.toArray)) a'→Sq P ops Q rest a' w) : ∀ a,StD ds n R a→Sq P ops Q ((f,⟨some d,.build t parts.toArray,ty,pos,af,none⟩,Kp w0 S K) :: rest) a w:=fun _ hS => r_buildS hS hSw hv hlt hz hp hf k
theorem r_buildA {t len es : Nat} {parts : List (Nat × Operand)} {vs : List Value} {zs cs : List Value} (hS : StD ds n R a) (hSw : Sf f (Kp w0 S K) w) (hv : evs R (parts.map (·.2)) = some vs) (hlt : Nat.blt d n = true)
  (hz : zcB P t = some zs) (hp : arrB P t = some (len,es)) (hf : bldA (fun i => some (i * es,es)) zs 0 ((parts.map (·.1)).zip vs) = some cs)
  (k : ∀ a',StD ds n (up R d (.agg cs.toArray)) a'→Sq P ops Q rest a' w) : Sq P ops Q ((f,⟨some d,.build t parts.toArray,ty,pos,af,none⟩,Kp w0 S K) :: rest) a w :=
 r_build hS hSw hv hlt (run_build_array hz hp (bldA_fill0 hf)) k

theorem x_buildA {t len es : Nat} {parts : List (Nat × Operand)} {vs : List Value} {zs cs : List Value} (hSw : Sf f (Kp w0 S K) w) (hv : evs R (parts.map (·.2)) = some vs) (hlt : Nat.blt d n = true) (hz : zcB P t = some zs) (hp : arrB P t = some (len,es)) (hf : bldA (fun i => some (i * es,es)) zs 0 ((parts.map (·.1)).zip vs) = some cs) (k : ∀ a',StD ds n (up R d (.agg cs.toArray)) a'→Sq P ops Q rest a' w) : ∀ a,StD ds n R a→Sq P ops Q ((f,⟨some d,.build t parts.toArray,ty,pos,af,none⟩,Kp w0 S K) :: rest) a w:=fun _ hS => r_buildA hS hSw hv hlt hz hp hf k
/-! ### calls -/
def isFn (P : Program) (g : FuncId) : Bool:=match P.funcs[g]? with
  | some fn => !(fn.name == "runtime.NumGoroutine") && fn.body.isSome
  | none => false
theorem run_callFunc {g : FuncId} (h : isFn P g = true) (args : Array Value) (w : World) : (callFunc g args).run P w = .ok (.enter g args) w:=by
  unfold isFn at h
  cases hf : P.funcs[g]? with
  | none => simp [hf] at h
  | some fn =>
    simp only [hf,Bool.and_eq_true,Bool.not_eq_true'] at h
    cases hb : fn.body with
    | none => simp [hb] at h
    | some c =>
      have hn : ¬ fn.name = "runtime.NumGoroutine" := by simpa using h.1
      simp [callFunc,hf,hn,hb]
theorem r_call {g : FuncId} {fx : Operand} {l : List Operand} {ats : Array TypeId} {vs cap : List Value} (hS : StD ds n R a) (hf : ev R fx = some (.func (.func g) #[] cap.toArray)) (hv : evs R l = some vs) (hg : isFn P g = true) (hlt : Nat.blt d n = true)
  (k : Calls P g (vs++cap).toArray w fun e w' => ∃ v,e = .returned v∧Kp w0 S K w'∧∀ a',StD ds n (up R d v) a'→Sq P ops Q rest a' w') :
  Sq P ops Q ((false,⟨some d,.call ⟨.value fx,l.toArray,ats⟩,ty,pos,af,none⟩,Kp w0 S K) :: rest) a w:=by
 refine Sq.enter (g:=g) (args:=(vs++cap).toArray) (w':=w) rfl ?_ (k.mono ?_)
 ·simp only [execOp,resolve,Sem.run_bind,hS.val hf,Deferred.ofValue,Sem.run_pure,Result.andThen_ok,invoke,List.map_toArray,hS.vals hv]
  rw [run_callFunc hg]; simp
 ·rintro e w' ⟨v,he,hK,h⟩
  exact ⟨v,he,hK,h _ (hS.put hlt v)⟩
/-! ### entering and leaving a function -/
theorem ofL_some : ∀ (l : List Value) (i : Nat) (v : Value),ofL l i = some v→l[i]? = some v
  | [],i,v,h => by simp [ofL] at h
  | x :: r,0,v,h => by simpa [ofL] using h
  | x :: r,i + 1,v,h => by simp only [ofL] at h; simpa using ofL_some r i v h
theorem enter {g : FuncId} {fn : Func} {c : Code} {m : Nat} {args : List Value} {Rt : Ending→World→Prop} (hf : P.funcs[g]? = some fn) (hb : fn.body = some c) (hn : fn.ntmps = m) (hle : Nat.ble args.length m = true)
  (k : ∀ a,St m (ofL args) a→c.wp P (bodyPost P fn Rt) a w) : Calls P g args.toArray w Rt:=by
 refine calls_of_wp hf hb (k _ ⟨rfl,?_,?_⟩)
 ·simp only [Nat.ble_eq] at hle; simp [hn]; omega
 ·intro i v hi
  have:=ofL_some args i v hi
  have hlt : i < args.length:=(List.getElem?_eq_some_iff.1 this).1
  simp only [Array.getD_eq_getD_getElem?,Array.getElem?_append,List.size_toArray,hlt,if_true,List.getElem?_toArray,this,Option.getD_some]
/-- what a result variable holds -/
inductive Res (P : Program) (R : Rg) (w : World) : List ResultVar→List Value→Prop
  | nil : Res P R w [] []
  | tmp {t v rs vs} : R t = some v→Res P R w rs vs→Res P R w (.tmp t :: rs) (v :: vs)
  | cell {p t b v m rs vs} {l : List Value} {T : TypeId} {fz : Nat × Nat} : R p = some (.pointer (some ⟨b,0,none⟩))→w.heap[b]? = some (.cells l.toArray T fz)→agB P t = some m→l.length = m→v = .agg l.toArray→Res P R w rs vs→Res P R w (.cell p t :: rs) (v :: vs)
  | cell1 {p t b v rs vs} {l : List Value} {T : TypeId} {fz : Nat × Nat} : R p = some (.pointer (some ⟨b,0,none⟩))→w.heap[b]? = some (.cells l.toArray T fz)→scB P t = true→l[0]? = some v→Res P R w rs vs→Res P R w (.cell p t :: rs) (v :: vs)
def valOf : List Value→Value
  | [v] => v
  | vs => .tuple vs.toArray
theorem run_results (hS : StD ds n R a) : ∀ {rs : List ResultVar} {vs : List Value},Res P R w rs vs →
    (rs.mapM (fun | .tmp t => pure (a.tmps.getD t undef) | .cell p t => do loadVar t (← asAddr (a.tmps.getD p undef)) : ResultVar→Sem Value)).run P w = .ok vs w:=by
  intro rs vs h
  induction h with
  | nil => simp
  | tmp ht _ ih =>
    have:=hS.regs _ _ ht
    simp only [List.mapM_cons,Sem.run_bind,Sem.run_pure,Result.andThen_ok,this]
    rw [ih]; simp
  | @cell p t b v m rs vs l T fz hp hb ha hl hv _ ih =>
    have:=hS.regs _ _ hp
    have hrun:=run_loadVar_ag (P:=P) (w:=w) (b:=b) (o:=0) (T:=T) (fz:=fz) (l:=l) ha hb (by omega)
    have e : (asAddr (a.tmps.getD p undef)).run P w = .ok ⟨b,0,none⟩ w:=by rw [this]; rfl
    simp only [List.mapM_cons,Sem.run_bind,e,Sem.run_pure,Result.andThen_ok,hrun,rd_all hl]
    rw [ih]; simp [hv]
  | @cell1 p t b v rs vs l T fz hp hb ha hl _ ih =>
    have:=hS.regs _ _ hp
    have hrun:=run_loadVar_sc (P:=P) (w:=w) (b:=b) (o:=0) (T:=T) (fz:=fz) (cs:=l.toArray) (v:=v) ha hb (by simpa using hl)
    have e : (asAddr (a.tmps.getD p undef)).run P w = .ok ⟨b,0,none⟩ w:=by rw [this]; rfl
    simp only [List.mapM_cons,Sem.run_bind,e,Sem.run_pure,Result.andThen_ok,hrun]
    rw [ih]; simp
theorem leave {fn : Func} {Rt : Ending→World→Prop} {rs : List ResultVar} {vs : List Value} {e : Exit} (he : e = .ret∨e = .normal) (hS : St n R a) (hr : fn.results = rs.toArray) (hv : Res P R w rs vs) (k : Rt (.returned (valOf vs)) w) : bodyPost P fn Rt e a w:=by
 have h:=run_results hS hv
 have hrun : (results fn a.tmps).run P w = .ok (valOf vs) w:=by
  simp only [results,hr,Sem.run_bind]
  rw [Array.mapM_eq_mapM_toList,Sem.run_map]
  dsimp only
  erw [h]
  simp only [Result.andThen_ok]
  match vs with
  | [] => simp [valOf]
  | [v] => simp [valOf]
  | v :: u :: r => simp [valOf]
 rcases he with rfl | rfl
 ·exact ⟨hS.defers,_,hrun,k⟩
 ·exact ⟨hS.defers,_,hrun,k⟩

/-! ### lengths -/
theorem run_len {t : Nat} {v : Value} {m : Nat} (x : Operand) (hx : a.eval x = v) (w : World) (h : (Builtin.len_ #[t] ty #[v]).run P w = .ok (.int .i64 m) w) :
    (execOp a.eval ⟨some d,.call ⟨.builtin .len,#[x],#[t]⟩,ty,pos,af,none⟩).run P w = .ok (.value (.int .i64 m)) w:=by
  simp only [execOp,resolve,Sem.run_bind,Sem.run_pure,Result.andThen_ok,invoke,builtin,List.map_toArray,List.map_cons,List.map_nil,hx,h]
theorem r_lenSl {t : Nat} {x : Operand} {p : Option Addr} {m c : Nat} (hS : StD ds n R a) (hSw : Sf f (Kp w0 S K) w) (hx : ev R x = some (.slice p m c)) (ht : isSlice P t = true) (hlt : Nat.blt d n = true)
  (k : ∀ a',StD ds n (up R d (.int .i64 m)) a'→Sq P ops Q rest a' w) : Sq P ops Q ((f,⟨some d,.call ⟨.builtin .len,#[x],#[t]⟩,ty,pos,af,none⟩,Kp w0 S K) :: rest) a w:=by
 unfold isSlice at ht
 split at ht
 ·rename_i e hu
  exact r_pure hS hSw hlt (fun w => run_len x (hS.val hx) w (by simp [Builtin.len_,run_underlying hu,goInt])) k
 ·cases ht
theorem x_lenSl {t : Nat} {x : Operand} {p : Option Addr} {m c : Nat} (hSw : Sf f (Kp w0 S K) w) (hx : ev R x = some (.slice p m c)) (ht : isSlice P t = true) (hlt : Nat.blt d n = true) (k : ∀ a',StD ds n (up R d (.int .i64 m)) a'→Sq P ops Q rest a' w) : ∀ a,StD ds n R a→Sq P ops Q ((f,⟨some d,.call ⟨.builtin .len,#[x],#[t]⟩,ty,pos,af,none⟩,Kp w0 S K) :: rest) a w:=fun _ hS => r_lenSl hS hSw hx ht hlt k
def isStr (P : Program) (t : TypeId) : Bool:=match P.underlying t with | some .string => true | _ => false
theorem r_lenStr {t : Nat} {x : Operand} {s : ByteArray} (hS : StD ds n R a) (hSw : Sf f (Kp w0 S K) w) (hx : ev R x = some (.string s)) (ht : isStr P t = true) (hlt : Nat.blt d n = true)
  (k : ∀ a',StD ds n (up R d (.int .i64 s.size)) a'→Sq P ops Q rest a' w) : Sq P ops Q ((f,⟨some d,.call ⟨.builtin .len,#[x],#[t]⟩,ty,pos,af,none⟩,Kp w0 S K) :: rest) a w:=by
 unfold isStr at ht
 split at ht
 ·rename_i hu
  exact r_pure hS hSw hlt (fun w => run_len x (hS.val hx) w (by simp [Builtin.len_,run_underlying hu,goInt])) k
 ·cases ht
theorem x_lenStr {t : Nat} {x : Operand} {s : ByteArray} (hSw : Sf f (Kp w0 S K) w) (hx : ev R x = some (.string s)) (ht : isStr P t = true) (hlt : Nat.blt d n = true) (k : ∀ a',StD ds n (up R d (.int .i64 s.size)) a'→Sq P ops Q rest a' w) : ∀ a,StD ds n R a→Sq P ops Q ((f,⟨some d,.call ⟨.builtin .len,#[x],#[t]⟩,ty,pos,af,none⟩,Kp w0 S K) :: rest) a w:=fun _ hS => r_lenStr hS hSw hx ht hlt k
/-! ### code -/
theorem then_n {Kk : Act→World→Prop} {Q : Exit→Act→World→Prop} (h : Kk a w) : Exit.then Kk Q .normal a w:=h
theorem then_e {Kk : Act→World→Prop} {Q : Exit→Act→World→Prop} {id : Nat} (h : Q (.exit id) a w) : Exit.then Kk Q (.exit id) a w:=h
theorem then_r {Kk : Act→World→Prop} {Q : Exit→Act→World→Prop} (h : Q .ret a w) : Exit.then Kk Q .ret a w:=h
theorem blk_n {id : Nat} {Q : Exit→Act→World→Prop} (h : Q .normal a w) : Exit.inBlock id Q .normal a w:=h
theorem blk_r {id : Nat} {Q : Exit→Act→World→Prop} (h : Q .ret a w) : Exit.inBlock id Q .ret a w:=h
theorem blk_hit {id : Nat} {Q : Exit→Act→World→Prop} (h : Q .normal a w) : Exit.inBlock id Q (.exit id) a w:=by simp [Exit.inBlock,h]
theorem Sq.nil {Q : Exit→Act→World→Prop} (h : Q .normal a w) : Sq P ops Q [] a w:=h
theorem c_seq {x y : Code} {Q : Exit→Act→World→Prop} (h : x.wp P (Exit.then (y.wp P Q) Q) a w) : (Code.seq x y).wp P Q a w:=wp_seq h
theorem c_cut {x y : Code} {Q : Exit→Act→World→Prop} (J : Act→World→Prop) (h : x.wp P (Exit.then J Q) a w) (k : ∀ a w,J a w→y.wp P Q a w) : (Code.seq x y).wp P Q a w :=
  wp_seq (wp_mono h fun e a w q => by cases e <;> first | exact k _ _ q | exact q)
theorem c_cond {c : Operand} {x y : Code} {b : Bool} {Q : Exit→Act→World→Prop} (hS : StD ds n R a) (hc : ev R c = some (.bool b)) (ht : b = true→x.wp P Q a w) (hf : b = false→y.wp P Q a w) : (Code.cond c x y).wp P Q a w :=
  wp_cond_split (hS.val hc) ht hf
theorem c_condT {c : Operand} {x y : Code} {b : Bool} {Q : Exit→Act→World→Prop} (hS : StD ds n R a) (hc : ev R c = some (.bool b)) (hb : b = true) (ht : x.wp P Q a w) : (Code.cond c x y).wp P Q a w :=
  wp_cond (hS.val hc) (by rw [if_pos hb]; exact ht)
theorem c_condF {c : Operand} {x y : Code} {b : Bool} {Q : Exit→Act→World→Prop} (hS : StD ds n R a) (hc : ev R c = some (.bool b)) (hb : b = false) (ht : y.wp P Q a w) : (Code.cond c x y).wp P Q a w :=
  wp_cond (hS.val hc) (by rw [if_neg (by simp [hb])]; exact ht)

/-! ### places in arrays and slices -/
theorem r_indexAddrA {t len es b o j : Nat} {x y : Operand} {kk : IntKind} {i : Int} (hS : StD ds n R a) (hSw : Sf f (Kp w0 S K) w) (hx : ev R x = some (.pointer (some ⟨b,o,none⟩))) (hy : ev R y = some (.int kk i)) (ht : arrB P t = some (len,es)) (hi : i = j) (hj : j < len) (hlt : Nat.blt d n = true)
  (k : ∀ a',StD ds n (up R d (.pointer (some ⟨b,o + j * es,none⟩))) a'→Sq P ops Q rest a' w) : Sq P ops Q ((f,⟨some d,.indexAddr t x y,ty,pos,af,none⟩,Kp w0 S K) :: rest) a w:=by
 unfold arrB at ht
 split at ht
 ·rename_i len' elem hu
  cases hq : P.info? elem with
  | none => simp [hq] at ht
  | some q =>
   simp [hq] at ht
   obtain ⟨rfl,rfl⟩:=ht
   subst hi
   refine r_pure hS hSw hlt (fun w => ?_) k
   simp [execOp,hS.val hx,hS.val hy,Instr.indexAt,asIntOf,run_underlying hu,Instr.sureAddr,hj,sizeOf,typeInfo,hq,add_eq]
 ·cases ht
theorem x_indexAddrA {t len es b o j : Nat} {x y : Operand} {kk : IntKind} {i : Int} (hSw : Sf f (Kp w0 S K) w) (hx : ev R x = some (.pointer (some ⟨b,o,none⟩))) (hy : ev R y = some (.int kk i)) (ht : arrB P t = some (len,es)) (hi : i = j) (hj : j < len) (hlt : Nat.blt d n = true) (k : ∀ a',StD ds n (up R d (.pointer (some ⟨b,o + j * es,none⟩))) a'→Sq P ops Q rest a' w) : ∀ a,StD ds n R a→Sq P ops Q ((f,⟨some d,.indexAddr t x y,ty,pos,af,none⟩,Kp w0 S K) :: rest) a w:=fun _ hS => r_indexAddrA hS hSw hx hy ht hi hj hlt k
def slB (P : Program) (t : TypeId) : Option Nat :=
 match P.underlying t with
 | some (.slice elem) => (P.info? elem).map (·.size)
 | _ => none
theorem r_indexAddrS {t es b o j len cap : Nat} {x y : Operand} {kk : IntKind} {i : Int} (hS : StD ds n R a) (hSw : Sf f (Kp w0 S K) w) (hx : ev R x = some (.slice (some ⟨b,o,none⟩) len cap)) (hy : ev R y = some (.int kk i)) (ht : slB P t = some es) (hi : i = j) (hj : j < len) (hlt : Nat.blt d n = true)
  (k : ∀ a',StD ds n (up R d (.pointer (some ⟨b,o + j * es,none⟩))) a'→Sq P ops Q rest a' w) : Sq P ops Q ((f,⟨some d,.indexAddr t x y,ty,pos,af,none⟩,Kp w0 S K) :: rest) a w:=by
 unfold slB at ht
 split at ht
 ·rename_i elem hu
  cases hq : P.info? elem with
  | none => simp [hq] at ht
  | some q =>
   simp [hq] at ht
   subst ht
   subst hi
   refine r_pure hS hSw hlt (fun w => ?_) k
   simp [execOp,hS.val hx,hS.val hy,Instr.indexAt,asIntOf,run_underlying hu,hj,sizeOf,typeInfo,hq,add_eq]
 ·cases ht
theorem x_indexAddrS {t es b o j len cap : Nat} {x y : Operand} {kk : IntKind} {i : Int} (hSw : Sf f (Kp w0 S K) w) (hx : ev R x = some (.slice (some ⟨b,o,none⟩) len cap)) (hy : ev R y = some (.int kk i)) (ht : slB P t = some es) (hi : i = j) (hj : j < len) (hlt : Nat.blt d n = true) (k : ∀ a',StD ds n (up R d (.pointer (some ⟨b,o + j * es,none⟩))) a'→Sq P ops Q rest a' w) : ∀ a,StD ds n R a→Sq P ops Q ((f,⟨some d,.indexAddr t x y,ty,pos,af,none⟩,Kp w0 S K) :: rest) a w:=fun _ hS => r_indexAddrS hS hSw hx hy ht hi hj hlt k
end
end Go.Sym
namespace Go.Sym
open Go

/-- one block less -/
inductive Del (b : Nat) (o : Obj) : Blocks→Blocks→Prop
  | here {X : Blocks} : Del b o ((b,o) :: X) X
  | there {x : Nat × Obj} {X Y : Blocks} : Del b o X Y→Del b o (x :: X) (x :: Y)
theorem Del.old {b : Nat} {o : Obj} {L L' : Blocks} (h : Del b o L L') : (b,o)∈L:=by
  induction h with
  | here => simp
  | there _ ih => exact List.mem_cons_of_mem _ ih
theorem Del.sub {b : Nat} {o : Obj} {L L' : Blocks} (h : Del b o L L') : L'.Sublist L:=by
  induction h with
  | here => exact List.sublist_cons_self _ _
  | there _ ih => exact ih.cons_cons _
theorem Del.ne {b : Nat} {o : Obj} {L L' : Blocks} (h : Del b o L L') (nd : (L.map Prod.fst).Nodup) : ∀ p∈L',p.1≠b:=by
 induction h with
 | here =>
  simp only [List.map_cons,List.nodup_cons] at nd
  intro p hp e
  exact nd.1 (List.mem_map.2 ⟨p,hp,e⟩)
 | there h ih =>
  simp only [List.map_cons,List.nodup_cons] at nd
  intro p hp
  rcases List.mem_cons.1 hp with rfl | hp
  ·intro e; exact nd.1 (List.mem_map.2 ⟨_,h.old,e.symm⟩)
  ·exact ih nd.2 p hp
theorem wr_take {r l : List Value} {o : Nat} (h : o + r.length≤l.length) : (wr l o r).take (o + r.length) = l.take o++r:=by
  rw [wr_eq r l o h]
  have : (l.take o++r).length = o + r.length:=by simp; omega
  rw [←this,List.take_left]
section
variable {P : Program} {ops : Array Oper} {Q : Exit→Act→World→Prop} {rest : List Item} {a : Act} {w w0 : World} {n : Nat} {R : Rg} {ds : List Deferred} {S : Nat→Prop} {L K : Blocks}
variable {f : Bool} {d : Nat} {ty : TypeId} {pos : String} {af : Array Edge}

/-! ### slices that are read -/
/-- v is a slice of m elements of es cells each,and these hold vs. -/
structure Sl (es : Nat) (w : World) (v : Value) (vs : List Value) (m : Nat) (p : Option Addr) (cap : Nat) : Prop where
  val : v = .slice p m cap
  len : vs.length = m * es
  le : m≤cap
  cells : ∀ i u,vs[i]? = some u→∃ b o,p = some ⟨b,o,none⟩∧w.cell? ⟨b,o + i,none⟩ = some u
  nil : p = none→cap = 0
theorem Sl.ext {es : Nat} {v : Value} {vs : List Value} {m cap : Nat} {p : Option Addr} {w' : World} (h : Sl es w v vs m p cap) (k : Ext w w') : Sl es w' v vs m p cap :=
  ⟨h.val,h.len,h.le,fun i u hu => by obtain ⟨b,o,e,hc⟩:=h.cells i u hu; exact ⟨b,o,e,k.cell_some hc⟩,h.nil⟩
def byteV (b : UInt8) : Value:=.int .u8 b.toNat
/-- v is a slice of bytes that reads l -/
def Bs (w : World) (v : Value) (l : List UInt8) : Prop := ∃ p cap,Sl 1 w v (l.map byteV) l.length p cap
theorem Bs.ext {v : Value} {l : List UInt8} {w' : World} (h : Bs w v l) (k : Ext w w') : Bs w' v l:=by
  obtain ⟨p,cap,h⟩:=h; exact ⟨p,cap,h.ext k⟩
theorem Bs.nil (w : World) : Bs w (.slice none 0 0) []:=⟨none,0,rfl,by simp,Nat.le_refl _,fun i u h => by simp at h,fun _ => rfl⟩
theorem Sl.load {es : Nat} {v : Value} {vs : List Value} {m cap : Nat} {p : Option Addr} (h : Sl es w v vs m p cap) (n : Nat) (hn : n≤m) (w' : World) (hw : w'.heap = w.heap) : (Builtin.firstCells es n v).run P w' = .ok (vs.take (n * es)).toArray w':=by
 rw [h.val]
 cases p with
 | none =>
  have hm : m = 0:=by have:=h.nil rfl; have:=h.le; omega
  subst hm
  have hn0 : n = 0:=by omega
  subst hn0
  simp [Builtin.firstCells]
 | some a =>
  simp only [Builtin.firstCells]
  have hlen : (vs.take (n * es)).length = n * es:=by rw [List.length_take,h.len]; exact Nat.min_eq_left (Nat.mul_le_mul_right _ hn)
  have hc : ∀ x,w'.cell? x = w.cell? x:=fun x => by simp [World.cell?,hw]
  have:=run_loadCells_list (P:=P) w' a (vs.take (n * es)) (fun j u hu => by
   have hu' : vs[j]? = some u:=by
    rw [List.getElem?_take] at hu
    split at hu
    ·exact hu
    ·cases hu
   obtain ⟨b,o,e,hx⟩:=h.cells j u hu'
   cases e
   rw [add_eq,hc]; exact hx)
  rwa [hlen] at this
/-- a slice that begins a block -/
theorem Sl.of_block {es b m cap : Nat} {l : List Value} {T : TypeId} {fz : Nat × Nat} (hb : w.heap[b]? = some (.cells l.toArray T fz)) (hl : m * es≤l.length) (hc : m≤cap) : Sl es w (.slice (some ⟨b,0,none⟩) m cap) (l.take (m * es)) m (some ⟨b,0,none⟩) cap :=
 ⟨rfl,by rw [List.length_take]; exact Nat.min_eq_left hl,hc,fun i u hu => ⟨b,0,rfl,by
  rw [cell_of_row w b (0 + i) _ T fz hb,Nat.zero_add,List.getElem?_toArray]
  rw [List.getElem?_take] at hu
  split at hu
  ·exact hu
  ·cases hu⟩,fun h => by cases h⟩

/-! ### bytes and texts -/
def strOf (l : List UInt8) : ByteArray:=⟨l.toArray⟩
def isU8 (P : Program) (t : TypeId) : Bool:=match P.underlying t with
  | some (.int .u8) => true
  | _ => false
def u8s (P : Program) (t : TypeId) : Bool:=match P.underlying t with
 | some (.slice e) => isU8 P e && (P.info? e).any (·.size == 1)
 | _ => false
theorem isU8_eq {t : TypeId} (h : isU8 P t = true) : P.underlying t = some (.int .u8):=by
 unfold isU8 at h
 split at h
 ·assumption
 ·cases h
theorem u8s_parts {t : TypeId} (h : u8s P t = true) : ∃ e i,P.underlying t = some (.slice e)∧P.underlying e = some (.int .u8)∧P.info? e = some i∧i.size = 1:=by
 unfold u8s at h
 split at h
 ·rename_i e hu
  simp only [Bool.and_eq_true] at h
  cases hi : P.info? e with
  | none => simp [hi] at h
  | some i => exact ⟨e,i,hu,isU8_eq h.1,hi ▸ rfl,by simpa [hi] using h.2⟩
 ·cases h
theorem run_bytesStr {s t : TypeId} {v : Value} {l : List UInt8} (hs : u8s P s = true) (ht : isStr P t = true) (h : Bs w v l) :
  (convert s t v).run P w = .ok (.string (strOf l)) w:=by
 obtain ⟨p,cap,h⟩:=h
 obtain ⟨e,i,hs',hb,hi,hsz⟩:=u8s_parts hs
 unfold isStr at ht
 split at ht
 ·rename_i hu
  have hv:=h.val
  cases p with
  | none =>
   have hm : l.length = 0:=by have:=h.nil rfl; have:=h.le; omega
   have : l = []:=List.eq_nil_of_length_eq_zero hm
   subst this
   rw [hv,run_convert_bytes_string w s t e _ _ _ hs' hb hu]
   simp [Conv.bytesToString,strOf,ByteArray.empty,ByteArray.emptyWithCapacity]; rfl
  | some a =>
   have hf:=h.load (P:=P) l.length (Nat.le_refl _) w rfl
   rw [hv] at hf
   simp only [Builtin.firstCells,Nat.mul_one] at hf
   rw [hv,run_convert_bytes_string w s t e _ _ _ hs' hb hu,run_bytesToString w a l.length cap (l.map fun b => (b.toNat : Int)) (by
    rw [hf]; congr 2
    rw [List.take_of_length_le (by simp),List.map_map]; rfl)]
   rw [foldl_push_bytes]
   simp [strOf,ByteArray.empty,ByteArray.emptyWithCapacity,List.map_map,Function.comp_def]; rfl
 ·cases ht
theorem r_bytesStr {s t : TypeId} {x : Operand} {v : Value} {l : List UInt8} (hS : StD ds n R a) (hK : Kp w0 S K w) (hx : ev R x = some v) (hb : Bs w v l) (hs : u8s P s = true) (ht : isStr P t = true) (hlt : Nat.blt d n = true)
    (k : ∀ a',StD ds n (up R d (.string (strOf l))) a'→Sq P ops Q rest a' w) : Sq P ops Q ((false,⟨some d,.convert s t x,ty,pos,af,none⟩,Kp w0 S K) :: rest) a w :=
  Sq.done rfl (by simp [execOp,hS.val hx,run_bytesStr hs ht hb]) hK (k _ (hS.put hlt _))
theorem x_bytesStr {s t : TypeId} {x : Operand} {v : Value} {l : List UInt8} (hK : Kp w0 S K w) (hx : ev R x = some v) (hb : Bs w v l) (hs : u8s P s = true) (ht : isStr P t = true) (hlt : Nat.blt d n = true) (k : ∀ a',StD ds n (up R d (.string (strOf l))) a'→Sq P ops Q rest a' w) : ∀ a,StD ds n R a→Sq P ops Q ((false,⟨some d,.convert s t x,ty,pos,af,none⟩,Kp w0 S K) :: rest) a w:=fun _ hS => r_bytesStr hS hK hx hb hs ht hlt k
theorem r_bytesStrS {s t : TypeId} {x : Operand} {v : Value} {l : List UInt8} (hS : StD ds n R a) (hx : ev R x = some v) (hb : ∀ w,Kp w0 S K w→Bs w v l) (hs : u8s P s = true) (ht : isStr P t = true) (hlt : Nat.blt d n = true)
    (k : ∀ a',StD ds n (up R d (.string (strOf l))) a'→Sq P ops Q rest a' w) : Sq P ops Q ((true,⟨some d,.convert s t x,ty,pos,af,none⟩,Kp w0 S K) :: rest) a w :=
  Sq.soft rfl (fun w' hw' => by simp [execOp,hS.val hx,run_bytesStr hs ht (hb w' hw')]) (k _ (hS.put hlt _))

theorem x_bytesStrS {s t : TypeId} {x : Operand} {v : Value} {l : List UInt8} (hx : ev R x = some v) (hb : ∀ w,Kp w0 S K w→Bs w v l) (hs : u8s P s = true) (ht : isStr P t = true) (hlt : Nat.blt d n = true) (k : ∀ a',StD ds n (up R d (.string (strOf l))) a'→Sq P ops Q rest a' w) : ∀ a,StD ds n R a→Sq P ops Q ((true,⟨some d,.convert s t x,ty,pos,af,none⟩,Kp w0 S K) :: rest) a w:=fun _ hS => r_bytesStrS hS hx hb hs ht hlt k
/-! ### loads through a slice -/
theorem r_load_cell {t : Nat} {x : Operand} {p : Addr} {v : Value} (hS : StD ds n R a) (hK : Kp w0 S K w) (hx : ev R x = some (.pointer (some p))) (hc : w.cell? p = some v) (ht : scB P t = true) (hlt : Nat.blt d n = true)
    (k : ∀ a',StD ds n (up R d v) a'→Sq P ops Q rest a' w) : Sq P ops Q ((false,⟨some d,.load t x,ty,pos,af,none⟩,Kp w0 S K) :: rest) a w :=
  Sq.done rfl (by simp [execOp,hS.val hx,Instr.loadAt,Instr.sureAddr,loadVar,run_isAgg_sc ht,hc]) hK (k _ (hS.put hlt v))
theorem r_load_cellS {t : Nat} {x : Operand} {p : Addr} {v : Value} (hS : StD ds n R a) (hx : ev R x = some (.pointer (some p))) (hc : ∀ w,Kp w0 S K w→w.cell? p = some v) (ht : scB P t = true) (hlt : Nat.blt d n = true)
    (k : ∀ a',StD ds n (up R d v) a'→Sq P ops Q rest a' w) : Sq P ops Q ((true,⟨some d,.load t x,ty,pos,af,none⟩,Kp w0 S K) :: rest) a w :=
  Sq.soft rfl (fun w' hw' => by simp [execOp,hS.val hx,Instr.loadAt,Instr.sureAddr,loadVar,run_isAgg_sc ht,hc w' hw']) (k _ (hS.put hlt v))
/-- several cells -/
theorem run_loadVar_cells {t b o m : Nat} {l : List Value} (ht : agB P t = some m) (hl : l.length = m) (hc : ∀ i u,l[i]? = some u→w.cell? ⟨b,o + i,none⟩ = some u) : (loadVar t ⟨b,o,none⟩).run P w = .ok (.agg l.toArray) w:=by
  have h:=run_loadCells_list (P:=P) w ⟨b,o,none⟩ l (fun j v hv => by rw [add_eq]; exact hc j v hv)
  rw [hl] at h
  simp [loadVar,run_isAgg_ag ht,run_size_ag ht,h]
theorem r_load_cells {t b o m : Nat} {x : Operand} {l : List Value} (hS : StD ds n R a) (hK : Kp w0 S K w) (hx : ev R x = some (.pointer (some ⟨b,o,none⟩))) (ht : agB P t = some m) (hl : l.length = m) (hc : ∀ i u,l[i]? = some u→w.cell? ⟨b,o + i,none⟩ = some u) (hlt : Nat.blt d n = true)
    (k : ∀ a',StD ds n (up R d (.agg l.toArray)) a'→Sq P ops Q rest a' w) : Sq P ops Q ((false,⟨some d,.load t x,ty,pos,af,none⟩,Kp w0 S K) :: rest) a w :=
  Sq.done rfl (by simp [execOp,hS.val hx,Instr.loadAt,Instr.sureAddr,run_loadVar_cells ht hl hc]) hK (k _ (hS.put hlt _))

theorem x_load_cells {t b o m : Nat} {x : Operand} {l : List Value} (hK : Kp w0 S K w) (hx : ev R x = some (.pointer (some ⟨b,o,none⟩))) (ht : agB P t = some m) (hl : l.length = m) (hc : ∀ i u,l[i]? = some u→w.cell? ⟨b,o + i,none⟩ = some u) (hlt : Nat.blt d n = true) (k : ∀ a',StD ds n (up R d (.agg l.toArray)) a'→Sq P ops Q rest a' w) : ∀ a,StD ds n R a→Sq P ops Q ((false,⟨some d,.load t x,ty,pos,af,none⟩,Kp w0 S K) :: rest) a w:=fun _ hS => r_load_cells hS hK hx ht hl hc hlt k
/-! ### a literal of a slice -/
def bslB (P : Program) (t len : Nat) : Option (TypeId × Nat × List Value) :=
  match P.underlying t with
  | some (.slice e) => match P.info? e with
    | some i => match i.zero with
      | some z => if i.size = z.cells.size∧0 < len * i.size∧len * i.size≤2 ^ 24 then some (e,i.size,(Array.range (len * i.size)).toList.map fun j => z.cells[j % z.cells.size]!) else none
      | none => none
    | none => none
  | _ => none
theorem r_buildSlice {t e es len : Nat} {parts : List (Nat × Operand)} {vs zs cs : List Value} (hS : StD ds n R a) (hH : Hp w0 S L w) (hs : Sub K L) (hv : evs R (parts.map (·.2)) = some vs) (hz : bslB P t len = some (e,es,zs)) (hf : bldA (fun i => some (i * es,es)) zs 0 ((parts.map (·.1)).zip vs) = some cs) (hlt : Nat.blt d n = true)
  (k : ∀ a' w' b,w0.heap.size≤b→w.heap.size≤b→StD ds n (up R d (.slice (some ⟨b,0,none⟩) len len)) a'→Hp w0 S ((b,.cells cs.toArray e (0,0)) :: L) w'→Sq P ops Q rest a' w') :
  Sq P ops Q ((false,⟨some d,.buildSlice t len parts.toArray,ty,pos,af,none⟩,Kp w0 S K) :: rest) a w:=by
 have h:=hS.vals hv
 have e1 : (parts.map fun x => match x with | (i,x) => (i,a.eval x)) = (parts.map (·.1)).zip vs:=by
  rw [←h,List.map_map]
  clear h hv hf k
  induction parts with
  | nil => rfl
  | cons p r ih => simp [ih]
 unfold bslB at hz
 split at hz
 ·rename_i e' hu
  split at hz
  ·rename_i i hi
   split at hz
   ·rename_i z hzz
    split at hz
    ·rename_i hc
     obtain ⟨c1,c2,c3⟩:=hc
     simp only [Option.some.injEq,Prod.mk.injEq] at hz
     obtain ⟨rfl,rfl,rfl⟩:=hz
     have hfill:=fill_of _ _ _ _ (bldA_fill0 hf)
     have hH':=hH.alloc (.cells cs.toArray e' (0,0))
     refine Sq.done (w':=w.alloc (.cells cs.toArray e' (0,0))) (v:=.slice (some ⟨w.heap.size,0,none⟩) len len) rfl ?_ ⟨fun p hp => hH'.blk p (List.mem_cons_of_mem _ (hs.mem p hp)),hH'.mod⟩ (k _ _ w.heap.size hH.mod.size (Nat.le_refl _) (hS.put hlt _) hH')
     have c2' : ¬ len * i.size = 0:=by omega
     have c3' : ¬ len * i.size > 2 ^ 24:=by omega
     simp only [execOp,List.map_toArray,Sem.run_bind]
     rw [e1]
     simp only [Instr.buildSlice,Sem.run_bind,run_underlying hu,Result.andThen_ok,sizeOf,typeInfo,run_program,hi,Sem.run_pure,c3',c2',if_false,zeroValue,hzz]
     have e2 : (Array.range (len * i.size)).map (fun x => z.cells[x % z.cells.size]!) = (((Array.range (len * i.size)).toList.map fun j => z.cells[j % z.cells.size]!)).toArray:=by
      apply Array.ext'; simp
     rw [e2,hfill]
     simp [newRow]
    ·cases hz
   ·cases hz
  ·cases hz
 ·cases hz

/-! ### append -/
/-- what is appended: n elements,whose cells are 'new' -/
structure Src (P : Program) (es : Nat) (w : World) (x : Value) (n : Nat) (new : List Value) : Prop where
  len : ∀ w',w'.heap = w.heap→(Builtin.lenOf x).run P w' = .ok n w'
  cells : ∀ w',w'.heap = w.heap→(Builtin.firstCells es n x).run P w' = .ok new.toArray w'
  size : new.length = n * es
  one : ∀ u∈new,u.oneCell' = true
theorem Sl.src {es : Nat} {v : Value} {vs : List Value} {m cap : Nat} {p : Option Addr} (h : Sl es w v vs m p cap) (h1 : ∀ u∈vs,u.oneCell' = true) : Src P es w v m vs :=
  ⟨fun w' _ => by rw [h.val]; simp [Builtin.lenOf],fun w' hw => by have:=h.load (P:=P) m (Nat.le_refl _) w' hw; rwa [List.take_of_length_le (by rw [h.len]; exact Nat.le_refl _)] at this,h.len,h1⟩
theorem one_bytes (l : List UInt8) : ∀ u∈l.map byteV,u.oneCell' = true:=by
  intro u hu
  obtain ⟨b,_,rfl⟩:=List.mem_map.1 hu
  rfl
theorem Bs.src {v : Value} {l : List UInt8} (h : Bs w v l) : Src P 1 w v l.length (l.map byteV):=by
  obtain ⟨p,cap,h⟩:=h; exact h.src (one_bytes l)
/-- the element type of a slice,as append asks for it: its type,cells,bytes,zero cells -/
def elB (P : Program) (t : TypeId) : Option (TypeId × Nat × Nat) :=
  match P.underlying t with
  | some (.slice e) => match P.info? e with
    | some i => match i.zero with
      | some z => if i.size = z.cells.size∧0 < i.bytes then some (e,i.size,i.bytes) else none
      | none => none
    | none => none
  | _ => none
theorem elB_parts {t e es by' : Nat} (h : elB P t = some (e,es,by')) : ∃ i z,P.underlying t = some (.slice e)∧P.info? e = some i∧i.zero = some z∧i.size = es∧i.bytes = by'∧z.cells.size = es∧0 < by':=by
 unfold elB at h
 split at h
 ·rename_i e' hu
  split at h
  ·rename_i i hi
   split at h
   ·rename_i z hz
    split at h
    ·rename_i hc
     simp only [Option.some.injEq,Prod.mk.injEq] at h
     obtain ⟨rfl,rfl,rfl⟩:=h
     exact ⟨i,z,hu,hi,hz,rfl,rfl,hc.1.symm,hc.2⟩
    ·cases h
   ·cases h
  ·cases h
 ·cases h
def notInt (P : Program) (t : TypeId) : Bool:=match P.underlying t with
  | some (.int _) => false
  | some _ => true
  | none => false
theorem run_append_room' {t t2 e es by' : Nat} (he : elB P t = some (e,es,by')) (h2 : notInt P t2 = true) {b o m cap n : Nat} {x : Value} {new l : List Value} {T : TypeId} (hx : Src P es w x n new) (hb : w.heap[b]? = some (.cells l.toArray T (0,0))) (hroom : m + n≤cap) (hl : o + m * es + new.length≤l.length) :
  ∃ w',(Builtin.append_ #[t,t2] ty #[.slice (some ⟨b,o,none⟩) m cap,x]).run P w = .ok (.slice (some ⟨b,o,none⟩) (m + n) cap) w'∧Turned b (.cells (wr l (o + m * es) new).toArray T (0,0)) w w':=by
 obtain ⟨i,z,hu,hi,hz,rfl,rfl,hzs,hby⟩:=elB_parts he
 obtain ⟨w',hr,hq⟩:=run_storeCells (P:=P) new l (o + m * i.size) 0 w hb hx.one (by omega)
 refine ⟨w',?_,hq⟩
 unfold notInt at h2
 split at h2
 ·cases h2
 ·rename_i u2 hn hu2
  have hz2 : (u2 matches .int _) = false:=by cases u2 <;> simp_all
  simp only [Builtin.append_,List.getElem?_toArray,List.getElem?_cons_zero,List.getElem?_cons_succ,Sem.run_bind,run_underlying hu,Result.andThen_ok,sizeOf,typeInfo,run_program,hi,Sem.run_pure,run_underlying hu2]
  simp only [Bool.false_eq_true,if_false,hx.len w rfl,Result.andThen_ok,hroom,if_true,Bool.not_false,Sem.run_bind,hx.cells w rfl,add_eq,hr,Sem.run_pure]
 ·cases h2
theorem run_append_grow' {t t2 e es by' : Nat} (he : elB P t = some (e,es,by')) (h2 : notInt P t2 = true) {p : Option Addr} {m cap n : Nat} {x : Value} {new old : List Value} (hx : Src P es w x n new) (hold : Sl es w (.slice p m cap) old m p cap) (hroom : cap < m + n) (hbytes : (m + n) * by'≤140737488355328) :
  ∃ c zs,(Builtin.append_ #[t,t2] ty #[.slice p m cap,x]).run P w = .ok (.slice (some ⟨w.heap.size,0,none⟩) (m + n) c) (w.drew.alloc (.cells (old++new++zs).toArray e (0,0)))∧m + n≤c∧(old++new++zs).length = c * es:=by
 obtain ⟨i,z,hu,hi,hz,rfl,rfl,hzs,hby⟩:=elB_parts he
 have hge:=grownCap_ge w (m + n) cap e
 refine ⟨grownCap w (m + n) cap e,(Builtin.zeroCells z.cells (grownCap w (m + n) cap e - (m + n))).toList,?_,hge,?_⟩
 ·unfold notInt at h2
  split at h2
  ·cases h2
  ·rename_i u2 hn hu2
   have hz2 : (u2 matches .int _) = false:=by cases u2 <;> simp_all
   have hn : ¬ (m + n≤cap):=by omega
   have hfit:=growslice_fits (need:=m + n) (old:=cap) (bytes:=i.bytes) hroom hbytes
   have h48' : ¬ (Builtin.nextslicecap (m + n) cap * i.bytes > 2 ^ 48):=by omega
   have hb0 : ¬ i.bytes = 0:=by omega
   have hd : w.drew.heap = w.heap:=rfl
   have hm : (Builtin.firstCells i.size m (.slice p m cap)).run P w.drew = .ok old.toArray w.drew:=by
    have:=hold.load (P:=P) m (Nat.le_refl _) w.drew hd
    rwa [List.take_of_length_le (by rw [hold.len]; exact Nat.le_refl _)] at this
   have hx':=hx.cells w.drew hd
   have e1 : old.toArray++new.toArray++Builtin.zeroCells z.cells (grownCap w (m + n) cap e - (m + n)) = (old++new++(Builtin.zeroCells z.cells (grownCap w (m + n) cap e - (m + n))).toList).toArray:=by
    apply Array.ext'; simp
   simp only [Builtin.append_,List.getElem?_toArray,List.getElem?_cons_zero,List.getElem?_cons_succ,Sem.run_bind,run_underlying hu,Result.andThen_ok,sizeOf,typeInfo,run_program,hi,Sem.run_pure,run_underlying hu2]
   simp only [Bool.false_eq_true,if_false,hx.len w rfl,Result.andThen_ok,hn,Sem.run_bind,Sem.run_pure,run_program,hi,h48',hb0,or_false,and_false,run_choose,Question.forced,run_askRoom]
   have e2 : (Question.appendCap (m + n) cap e).cut (w.tape w.drawn (.appendCap (m + n) cap e)) = grownCap w (m + n) cap e:=rfl
   rw [e2]
   simp only [World.drew_eq,hm,Result.andThen_ok,Bool.not_false,if_true,hx',zeroValue,Sem.run_bind,typeInfo,run_program,hi,hz,Sem.run_pure,newRow,run_newObj]
   rw [e1]
   rfl
  ·cases h2
 ·simp only [List.length_append,hold.len,hx.size,Array.length_toList,size_zeroCells,hzs,←Nat.add_mul]
  congr 1
  omega
theorem Hp.del (h : Hp w0 S L w) {b : Nat} {o : Obj} {L' : Blocks} (hd : Del b o L L') : Hp w0 S L' w:=⟨fun p hp => h.blk p (hd.sub.subset hp),h.nd.sublist (hd.sub.map _),h.mod⟩
theorem run_append_op {t t2 : Nat} {x y : Operand} {vx vy v : Value} {w' : World} (hS : StD ds n R a) (hx : ev R x = some vx) (hy : ev R y = some vy) (h : (Builtin.append_ #[t,t2] ty #[vx,vy]).run P w = .ok v w') :
    (execOp a.eval ⟨some d,.call ⟨.builtin .append,#[x,y],#[t,t2]⟩,ty,pos,af,none⟩).run P w = .ok (.value v) w':=by
  simp only [execOp,resolve,Sem.run_bind,Sem.run_pure,Result.andThen_ok,invoke,builtin,List.map_toArray,List.map_cons,List.map_nil,hS.val hx,hS.val hy,h]
theorem run_append_blk {t t2 e es by' b m cap k : Nat} {vy : Value} {l new : List Value} (he : elB P t = some (e,es,by')) (h2 : notInt P t2 = true) (hb : w.heap[b]? = some (.cells l.toArray e (0,0))) (hl : l.length = cap * es) (hm : m≤cap) (hsrc : Src P es w vy k new) (hbytes : (m + k) * by'≤140737488355328) :
  ∃ (w' : World) (b' c : Nat) (l2 : List Value),(Builtin.append_ #[t,t2] ty #[.slice (some ⟨b,0,none⟩) m cap,vy]).run P w = .ok (.slice (some ⟨b',0,none⟩) (m + k) c) w'∧Mod (· = b) w w'∧(b' = b∨w.heap.size≤b') ∧
   w'.heap[b']? = some (.cells l2.toArray e (0,0))∧l2.length = c * es∧m + k≤c∧l2.take ((m + k) * es) = l.take (m * es)++new:=by
 have hle : m * es≤l.length:=by rw [hl]; exact Nat.mul_le_mul_right _ hm
 by_cases hroom : m + k≤cap
 ·have hfit : 0 + m * es + new.length≤l.length:=by rw [hsrc.size,Nat.zero_add,←Nat.add_mul,hl]; exact Nat.mul_le_mul_right _ hroom
  obtain ⟨w',hr,hq⟩:=run_append_room' (P:=P) (ty:=ty) he h2 hsrc hb hroom hfit
  refine ⟨w',b,cap,_,hr,hq.mod,.inl rfl,hq.here,by rw [wr_length,hl],hroom,?_⟩
  have:=wr_take (r:=new) (l:=l) (o:=0 + m * es) hfit
  rw [Nat.zero_add,hsrc.size,←Nat.add_mul] at this
  rw [Nat.zero_add]; exact this
 ·have hold:=Sl.of_block (m:=m) (cap:=cap) hb hle hm
  obtain ⟨c,zs,hr,hc,hlen⟩:=run_append_grow' (P:=P) (ty:=ty) he h2 hsrc hold (by omega) hbytes
  refine ⟨_,w.heap.size,c,_,hr,((Ext.drew w).trans (Ext.alloc w.drew _)).mono (fun _ h => h.elim),.inr (Nat.le_refl _),heap_alloc_new w.drew _,hlen,hc,?_⟩
  have : (l.take (m * es)++new).length = (m + k) * es:=by rw [List.length_append,hold.len,hsrc.size,←Nat.add_mul]
  rw [←this,List.take_left]
/-- append to a slice that the call made -/
theorem r_append_own {t t2 e es by' : Nat} {x y : Operand} {b m cap k : Nat} {vy : Value} {l new : List Value} {L' : Blocks} (hS : StD ds n R a) (hH : Hp w0 S L w) (hx : ev R x = some (.slice (some ⟨b,0,none⟩) m cap)) (hy : ev R y = some vy)
  (hi : Del b (.cells l.toArray e (0,0)) L L') (hs : Sub K L') (he : elB P t = some (e,es,by')) (h2 : notInt P t2 = true) (hl : l.length = cap * es) (hm : m≤cap) (hsrc : Src P es w vy k new) (hbytes : (m + k) * by'≤140737488355328) (hw : S b∨w0.heap.size≤b) (hlt : Nat.blt d n = true)
  (kk : ∀ (a' : Act) (w' : World) (b' c : Nat) (l2 : List Value),(S b'∨w0.heap.size≤b')→l2.length = c * es→m + k≤c→l2.take ((m + k) * es) = l.take (m * es)++new→Mod (· = b) w w'→StD ds n (up R d (.slice (some ⟨b',0,none⟩) (m + k) c)) a'→Hp w0 S ((b',.cells l2.toArray e (0,0)) :: L') w'→Sq P ops Q rest a' w') :
  Sq P ops Q ((false,⟨some d,.call ⟨.builtin .append,#[x,y],#[t,t2]⟩,ty,pos,af,none⟩,Kp w0 S K) :: rest) a w:=by
 have hb:=hH.blk _ hi.old
 have hH':=hH.del hi
 have hne:=hi.ne hH.nd
 obtain ⟨w',b',c,l2,hr,hmod,hb',hhb,hl2,hc,htk⟩:=run_append_blk (P:=P) (ty:=ty) he h2 hb hl hm hsrc hbytes
 have hne' : ∀ p∈L',p.1≠b':=fun p hp => by
  rcases hb' with rfl | h
  ·exact hne p hp
  ·have:=lt_of_block (hH'.blk p hp); omega
 have hHw : Hp w0 S ((b',.cells l2.toArray e (0,0)) :: L') w':=by
  refine ⟨fun p hp => ?_,by simp only [List.map_cons,List.nodup_cons]; exact ⟨fun hm => by obtain ⟨p,hp,e⟩:=List.mem_map.1 hm; exact hne' p hp e,hH'.nd⟩,hH.mod.trans hmod (fun c hc hcb => by subst hcb; rcases hw with hs | hs; exact hs; omega)⟩
  rcases List.mem_cons.1 hp with rfl | hp
  ·exact hhb
  ·exact hmod.heap_some (hH'.blk p hp) (hne p hp)
 have hw' : S b'∨w0.heap.size≤b':=by
  rcases hb' with rfl | h
  ·exact hw
  ·exact .inr (Nat.le_trans hH.mod.size h)
 exact Sq.done rfl (run_append_op hS hx hy hr) ⟨fun p hp => hHw.blk p (List.mem_cons_of_mem _ (hs.mem p hp)),hHw.mod⟩ (kk _ w' b' c l2 hw' hl2 hc htk hmod (hS.put hlt _) hHw)
end
end Go.Sym
