/- Rules of symbolic execution over any program of the model, that the claims of this folder use; part Sym1. Conditions: those that each rule names. -/
import Derived.OrdersHeld
import Derived.WalkKit
import Derived.WalkSpells
/-
  A SMALL LAYER OF RULES FOR WALKS,OVER ANY PROGRAM: a frame as a function of slots,a heap as a list of known blocks,regions that draw their order by one plan.
-/
namespace Go.Sym
open Go

/-! ### 1. What a call may change -/
structure Mod (S : Nat→Prop) (w w' : World) : Prop where
  os : w'.os = w.os
  tape : w'.tape = w.tape
  output : w'.output = w.output
  size : w.heap.size≤w'.heap.size
  block : ∀ b,b < w.heap.size→¬ S b→w'.heap[b]? = w.heap[b]?

theorem Mod.refl (S : Nat→Prop) (w : World) : Mod S w w:=⟨rfl,rfl,rfl,Nat.le_refl _,fun _ _ _ => rfl⟩
theorem Mod.trans {S T : Nat→Prop} {u v w : World} (h : Mod S u v) (k : Mod T v w) (hT : ∀ b,b < u.heap.size→T b→S b) : Mod S u w :=
  ⟨k.os.trans h.os,k.tape.trans h.tape,k.output.trans h.output,Nat.le_trans h.size k.size,fun b hb hn =>
    (k.block b (Nat.lt_of_lt_of_le hb h.size) (fun ht => hn (hT b hb ht))).trans (h.block b hb hn)⟩
theorem Mod.mono {S T : Nat→Prop} {u v : World} (h : Mod S u v) (hT : ∀ b,S b→T b) : Mod T u v :=
  ⟨h.os,h.tape,h.output,h.size,fun b hb hn => h.block b hb (fun hs => hn (hT b hs))⟩
def Nobody : Nat→Prop:=fun _ => False
/-- nothing that was there has changed -/
abbrev Ext (w w' : World) : Prop:=Mod Nobody w w'
theorem Ext.trans {u v w : World} (h : Ext u v) (k : Ext v w) : Ext u w:=Mod.trans h k (fun _ _ h => h.elim)
theorem Mod.ext {S : Nat→Prop} {u v w : World} (h : Mod S u v) (k : Ext v w) : Mod S u w:=Mod.trans h k (fun _ _ h => h.elim)
theorem Ext.drew (w : World) : Ext w w.drew:=⟨rfl,rfl,rfl,Nat.le_refl _,fun _ _ _ => rfl⟩
theorem Ext.alloc (w : World) (o : Obj) : Ext w (w.alloc o):=⟨rfl,rfl,rfl,by simp,fun b hb _ => heap_alloc_old w o hb⟩
theorem Mod.cell {S : Nat→Prop} {w w' : World} (h : Mod S w w') {p : Addr} (hp : p.block < w.heap.size) (hn : ¬ S p.block) : w'.cell? p = w.cell? p :=
  World.cell?_of_block (w:=w) (h.block p.block hp hn)
theorem Ext.cell_some {w w' : World} (h : Ext w w') {p : Addr} {v : Value} (hc : w.cell? p = some v) : w'.cell? p = some v:=by
  rw [h.cell (World.block_lt_of_cell? w p hc) (fun h => h)]; exact hc
theorem Ext.heap_some {w w' : World} (h : Ext w w') {b : Nat} {o : Obj} (hc : w.heap[b]? = some o) : w'.heap[b]? = some o:=by
  rw [h.block b (lt_of_block hc) (fun h => h)]; exact hc
theorem Mod.heap_some {S : Nat→Prop} {w w' : World} (h : Mod S w w') {b : Nat} {o : Obj} (hc : w.heap[b]? = some o) (hn : ¬ S b) : w'.heap[b]? = some o:=by
  rw [h.block b (lt_of_block hc) hn]; exact hc
/-! ### 2. The frame -/
abbrev Rg:=Nat→Option Value
def up (R : Rg) (d : Nat) (v : Value) : Rg:=fun i => bif Nat.beq i d then some v else R i
def ofL : List Value→Rg
  | [],_ => none
  | v :: _,0 => some v
  | _ :: r,i + 1 => ofL r i
def ev (R : Rg) : Operand→Option Value
  | .tmp t => R t
  | .const v => some v
  | .global g => some (.pointer (some ⟨g,0,none⟩))
  | .func f => some (.func (.func f) #[] #[])
def evs (R : Rg) : List Operand→Option (List Value)
  | [] => some []
  | x :: r => match ev R x,evs R r with
    | some v,some l => some (v :: l)
    | _,_ => none
structure StD (ds : List Deferred) (n : Nat) (R : Rg) (a : Act) : Prop where
  defers : a.defers = ds
  size : a.tmps.size = n
  regs : ∀ i v,R i = some v→a.tmps.getD i undef = v
abbrev St:=StD []
theorem StD.val {n : Nat} {R : Rg} {ds : List Deferred} {a : Act} (h : StD ds n R a) {x : Operand} {v : Value} (hx : ev R x = some v) : a.eval x = v:=by
  cases x with
  | tmp t => exact h.regs t v hx
  | const u => simpa [ev,Act.eval] using hx
  | global g => simpa [ev,Act.eval] using hx
  | func f => simpa [ev,Act.eval] using hx
theorem StD.vals {n : Nat} {R : Rg} {ds : List Deferred} {a : Act} (h : StD ds n R a) : ∀ {l : List Operand} {vs : List Value},evs R l = some vs→l.map a.eval = vs
  | [],vs,e => by simp [evs] at e; simp [←e]
  | x :: r,vs,e => by
    simp only [evs] at e
    cases hx : ev R x with
    | none => simp [hx] at e
    | some v =>
      cases hr : evs R r with
      | none => simp [hx,hr] at e
      | some l => simp [hx,hr] at e; subst e; simp [h.val hx,h.vals hr]
theorem up_same (R : Rg) (d : Nat) (v : Value) : up R d v d = some v:=by simp [up]
theorem up_other (R : Rg) {d i : Nat} (v : Value) (h : i≠d) : up R d v i = R i:=by
  have : Nat.beq i d = false:=by cases hb : Nat.beq i d; rfl; exact absurd (Nat.eq_of_beq_eq_true hb) h
  simp [up,this]
theorem StD.put {n : Nat} {R : Rg} {ds : List Deferred} {a : Act} (h : StD ds n R a) {d : Nat} (hd : Nat.blt d n = true) (v : Value) : StD ds n (up R d v) (a.put (some d) v):=by
 have hlt : d < n:=by simpa [Nat.blt_eq] using hd
 refine ⟨h.defers,by simp [Act.put,h.size],fun i u hi => ?_⟩
 by_cases hid : i = d
 ·subst hid
  rw [up_same] at hi; cases hi
  simp [Act.put,h.size,hlt]
 ·rw [up_other R v hid] at hi
  have:=h.regs i u hi
  simpa [Act.put,Array.getElem?_setIfInBounds_ne (Ne.symm hid)] using this
theorem StD.weaken {n : Nat} {R R' : Rg} {ds : List Deferred} {a : Act} (h : StD ds n R a) (hr : ∀ i v,R' i = some v→R i = some v) : StD ds n R' a:=⟨h.defers,h.size,fun i v hi => h.regs i v (hr i v hi)⟩

/-! ### 3. The heap -/
abbrev Blocks:=List (Nat × Obj)
inductive In (b : Nat) (o : Obj) : Blocks→Prop
  | here {L} : In b o ((b,o) :: L)
  | there {x L} : In b o L→In b o (x :: L)
inductive Put (b : Nat) (o o' : Obj) : Blocks→Blocks→Prop
  | here {L} : Put b o o' ((b,o) :: L) ((b,o') :: L)
  | there {x L L'} : Put b o o' L L'→Put b o o' (x :: L) (x :: L')
inductive Sub : Blocks→Blocks→Prop
  | nil {L} : Sub [] L
  | cons {b o K L} : In b o L→Sub K L→Sub ((b,o) :: K) L
theorem In.mem {b : Nat} {o : Obj} {L : Blocks} (h : In b o L) : (b,o)∈L:=by
  induction h with
  | here => simp
  | there _ ih => exact List.mem_cons_of_mem _ ih
theorem Sub.mem {K L : Blocks} (h : Sub K L) : ∀ p∈K,p∈L:=by
  induction h with
  | nil => simp
  | cons hi _ ih => intro p hp; rcases List.mem_cons.1 hp with rfl | hp; exact hi.mem; exact ih p hp
theorem Put.keys {b : Nat} {o o' : Obj} {L L' : Blocks} (h : Put b o o' L L') : L'.map Prod.fst = L.map Prod.fst:=by
  induction h with
  | here => rfl
  | there _ ih => simp [ih]
theorem Put.old {b : Nat} {o o' : Obj} {L L' : Blocks} (h : Put b o o' L L') : (b,o)∈L:=by
  induction h with
  | here => simp
  | there _ ih => exact List.mem_cons_of_mem _ ih
theorem Put.mem {b : Nat} {o o' : Obj} {L L' : Blocks} (h : Put b o o' L L') (nd : (L.map Prod.fst).Nodup) : ∀ p∈L',p = (b,o')∨(p∈L∧p.1≠b):=by
 induction h with
 | here =>
  intro p hp
  rcases List.mem_cons.1 hp with rfl | hp
  ·exact .inl rfl
  ·refine .inr ⟨List.mem_cons_of_mem _ hp,fun e => ?_⟩
   simp only [List.map_cons,List.nodup_cons] at nd
   exact nd.1 (List.mem_map.2 ⟨p,hp,e⟩)
 | @there x L L' h ih =>
  intro p hp
  simp only [List.map_cons,List.nodup_cons] at nd
  rcases List.mem_cons.1 hp with rfl | hp
  ·exact .inr ⟨by simp,fun e => nd.1 (List.mem_map.2 ⟨_,h.old,e.symm⟩)⟩
  ·rcases ih nd.2 p hp with e | ⟨h1,h2⟩
   ·exact .inl e
   ·exact .inr ⟨List.mem_cons_of_mem _ h1,h2⟩

/-- In w,reached from w0 by writing to blocks of S alone,the blocks of L are what they are. -/
structure Hp (w0 : World) (S : Nat→Prop) (L : Blocks) (w : World) : Prop where
  blk : ∀ p∈L,w.heap[p.1]? = some p.2
  nd : (L.map Prod.fst).Nodup
  mod : Mod S w0 w
/-- What a region holds on to. -/
def Kp (w0 : World) (S : Nat→Prop) (K : Blocks) (w : World) : Prop:=(∀ p∈K,w.heap[p.1]? = some p.2)∧Mod S w0 w
/-- a list of blocks without those at some places -/
def dropI : Blocks→Nat→List Nat→Blocks
  | [],_,_ => []
  | x :: r,k,ds => bif ds.any (Nat.beq k) then dropI r (k + 1) ds else x :: dropI r (k + 1) ds
theorem dropI_mem : ∀ (L : Blocks) (k : Nat) (ds : List Nat),∀ p∈dropI L k ds,p∈L
 | [],_,_,p,h => by simp [dropI] at h
 | x :: r,k,ds,p,h => by
  simp only [dropI] at h
  cases hb : ds.any (Nat.beq k) with
  | true => rw [hb] at h; exact List.mem_cons_of_mem _ (dropI_mem r _ ds p h)
  | false =>
   rw [hb] at h
   rcases List.mem_cons.1 h with rfl | h
   ·simp
   ·exact List.mem_cons_of_mem _ (dropI_mem r _ ds p h)
theorem dropI_mono : ∀ (L : Blocks) (k : Nat) (ds es : List Nat),(∀ x,es.any (Nat.beq x) = true→ds.any (Nat.beq x) = true)→∀ p∈dropI L k ds,p∈dropI L k es
 | [],_,_,_,_,p,h => by simp [dropI] at h
 | x :: r,k,ds,es,hs,p,h => by
  simp only [dropI] at h ⊢
  cases hb : ds.any (Nat.beq k) with
  | true =>
   rw [hb] at h
   cases he : es.any (Nat.beq k) with
   | true => exact dropI_mono r _ ds es hs p h
   | false => exact List.mem_cons_of_mem _ (dropI_mono r _ ds es hs p h)
  | false =>
   rw [hb] at h
   have he : es.any (Nat.beq k) = false:=by
    cases he : es.any (Nat.beq k) with
    | false => rfl
    | true => rw [hs k he] at hb; cases hb
   rw [he]
   rcases List.mem_cons.1 h with rfl | h
   ·simp
   ·exact List.mem_cons_of_mem _ (dropI_mono r _ ds es hs p h)
section
variable {w0 w : World} {S : Nat→Prop} {L K : Blocks}
theorem Hp.kp (h : Hp w0 S L w) (hs : Sub K L) : Kp w0 S K w:=⟨fun p hp => h.blk p (hs.mem p hp),h.mod⟩
theorem Hp.kp0 (h : Hp w0 S L w) : Kp w0 S [] w:=⟨fun p hp => by simp at hp,h.mod⟩
theorem Hp.get (h : Hp w0 S L w) {b : Nat} {o : Obj} (hi : In b o L) : w.heap[b]? = some o:=h.blk _ hi.mem
theorem Hp.sub (h : Hp w0 S L w) {L' : Blocks} (hs : Sub L' L) (nd : (L'.map Prod.fst).Nodup) : Hp w0 S L' w:=⟨fun p hp => h.blk p (hs.mem p hp),nd,h.mod⟩
theorem Hp.start (w : World) (S : Nat→Prop) : Hp w S [] w:=⟨fun p hp => by simp at hp,by simp,Mod.refl _ _⟩
theorem Hp.drew (h : Hp w0 S L w) : Hp w0 S L w.drew:=⟨h.blk,h.nd,h.mod.ext (Ext.drew w)⟩
theorem Hp.alloc (h : Hp w0 S L w) (o : Obj) : Hp w0 S ((w.heap.size,o) :: L) (w.alloc o):=by
 refine ⟨fun p hp => ?_,?_,h.mod.ext (Ext.alloc w o)⟩
 ·rcases List.mem_cons.1 hp with rfl | hp
  ·exact heap_alloc_new w o
  ·exact (Ext.alloc w o).heap_some (h.blk p hp)
 ·simp only [List.map_cons,List.nodup_cons]
  refine ⟨fun hm => ?_,h.nd⟩
  obtain ⟨p,hp,e⟩:=List.mem_map.1 hm
  have:=lt_of_block (h.blk p hp)
  omega
/-- what another call leaves of it -/
theorem Hp.ext (h : Hp w0 S L w) {w' : World} (k : Ext w w') : Hp w0 S L w':=⟨fun p hp => k.heap_some (h.blk p hp),h.nd,h.mod.ext k⟩
/-- a block more that is known -/
theorem Hp.know (h : Hp w0 S L w) {b : Nat} {o : Obj} (hb : w.heap[b]? = some o) (hn : ∀ p∈L,p.1≠b) : Hp w0 S ((b,o) :: L) w:=by
 refine ⟨fun p hp => ?_,?_,h.mod⟩
 ·rcases List.mem_cons.1 hp with rfl | hp
  ·exact hb
  ·exact h.blk p hp
 ·simp only [List.map_cons,List.nodup_cons]
  refine ⟨fun hm => ?_,h.nd⟩
  obtain ⟨p,hp,e⟩:=List.mem_map.1 hm
  exact hn p hp e
theorem Hp.lt (h : Hp w0 S L w) : ∀ p∈L,p.1 < w.heap.size:=fun p hp => lt_of_block (h.blk p hp)
end

theorem Hp.kpDrop {w0 w : World} {S : Nat→Prop} {L : Blocks} (h : Hp w0 S L w) (k : Nat) (ds : List Nat) : Kp w0 S (dropI L k ds) w:=⟨fun p hp => h.blk p (dropI_mem L k ds p hp),h.mod⟩

/-! ### 4. Regions -/
abbrev Item:=Bool × Oper × (World→Prop)
/-- The operations of a region in one order: 'true': one that yields its value in every world that meets its condition; 'false': one that is carried out,and its condition holds behind it. -/
def Sq (P : Program) (ops : Array Oper) (Q : Exit→Act→World→Prop) : List Item→Act→World→Prop
  | [],a,w => Q .normal a w
  | (true,o,S) :: rest,a,w => ∃ v,YieldsIf P ops S o v a∧Sq P ops Q rest (a.put o.dst v) w
  | (false,o,S) :: rest,a,w =>
    if Region.wanted o (yielded ops a.tmps) then o.wp P a w (fun a' w' => S w'∧Sq P ops Q rest a' w') Q∨(o.asks P a w∧LetsOut Q)
    else S w∧Sq P ops Q rest (a.put o.dst undef) w

def hard (S : World→Prop) : List Oper→List Item
  | [] => []
  | o :: r => (false,o,S) :: hard S r
def nth : List Oper→Nat→Oper
  | [],_ => default
  | o :: _,0 => o
  | _ :: r,i + 1 => nth r i
/-- a plan: for each operation: is it soft? its number; which blocks are let go of -/
abbrev Plan:=List (Bool × Nat × List Nat)
def picked (w0 : World) (S : Nat→Prop) (K : Blocks) (l : List Oper) : Plan→List Item
  | [] => []
  | (b,i,ds) :: r => (b,nth l i,Kp w0 S (dropI K 0 ds)) :: picked w0 S K l r

theorem wpList_of_sq {P : Program} {ops : Array Oper} {Q : Exit→Act→World→Prop} {S : World→Prop} : ∀ (l : List Oper) (a : Act) (w : World),Sq P ops Q (hard S l) a w→wpList P ops Q l a w
 | [],_,_,h => h
 | o :: r,a,w,h => by
  simp only [hard,Sq] at h
  unfold wpList
  split
  ·rename_i hw
   rw [if_pos hw] at h
   exact h.imp (Oper.wp_mono fun a w ⟨_,k⟩ => wpList_of_sq r a w k) id
  ·rename_i hw
   rw [if_neg hw] at h
   exact wpList_of_sq r _ _ h.2

theorem reg_plain {P : Program} {id : Nat} {l : List Oper} {Q : Exit→Act→World→Prop} {a : Act} {w : World} (w0 : World) (S : Nat→Prop)
    (h : Sq P l.toArray Q (hard (Kp w0 S []) l) a w) : (Code.region id l.toArray false).wp P Q a w:=wp_region_lit (wpList_of_sq l a w h)

/-! #### whatever the order -/
section
variable {P : Program} {ops : Array Oper} {Q : Exit→Act→World→Prop} {md : Region.Mode} {Rj : Nat→World→World→Prop}
/-- Whatever order is picked from here on,and behind operation i its own relation holds. -/
def wpAnyL (P : Program) (md : Region.Mode) (ops : Array Oper) (Q : Exit→Act→World→Prop) (Rj : Nat→World→World→Prop) : Nat→Array Bool→Act→World→Prop
  | 0,listed,a,w => Region.ready md ops listed = []∧Q .normal a w
  | fuel + 1,listed,a,w =>
    (Region.ready md ops listed = []→Q .normal a w) ∧
    ∀ i∈Region.ready md ops listed,wpOp P ops Q i (fun a' w' => Rj i w w'∧wpAnyL P md ops Q Rj fuel (listed.setIfInBounds i true) a' w') a w
theorem wpAny_of_L : ∀ (fuel : Nat) (listed : Array Bool) (a : Act) (w : World),wpAnyL P md ops Q Rj fuel listed a w→wpAny P md ops Q fuel listed a w
  | 0,_,_,_,h => h
  | fuel + 1,_,_,_,h => ⟨h.1,fun i hi => wpOp_mono (fun a' w' h' => wpAny_of_L fuel _ a' w' h'.2) (h.2 i hi)⟩
/-- does i come ahead of j,by the edges that bind? -/
def anc (md : Region.Mode) (ops : Array Oper) : Nat→Nat→Nat→Bool
  | 0,_,_ => false
  | n + 1,i,j => (ops.getD j default).after.any fun e => Region.binds md e && (e.on == i || anc md ops n i e.on)
/-- what is listed has what it waits for listed -/
def Closed (md : Region.Mode) (ops : Array Oper) (listed : Array Bool) : Prop := ∀ k,listed.getD k false = true→∀ e∈(ops.getD k default).after,Region.binds md e = true→listed.getD e.on false = true
theorem anc_listed {listed : Array Bool} (hc : Closed md ops listed) {i : Nat} : ∀ (n j : Nat),(∀ e∈(ops.getD j default).after,Region.binds md e = true→listed.getD e.on false = true)→anc md ops n i j = true→listed.getD i false = true
 | 0,_,_,h => by simp [anc] at h
 | n + 1,j,hj,h => by
  simp only [anc,Array.any_eq_true'] at h
  obtain ⟨e,he,h⟩:=h
  simp only [Bool.and_eq_true,Bool.or_eq_true,beq_iff_eq] at h
  obtain ⟨hb,h⟩:=h
  have hl:=hj e he hb
  rcases h with rfl | h
  ·exact hl
  ·exact anc_listed hc n e.on (hc e.on hl) h
theorem getD_false_true {listed : Array Bool} {i : Nat} (h : listed.getD i true = false) : listed.getD i false = false:=by
 rcases Nat.lt_or_ge i listed.size with h' | h'
 ·simp [h'] at h ⊢; exact h
 ·simp [Array.getElem?_eq_none h']
theorem closed_set {listed : Array Bool} (hc : Closed md ops listed) {j : Nat} (hj : j∈Region.ready md ops listed) : Closed md ops (listed.setIfInBounds j true):=by
 intro k hk e he hb
 obtain ⟨_,o,ho,hall⟩:=mem_ready.1 hj
 by_cases hkj : k = j
 ·subst hkj
  have : ops.getD k default = o:=by simp [Array.getD_eq_getD_getElem?,ho]
  rw [this] at he
  exact getD_set_true (hall e he hb)
 ·rw [getD_set_ne false (Ne.symm hkj)] at hk
  exact getD_set_true (hc k hk e he hb)
theorem wpAnyL_first {i : Nat} {oi : Oper} {v : Value} {B : World→Prop} (n : Nat) (hi : ops[i]? = some oi) (hsel : ∀ (j : Nat) (o : Oper) cs b,ops[j]? = some o→o.op ≠ .select cs b)
  (hQ : ∀ c a w,Q (.panic c) (a.put oi.dst v) w→Q (.panic c) a w) (hB : ∀ j w w',j≠i→j < ops.size→anc md ops n i j = false→B w→Rj j w w'→B w') (hRi : ∀ w,Rj i w w) :
  ∀ (fuel : Nat) (listed : Array Bool) (a : Act) (w : World),Closed md ops listed →
   (∀ j oj,ops[j]? = some oj→j≠i→listed.getD j true = false→(∀ e∈oj.after,Region.binds md e = true→e.on≠i)→oi.apart ops oj = true) →
   i∈Region.ready md ops listed→YieldsIf P ops B oi v a→B w →
   wpAnyL P md ops Q Rj fuel (listed.setIfInBounds i true) (a.put oi.dst v) w→wpAnyL P md ops Q Rj (fuel + 1) listed a w:=by
 intro fuel
 induction fuel with
 | zero =>
  intro listed a w _ _ hr hy hS H
  refine ⟨fun h => (by rw [h] at hr; cases hr),fun j hj => ?_⟩
  by_cases hji : j = i
  ·subst hji; exact hy.wpOp hi hS ⟨hRi w,H⟩
  ·have:=ready_mono hj hji
   rw [H.1] at this
   cases this
 | succ fuel ih =>
  intro listed a w hc hfree hr hy hS H
  refine ⟨fun h => (by rw [h] at hr; cases hr),fun j hj => ?_⟩
  by_cases hji : j = i
  ·subst hji; exact hy.wpOp hi hS ⟨hRi w,H⟩
  ·have h1:=H.2 j (ready_mono hj hji)
   obtain ⟨hjun,oj,hoj,hall⟩:=mem_ready.1 hj
   have hiun:=getD_false_true (mem_ready.1 hr).1
   have hnot : ∀ e∈oj.after,Region.binds md e = true→e.on≠i:=fun e he hb heq => by
    have h1:=hall e he hb
    rw [heq,hiun] at h1; cases h1
   have hanc : anc md ops n i j = false:=by
    cases h : anc md ops n i j with
    | false => rfl
    | true =>
     have hoj' : ops.getD j default = oj:=by simp [Array.getD_eq_getD_getElem?,hoj]
     have:=anc_listed hc n j (by rw [hoj']; exact hall) h
     rw [hiun] at this; cases this
   have h2:=wpOp_putIf hoj (hfree j oj hoj hji hjun hnot) (fun cs b => hsel i oi cs b hi) (fun cs b => hsel j oj cs b hoj) hQ hy h1
   have hfree' : ∀ k ok,ops[k]? = some ok→k≠i→(listed.setIfInBounds j true).getD k true = false →
     (∀ e∈ok.after,Region.binds md e = true→e.on≠i)→oi.apart ops ok = true:=fun k ok hk hki hun hno => by
    refine hfree k ok hk hki ?_ hno
    by_cases hjk : j = k
    ·subst hjk; exact hjun
    ·rw [getD_set_ne true hjk] at hun; exact hun
   refine wpOp_mono (fun a' w' h3 => ⟨h3.2.1,ih (listed.setIfInBounds j true) a' w' (closed_set hc hj) hfree' (ready_mono hr (Ne.symm hji)) h3.1 (hB j w w' hji (Array.getElem?_eq_some_iff.1 hoj).1 hanc hS h3.2.1) ?_⟩) h2
   rw [Array.setIfInBounds_comm _ _ hji]
   exact h3.2.2
end

/-- Is this an order in which the softs are free when they are taken and each other one is alone? -/
def planOk (md : Region.Mode) (ops : Array Oper) : Plan→Array Bool→Bool
  | [],listed => (Region.ready md ops listed).isEmpty
  | (true,i,_) :: r,listed => (ops[i]?).isSome && Region.free md ops listed i && (Region.ready md ops listed).contains i && planOk md ops r (listed.setIfInBounds i true)
  | (false,i,_) :: r,listed => (ops[i]?).isSome && (Region.ready md ops listed == [i]) && planOk md ops r (listed.setIfInBounds i true)
/-- What one that is carried out lets go of,no soft one wants that may come behind it. -/
def keepOk (md : Region.Mode) (ops : Array Oper) (pl : Plan) : Bool :=
  pl.all fun x => !x.1 || pl.all fun y => y.1 || y.2.2.isEmpty || anc md ops 60 x.2.1 y.2.1 || y.2.2.all fun k => x.2.2.any (Nat.beq k)
/-- Each operation stands once in the plan. -/
def onceOk (n : Nat) (pl : Plan) : Bool:=(List.range n).all fun j => (pl.filter fun x => Nat.beq x.2.1 j).length == 1

theorem nth_get : ∀ (l : List Oper) (i : Nat) (o : Oper),l[i]? = some o→nth l i = o
  | [],i,o,h => by simp at h
  | x :: r,0,o,h => by simpa [nth] using h
  | x :: r,i + 1,o,h => by simp only [List.getElem?_cons_succ] at h; simpa [nth] using nth_get r i o h

/-- A post that does not look at the slots at a panic. -/
def Steady (Q : Exit→Act→World→Prop) : Prop := ∀ c a d v w,Q (.panic c) (Act.put a d v) w→Q (.panic c) a w
theorem steady_body {P : Program} {fn : Func} {Rt : Ending→World→Prop} : Steady (bodyPost P fn Rt):=fun _ _ d _ _ h => by
  cases d <;> exact h
theorem steady_then {K : Act→World→Prop} {Q : Exit→Act→World→Prop} (h : Steady Q) : Steady (Exit.then K Q):=fun c a d v w k => h c a d v w k
theorem steady_block {id : Nat} {Q : Exit→Act→World→Prop} (h : Steady Q) : Steady (Exit.inBlock id Q):=fun c a d v w k => h c a d v w k

/-- what the plan says of operation j -/
def relOf (w0 : World) (S : Nat→Prop) (K : Blocks) (pl : Plan) (j : Nat) (w w' : World) : Prop := ∀ x∈pl,x.2.1 = j→if x.1 = true then w' = w else Kp w0 S (dropI K 0 x.2.2) w'
theorem wpAnyL_of_plan {P : Program} {l : List Oper} {Q : Exit→Act→World→Prop} {w0 : World} {S : Nat→Prop} {K : Blocks} {pl0 : Plan} (hsel : Region.noSelect l.toArray = true) (hQ : Steady Q)
  (hk : keepOk .any l.toArray pl0 = true) (h1 : onceOk l.toArray.size pl0 = true) :
  ∀ (pl : Plan) (fuel : Nat) (listed : Array Bool) (a : Act) (w : World),(∀ x∈pl,x∈pl0)→pl.length≤fuel→planOk .any l.toArray pl listed = true→Closed .any l.toArray listed →
   (∀ x∈pl,x.1 = true→Kp w0 S (dropI K 0 x.2.2) w) →
   Sq P l.toArray Q (picked w0 S K l pl) a w→wpAnyL P .any l.toArray Q (relOf w0 S K pl0) fuel listed a w:=by
 have huniq : ∀ x∈pl0,∀ y∈pl0,x.2.1 = y.2.1→x.2.1 < l.toArray.size→x = y:=by
  intro x hx y hy e hlt
  simp only [onceOk,List.all_eq_true,List.mem_range,beq_iff_eq] at h1
  have h:=h1 x.2.1 hlt
  obtain ⟨z,hz⟩:=List.length_eq_one_iff.1 h
  have e1 : x∈pl0.filter fun q => Nat.beq q.2.1 x.2.1:=List.mem_filter.2 ⟨hx,by simp⟩
  have e2 : y∈pl0.filter fun q => Nat.beq q.2.1 x.2.1:=List.mem_filter.2 ⟨hy,by simp [e]⟩
  rw [hz] at e1 e2
  rw [List.mem_singleton.1 e1,List.mem_singleton.1 e2]
 have hkeep : ∀ x∈pl0,x.1 = true→∀ y∈pl0,y.1 = false→anc .any l.toArray 60 x.2.1 y.2.1 = false→∀ w,Kp w0 S (dropI K 0 y.2.2) w→Kp w0 S (dropI K 0 x.2.2) w:=by
  intro x hx hxs y hy hys ha w hw
  simp only [keepOk,List.all_eq_true] at hk
  have h:=hk x hx
  simp only [hxs,Bool.not_true,Bool.false_or,List.all_eq_true] at h
  have h:=h y hy
  simp only [hys,ha,Bool.false_or,Bool.or_false,Bool.or_eq_true,List.isEmpty_iff,List.all_eq_true] at h
  refine ⟨fun p hp => hw.1 p (dropI_mono K 0 _ _ ?_ p hp),hw.2⟩
  intro k hk2
  rcases h with h | h
  ·rw [h] at hk2; simp at hk2
  ·obtain ⟨q,hq,hq2⟩:=List.any_eq_true.1 hk2
   have:=Nat.eq_of_beq_eq_true hq2
   subst this
   exact h k hq
 intro pl
 induction pl with
 | nil =>
  intro fuel listed a w _ _ hp _ _ h
  simp only [planOk,List.isEmpty_iff] at hp
  cases fuel with
  | zero => exact ⟨hp,h⟩
  | succ fuel => exact ⟨fun _ => h,by rw [hp]; simp⟩
 | cons x r ih =>
  obtain ⟨b,i,ds⟩:=x
  intro fuel listed a w hsub hl hp hc hS h
  cases fuel with
  | zero => simp at hl
  | succ fuel =>
   have hmem : (b,i,ds)∈pl0:=hsub _ (by simp)
   cases b with
   | true =>
    simp only [planOk,Bool.and_eq_true] at hp
    obtain ⟨⟨⟨p1,p2⟩,p3⟩,p4⟩:=hp
    obtain ⟨o,ho⟩:=Option.isSome_iff_exists.1 p1
    have hlt:=(Array.getElem?_eq_some_iff.1 ho).1
    have hn : nth l i = o:=nth_get l i o (by simpa using ho)
    simp only [picked,Sq,hn] at h
    obtain ⟨v,hy,h⟩:=h
    have hrd : i∈Region.ready .any l.toArray listed:=by simpa using p3
    refine wpAnyL_first (B:=Kp w0 S (dropI K 0 ds)) 60 ho (Region.noSelect_spec hsel) (fun c a w hq => hQ _ _ _ _ _ hq) ?_ ?_ fuel listed a w hc (Region.free_spec ho p2) hrd hy (hS (true,i,ds) (by simp) rfl) (ih fuel _ _ _ (fun x hx => hsub x (by simp [hx])) (by simpa using hl) p4 (closed_set hc hrd) (fun x hx => hS x (by simp [hx])) h)
    ·intro j w w' hji hjl hanc hB hR
     simp only [onceOk,List.all_eq_true,List.mem_range,beq_iff_eq] at h1
     have hj:=h1 j hjl
     obtain ⟨z,hz⟩:=List.length_eq_one_iff.1 hj
     have hzm : z∈pl0.filter fun q => Nat.beq q.2.1 j:=by rw [hz]; simp
     obtain ⟨hz1,hz2⟩:=List.mem_filter.1 hzm
     have hz2:=Nat.eq_of_beq_eq_true hz2
     have:=hR z hz1 hz2
     cases hzb : z.1 with
     | true => rw [if_pos hzb] at this; rw [this]; exact hB
     | false =>
      rw [if_neg (by simp [hzb])] at this
      exact hkeep _ hmem rfl z hz1 hzb (by rw [hz2]; exact hanc) w' this
    ·intro w x hx e
     have:=huniq x hx _ hmem e (by rw [e]; exact hlt)
     rw [this]; simp
   | false =>
    simp only [planOk,Bool.and_eq_true,beq_iff_eq] at hp
    obtain ⟨⟨p1,p2⟩,p4⟩:=hp
    obtain ⟨o,ho⟩:=Option.isSome_iff_exists.1 p1
    have hlt:=(Array.getElem?_eq_some_iff.1 ho).1
    have hn : nth l i = o:=nth_get l i o (by simpa using ho)
    simp only [picked,Sq,hn] at h
    have hrd : i∈Region.ready .any l.toArray listed:=by rw [p2]; simp
    have step : ∀ a' w',Kp w0 S (dropI K 0 ds) w'→Sq P l.toArray Q (picked w0 S K l r) a' w'→relOf w0 S K pl0 i w w'∧wpAnyL P .any l.toArray Q (relOf w0 S K pl0) fuel (listed.setIfInBounds i true) a' w':=by
     intro a' w' k1 k2
     refine ⟨fun x hx e => ?_,ih fuel _ _ _ (fun x hx => hsub x (by simp [hx])) (by simpa using hl) p4 (closed_set hc hrd) (fun x hx hxs => ?_) k2⟩
     ·have:=huniq x hx _ hmem e (by rw [e]; exact hlt)
      rw [this]; simpa using k1
     ·refine hkeep x (hsub x (by simp [hx])) hxs _ hmem rfl ?_ w' k1
      -- x is not listed yet: it does not come ahead of i
      cases ha : anc .any l.toArray 60 x.2.1 i with
      | false => rfl
      | true =>
       exfalso
       obtain ⟨_,o',ho',hall⟩:=mem_ready.1 hrd
       have hoj' : l.toArray.getD i default = o':=by simp [Array.getD_eq_getD_getElem?] at ho' ⊢; simp [ho']
       have hli:=anc_listed hc 60 i (by rw [hoj']; exact hall) ha
       have : ∀ (pl : Plan) (listed : Array Bool),planOk .any l.toArray pl listed = true→∀ y∈pl,listed.getD y.2.1 false = false:=by
        intro pl
        induction pl with
        | nil => intro _ _ y hy; cases hy
        | cons z q ihq =>
         intro listed hp y hy
         obtain ⟨zb,zi,zd⟩:=z
         have hz : listed.getD zi true = false∧planOk .any l.toArray q (listed.setIfInBounds zi true) = true:=by
          cases zb with
          | true =>
           simp only [planOk,Bool.and_eq_true] at hp
           exact ⟨(mem_ready.1 (show zi∈Region.ready .any l.toArray listed by simpa using hp.1.2)).1,hp.2⟩
          | false =>
           simp only [planOk,Bool.and_eq_true,beq_iff_eq] at hp
           exact ⟨(mem_ready.1 (show zi∈Region.ready .any l.toArray listed by rw [hp.1.2]; simp)).1,hp.2⟩
         rcases List.mem_cons.1 hy with rfl | hy
         ·exact getD_false_true hz.1
         ·have:=ihq _ hz.2 y hy
          by_cases e : zi = y.2.1
          ·rw [←e]; exact getD_false_true hz.1
          ·rw [getD_set_ne false e] at this; exact this
       have hx0:=this ((false,i,ds) :: r) listed (by simp only [planOk,Bool.and_eq_true,beq_iff_eq]; exact ⟨⟨p1,p2⟩,p4⟩) x (by simp [hx])
       rw [hli] at hx0; cases hx0
    refine ⟨fun h0 => absurd (p2 ▸ h0) (by simp),fun j hj => ?_⟩
    rw [p2] at hj
    obtain rfl : j = i:=by simpa using hj
    unfold wpOp
    rw [ho]
    simp only
    split
    ·rename_i hw
     rw [if_pos hw] at h
     exact h.imp (Oper.wp_mono fun a w ⟨k1,k2⟩ => step a w k1 k2) id
    ·rename_i hw
     rw [if_neg hw] at h
     exact step _ _ h.1 h.2

theorem reg_draw {P : Program} {id : Nat} {l : List Oper} {Q : Exit→Act→World→Prop} {a : Act} {w w0 : World} {S : Nat→Prop} {L : Blocks} (pl : Plan) (hm : P.follows .mixedOrders = true)
    (hsel : Region.noSelect l.toArray = true) (hlen : Nat.ble pl.length l.toArray.size = true) (hp : planOk .any l.toArray pl (Array.replicate l.toArray.size false) = true) (hk : keepOk .any l.toArray pl = true) (h1 : onceOk l.toArray.size pl = true) (hQ : Steady Q)
    (hH : Hp w0 S L w) (h : Sq P l.toArray Q (picked w0 S L l pl) a w.drew) : (Code.region id l.toArray true).wp P Q a w :=
  wp_region_any hm (wpAny_of_L _ _ _ _ (wpAnyL_of_plan (pl0:=pl) hsel hQ hk h1 pl _ _ _ _ (fun _ h => h) (by simpa [Nat.ble_eq] using hlen) hp (fun k hk => by
    have : (Array.replicate l.toArray.size false).getD k false = false:=by rw [Array.getD_eq_getD_getElem?,Array.getElem?_replicate]; split <;> rfl
    rw [this] at hk; cases hk) (fun x _ _ => hH.drew.kpDrop 0 x.2.2) h))

end Go.Sym
namespace Go.Sym
open Go

section
variable {P : Program} {ops : Array Oper} {Q : Exit→Act→World→Prop} {S : World→Prop} {rest : List Item} {a : Act} {w : World} {n : Nat} {R : Rg} {ds : List Deferred}

/-- what is owed behind an operation that leaves the world alone -/
def Sf : Bool→(World→Prop)→World→Prop
  | true,_,_ => True
  | false,S,w => S w
theorem Sq.pure {f : Bool} {o : Oper} {v : Value} (hg : o.guard = none) (hp : ∀ w,(execOp a.eval o).run P w = .ok (.value v) w) (hSw : Sf f S w)
    (K : Sq P ops Q rest (a.put o.dst v) w) : Sq P ops Q ((f,o,S) :: rest) a w:=by
  have hw : Region.wanted o (yielded ops a.tmps) = true:=by simp [Region.wanted,hg]
  cases f with
  | true => exact ⟨v,.inl ⟨hw,fun w _ => hp w⟩,K⟩
  | false =>
    simp only [Sq,hw,if_true]
    exact .inl (by simp only [Oper.wp,hp w,Oper.upon]; exact ⟨hSw,K⟩)
theorem Sq.soft {o : Oper} {v : Value} (hg : o.guard = none) (hp : ∀ w,S w→(execOp a.eval o).run P w = .ok (.value v) w)
    (K : Sq P ops Q rest (a.put o.dst v) w) : Sq P ops Q ((true,o,S) :: rest) a w :=
  ⟨v,.inl ⟨by simp [Region.wanted,hg],hp⟩,K⟩
theorem Sq.done {o : Oper} {v : Value} {w' : World} (hg : o.guard = none) (hp : (execOp a.eval o).run P w = .ok (.value v) w') (hSw : S w')
    (K : Sq P ops Q rest (a.put o.dst v) w') : Sq P ops Q ((false,o,S) :: rest) a w:=by
  have hw : Region.wanted o (yielded ops a.tmps) = true:=by simp [Region.wanted,hg]
  simp only [Sq,hw,if_true]
  exact .inl (by simp only [Oper.wp,hp,Oper.upon]; exact ⟨hSw,K⟩)
theorem Sq.skip {o : Oper} {w' : World} (hg : o.guard = none) (hp : (execOp a.eval o).run P w = .ok .skip w') (hSw : S w')
    (K : Sq P ops Q rest (a.put o.dst undef) w') : Sq P ops Q ((false,o,S) :: rest) a w:=by
  have hw : Region.wanted o (yielded ops a.tmps) = true:=by simp [Region.wanted,hg]
  simp only [Sq,hw,if_true]
  exact .inl (by simp only [Oper.wp,hp,Oper.upon]; exact ⟨hSw,K⟩)
theorem Sq.enter {o : Oper} {g : FuncId} {args : Array Value} {w' : World} (hg : o.guard = none) (hp : (execOp a.eval o).run P w = .ok (.enter g args) w')
    (K : Calls P g args w' fun e w'' => ∃ v,e = .returned v∧S w''∧Sq P ops Q rest (a.put o.dst v) w'') : Sq P ops Q ((false,o,S) :: rest) a w:=by
  have hw : Region.wanted o (yielded ops a.tmps) = true:=by simp [Region.wanted,hg]
  simp only [Sq,hw,if_true]
  refine .inl ?_
  simp only [Oper.wp,hp,Oper.upon]
  exact K.mono (by rintro e w'' ⟨v,rfl,h⟩; exact h)

/-- the slot that a guard looks at -/
def gslot (ops : Array Oper) (j : Nat) : Option Nat:=(ops[j]?).bind (·.dst)
theorem yielded_of {j d : Nat} {b : Bool} (hS : StD ds n R a) (hj : gslot ops j = some d) (hd : R d = some (.bool b)) : yielded ops a.tmps j = some b:=by
  have h:=hS.regs d _ hd
  have h2 : a.tmps[d]? = some (.bool b):=by
    cases hq : a.tmps[d]? with
    | none => simp [Array.getD_eq_getD_getElem?,hq,undef] at h
    | some u => simp [Array.getD_eq_getD_getElem?,hq] at h; rw [h]
  unfold gslot at hj
  simp [yielded,hj,h2]
theorem Sq.guardYes {f : Bool} {dst : Option Tmp} {op : Op} {ty : TypeId} {pos : String} {af : Array Edge} {j d : Nat} {want b : Bool} (hS : StD ds n R a) (hj : gslot ops j = some d) (hd : R d = some (.bool b)) (hb : b = want)
  (K : Sq P ops Q ((f,⟨dst,op,ty,pos,af,none⟩,S) :: rest) a w) : Sq P ops Q ((f,⟨dst,op,ty,pos,af,some (j,want)⟩,S) :: rest) a w:=by
 have hy:=yielded_of hS hj hd
 subst hb
 have hw : ∀ o : Oper,o.guard = some (j,b)→Region.wanted o (yielded ops a.tmps) = true:=fun o ho => by simp [Region.wanted,ho,hy]
 have hw0 : ∀ o : Oper,o.guard = none→Region.wanted o (yielded ops a.tmps) = true:=fun o ho => by simp [Region.wanted,ho]
 cases f with
 | true =>
  obtain ⟨v,hy',K⟩:=K
  refine ⟨v,.inl ⟨hw _ rfl,?_⟩,K⟩
  rcases hy' with ⟨_,h⟩ | ⟨h,_⟩
  ·exact h
  ·rw [hw0 _ rfl] at h; cases h
 | false =>
  simp only [Sq] at K ⊢
  rw [if_pos (hw0 _ rfl)] at K
  rw [if_pos (hw _ rfl)]
  exact K
theorem Sq.xguardYes {f : Bool} {dst : Option Tmp} {op : Op} {ty : TypeId} {pos : String} {af : Array Edge} {j d : Nat} {want b : Bool} (hj : gslot ops j = some d) (hd : R d = some (.bool b)) (hb : b = want) (K : ∀ a,StD ds n R a→Sq P ops Q ((f,⟨dst,op,ty,pos,af,none⟩,S) :: rest) a w) : ∀ a,StD ds n R a→Sq P ops Q ((f,⟨dst,op,ty,pos,af,some (j,want)⟩,S) :: rest) a w:=fun a hS => Sq.guardYes hS hj hd hb (K a hS)
theorem Sq.guardNo {f : Bool} {d' : Nat} {op : Op} {ty : TypeId} {pos : String} {af : Array Edge} {j d : Nat} {want b : Bool} (hS : StD ds n R a) (hj : gslot ops j = some d) (hd : R d = some (.bool b)) (hb : b = !want)
    (hSw : Sf f S w) (hlt : Nat.blt d' n = true) (K : ∀ a',StD ds n (up R d' undef) a'→Sq P ops Q rest a' w) : Sq P ops Q ((f,⟨some d',op,ty,pos,af,some (j,want)⟩,S) :: rest) a w:=by
  have hy:=yielded_of hS hj hd
  have hw : ∀ o : Oper,o.guard = some (j,want)→Region.wanted o (yielded ops a.tmps) = false:=fun o ho => by simp [Region.wanted,ho,hy,hb]
  have K':=K _ (hS.put hlt undef)
  cases f with
  | true => exact ⟨undef,.inr ⟨hw _ rfl,rfl⟩,K'⟩
  | false =>
    simp only [Sq]
    rw [if_neg (by simp [hw])]
    exact ⟨hSw,K'⟩

theorem Sq.xguardNo {f : Bool} {d' : Nat} {op : Op} {ty : TypeId} {pos : String} {af : Array Edge} {j d : Nat} {want b : Bool} (hj : gslot ops j = some d) (hd : R d = some (.bool b)) (hb : b = !want) (hSw : Sf f S w) (hlt : Nat.blt d' n = true) (K : ∀ a',StD ds n (up R d' undef) a'→Sq P ops Q rest a' w) : ∀ a,StD ds n R a→Sq P ops Q ((f,⟨some d',op,ty,pos,af,some (j,want)⟩,S) :: rest) a w:=fun _ hS => Sq.guardNo hS hj hd hb hSw hlt K
/-! ### pure operations -/
variable {f : Bool} {d : Nat} {ty : TypeId} {pos : String} {af : Array Edge}

theorem r_pure {op : Op} {v : Value} (hS : StD ds n R a) (hSw : Sf f S w) (hlt : Nat.blt d n = true) (hp : ∀ w,(execOp a.eval ⟨some d,op,ty,pos,af,none⟩).run P w = .ok (.value v) w)
    (K : ∀ a',StD ds n (up R d v) a'→Sq P ops Q rest a' w) : Sq P ops Q ((f,⟨some d,op,ty,pos,af,none⟩,S) :: rest) a w :=
  Sq.pure rfl hp hSw (K _ (hS.put hlt v))

theorem r_move {x : Operand} {v : Value} (hS : StD ds n R a) (hSw : Sf f S w) (hx : ev R x = some v) (hlt : Nat.blt d n = true)
    (K : ∀ a',StD ds n (up R d v) a'→Sq P ops Q rest a' w) : Sq P ops Q ((f,⟨some d,.move x,ty,pos,af,none⟩,S) :: rest) a w :=
  r_pure hS hSw hlt (fun w => by simp [execOp,hS.val hx]) K
theorem x_move {x : Operand} {v : Value} (hSw : Sf f S w) (hx : ev R x = some v) (hlt : Nat.blt d n = true) (K : ∀ a',StD ds n (up R d v) a'→Sq P ops Q rest a' w) : ∀ a,StD ds n R a→Sq P ops Q ((f,⟨some d,.move x,ty,pos,af,none⟩,S) :: rest) a w:=fun _ hS => r_move hS hSw hx hlt K
theorem r_assign {x : Operand} {v : Value} (hS : StD ds n R a) (hSw : Sf f S w) (hx : ev R x = some v) (hlt : Nat.blt d n = true)
    (K : ∀ a',StD ds n (up R d v) a'→Sq P ops Q rest a' w) : Sq P ops Q ((f,⟨some d,.assign x,ty,pos,af,none⟩,S) :: rest) a w :=
  r_pure hS hSw hlt (fun w => by simp [execOp,hS.val hx]) K
theorem x_assign {x : Operand} {v : Value} (hSw : Sf f S w) (hx : ev R x = some v) (hlt : Nat.blt d n = true) (K : ∀ a',StD ds n (up R d v) a'→Sq P ops Q rest a' w) : ∀ a,StD ds n R a→Sq P ops Q ((f,⟨some d,.assign x,ty,pos,af,none⟩,S) :: rest) a w:=fun _ hS => r_assign hS hSw hx hlt K
theorem r_pickT {c x y : Operand} {b : Bool} {v : Value} (hS : StD ds n R a) (hSw : Sf f S w) (hc : ev R c = some (.bool b)) (hb : b = true) (hx : ev R x = some v) (hlt : Nat.blt d n = true)
    (K : ∀ a',StD ds n (up R d v) a'→Sq P ops Q rest a' w) : Sq P ops Q ((f,⟨some d,.pick c x y,ty,pos,af,none⟩,S) :: rest) a w :=
  r_pure hS hSw hlt (fun w => by simp [execOp,hS.val hx,hS.val hc,asBool,hb]) K
theorem x_pickT {c x y : Operand} {b : Bool} {v : Value} (hSw : Sf f S w) (hc : ev R c = some (.bool b)) (hb : b = true) (hx : ev R x = some v) (hlt : Nat.blt d n = true) (K : ∀ a',StD ds n (up R d v) a'→Sq P ops Q rest a' w) : ∀ a,StD ds n R a→Sq P ops Q ((f,⟨some d,.pick c x y,ty,pos,af,none⟩,S) :: rest) a w:=fun _ hS => r_pickT hS hSw hc hb hx hlt K
theorem r_pickF {c x y : Operand} {b : Bool} {v : Value} (hS : StD ds n R a) (hSw : Sf f S w) (hc : ev R c = some (.bool b)) (hb : b = false) (hy : ev R y = some v) (hlt : Nat.blt d n = true)
    (K : ∀ a',StD ds n (up R d v) a'→Sq P ops Q rest a' w) : Sq P ops Q ((f,⟨some d,.pick c x y,ty,pos,af,none⟩,S) :: rest) a w :=
  r_pure hS hSw hlt (fun w => by simp [execOp,hS.val hy,hS.val hc,asBool,hb]) K
theorem x_pickF {c x y : Operand} {b : Bool} {v : Value} (hSw : Sf f S w) (hc : ev R c = some (.bool b)) (hb : b = false) (hy : ev R y = some v) (hlt : Nat.blt d n = true) (K : ∀ a',StD ds n (up R d v) a'→Sq P ops Q rest a' w) : ∀ a,StD ds n R a→Sq P ops Q ((f,⟨some d,.pick c x y,ty,pos,af,none⟩,S) :: rest) a w:=fun _ hS => r_pickF hS hSw hc hb hy hlt K
theorem r_nilCheck {x : Operand} {p : Addr} (hS : StD ds n R a) (hSw : Sf f S w) (hx : ev R x = some (.pointer (some p))) (hlt : Nat.blt d n = true)
    (K : ∀ a',StD ds n (up R d (.pointer (some p))) a'→Sq P ops Q rest a' w) : Sq P ops Q ((f,⟨some d,.nilCheck x,ty,pos,af,none⟩,S) :: rest) a w :=
  r_pure hS hSw hlt (fun w => by simp [execOp,hS.val hx]) K
theorem x_nilCheck {x : Operand} {p : Addr} (hSw : Sf f S w) (hx : ev R x = some (.pointer (some p))) (hlt : Nat.blt d n = true) (K : ∀ a',StD ds n (up R d (.pointer (some p))) a'→Sq P ops Q rest a' w) : ∀ a,StD ds n R a→Sq P ops Q ((f,⟨some d,.nilCheck x,ty,pos,af,none⟩,S) :: rest) a w:=fun _ hS => r_nilCheck hS hSw hx hlt K
/-- a field's place -/
def foff (P : Program) (s k : Nat) : Option Nat :=
  match P.underlying s with
  | some (.struct fields) => match fields[k]? with
    | some f => match P.info? f.type with
      | some i => if i.size = 0 then none else some f.offset
      | none => none
    | none => none
  | _ => none
theorem add_eq {b o k : Nat} : (⟨b,o,none⟩ : Addr).add k = ⟨b,o + k,none⟩:=by unfold Addr.add; split <;> simp_all
theorem r_fieldAddr {s k o : Nat} {x : Operand} {b p : Nat} (hS : StD ds n R a) (hSw : Sf f S w) (hx : ev R x = some (.pointer (some ⟨b,p,none⟩))) (hk : foff P s k = some o) (hlt : Nat.blt d n = true)
  (K : ∀ a',StD ds n (up R d (.pointer (some ⟨b,p + o,none⟩))) a'→Sq P ops Q rest a' w) : Sq P ops Q ((f,⟨some d,.fieldAddr s x k,ty,pos,af,none⟩,S) :: rest) a w:=by
 refine r_pure hS hSw hlt (fun w => ?_) K
 unfold foff at hk
 split at hk
 ·rename_i fields hu
  split at hk
  ·rename_i fl hf
   split at hk
   ·rename_i i hi
    split at hk
    ·cases hk
    ·rename_i h0
     cases hk
     simp [execOp,hS.val hx,Instr.fieldAt,run_underlying hu,hf,Instr.sureAddr,fieldPlace,sizeOf,typeInfo,hi,h0,add_eq]
   ·cases hk
  ·cases hk
 ·cases hk
theorem x_fieldAddr {s k o : Nat} {x : Operand} {b p : Nat} (hSw : Sf f S w) (hx : ev R x = some (.pointer (some ⟨b,p,none⟩))) (hk : foff P s k = some o) (hlt : Nat.blt d n = true) (K : ∀ a',StD ds n (up R d (.pointer (some ⟨b,p + o,none⟩))) a'→Sq P ops Q rest a' w) : ∀ a,StD ds n R a→Sq P ops Q ((f,⟨some d,.fieldAddr s x k,ty,pos,af,none⟩,S) :: rest) a w:=fun _ hS => r_fieldAddr hS hSw hx hk hlt K
theorem r_extract {x : Operand} {k : Nat} {vs : Array Value} {v : Value} (hS : StD ds n R a) (hSw : Sf f S w) (hx : ev R x = some (.tuple vs)) (hk : vs[k]? = some v) (hlt : Nat.blt d n = true)
    (K : ∀ a',StD ds n (up R d v) a'→Sq P ops Q rest a' w) : Sq P ops Q ((f,⟨some d,.extract x k,ty,pos,af,none⟩,S) :: rest) a w :=
  r_pure hS hSw hlt (fun w => by simp [execOp,hS.val hx,Instr.extract,hk]) K
theorem x_extract {x : Operand} {k : Nat} {vs : Array Value} {v : Value} (hSw : Sf f S w) (hx : ev R x = some (.tuple vs)) (hk : vs[k]? = some v) (hlt : Nat.blt d n = true) (K : ∀ a',StD ds n (up R d v) a'→Sq P ops Q rest a' w) : ∀ a,StD ds n R a→Sq P ops Q ((f,⟨some d,.extract x k,ty,pos,af,none⟩,S) :: rest) a w:=fun _ hS => r_extract hS hSw hx hk hlt K
theorem r_makeFunc {fn : Fn} {first cap : List Operand} {vf vc : List Value} (hS : StD ds n R a) (hSw : Sf f S w) (hf : evs R first = some vf) (hc : evs R cap = some vc) (hlt : Nat.blt d n = true)
    (K : ∀ a',StD ds n (up R d (.func fn vf.toArray vc.toArray)) a'→Sq P ops Q rest a' w) : Sq P ops Q ((f,⟨some d,.makeFunc fn first.toArray cap.toArray,ty,pos,af,none⟩,S) :: rest) a w :=
  r_pure hS hSw hlt (fun w => by simp [execOp,Instr.makeFunc,hS.vals hf,hS.vals hc]) K
theorem r_not {t : TypeId} {x : Operand} {b : Bool} (hS : StD ds n R a) (hSw : Sf f S w) (hx : ev R x = some (.bool b)) (hlt : Nat.blt d n = true)
    (K : ∀ a',StD ds n (up R d (.bool (!b))) a'→Sq P ops Q rest a' w) : Sq P ops Q ((f,⟨some d,.unOp .not t x,ty,pos,af,none⟩,S) :: rest) a w :=
  r_pure hS hSw hlt (fun w => by simp [execOp,hS.val hx,Op.unary]) K
theorem x_not {t : TypeId} {x : Operand} {b : Bool} (hSw : Sf f S w) (hx : ev R x = some (.bool b)) (hlt : Nat.blt d n = true) (K : ∀ a',StD ds n (up R d (.bool (!b))) a'→Sq P ops Q rest a' w) : ∀ a,StD ds n R a→Sq P ops Q ((f,⟨some d,.unOp .not t x,ty,pos,af,none⟩,S) :: rest) a w:=fun _ hS => r_not hS hSw hx hlt K
theorem r_convInt {s t : TypeId} {x : Operand} {k k' : IntKind} {m : Int} (hS : StD ds n R a) (hSw : Sf f S w) (hx : ev R x = some (.int k m)) (ht : P.underlying t = some (.int k')) (hs : (P.underlying s).isSome = true) (hlt : Nat.blt d n = true)
    (K : ∀ a',StD ds n (up R d (.int k' (k'.wrap m))) a'→Sq P ops Q rest a' w) : Sq P ops Q ((f,⟨some d,.convert s t x,ty,pos,af,none⟩,S) :: rest) a w:=by
  obtain ⟨u,hu⟩:=Option.isSome_iff_exists.1 hs
  refine r_pure hS hSw hlt (fun w => ?_) K
  simp [execOp,hS.val hx,convert,run_underlying ht,run_underlying hu,Conv.intToInt]

theorem x_convInt {s t : TypeId} {x : Operand} {k k' : IntKind} {m : Int} (hSw : Sf f S w) (hx : ev R x = some (.int k m)) (ht : P.underlying t = some (.int k')) (hs : (P.underlying s).isSome = true) (hlt : Nat.blt d n = true) (K : ∀ a',StD ds n (up R d (.int k' (k'.wrap m))) a'→Sq P ops Q rest a' w) : ∀ a,StD ds n R a→Sq P ops Q ((f,⟨some d,.convert s t x,ty,pos,af,none⟩,S) :: rest) a w:=fun _ hS => r_convInt hS hSw hx ht hs hlt K
/-! ### arithmetic -/
theorem run_bin {op : BinOp} {t yt : TypeId} {x y : Operand} {k k' : IntKind} {m m' : Int} {v : Value} (hS : StD ds n R a) (hx : ev R x = some (.int k m)) (hy : ev R y = some (.int k' m'))
    (hv : ∀ w,(binOp op t (.int k m) (.int k' m')).run P w = .ok v w) (w : World) : (execOp a.eval ⟨some d,.binOp op t x y yt,ty,pos,af,none⟩).run P w = .ok (.value v) w:=by
  have hg : (eqGuard op t x y (.int k m) (.int k' m')).run P w = .ok () w:=by
    unfold eqGuard
    cases op <;> simp
  simp [execOp,hS.val hx,hS.val hy,hg,hv w]
theorem r_bin {op : BinOp} {t yt : TypeId} {x y : Operand} {k k' : IntKind} {m m' : Int} {v : Value} (hS : StD ds n R a) (hSw : Sf f S w) (hx : ev R x = some (.int k m)) (hy : ev R y = some (.int k' m')) (hlt : Nat.blt d n = true)
    (hv : ∀ w,(binOp op t (.int k m) (.int k' m')).run P w = .ok v w) (K : ∀ a',StD ds n (up R d v) a'→Sq P ops Q rest a' w) : Sq P ops Q ((f,⟨some d,.binOp op t x y yt,ty,pos,af,none⟩,S) :: rest) a w :=
  r_pure hS hSw hlt (run_bin hS hx hy hv) K
section
variable {t yt : TypeId} {x y : Operand} {k : IntKind} {m m' : Int} (hS : StD ds n R a) (hSw : Sf f S w) (hx : ev R x = some (.int k m)) (hy : ev R y = some (.int k m')) (hlt : Nat.blt d n = true)
include hS hSw hx hy hlt
theorem r_addw (K : ∀ a',StD ds n (up R d (.int k (k.wrap (m + m')))) a'→Sq P ops Q rest a' w) : Sq P ops Q ((f,⟨some d,.binOp .add t x y yt,ty,pos,af,none⟩,S) :: rest) a w :=
  r_bin hS hSw hx hy hlt (fun w => by simp [binOp,Op.intArith]) K
theorem r_subw (K : ∀ a',StD ds n (up R d (.int k (k.wrap (m - m')))) a'→Sq P ops Q rest a' w) : Sq P ops Q ((f,⟨some d,.binOp .sub t x y yt,ty,pos,af,none⟩,S) :: rest) a w :=
  r_bin hS hSw hx hy hlt (fun w => by simp [binOp,Op.intArith]) K
theorem r_mulw (K : ∀ a',StD ds n (up R d (.int k (k.wrap (m * m')))) a'→Sq P ops Q rest a' w) : Sq P ops Q ((f,⟨some d,.binOp .mul t x y yt,ty,pos,af,none⟩,S) :: rest) a w :=
  r_bin hS hSw hx hy hlt (fun w => by simp [binOp,Op.intArith]) K
theorem r_and (K : ∀ a',StD ds n (up R d (.int k (k.wrap (BitVec.ofInt k.bits m &&& BitVec.ofInt k.bits m').toNat))) a'→Sq P ops Q rest a' w) : Sq P ops Q ((f,⟨some d,.binOp .and t x y yt,ty,pos,af,none⟩,S) :: rest) a w :=
  r_bin hS hSw hx hy hlt (fun w => by simp [binOp,Op.intBits]) K
theorem r_or (K : ∀ a',StD ds n (up R d (.int k (k.wrap (BitVec.ofInt k.bits m ||| BitVec.ofInt k.bits m').toNat))) a'→Sq P ops Q rest a' w) : Sq P ops Q ((f,⟨some d,.binOp .or t x y yt,ty,pos,af,none⟩,S) :: rest) a w :=
  r_bin hS hSw hx hy hlt (fun w => by simp [binOp,Op.intBits]) K
theorem r_xor (K : ∀ a',StD ds n (up R d (.int k (k.wrap (BitVec.ofInt k.bits m ^^^ BitVec.ofInt k.bits m').toNat))) a'→Sq P ops Q rest a' w) : Sq P ops Q ((f,⟨some d,.binOp .xor t x y yt,ty,pos,af,none⟩,S) :: rest) a w :=
  r_bin hS hSw hx hy hlt (fun w => by simp [binOp,Op.intBits]) K
theorem r_eql (K : ∀ a',StD ds n (up R d (.bool (m == m'))) a'→Sq P ops Q rest a' w) : Sq P ops Q ((f,⟨some d,.binOp .eql t x y yt,ty,pos,af,none⟩,S) :: rest) a w :=
  r_bin hS hSw hx hy hlt (fun w => by simp [binOp,Op.intCmp]) K
theorem r_neq (K : ∀ a',StD ds n (up R d (.bool (m != m'))) a'→Sq P ops Q rest a' w) : Sq P ops Q ((f,⟨some d,.binOp .neq t x y yt,ty,pos,af,none⟩,S) :: rest) a w :=
  r_bin hS hSw hx hy hlt (fun w => by simp [binOp,Op.intCmp]) K
theorem r_lss (K : ∀ a',StD ds n (up R d (.bool (decide (m < m')))) a'→Sq P ops Q rest a' w) : Sq P ops Q ((f,⟨some d,.binOp .lss t x y yt,ty,pos,af,none⟩,S) :: rest) a w :=
  r_bin hS hSw hx hy hlt (fun w => by simp [binOp,Op.intCmp]) K
theorem r_leq (K : ∀ a',StD ds n (up R d (.bool (decide (m≤m')))) a'→Sq P ops Q rest a' w) : Sq P ops Q ((f,⟨some d,.binOp .leq t x y yt,ty,pos,af,none⟩,S) :: rest) a w :=
  r_bin hS hSw hx hy hlt (fun w => by simp [binOp,Op.intCmp]) K
theorem r_gtr (K : ∀ a',StD ds n (up R d (.bool (decide (m > m')))) a'→Sq P ops Q rest a' w) : Sq P ops Q ((f,⟨some d,.binOp .gtr t x y yt,ty,pos,af,none⟩,S) :: rest) a w :=
  r_bin hS hSw hx hy hlt (fun w => by simp [binOp,Op.intCmp]) K
theorem r_geq (K : ∀ a',StD ds n (up R d (.bool (decide (m≥m')))) a'→Sq P ops Q rest a' w) : Sq P ops Q ((f,⟨some d,.binOp .geq t x y yt,ty,pos,af,none⟩,S) :: rest) a w :=
  r_bin hS hSw hx hy hlt (fun w => by simp [binOp,Op.intCmp]) K
theorem r_quo (h0 : m'≠0) (K : ∀ a',StD ds n (up R d (.int k (k.wrap (m.tdiv m')))) a'→Sq P ops Q rest a' w) : Sq P ops Q ((f,⟨some d,.binOp .quo t x y yt,ty,pos,af,none⟩,S) :: rest) a w :=
  r_bin hS hSw hx hy hlt (fun w => by simp [binOp,Op.intDiv,h0]) K
theorem r_rem (h0 : m'≠0) (K : ∀ a',StD ds n (up R d (.int k (m.tmod m'))) a'→Sq P ops Q rest a' w) : Sq P ops Q ((f,⟨some d,.binOp .rem t x y yt,ty,pos,af,none⟩,S) :: rest) a w :=
  r_bin hS hSw hx hy hlt (fun w => by simp [binOp,Op.intDiv,h0]) K
end
theorem x_subw {t yt : TypeId} {x y : Operand} {k : IntKind} {m m' : Int} (hSw : Sf f S w) (hx : ev R x = some (.int k m)) (hy : ev R y = some (.int k m')) (hlt : Nat.blt d n = true) (K : ∀ a',StD ds n (up R d (.int k (k.wrap (m - m')))) a'→Sq P ops Q rest a' w) : ∀ a,StD ds n R a→Sq P ops Q ((f,⟨some d,.binOp .sub t x y yt,ty,pos,af,none⟩,S) :: rest) a w:=fun _ hS => r_subw hS hSw hx hy hlt K
theorem x_eql {t yt : TypeId} {x y : Operand} {k : IntKind} {m m' : Int} (hSw : Sf f S w) (hx : ev R x = some (.int k m)) (hy : ev R y = some (.int k m')) (hlt : Nat.blt d n = true) (K : ∀ a',StD ds n (up R d (.bool (m == m'))) a'→Sq P ops Q rest a' w) : ∀ a,StD ds n R a→Sq P ops Q ((f,⟨some d,.binOp .eql t x y yt,ty,pos,af,none⟩,S) :: rest) a w:=fun _ hS => r_eql hS hSw hx hy hlt K
theorem x_neq {t yt : TypeId} {x y : Operand} {k : IntKind} {m m' : Int} (hSw : Sf f S w) (hx : ev R x = some (.int k m)) (hy : ev R y = some (.int k m')) (hlt : Nat.blt d n = true) (K : ∀ a',StD ds n (up R d (.bool (m != m'))) a'→Sq P ops Q rest a' w) : ∀ a,StD ds n R a→Sq P ops Q ((f,⟨some d,.binOp .neq t x y yt,ty,pos,af,none⟩,S) :: rest) a w:=fun _ hS => r_neq hS hSw hx hy hlt K
theorem x_lss {t yt : TypeId} {x y : Operand} {k : IntKind} {m m' : Int} (hSw : Sf f S w) (hx : ev R x = some (.int k m)) (hy : ev R y = some (.int k m')) (hlt : Nat.blt d n = true) (K : ∀ a',StD ds n (up R d (.bool (decide (m < m')))) a'→Sq P ops Q rest a' w) : ∀ a,StD ds n R a→Sq P ops Q ((f,⟨some d,.binOp .lss t x y yt,ty,pos,af,none⟩,S) :: rest) a w:=fun _ hS => r_lss hS hSw hx hy hlt K
theorem x_leq {t yt : TypeId} {x y : Operand} {k : IntKind} {m m' : Int} (hSw : Sf f S w) (hx : ev R x = some (.int k m)) (hy : ev R y = some (.int k m')) (hlt : Nat.blt d n = true) (K : ∀ a',StD ds n (up R d (.bool (decide (m≤m')))) a'→Sq P ops Q rest a' w) : ∀ a,StD ds n R a→Sq P ops Q ((f,⟨some d,.binOp .leq t x y yt,ty,pos,af,none⟩,S) :: rest) a w:=fun _ hS => r_leq hS hSw hx hy hlt K
theorem x_gtr {t yt : TypeId} {x y : Operand} {k : IntKind} {m m' : Int} (hSw : Sf f S w) (hx : ev R x = some (.int k m)) (hy : ev R y = some (.int k m')) (hlt : Nat.blt d n = true) (K : ∀ a',StD ds n (up R d (.bool (decide (m > m')))) a'→Sq P ops Q rest a' w) : ∀ a,StD ds n R a→Sq P ops Q ((f,⟨some d,.binOp .gtr t x y yt,ty,pos,af,none⟩,S) :: rest) a w:=fun _ hS => r_gtr hS hSw hx hy hlt K
theorem x_geq {t yt : TypeId} {x y : Operand} {k : IntKind} {m m' : Int} (hSw : Sf f S w) (hx : ev R x = some (.int k m)) (hy : ev R y = some (.int k m')) (hlt : Nat.blt d n = true) (K : ∀ a',StD ds n (up R d (.bool (decide (m≥m')))) a'→Sq P ops Q rest a' w) : ∀ a,StD ds n R a→Sq P ops Q ((f,⟨some d,.binOp .geq t x y yt,ty,pos,af,none⟩,S) :: rest) a w:=fun _ hS => r_geq hS hSw hx hy hlt K
theorem x_quo {t yt : TypeId} {x y : Operand} {k : IntKind} {m m' : Int} (hSw : Sf f S w) (hx : ev R x = some (.int k m)) (hy : ev R y = some (.int k m')) (hlt : Nat.blt d n = true) (h0 : m'≠0) (K : ∀ a',StD ds n (up R d (.int k (k.wrap (m.tdiv m')))) a'→Sq P ops Q rest a' w) : ∀ a,StD ds n R a→Sq P ops Q ((f,⟨some d,.binOp .quo t x y yt,ty,pos,af,none⟩,S) :: rest) a w:=fun _ hS => r_quo hS hSw hx hy hlt h0 K
theorem x_rem {t yt : TypeId} {x y : Operand} {k : IntKind} {m m' : Int} (hSw : Sf f S w) (hx : ev R x = some (.int k m)) (hy : ev R y = some (.int k m')) (hlt : Nat.blt d n = true) (h0 : m'≠0) (K : ∀ a',StD ds n (up R d (.int k (m.tmod m'))) a'→Sq P ops Q rest a' w) : ∀ a,StD ds n R a→Sq P ops Q ((f,⟨some d,.binOp .rem t x y yt,ty,pos,af,none⟩,S) :: rest) a w:=fun _ hS => r_rem hS hSw hx hy hlt h0 K
theorem wrap_i64 {x : Int} (h : -9223372036854775808≤x∧x < 9223372036854775808) : IntKind.i64.wrap x = x:=by
  unfold IntKind.wrap; simp [IntKind.bits,IntKind.signed]; omega
theorem r_add {t yt : TypeId} {x y : Operand} {m m' : Int} (hS : StD ds n R a) (hSw : Sf f S w) (hx : ev R x = some (.int .i64 m)) (hy : ev R y = some (.int .i64 m')) (hlt : Nat.blt d n = true)
    (hr : -9223372036854775808≤m + m'∧m + m' < 9223372036854775808) (K : ∀ a',StD ds n (up R d (.int .i64 (m + m'))) a'→Sq P ops Q rest a' w) : Sq P ops Q ((f,⟨some d,.binOp .add t x y yt,ty,pos,af,none⟩,S) :: rest) a w :=
  r_bin hS hSw hx hy hlt (fun w => by simp [binOp,Op.intArith,wrap_i64 hr]) K
theorem x_add {t yt : TypeId} {x y : Operand} {m m' : Int} (hSw : Sf f S w) (hx : ev R x = some (.int .i64 m)) (hy : ev R y = some (.int .i64 m')) (hlt : Nat.blt d n = true) (hr : -9223372036854775808≤m + m'∧m + m' < 9223372036854775808) (K : ∀ a',StD ds n (up R d (.int .i64 (m + m'))) a'→Sq P ops Q rest a' w) : ∀ a,StD ds n R a→Sq P ops Q ((f,⟨some d,.binOp .add t x y yt,ty,pos,af,none⟩,S) :: rest) a w:=fun _ hS => r_add hS hSw hx hy hlt hr K
theorem r_sub {t yt : TypeId} {x y : Operand} {m m' : Int} (hS : StD ds n R a) (hSw : Sf f S w) (hx : ev R x = some (.int .i64 m)) (hy : ev R y = some (.int .i64 m')) (hlt : Nat.blt d n = true)
    (hr : -9223372036854775808≤m - m'∧m - m' < 9223372036854775808) (K : ∀ a',StD ds n (up R d (.int .i64 (m - m'))) a'→Sq P ops Q rest a' w) : Sq P ops Q ((f,⟨some d,.binOp .sub t x y yt,ty,pos,af,none⟩,S) :: rest) a w :=
  r_bin hS hSw hx hy hlt (fun w => by simp [binOp,Op.intArith,wrap_i64 hr]) K
theorem x_sub {t yt : TypeId} {x y : Operand} {m m' : Int} (hSw : Sf f S w) (hx : ev R x = some (.int .i64 m)) (hy : ev R y = some (.int .i64 m')) (hlt : Nat.blt d n = true) (hr : -9223372036854775808≤m - m'∧m - m' < 9223372036854775808) (K : ∀ a',StD ds n (up R d (.int .i64 (m - m'))) a'→Sq P ops Q rest a' w) : ∀ a,StD ds n R a→Sq P ops Q ((f,⟨some d,.binOp .sub t x y yt,ty,pos,af,none⟩,S) :: rest) a w:=fun _ hS => r_sub hS hSw hx hy hlt hr K
theorem r_mul {t yt : TypeId} {x y : Operand} {m m' : Int} (hS : StD ds n R a) (hSw : Sf f S w) (hx : ev R x = some (.int .i64 m)) (hy : ev R y = some (.int .i64 m')) (hlt : Nat.blt d n = true)
    (hr : -9223372036854775808≤m * m'∧m * m' < 9223372036854775808) (K : ∀ a',StD ds n (up R d (.int .i64 (m * m'))) a'→Sq P ops Q rest a' w) : Sq P ops Q ((f,⟨some d,.binOp .mul t x y yt,ty,pos,af,none⟩,S) :: rest) a w :=
  r_bin hS hSw hx hy hlt (fun w => by simp [binOp,Op.intArith,wrap_i64 hr]) K
theorem x_mul {t yt : TypeId} {x y : Operand} {m m' : Int} (hSw : Sf f S w) (hx : ev R x = some (.int .i64 m)) (hy : ev R y = some (.int .i64 m')) (hlt : Nat.blt d n = true) (hr : -9223372036854775808≤m * m'∧m * m' < 9223372036854775808) (K : ∀ a',StD ds n (up R d (.int .i64 (m * m'))) a'→Sq P ops Q rest a' w) : ∀ a,StD ds n R a→Sq P ops Q ((f,⟨some d,.binOp .mul t x y yt,ty,pos,af,none⟩,S) :: rest) a w:=fun _ hS => r_mul hS hSw hx hy hlt hr K
theorem r_shr {t yt : TypeId} {x y : Operand} {k k' : IntKind} {m m' : Int} (hS : StD ds n R a) (hSw : Sf f S w) (hx : ev R x = some (.int k m)) (hy : ev R y = some (.int k' m')) (hlt : Nat.blt d n = true) (h0 : 0≤m')
    (K : ∀ a',StD ds n (up R d (.int k (m.fdiv (2 ^ (min m'.toNat k.bits))))) a'→Sq P ops Q rest a' w) : Sq P ops Q ((f,⟨some d,.binOp .shr t x y yt,ty,pos,af,none⟩,S) :: rest) a w :=
  r_bin hS hSw hx hy hlt (fun w => by have : ¬ m' < 0:=by omega
                                      simp [binOp,Op.shift,this]) K
theorem r_shl {t yt : TypeId} {x y : Operand} {k k' : IntKind} {m m' : Int} (hS : StD ds n R a) (hSw : Sf f S w) (hx : ev R x = some (.int k m)) (hy : ev R y = some (.int k' m')) (hlt : Nat.blt d n = true) (h0 : 0≤m')
    (K : ∀ a',StD ds n (up R d (.int k (k.wrap (m * 2 ^ (min m'.toNat k.bits))))) a'→Sq P ops Q rest a' w) : Sq P ops Q ((f,⟨some d,.binOp .shl t x y yt,ty,pos,af,none⟩,S) :: rest) a w :=
  r_bin hS hSw hx hy hlt (fun w => by have : ¬ m' < 0:=by omega
                                      simp [binOp,Op.shift,this]) K

/-! ### comparisons of other things -/
theorem r_cmp {op : BinOp} {t yt : TypeId} {x y : Operand} {vx vy v : Value} (hS : StD ds n R a) (hSw : Sf f S w) (hx : ev R x = some vx) (hy : ev R y = some vy) (hlt : Nat.blt d n = true)
    (hg : ∀ w,(eqGuard op t x y vx vy).run P w = .ok () w) (hv : ∀ w,(binOp op t vx vy).run P w = .ok v w)
    (K : ∀ a',StD ds n (up R d v) a'→Sq P ops Q rest a' w) : Sq P ops Q ((f,⟨some d,.binOp op t x y yt,ty,pos,af,none⟩,S) :: rest) a w :=
  r_pure hS hSw hlt (fun w => by simp [execOp,hS.val hx,hS.val hy,hg w,hv w]) K
def isPtr (P : Program) (t : TypeId) : Bool:=match P.underlying t with | some (.pointer _) => true | _ => false
def isMap (P : Program) (t : TypeId) : Bool:=match P.underlying t with | some (.map _ _) => true | _ => false
def isSlice (P : Program) (t : TypeId) : Bool:=match P.underlying t with | some (.slice _) => true | _ => false
theorem eqIn_ptr (dd : Nat) {t : TypeId} {e : TypeId} (hu : P.underlying t = some (.pointer e)) (p : Option Addr) (w : World) : (Op.equalIn (dd + 1) t (.pointer p) (.pointer none)).run P w = .ok p.isNone w:=by
  cases p <;> simp [Op.equalIn,run_underlying hu]
theorem eqIn_map (dd : Nat) {t : TypeId} {e e' : TypeId} (hu : P.underlying t = some (.map e e')) (p : Option Nat) (w : World) : (Op.equalIn (dd + 1) t (.map p) (.map none)).run P w = .ok p.isNone w:=by
  cases p <;> simp [Op.equalIn,run_underlying hu]
theorem eqIn_slice (dd : Nat) {t : TypeId} {e : TypeId} (hu : P.underlying t = some (.slice e)) (p : Option Addr) (l c : Nat) (w : World) : (Op.equalIn (dd + 1) t (.slice p l c) (.slice none 0 0)).run P w = .ok p.isNone w:=by
  cases p <;> simp [Op.equalIn,run_underlying hu]
theorem run_eql_of {t : TypeId} {x y : Value} {b : Bool} (h1 : binOp .eql t x y = (do pure (.bool (← Op.equal t x y)))) (h : ∀ dd w,(Op.equalIn (dd + 1) t x y).run P w = .ok b w) (w : World) : (binOp .eql t x y).run P w = .ok (.bool b) w:=by
  rw [h1]; simp only [Op.equal,Op.maxDepth,Sem.run_bind,h 9999 w,Result.andThen_ok,Sem.run_pure]
theorem r_ptrNil {t yt : TypeId} {x : Operand} {p : Option Addr} (hS : StD ds n R a) (hSw : Sf f S w) (hx : ev R x = some (.pointer p)) (ht : isPtr P t = true) (hlt : Nat.blt d n = true)
  (K : ∀ a',StD ds n (up R d (.bool p.isNone)) a'→Sq P ops Q rest a' w) : Sq P ops Q ((f,⟨some d,.binOp .eql t x (.const (.pointer none)) yt,ty,pos,af,none⟩,S) :: rest) a w:=by
 unfold isPtr at ht
 split at ht
 ·rename_i e hu
  exact r_cmp hS hSw hx (vy:=.pointer none) rfl hlt (fun w => by simp [eqGuard]) (fun w => run_eql_of (by cases p <;> rfl) (fun dd w => eqIn_ptr dd hu p w) w) K
 ·cases ht
theorem x_ptrNil {t yt : TypeId} {x : Operand} {p : Option Addr} (hSw : Sf f S w) (hx : ev R x = some (.pointer p)) (ht : isPtr P t = true) (hlt : Nat.blt d n = true) (K : ∀ a',StD ds n (up R d (.bool p.isNone)) a'→Sq P ops Q rest a' w) : ∀ a,StD ds n R a→Sq P ops Q ((f,⟨some d,.binOp .eql t x (.const (.pointer none)) yt,ty,pos,af,none⟩,S) :: rest) a w:=fun _ hS => r_ptrNil hS hSw hx ht hlt K
theorem r_mapNil {t yt : TypeId} {x : Operand} {p : Option Nat} (hS : StD ds n R a) (hSw : Sf f S w) (hx : ev R x = some (.map p)) (ht : isMap P t = true) (hlt : Nat.blt d n = true)
  (K : ∀ a',StD ds n (up R d (.bool p.isNone)) a'→Sq P ops Q rest a' w) : Sq P ops Q ((f,⟨some d,.binOp .eql t x (.const (.map none)) yt,ty,pos,af,none⟩,S) :: rest) a w:=by
 unfold isMap at ht
 split at ht
 ·rename_i e e' hu
  exact r_cmp hS hSw hx (vy:=.map none) rfl hlt (fun w => by simp [eqGuard]) (fun w => run_eql_of (by cases p <;> rfl) (fun dd w => eqIn_map dd hu p w) w) K
 ·cases ht
theorem x_mapNil {t yt : TypeId} {x : Operand} {p : Option Nat} (hSw : Sf f S w) (hx : ev R x = some (.map p)) (ht : isMap P t = true) (hlt : Nat.blt d n = true) (K : ∀ a',StD ds n (up R d (.bool p.isNone)) a'→Sq P ops Q rest a' w) : ∀ a,StD ds n R a→Sq P ops Q ((f,⟨some d,.binOp .eql t x (.const (.map none)) yt,ty,pos,af,none⟩,S) :: rest) a w:=fun _ hS => r_mapNil hS hSw hx ht hlt K
theorem r_strEql {t yt : TypeId} {x y : Operand} {u v : ByteArray} (hS : StD ds n R a) (hSw : Sf f S w) (hx : ev R x = some (.string u)) (hy : ev R y = some (.string v)) (hlt : Nat.blt d n = true)
    (K : ∀ a',StD ds n (up R d (.bool (u.toList == v.toList))) a'→Sq P ops Q rest a' w) : Sq P ops Q ((f,⟨some d,.binOp .eql t x y yt,ty,pos,af,none⟩,S) :: rest) a w :=
  r_cmp hS hSw hx hy hlt (fun w => by simp [eqGuard]) (fun w => by simp [binOp,Op.stringOp]) K
theorem x_strEql {t yt : TypeId} {x y : Operand} {u v : ByteArray} (hSw : Sf f S w) (hx : ev R x = some (.string u)) (hy : ev R y = some (.string v)) (hlt : Nat.blt d n = true) (K : ∀ a',StD ds n (up R d (.bool (u.toList == v.toList))) a'→Sq P ops Q rest a' w) : ∀ a,StD ds n R a→Sq P ops Q ((f,⟨some d,.binOp .eql t x y yt,ty,pos,af,none⟩,S) :: rest) a w:=fun _ hS => r_strEql hS hSw hx hy hlt K
theorem r_strNeq {t yt : TypeId} {x y : Operand} {u v : ByteArray} (hS : StD ds n R a) (hSw : Sf f S w) (hx : ev R x = some (.string u)) (hy : ev R y = some (.string v)) (hlt : Nat.blt d n = true)
    (K : ∀ a',StD ds n (up R d (.bool (!(u.toList == v.toList)))) a'→Sq P ops Q rest a' w) : Sq P ops Q ((f,⟨some d,.binOp .neq t x y yt,ty,pos,af,none⟩,S) :: rest) a w :=
  r_cmp hS hSw hx hy hlt (fun w => by simp [eqGuard]) (fun w => by simp [binOp,Op.stringOp]) K
theorem x_strNeq {t yt : TypeId} {x y : Operand} {u v : ByteArray} (hSw : Sf f S w) (hx : ev R x = some (.string u)) (hy : ev R y = some (.string v)) (hlt : Nat.blt d n = true) (K : ∀ a',StD ds n (up R d (.bool (!(u.toList == v.toList)))) a'→Sq P ops Q rest a' w) : ∀ a,StD ds n R a→Sq P ops Q ((f,⟨some d,.binOp .neq t x y yt,ty,pos,af,none⟩,S) :: rest) a w:=fun _ hS => r_strNeq hS hSw hx hy hlt K
end
end Go.Sym
