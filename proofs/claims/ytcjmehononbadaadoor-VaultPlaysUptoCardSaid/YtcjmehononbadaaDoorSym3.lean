/- Rules of symbolic execution over any program of the model, that the claims of this folder use; part Sym3. Conditions: those that each rule names. -/
import Derived.Test.YtcjmehononbadaaDoorSym2
import Derived.DeepKeys4
import Derived.LoopN
import Derived.ProofKit
import Derived.OpenShut
import Derived.JoinedCond
import Derived.Lib.SmallJoins
import Derived.Carry
namespace Go.Sym
open Go
open Go.WideMaps (KeyLaw)

section
variable {P : Program} {ops : Array Oper} {Q : Exit→Act→World→Prop} {rest : List Item} {a : Act} {w w0 : World} {n : Nat} {R : Rg} {ds : List Deferred} {S : Nat→Prop} {L K : Blocks}
variable {f : Bool} {d : Nat} {ty : TypeId} {pos : String} {af : Array Edge}

/-! ### maps,by any keys that read -/
structure MapOk (P : Program) (k : TypeId) (es : Array MapEntry) (g : Value→Option Value) : Prop where
  keys : ∀ e∈es.toList,∃ l,keyOf P k e.key = some l
  apart : es.toList.Pairwise fun p q => p.key≠q.key
  at_ : ∀ x v,g x = some v↔∃ e∈es.toList,e.key = x∧e.val = v
theorem MapOk.empty {k : TypeId} : MapOk P k #[] (fun _ => none):=⟨by simp,by simp,by simp⟩
theorem pairwise_eq {es : List MapEntry} (h : es.Pairwise fun p q => p.key≠q.key) {p q : MapEntry} (hp : p∈es) (hq : q∈es) (e : p.key = q.key) : p = q:=by
 induction es with
 | nil => cases hp
 | cons x r ih =>
  obtain ⟨h1,h2⟩:=List.pairwise_cons.1 h
  rcases List.mem_cons.1 hp with k1 | k1 <;> rcases List.mem_cons.1 hq with k2 | k2
  ·rw [k1,k2]
  ·rw [k1] at e; exact absurd e (h1 q k2)
  ·rw [k2] at e; exact absurd e.symm (h1 p k1)
  ·exact ih h2 k1 k2
theorem MapOk.find {k : TypeId} {es : Array MapEntry} {g : Value→Option Value} (h : MapOk P k es g) (Kl : KeyLaw P k) (w : World) {x : Value} {lx : Lit} (hx : keyOf P k x = some lx) :
  ((Instr.findKey k x es.toList).run P w = .ok none w∧g x = none)∨∃ j e,(Instr.findKey k x es.toList).run P w = .ok (some (j,e.val)) w∧es.toList[j]? = some e∧e.key = x∧g x = some e.val:=by
 rcases Kl.find w hx es.toList h.keys with ⟨h1,h2⟩ | ⟨j,e,h1,h2,h3⟩
 ·refine .inl ⟨h1,?_⟩
  cases hg : g x with
  | none => rfl
  | some v =>
   obtain ⟨e,he,hk,_⟩:=(h.at_ x v).1 hg
   exact absurd hk (h2 e he)
 ·exact .inr ⟨j,e,h1,h2,h3,(h.at_ x e.val).2 ⟨e,List.mem_of_getElem? h2,h3,rfl⟩⟩
/-- what a look-up tells -/
def orZ (o : Option Value) (z : Value) : Value:=o.getD z
theorem run_lookup_ok {t k e b clock : Nat} {es : Array MapEntry} {g : Value→Option Value} {z : Value} (ht : P.underlying t = some (.map k e)) (hz : ∀ w,(zeroValue e).run P w = .ok z w) (Kl : KeyLaw P k) (h : MapOk P k es g) (hb : w.heap[b]? = some (.map es clock)) {x : Value} {lx : Lit} (hx : keyOf P k x = some lx) :
  (Instr.lookup t (.map (some b)) x true).run P w = .ok (.tuple #[orZ (g x) z,.bool (g x).isSome]) w:=by
 have hgo : (getObj b).run P w = .ok (.map es clock) w:=by simp [getObj,Sem.run,hb]
 rcases h.find Kl w hx with ⟨h1,h2⟩ | ⟨j,e',h1,_,_,h4⟩
 ·simp [Instr.lookup,run_underlying ht,hgo,Kl.check w _ hx,h1,hz,h2,orZ]
 ·simp [Instr.lookup,run_underlying ht,hgo,Kl.check w _ hx,h1,h4,orZ]
def setG (g : Value→Option Value) (x v : Value) (g' : Value→Option Value) : Prop:=g' x = some v∧∀ y,y≠x→g' y = g y
theorem Turned.obj {b : Nat} {es : Array MapEntry} {clock : Nat} {o : Obj} (hb : w.heap[b]? = some (.map es clock)) : Turned b o w { w with heap:=w.heap.setIfInBounds b o } := by
  have hlt:=lt_of_block hb
  exact ⟨rfl,rfl,rfl,by simp,by simp [hlt],fun c hc => by simp [Array.getElem?_setIfInBounds_ne (Ne.symm hc)]⟩
theorem run_mapUpdate {t k e b clock : Nat} {es : Array MapEntry} {g g' : Value→Option Value} (ht : P.underlying t = some (.map k e)) (Kl : KeyLaw P k) (h : MapOk P k es g) (hb : w.heap[b]? = some (.map es clock)) {x v : Value} {lx : Lit} (hx : keyOf P k x = some lx) (hg : setG g x v g') :
  ∃ w' es' clock',(Instr.mapUpdate t (.map (some b)) x v).run P w = .ok () w'∧Turned b (.map es' clock') w w'∧MapOk P k es' g':=by
 have hgo : (getObj b).run P w = .ok (.map es clock) w:=by simp [getObj,Sem.run,hb]
 have hso : ∀ o,(setObj b o).run P w = .ok () { w with heap:=w.heap.setIfInBounds b o } := fun o => by simp [setObj,Sem.run,hb]
 rcases h.find Kl w hx with ⟨h1,h2⟩ | ⟨j,e',h1,hj,hk,h4⟩
 ·refine ⟨_,es.push { key:=x,val:=v,born:=clock },clock + 1,?_,Turned.obj hb,?_,?_,?_⟩
  ·simp [Instr.mapUpdate,run_underlying ht,hgo,Kl.check w _ hx,h1,hso]
  ·intro e he
   simp only [Array.toList_push,List.mem_append,List.mem_singleton] at he
   rcases he with he | rfl
   ·exact h.keys e he
   ·exact ⟨lx,hx⟩
  ·simp only [Array.toList_push]
   refine List.pairwise_append.2 ⟨h.apart,by simp,fun p hp q hq => ?_⟩
   rw [List.mem_singleton.1 hq]
   intro e
   have:=(h.at_ x p.val).2 ⟨p,hp,e,rfl⟩
   rw [h2] at this; cases this
  ·intro y u
   simp only [Array.toList_push,List.mem_append,List.mem_singleton]
   by_cases hy : y = x
   ·subst hy
    rw [hg.1]
    constructor
    ·intro e; cases e; exact ⟨_,.inr rfl,rfl,rfl⟩
    ·rintro ⟨e,he | rfl,hk,hv⟩
     ·have:=(h.at_ y e.val).2 ⟨e,he,hk,rfl⟩
      rw [h2] at this; cases this
     ·simp at hv; rw [hv]
   ·rw [hg.2 y hy,h.at_ y u]
    constructor
    ·rintro ⟨e,he,r⟩; exact ⟨e,.inl he,r⟩
    ·rintro ⟨e,he | rfl,hk,hv⟩
     ·exact ⟨e,he,hk,hv⟩
     ·exact absurd hk.symm hy
 ·have hj' : es[j]? = some e':=by simpa using hj
  have hjlt : j < es.size:=(Array.getElem?_eq_some_iff.1 hj').1
  refine ⟨_,es.modify j fun e => { e with key:=x,val:=v },clock,?_,Turned.obj hb,?_,?_,?_⟩
  ·have hst : (Instr.keyThatStays (((es[j]?).map (·.key)).getD x) x).run P w = .ok x w:=by
    simp only [hj',Option.map_some,Option.getD_some,hk]
    exact Kl.stays w hx
   simp [Instr.mapUpdate,run_underlying ht,hgo,Kl.check w _ hx,h1,hst,hso]
  ·intro e he
   obtain ⟨i,hi⟩:=List.getElem?_of_mem he
   have hi2 : (es.modify j fun e => { e with key:=x,val:=v })[i]? = some e:=by rw [←Array.getElem?_toList]; exact hi
   rw [Array.getElem?_modify] at hi2
   split at hi2
   ·rename_i hij
    subst hij
    rw [hj'] at hi2
    simp at hi2; subst hi2
    exact ⟨lx,hx⟩
   ·exact h.keys e (by simpa using Array.mem_of_getElem? hi2)
  ·have hmap : (es.modify j fun e => { e with key:=x,val:=v }).toList.map (·.key) = es.toList.map (·.key):=by
    apply List.ext_getElem?
    intro i
    simp only [List.getElem?_map,Array.getElem?_toList,Array.getElem?_modify]
    split
    ·rename_i hij; subst hij; rw [hj']; simp [hk]
    ·rfl
   have h1:=(List.pairwise_map (f:=fun e : MapEntry => e.key) (R:=fun a b => a≠b)).2 h.apart
   rw [←hmap] at h1
   exact List.pairwise_map.1 h1
  ·intro y u
   have hmem : ∀ e,e∈(es.modify j fun e => { e with key:=x,val:=v }).toList↔(e = { e' with key:=x,val:=v })∨(e∈es.toList∧e.key≠x):=by
    intro e
    constructor
    ·intro he
     obtain ⟨i,hi⟩:=List.getElem?_of_mem he
     have hi2 : (es.modify j fun e => { e with key:=x,val:=v })[i]? = some e:=by rw [←Array.getElem?_toList]; exact hi
     rw [Array.getElem?_modify] at hi2
     split at hi2
     ·rename_i hij
      subst hij
      rw [hj'] at hi2
      simp at hi2
      exact .inl hi2.symm
     ·rename_i hij
      have he0 : e∈es.toList:=by simpa using Array.mem_of_getElem? hi2
      refine .inr ⟨he0,fun hke => ?_⟩
      have:=pairwise_eq h.apart he0 (List.mem_of_getElem? hj) (hke.trans hk.symm)
      subst this
      -- the same entry at two places: against apart
      have hp:=List.pairwise_iff_getElem.1 h.apart
      have hi3 : i < es.toList.length:=by
       have:=(Array.getElem?_eq_some_iff.1 hi2).1; simpa using this
      have e1 : es.toList[i] = e:=by
       have:=(Array.getElem?_eq_some_iff.1 hi2).2; simpa using this
      have e2 : es.toList[j]'(by simpa using hjlt) = e:=by
       have:=(Array.getElem?_eq_some_iff.1 hj').2; simpa using this
      rcases Nat.lt_trichotomy i j with hlt | heq | hgt
      ·exact hp i j hi3 (by simpa using hjlt) hlt (by rw [e1,e2])
      ·exact hij heq.symm
      ·exact hp j i (by simpa using hjlt) hi3 hgt (by rw [e1,e2])
    ·rintro (rfl | ⟨he,hne⟩)
     ·have : (es.modify j fun e => { e with key:=x,val:=v })[j]? = some { e' with key:=x,val:=v } := by rw [Array.getElem?_modify]; simp [hj']
      exact Array.mem_toList_iff.2 (Array.mem_of_getElem? this)
     ·obtain ⟨i,hi⟩:=List.getElem?_of_mem he
      have hi2 : es[i]? = some e:=by simpa using hi
      have hij : j≠i:=by
       rintro rfl
       rw [hj'] at hi2; cases hi2
       exact hne hk
      have : (es.modify j fun e => { e with key:=x,val:=v })[i]? = some e:=by rw [Array.getElem?_modify]; simp [hij,hi2]
      exact Array.mem_toList_iff.2 (Array.mem_of_getElem? this)
   by_cases hy : y = x
   ·subst hy
    rw [hg.1]
    constructor
    ·intro e; cases e; exact ⟨_,(hmem _).2 (.inl rfl),rfl,rfl⟩
    ·rintro ⟨e,he,hk2,hv⟩
     rcases (hmem e).1 he with rfl | ⟨_,hne⟩
     ·simp at hv; rw [hv]
     ·exact absurd hk2 hne
   ·rw [hg.2 y hy,h.at_ y u]
    constructor
    ·rintro ⟨e,he,hk2,hv⟩; exact ⟨e,(hmem e).2 (.inr ⟨he,fun h => hy (hk2.symm.trans h)⟩),hk2,hv⟩
    ·rintro ⟨e,he,hk2,hv⟩
     rcases (hmem e).1 he with rfl | ⟨he0,_⟩
     ·exact absurd hk2.symm hy
     ·exact ⟨e,he0,hk2,hv⟩
/-- a map type with its key's law and its elements' zero -/
structure MapTy (P : Program) (t k e : TypeId) (z : Value) : Prop where
  und : P.underlying t = some (.map k e)
  zero : ∀ w,(zeroValue e).run P w = .ok z w
  law : KeyLaw P k
theorem r_lookupS {t k e b clock : Nat} {x y : Operand} {es : Array MapEntry} {g : Value→Option Value} {z key : Value} {lx : Lit} (T : MapTy P t k e z) (hS : StD ds n R a) (hx : ev R x = some (.map (some b))) (hy : ev R y = some key) (hi : In b (.map es clock) K) (h : MapOk P k es g) (hk : keyOf P k key = some lx) (hlt : Nat.blt d n = true)
    (kk : ∀ a',StD ds n (up R d (.tuple #[orZ (g key) z,.bool (g key).isSome])) a'→Sq P ops Q rest a' w) : Sq P ops Q ((true,⟨some d,.lookup t x y true,ty,pos,af,none⟩,Kp w0 S K) :: rest) a w :=
  Sq.soft rfl (fun w' hw' => by simp [execOp,hS.val hx,hS.val hy,run_lookup_ok T.und T.zero T.law h (hw'.1 _ hi.mem) hk]) (kk _ (hS.put hlt _))
theorem r_makeMap {t : Nat} (hS : StD ds n R a) (hH : Hp w0 S L w) (hs : Sub K L) (ht : isMap P t = true) (hlt : Nat.blt d n = true)
  (k : ∀ a' w' b,w0.heap.size≤b→w.heap.size≤b→StD ds n (up R d (.map (some b))) a'→Hp w0 S ((b,.map #[] 0) :: L) w'→Sq P ops Q rest a' w') : Sq P ops Q ((false,⟨some d,.makeMap t none,ty,pos,af,none⟩,Kp w0 S K) :: rest) a w:=by
 have hH':=hH.alloc (.map #[] 0)
 unfold isMap at ht
 split at ht
 ·rename_i e e' hu
  exact Sq.done (w':=w.alloc (.map #[] 0)) (v:=.map (some w.heap.size)) rfl (by simp [execOp,Instr.makeMap]) ⟨fun p hp => hH'.blk p (List.mem_cons_of_mem _ (hs.mem p hp)),hH'.mod⟩ (k _ _ w.heap.size hH.mod.size (Nat.le_refl _) (hS.put hlt _) hH')
 ·cases ht

/-! ### arrays of bytes as keys,and their sameness -/
structure ByteArr (P : Program) (t m : Nat) : Prop where
  und : ∃ e,P.underlying t = some (.array m e)∧P.underlying e = some (.int .u8)∧P.cellsOf e = 1
  cells : P.cellsOf t = m
  key : P.keyType t = true
  key2 : P.keyTypeAt 2 t = true
  law : KeyLaw P t
  guard : P.eqGuardType P.depth t = false
  types : 1≤P.types.size
theorem byteArr_mk {t m : Nat} (hl : laidOutB P = true) (hrow : t < P.types.size) (h : (match P.underlying t with | some (.array k e) => Nat.beq k m && isU8 P e && Nat.beq (P.cellsOf e) 1 | _ => false) = true) (hc : Nat.beq (P.cellsOf t) m = true) (hk : P.keyType t = true) (hk2 : P.keyTypeAt 2 t = true) (hg : P.eqGuardType P.depth t = false) : ByteArr P t m:=by
 split at h
 ·rename_i k e hu
  simp only [Bool.and_eq_true] at h
  obtain ⟨⟨h1,h2⟩,h3⟩:=h
  have h1:=Nat.eq_of_beq_eq_true h1
  subst h1
  exact ⟨⟨e,hu,isU8_eq h2,Nat.eq_of_beq_eq_true h3⟩,Nat.eq_of_beq_eq_true hc,hk,hk2,deep_law_laid hl (m:=2) (by omega) hrow hk2 (by rw [hu]),hg,by omega⟩
 ·cases h
def hcells (h : List UInt8) : List Value:=h.map byteV
theorem hcells_len (h : List UInt8) : (hcells h).length = h.length:=by simp [hcells]
theorem hcells_inj {h g : List UInt8} (e : hcells h = hcells g) : h = g:=by
  unfold hcells at e
  refine (List.map_inj_right (f:=byteV) (fun x y hxy => ?_)).1 e
  simp only [byteV,Value.int.injEq,true_and] at hxy
  exact UInt8.toNat_inj.1 (by omega)
theorem hcells_one (h : List UInt8) : ∀ u∈hcells h,u.oneCell' = true:=one_bytes h
theorem keyLits_byte {e : Nat} (he : P.underlying e = some (.int .u8)) (dd : Nat) (x : UInt8) : P.keyLits (dd + 1) e [byteV x] = some [.int .u8 x.toNat]:=by
  have : (Lit.int .u8 (x.toNat : Int)).wf = true:=by
    have:=x.toNat_lt
    simp [Lit.wf,IntKind.min,IntKind.max,IntKind.signed,IntKind.bits]; omega
  simp [Program.keyLits,he,byteV,this]
theorem mapM_bytes {e : Nat} (he : P.underlying e = some (.int .u8)) (hc : P.cellsOf e = 1) (dd : Nat) : ∀ (h pre : List UInt8),((List.range' pre.length h.length).mapM fun i => P.keyLits (dd + 1) e ((((pre++h).map byteV).drop (i * P.cellsOf e)).take (P.cellsOf e))) = some (h.map fun x => [Lit.int .u8 x.toNat])
  | [],pre => by simp
  | x :: r,pre => by
    have ih:=mapM_bytes he hc dd r (pre++[x])
    simp only [List.length_append,List.length_singleton,List.append_assoc,List.singleton_append] at ih
    simp only [List.length_cons,List.range'_succ,List.mapM_cons,ih]
    have : ((((pre++x :: r).map byteV).drop (pre.length * P.cellsOf e)).take (P.cellsOf e)) = [byteV x]:=by
      rw [hc,Nat.mul_one]; simp
    rw [this,keyLits_byte he]
    simp
theorem ByteArr.keyOf {t m : Nat} (T : ByteArr P t m) {h : List UInt8} (hl : h.length = m) : keyOf P t (.agg (hcells h).toArray) = some (.string (keyBytes (h.map fun x => Lit.int .u8 x.toNat))):=by
  obtain ⟨e,hu,he,hc⟩:=T.und
  have h1:=mapM_bytes (P:=P) he hc (P.types.size - 1) h []
  rw [show P.types.size - 1 + 1 = P.types.size from by have:=T.types; omega] at h1
  simp only [List.length_nil,List.nil_append,hl,←List.range_eq_range'] at h1
  unfold Go.keyOf
  rw [hu]
  simp only [T.key,Value.formed,hu,T.cells,Value.cells,Bool.true_and]
  have hsz : ((hcells h).toArray.size == m) = true:=by simp [hcells_len,hl]
  rw [if_pos (by simpa using hsz)]
  simp only [Program.keyLits,hu,T.cells]
  rw [if_pos (by simp [hcells_len,hl])]
  have e2 : (h.map fun x => [Lit.int .u8 x.toNat]).flatten = h.map fun x => Lit.int .u8 x.toNat:=by
    clear h1 hl hsz
    induction h with
    | nil => rfl
    | cons x r ih => simp [ih]
  simp only [hcells,h1,Option.map_some,e2]
theorem ByteArr.eq {t m : Nat} (T : ByteArr P t m) {h g : List UInt8} (hl : h.length = m) (gl : g.length = m) (w : World) : (Op.equal t (.agg (hcells h).toArray) (.agg (hcells g).toArray)).run P w = .ok (decide (h = g)) w:=by
 obtain ⟨e,hu,he,hc⟩:=T.und
 obtain ⟨r,hr,hiff⟩:=run_equal_deep (P:=P) w (m:=2) (by omega) T.key2 (by rw [hu]) (T.keyOf hl) (T.keyOf gl)
 rw [hr]
 congr 1
 rw [Bool.eq_iff_iff,hiff,decide_eq_true_eq]
 constructor
 ·intro e
  have:=T.law.inj (T.keyOf hl) ((T.keyOf gl).trans (by rw [e]))
  simp only [Value.agg.injEq] at this
  exact hcells_inj (by simpa using this)
 ·rintro rfl; rfl
theorem run_binEq {t : Nat} {x y : Array Value} {r : Bool} (h : (Op.equal t (.agg x) (.agg y)).run P w = .ok r w) : (binOp .eql t (.agg x) (.agg y)).run P w = .ok (.bool r) w:=by
  simp only [binOp,Sem.run_bind,h,Result.andThen_ok,Sem.run_pure]
theorem run_binNe {t : Nat} {x y : Array Value} {r : Bool} (h : (Op.equal t (.agg x) (.agg y)).run P w = .ok r w) : (binOp .neq t (.agg x) (.agg y)).run P w = .ok (.bool (!r)) w:=by
  simp only [binOp,Sem.run_bind,h,Result.andThen_ok,Sem.run_pure]
theorem r_arrEql {t yt m : Nat} {x y : Operand} {h g : List UInt8} (T : ByteArr P t m) (hS : StD ds n R a) (hSw : Sf f (Kp w0 S K) w) (hx : ev R x = some (.agg (hcells h).toArray)) (hy : ev R y = some (.agg (hcells g).toArray)) (hl : h.length = m) (gl : g.length = m) (hlt : Nat.blt d n = true)
    (k : ∀ a',StD ds n (up R d (.bool (decide (h = g)))) a'→Sq P ops Q rest a' w) : Sq P ops Q ((f,⟨some d,.binOp .eql t x y yt,ty,pos,af,none⟩,Kp w0 S K) :: rest) a w :=
  r_cmp hS hSw hx hy hlt (fun w => by simp [eqGuard,T.guard]) (fun w => run_binEq (T.eq hl gl w)) k
theorem r_arrNeq {t yt m : Nat} {x y : Operand} {h g : List UInt8} (T : ByteArr P t m) (hS : StD ds n R a) (hSw : Sf f (Kp w0 S K) w) (hx : ev R x = some (.agg (hcells h).toArray)) (hy : ev R y = some (.agg (hcells g).toArray)) (hl : h.length = m) (gl : g.length = m) (hlt : Nat.blt d n = true)
    (k : ∀ a',StD ds n (up R d (.bool (!decide (h = g)))) a'→Sq P ops Q rest a' w) : Sq P ops Q ((f,⟨some d,.binOp .neq t x y yt,ty,pos,af,none⟩,Kp w0 S K) :: rest) a w :=
  r_cmp hS hSw hx hy hlt (fun w => by simp [eqGuard,T.guard]) (fun w => run_binNe (T.eq hl gl w)) k
theorem x_arrNeq {t yt m : Nat} {x y : Operand} {h g : List UInt8} (T : ByteArr P t m) (hSw : Sf f (Kp w0 S K) w) (hx : ev R x = some (.agg (hcells h).toArray)) (hy : ev R y = some (.agg (hcells g).toArray)) (hl : h.length = m) (gl : g.length = m) (hlt : Nat.blt d n = true) (k : ∀ a',StD ds n (up R d (.bool (!decide (h = g)))) a'→Sq P ops Q rest a' w) : ∀ a,StD ds n R a→Sq P ops Q ((f,⟨some d,.binOp .neq t x y yt,ty,pos,af,none⟩,Kp w0 S K) :: rest) a w:=fun _ hS => r_arrNeq T hS hSw hx hy hl gl hlt k
end
end Go.Sym
namespace Go.Sym
open Go

section
variable {P : Program} {ops : Array Oper} {Q : Exit→Act→World→Prop} {rest : List Item} {a : Act} {w w0 : World} {n : Nat} {R : Rg} {ds : List Deferred} {S : Nat→Prop} {L K : Blocks}
variable {f : Bool} {d : Nat} {ty : TypeId} {pos : String} {af : Array Edge}

theorem rnd {c : Code} {m : Nat} (h : c.wp P (Exit.then (Code.rounds P c Q m) Q) a w) : Code.rounds P c Q (m + 1) a w:=h

/-! ### slicing -/
theorem slB_parts {t es : Nat} (h : slB P t = some es) : ∃ e i,P.underlying t = some (.slice e)∧P.info? e = some i∧i.size = es:=by
 unfold slB at h
 split at h
 ·rename_i e hu
  cases hi : P.info? e with
  | none => simp [hi] at h
  | some i => simp [hi] at h; exact ⟨e,i,hu,hi,h⟩
 ·cases h
theorem r_slHi {t es m cap hh : Nat} {x y : Operand} {p : Option Addr} {kk : IntKind} {i : Int} (hS : StD ds n R a) (hSw : Sf f (Kp w0 S K) w) (hx : ev R x = some (.slice p m cap)) (hy : ev R y = some (.int kk i)) (ht : slB P t = some es) (hi : i = hh) (hle : hh≤cap) (hsp : ∀ q,p = some q→q.spot = none) (hlt : Nat.blt d n = true)
    (k : ∀ a',StD ds n (up R d (.slice p hh cap)) a'→Sq P ops Q rest a' w) : Sq P ops Q ((f,⟨some d,.slice t x none (some y) none,ty,pos,af,none⟩,Kp w0 S K) :: rest) a w:=by
  obtain ⟨e,i',hu,hi',rfl⟩:=slB_parts ht
  subst hi
  refine r_pure hS hSw hlt (fun w => ?_) k
  have hp : p.map (fun q => q.add (0 * i'.size)) = p:=by
    cases p with
    | none => rfl
    | some q => simp [Addr.add]
  simp [execOp,hS.val hx,hS.val hy,Instr.sliceAt,Instr.slice,run_underlying hu,Instr.sliceBounds,Instr.sliceBound,asIntOf,hle,sizeOf,typeInfo,hi']
  rw [Nat.zero_mul] at hp
  intro _; exact hp
theorem r_slLo {t es m cap ll b o : Nat} {x y : Operand} {kk : IntKind} {i : Int} (hS : StD ds n R a) (hSw : Sf f (Kp w0 S K) w) (hx : ev R x = some (.slice (some ⟨b,o,none⟩) m cap)) (hy : ev R y = some (.int kk i)) (ht : slB P t = some es) (hi : i = ll) (hle : ll≤m) (hlt : Nat.blt d n = true)
    (k : ∀ a',StD ds n (up R d (.slice (some (if cap = ll then ⟨b,o,none⟩ else ⟨b,o + ll * es,none⟩)) (m - ll) (cap - ll))) a'→Sq P ops Q rest a' w) : Sq P ops Q ((f,⟨some d,.slice t x (some y) none none,ty,pos,af,none⟩,Kp w0 S K) :: rest) a w:=by
  obtain ⟨e,i',hu,hi',rfl⟩:=slB_parts ht
  subst hi
  refine r_pure hS hSw hlt (fun w => ?_) k
  simp [execOp,hS.val hx,hS.val hy,Instr.sliceAt,Instr.slice,run_underlying hu,Instr.sliceBounds,Instr.sliceBound,asIntOf,hle,sizeOf,typeInfo,hi',add_eq]
  split <;> rfl
theorem x_slLo {t es m cap ll b o : Nat} {x y : Operand} {kk : IntKind} {i : Int} (hSw : Sf f (Kp w0 S K) w) (hx : ev R x = some (.slice (some ⟨b,o,none⟩) m cap)) (hy : ev R y = some (.int kk i)) (ht : slB P t = some es) (hi : i = ll) (hle : ll≤m) (hlt : Nat.blt d n = true) (k : ∀ a',StD ds n (up R d (.slice (some (if cap = ll then ⟨b,o,none⟩ else ⟨b,o + ll * es,none⟩)) (m - ll) (cap - ll))) a'→Sq P ops Q rest a' w) : ∀ a,StD ds n R a→Sq P ops Q ((f,⟨some d,.slice t x (some y) none none,ty,pos,af,none⟩,Kp w0 S K) :: rest) a w:=fun _ hS => r_slLo hS hSw hx hy ht hi hle hlt k
theorem r_slLoHi {t es m cap ll hh b o : Nat} {x y z : Operand} {kk kk' : IntKind} {i j : Int} (hS : StD ds n R a) (hSw : Sf f (Kp w0 S K) w) (hx : ev R x = some (.slice (some ⟨b,o,none⟩) m cap)) (hy : ev R y = some (.int kk i)) (hz : ev R z = some (.int kk' j)) (ht : slB P t = some es) (hi : i = ll) (hj : j = hh) (hle : ll≤hh) (hle2 : hh≤cap) (hlt : Nat.blt d n = true)
    (k : ∀ a',StD ds n (up R d (.slice (some (if cap = ll then ⟨b,o,none⟩ else ⟨b,o + ll * es,none⟩)) (hh - ll) (cap - ll))) a'→Sq P ops Q rest a' w) : Sq P ops Q ((f,⟨some d,.slice t x (some y) (some z) none,ty,pos,af,none⟩,Kp w0 S K) :: rest) a w:=by
  obtain ⟨e,i',hu,hi',rfl⟩:=slB_parts ht
  subst hi
  subst hj
  refine r_pure hS hSw hlt (fun w => ?_) k
  simp [execOp,hS.val hx,hS.val hy,hS.val hz,Instr.sliceAt,Instr.slice,run_underlying hu,Instr.sliceBounds,Instr.sliceBound,asIntOf,hle,hle2,sizeOf,typeInfo,hi',add_eq]
  split <;> rfl
theorem x_slLoHi {t es m cap ll hh b o : Nat} {x y z : Operand} {kk kk' : IntKind} {i j : Int} (hSw : Sf f (Kp w0 S K) w) (hx : ev R x = some (.slice (some ⟨b,o,none⟩) m cap)) (hy : ev R y = some (.int kk i)) (hz : ev R z = some (.int kk' j)) (ht : slB P t = some es) (hi : i = ll) (hj : j = hh) (hle : ll≤hh) (hle2 : hh≤cap) (hlt : Nat.blt d n = true) (k : ∀ a',StD ds n (up R d (.slice (some (if cap = ll then ⟨b,o,none⟩ else ⟨b,o + ll * es,none⟩)) (hh - ll) (cap - ll))) a'→Sq P ops Q rest a' w) : ∀ a,StD ds n R a→Sq P ops Q ((f,⟨some d,.slice t x (some y) (some z) none,ty,pos,af,none⟩,Kp w0 S K) :: rest) a w:=fun _ hS => r_slLoHi hS hSw hx hy hz ht hi hj hle hle2 hlt k
theorem r_slArr {t len es b o : Nat} {x : Operand} (hS : StD ds n R a) (hSw : Sf f (Kp w0 S K) w) (hx : ev R x = some (.pointer (some ⟨b,o,none⟩))) (ht : arrB P t = some (len,es)) (hlt : Nat.blt d n = true)
  (k : ∀ a',StD ds n (up R d (.slice (some ⟨b,o,none⟩) len len)) a'→Sq P ops Q rest a' w) : Sq P ops Q ((f,⟨some d,.slice t x none none none,ty,pos,af,none⟩,Kp w0 S K) :: rest) a w:=by
 unfold arrB at ht
 split at ht
 ·rename_i len' elem hu
  cases hq : P.info? elem with
  | none => simp [hq] at ht
  | some q =>
   simp [hq] at ht
   obtain ⟨rfl,rfl⟩:=ht
   refine r_pure hS hSw hlt (fun w => ?_) k
   simp [execOp,hS.val hx,Instr.sliceAt,run_underlying hu,Instr.sureAddr,Instr.sliceBounds,sizeOf,typeInfo,hq,add_eq]
 ·cases ht

theorem x_slArr {t len es b o : Nat} {x : Operand} (hSw : Sf f (Kp w0 S K) w) (hx : ev R x = some (.pointer (some ⟨b,o,none⟩))) (ht : arrB P t = some (len,es)) (hlt : Nat.blt d n = true) (k : ∀ a',StD ds n (up R d (.slice (some ⟨b,o,none⟩) len len)) a'→Sq P ops Q rest a' w) : ∀ a,StD ds n R a→Sq P ops Q ((f,⟨some d,.slice t x none none none,ty,pos,af,none⟩,Kp w0 S K) :: rest) a w:=fun _ hS => r_slArr hS hSw hx ht hlt k
/-! ### a slice of the call's own,that no list of blocks names -/
/-- 'append(nil,make([]T,n)...)' -/
def isI64 (P : Program) (t : TypeId) : Bool:=match P.underlying t with
  | some (.int .i64) => true
  | _ => false
/-! ### loops -/
theorem c_loop {c : Code} (I : Nat→Act→World→Prop) (m0 : Nat) (h0 : I m0 a w) (round : ∀ m a w,I m a w→c.wp P (Exit.then (fun a' w' => ∃ m',m' < m∧I m' a' w') Q) a w) : (Code.loop c).wp P Q a w:=by
  have key : ∀ k m a w,m≤k→I m a w→Code.rounds P c Q (k + 1) a w:=by
    intro k
    induction k with
    | zero =>
      intro m a w hm hI
      refine wp_mono (c:=c) (round m a w hI) fun e a w q => ?_
      cases e <;> first | (obtain ⟨m',h,_⟩:=q; omega) | exact q
    | succ k ih =>
      intro m a w hm hI
      refine wp_mono (c:=c) (round m a w hI) fun e a w q => ?_
      cases e <;> first | (obtain ⟨m',h,hI'⟩:=q; exact ih m' a w (by omega) hI') | exact q
  exact wp_loop_rounds (m0 + 1) (key m0 m0 a w (Nat.le_refl _) h0)
/-- a frame of which some slots are known -/
def lv : List (Nat × Value)→Rg
  | [],_ => none
  | (j,v) :: r,i => bif Nat.beq i j then some v else lv r i
def evl (R : Rg) : List (Nat × Value)→Prop
  | [] => True
  | (j,v) :: r => R j = some v∧evl R r
theorem evl_lv {R : Rg} : ∀ {l : List (Nat × Value)},evl R l→∀ i v,lv l i = some v→R i = some v
  | [],_,i,v,h => by simp [lv] at h
  | (j,u) :: r,he,i,v,h => by
    simp only [lv] at h
    cases hb : Nat.beq i j with
    | true =>
      have:=Nat.eq_of_beq_eq_true hb
      subst this
      rw [hb] at h; simp at h; subst h
      exact he.1
    | false => rw [hb] at h; exact evl_lv he.2 i v h
theorem StD.live (h : StD ds n R a) {l : List (Nat × Value)} (he : evl R l) : StD ds n (lv l) a:=h.weaken (evl_lv he)
theorem len16 {h : List UInt8} (hl : h.length = 16) : ∃ x0 x1 x2 x3 x4 x5 x6 x7 x8 x9 xa xb xc xd xe xf,h = [x0,x1,x2,x3,x4,x5,x6,x7,x8,x9,xa,xb,xc,xd,xe,xf]:=by
  match h,hl with
  | [x0,x1,x2,x3,x4,x5,x6,x7,x8,x9,xa,xb,xc,xd,xe,xf],_ => exact ⟨_,_,_,_,_,_,_,_,_,_,_,_,_,_,_,_,rfl⟩
end

theorem Bs.handle {w : World} {b : Nat} {h : List UInt8} {T : TypeId} {fz : Nat × Nat} (hb : w.heap[b]? = some (.cells (hcells h).toArray T fz)) (hl : h.length = 16) : Bs w (.slice (some ⟨b,0,none⟩) 16 16) h:=by
  have:=Sl.of_block (es:=1) (m:=16) (cap:=16) hb (by simp [hcells,hl]) (Nat.le_refl _)
  rw [List.take_of_length_le (by simp [hcells,hl])] at this
  refine ⟨some ⟨b,0,none⟩,16,?_⟩
  rw [hl]; exact this
end Go.Sym
namespace Go.Sym
open Go Go.ChangeShapes Go.WideShapes Go.ChangeAt Go.RowKit Go.Joins

theorem Mod.below {w w' : World} (h : Ext w w') : Below w.heap.size w w':=⟨h.os,h.tape,h.output,h.size,fun k hk => h.block k hk (fun h => h)⟩

section
variable {H : Type} {enc : TypeId × Value→H} {P : Program}
theorem trodAll_ext (hl : laidOutB P = true) {W W' : World} (hb : Ext W W') : ∀ {ts : List TypeId} {vs : List Value} {ds : List (DataW H)} {ps : List MemPlace},(∀ t∈ts,P.readableRec t = true∧t < P.types.size) →
    (∀ x∈ps,x.block < W.heap.size)→DataW.TrodAll enc P W 0 (fun _ => true) true ts vs ds ps→DataW.TrodAll enc P W' 0 (fun b => decide (b < W.heap.size)) true ts vs ds ps
  | [],[],[],_,_,_,h => h
  | t :: ts,v :: vs,d :: ds,ps,ht,hp,h => by
    obtain ⟨p,q,h1,h2,rfl⟩:=h
    obtain ⟨r1,r2⟩:=ht t (by simp)
    exact ⟨p,q,Below.trod hl r1 r2 h1 hb.below (fun x hx => hp x (by simp [hx])),trodAll_ext hl hb (fun t ht' => ht t (by simp [ht'])) (fun x hx => hp x (by simp [hx])) h2,rfl⟩
  | [],_ :: _,_,_,_,_,h => h.elim
  | [],[],_ :: _,_,_,_,h => h.elim
  | _ :: _,[],_,_,_,_,h => h.elim
  | _ :: _,_ :: _,[],_,_,_,h => h.elim
/-- A LAW'S POST: it answered true,and nothing that was there has changed. -/
theorem post_true {f : Func} {s : ChangeSpec} {W W' : World} {args : Array Value} {ds gs : List (DataW H)} {before : List MemPlace} {tb : TypeId} (hl : laidOutB P = true) (hvars : s.vars = []) (hres : f.resultTypes = #[tb]) (hb : P.underlying tb = some .bool)
  (hts : f.params.toList.all (fun t => P.readableRec t && decide (t < P.types.size)) = true) (hfn : (s.fn H ds).results = [.lit (.bool true)]∧(s.fn H ds).args = ds∧(s.fn H ds).vars = [])
  (hW : DataW.Whole enc P f.params.toList s.vars false W args.toList ds gs before) (hE : Ext W W') : s.post enc P f false true false false W args (.bool true) W':=by
 have hW':=hW
 obtain ⟨p,q,hA,hV,rfl,hfz,hnd⟩:=hW
 rw [hvars] at hV
 obtain ⟨rfl,rfl⟩:=trodVars_none hV
 have hlt:=hW'.lt
 simp only [List.append_nil] at hlt
 simp only [List.all_eq_true,Bool.and_eq_true,decide_eq_true_eq] at hts
 refine ⟨ds,[],p++[],[],p,[],hW',?_,?_,?_,hE.below.frame _,fun h => by cases h⟩
 ·rw [List.append_nil,hfn.1,hres]
  exact trodAll_mk1 (shut_bool hb true)
 ·rw [List.append_nil,hfn.2.1]
  exact trodAll_ext hl hE hts hlt hA
 ·rw [List.append_nil,hfn.2.2,hvars]
  exact rfl

theorem plain_addr {w : World} {a : Addr} {v : Value} (h : w.cell? (a.add 0) = some v) : ∃ b o,a = ⟨b,o,none⟩:=by
  obtain ⟨b,o,sp⟩:=a
  cases sp with
  | none => exact ⟨b,o,rfl⟩
  | some k =>
    simp only [Addr.add,if_true,World.cell?] at h
    split at h <;> simp at h
/-- numbers of bytes,as bytes -/
def u8s_of (zs : List Int) : List UInt8:=zs.map fun z => UInt8.ofNat z.toNat
theorem byteV_of {z : Int} (h : (Lit.int .u8 z).wf = true) : byteV (UInt8.ofNat z.toNat) = .int .u8 z:=by
  have hx : 0≤z∧z≤255:=by simpa [Lit.wf,IntKind.min,IntKind.max,IntKind.signed,IntKind.bits] using h
  simp only [byteV,UInt8.toNat_ofNat']
  congr 1
  omega
/-- AN ARGUMENT THAT IS A SLICE OF BYTES: its value,its bytes,and what its reading says of how many there are. -/
theorem open_bs {t e : TypeId} {fuel : Nat} {v : Value} {x : DataW H × List MemPlace} {w : World} {base : Nat} {spare : Nat→Bool} {held : Bool} (ht : P.underlying t = some (.slice e)) (he : P.underlying e = some (.int .u8)) (hc : P.cellsOf e = 1)
  (h : DataW.trod enc P w base spare held fuel t [v] = some x) : ∃ (q : Option Addr) (qc : Nat) (l : List UInt8),v = .slice q l.length qc∧Bs w (.slice q l.length qc) l∧(x.1 = .nil∧l = []∨∃ es sp,x.1 = .slice es sp∧es.length = l.length):=by
 rcases open_ints ht he hc h with ⟨hcs,rfl⟩ | ⟨a,len,cap,zs,hcs,_,hl,hm,hz,rfl,hcell,hwz⟩
 ·simp only [List.cons.injEq,and_true] at hcs
  subst hcs
  exact ⟨none,0,[],rfl,Bs.nil w,.inl ⟨rfl,rfl⟩⟩
 ·simp only [List.cons.injEq,and_true] at hcs
  subst hcs
  have hzl : len≤zs.length:=by rw [hz]; split <;> omega
  have hlen : (u8s_of (zs.take len)).length = len:=by simp [u8s_of]; omega
  refine ⟨some a,cap,u8s_of (zs.take len),by rw [hlen],⟨some a,cap,⟨by rw [hlen],by simp,by omega,fun i u hu => ?_,fun h => by cases h⟩⟩,.inr ⟨_,_,rfl,?_⟩⟩
  ·have hi : i < len:=by
    have:=(List.getElem?_eq_some_iff.1 hu).1
    simpa [hlen] using this
   have hc0:=hcell i (by omega)
   obtain ⟨b,o,rfl⟩:=plain_addr (hcell 0 (by omega))
   refine ⟨b,o,rfl,?_⟩
   rw [add_eq] at hc0
   rw [hc0]
   have hzi : zs[i]? = some (zs.getD i 0):=by simp [List.getD,List.getElem?_eq_getElem (show i < zs.length by omega)]
   simp only [u8s_of,List.getElem?_map,List.getElem?_take,hi,if_true,hzi,Option.map_some,Option.some.injEq] at hu
   rw [←hu,byteV_of (hwz _ (List.mem_of_getElem? hzi))]
  ·simp [lits,hlen]; omega
end
end Go.Sym
namespace Go.Sym
open Go

section
variable {P : Program} {ops : Array Oper} {Q : Exit→Act→World→Prop} {rest : List Item} {a : Act} {w w0 : World} {n : Nat} {R : Rg} {ds : List Deferred} {S : World→Prop}
variable {f : Bool} {d : Nat} {ty : TypeId} {pos : String} {af : Array Edge}

/-! ### words of 64 bits,as natural numbers -/
theorem wrap_u64 (m : Nat) : IntKind.u64.wrap (m : Int) = ((m % 18446744073709551616 : Nat) : Int):=by
  unfold IntKind.wrap; simp [IntKind.bits,IntKind.signed]
theorem wrap_u8 (m : Nat) : IntKind.u8.wrap (m : Int) = ((m % 256 : Nat) : Int):=by
  unfold IntKind.wrap; simp [IntKind.bits,IntKind.signed]
variable {t yt : TypeId} {x y : Operand} {m m' : Nat}
theorem r_addN (r : Nat) (hS : StD ds n R a) (hSw : Sf f S w) (hx : ev R x = some (.int .u64 (m : Int))) (hy : ev R y = some (.int .u64 (m' : Int))) (hlt : Nat.blt d n = true) (hr : (m + m') % 18446744073709551616 = r)
    (K : ∀ a',StD ds n (up R d (.int .u64 (r : Int))) a'→Sq P ops Q rest a' w) : Sq P ops Q ((f,⟨some d,.binOp .add t x y yt,ty,pos,af,none⟩,S) :: rest) a w :=
  r_addw hS hSw hx hy hlt (by rw [show ((m : Int) + m') = ((m + m' : Nat) : Int) by omega,wrap_u64,hr]; exact K)
theorem x_addN (r : Nat) (hSw : Sf f S w) (hx : ev R x = some (.int .u64 (m : Int))) (hy : ev R y = some (.int .u64 (m' : Int))) (hlt : Nat.blt d n = true) (hr : (m + m') % 18446744073709551616 = r) (K : ∀ a',StD ds n (up R d (.int .u64 (r : Int))) a'→Sq P ops Q rest a' w) : ∀ a,StD ds n R a→Sq P ops Q ((f,⟨some d,.binOp .add t x y yt,ty,pos,af,none⟩,S) :: rest) a w:=fun _ hS => r_addN r hS hSw hx hy hlt hr K
theorem r_mulN (r : Nat) (hS : StD ds n R a) (hSw : Sf f S w) (hx : ev R x = some (.int .u64 (m : Int))) (hy : ev R y = some (.int .u64 (m' : Int))) (hlt : Nat.blt d n = true) (hr : (m * m') % 18446744073709551616 = r)
    (K : ∀ a',StD ds n (up R d (.int .u64 (r : Int))) a'→Sq P ops Q rest a' w) : Sq P ops Q ((f,⟨some d,.binOp .mul t x y yt,ty,pos,af,none⟩,S) :: rest) a w :=
  r_mulw hS hSw hx hy hlt (by rw [show ((m : Int) * m') = ((m * m' : Nat) : Int) by simp,wrap_u64,hr]; exact K)
theorem x_mulN (r : Nat) (hSw : Sf f S w) (hx : ev R x = some (.int .u64 (m : Int))) (hy : ev R y = some (.int .u64 (m' : Int))) (hlt : Nat.blt d n = true) (hr : (m * m') % 18446744073709551616 = r) (K : ∀ a',StD ds n (up R d (.int .u64 (r : Int))) a'→Sq P ops Q rest a' w) : ∀ a,StD ds n R a→Sq P ops Q ((f,⟨some d,.binOp .mul t x y yt,ty,pos,af,none⟩,S) :: rest) a w:=fun _ hS => r_mulN r hS hSw hx hy hlt hr K
theorem r_subN (r : Nat) (hS : StD ds n R a) (hSw : Sf f S w) (hx : ev R x = some (.int .u64 (m : Int))) (hy : ev R y = some (.int .u64 (m' : Int))) (hlt : Nat.blt d n = true) (hle : m'≤18446744073709551616) (hr : (m + (18446744073709551616 - m')) % 18446744073709551616 = r)
    (K : ∀ a',StD ds n (up R d (.int .u64 (r : Int))) a'→Sq P ops Q rest a' w) : Sq P ops Q ((f,⟨some d,.binOp .sub t x y yt,ty,pos,af,none⟩,S) :: rest) a w :=
  r_subw hS hSw hx hy hlt (by
    have : IntKind.u64.wrap ((m : Int) - m') = (r : Int):=by
      subst hr
      unfold IntKind.wrap; simp [IntKind.bits,IntKind.signed]; omega
    rw [this]; exact K)
theorem x_subN (r : Nat) (hSw : Sf f S w) (hx : ev R x = some (.int .u64 (m : Int))) (hy : ev R y = some (.int .u64 (m' : Int))) (hlt : Nat.blt d n = true) (hle : m'≤18446744073709551616) (hr : (m + (18446744073709551616 - m')) % 18446744073709551616 = r) (K : ∀ a',StD ds n (up R d (.int .u64 (r : Int))) a'→Sq P ops Q rest a' w) : ∀ a,StD ds n R a→Sq P ops Q ((f,⟨some d,.binOp .sub t x y yt,ty,pos,af,none⟩,S) :: rest) a w:=fun _ hS => r_subN r hS hSw hx hy hlt hle hr K
theorem r_xorN (r : Nat) (hS : StD ds n R a) (hSw : Sf f S w) (hx : ev R x = some (.int .u64 (m : Int))) (hy : ev R y = some (.int .u64 (m' : Int))) (hlt : Nat.blt d n = true) (h1 : m < 18446744073709551616) (h2 : m' < 18446744073709551616) (hr : m ^^^ m' = r)
    (K : ∀ a',StD ds n (up R d (.int .u64 (r : Int))) a'→Sq P ops Q rest a' w) : Sq P ops Q ((f,⟨some d,.binOp .xor t x y yt,ty,pos,af,none⟩,S) :: rest) a w :=
  r_xor hS hSw hx hy hlt (by
    have : IntKind.u64.wrap ((BitVec.ofInt IntKind.u64.bits (m : Int) ^^^ BitVec.ofInt IntKind.u64.bits (m' : Int)).toNat : Int) = (r : Int):=by
      have hlt : m ^^^ m' < 2 ^ 64:=Nat.xor_lt_two_pow (by omega) (by omega)
      rw [wrap_u64,BitVec.toNat_xor]
      simp only [IntKind.bits,BitVec.ofInt_natCast,BitVec.toNat_ofNat]
      rw [Nat.mod_eq_of_lt (show m < 2 ^ 64 by omega),Nat.mod_eq_of_lt (show m' < 2 ^ 64 by omega),Nat.mod_eq_of_lt (by omega),hr]
    rw [this]; exact K)
theorem x_xorN (r : Nat) (hSw : Sf f S w) (hx : ev R x = some (.int .u64 (m : Int))) (hy : ev R y = some (.int .u64 (m' : Int))) (hlt : Nat.blt d n = true) (h1 : m < 18446744073709551616) (h2 : m' < 18446744073709551616) (hr : m ^^^ m' = r) (K : ∀ a',StD ds n (up R d (.int .u64 (r : Int))) a'→Sq P ops Q rest a' w) : ∀ a,StD ds n R a→Sq P ops Q ((f,⟨some d,.binOp .xor t x y yt,ty,pos,af,none⟩,S) :: rest) a w:=fun _ hS => r_xorN r hS hSw hx hy hlt h1 h2 hr K
theorem r_orN (r : Nat) (hS : StD ds n R a) (hSw : Sf f S w) (hx : ev R x = some (.int .u64 (m : Int))) (hy : ev R y = some (.int .u64 (m' : Int))) (hlt : Nat.blt d n = true) (h1 : m < 18446744073709551616) (h2 : m' < 18446744073709551616) (hr : m ||| m' = r)
    (K : ∀ a',StD ds n (up R d (.int .u64 (r : Int))) a'→Sq P ops Q rest a' w) : Sq P ops Q ((f,⟨some d,.binOp .or t x y yt,ty,pos,af,none⟩,S) :: rest) a w :=
  r_or hS hSw hx hy hlt (by
    have : IntKind.u64.wrap ((BitVec.ofInt IntKind.u64.bits (m : Int) ||| BitVec.ofInt IntKind.u64.bits (m' : Int)).toNat : Int) = (r : Int):=by
      have hlt : m ||| m' < 2 ^ 64:=Nat.or_lt_two_pow (by omega) (by omega)
      rw [wrap_u64,BitVec.toNat_or]
      simp only [IntKind.bits,BitVec.ofInt_natCast,BitVec.toNat_ofNat]
      rw [Nat.mod_eq_of_lt (show m < 2 ^ 64 by omega),Nat.mod_eq_of_lt (show m' < 2 ^ 64 by omega),Nat.mod_eq_of_lt (by omega),hr]
    rw [this]; exact K)
theorem r_shrN {k' : IntKind} {q : Int} (s r : Nat) (hS : StD ds n R a) (hSw : Sf f S w) (hx : ev R x = some (.int .u64 (m : Int))) (hy : ev R y = some (.int k' q)) (hlt : Nat.blt d n = true) (hq : q = (s : Nat)) (hs : s≤64) (hr : m >>> s = r)
    (K : ∀ a',StD ds n (up R d (.int .u64 (r : Int))) a'→Sq P ops Q rest a' w) : Sq P ops Q ((f,⟨some d,.binOp .shr t x y yt,ty,pos,af,none⟩,S) :: rest) a w :=
  r_shr hS hSw hx hy hlt (by omega) (by
    have : ((m : Int).fdiv (2 ^ (min q.toNat IntKind.u64.bits))) = (r : Int):=by
      subst hq hr
      have e : min (s : Int).toNat IntKind.u64.bits = s:=by simp [IntKind.bits]; omega
      rw [e,Int.fdiv_eq_ediv_of_nonneg _ (Int.le_of_lt (Int.pow_pos (by decide))),Nat.shiftRight_eq_div_pow]
      simp
    rw [this]; exact K)
theorem x_shrN {k' : IntKind} {q : Int} (s r : Nat) (hSw : Sf f S w) (hx : ev R x = some (.int .u64 (m : Int))) (hy : ev R y = some (.int k' q)) (hlt : Nat.blt d n = true) (hq : q = (s : Nat)) (hs : s≤64) (hr : m >>> s = r) (K : ∀ a',StD ds n (up R d (.int .u64 (r : Int))) a'→Sq P ops Q rest a' w) : ∀ a,StD ds n R a→Sq P ops Q ((f,⟨some d,.binOp .shr t x y yt,ty,pos,af,none⟩,S) :: rest) a w:=fun _ hS => r_shrN s r hS hSw hx hy hlt hq hs hr K
theorem r_shlN {k' : IntKind} {q : Int} (s r : Nat) (hS : StD ds n R a) (hSw : Sf f S w) (hx : ev R x = some (.int .u64 (m : Int))) (hy : ev R y = some (.int k' q)) (hlt : Nat.blt d n = true) (hq : q = (s : Nat)) (hs : s≤64) (hr : (m * 2 ^ s) % 18446744073709551616 = r)
    (K : ∀ a',StD ds n (up R d (.int .u64 (r : Int))) a'→Sq P ops Q rest a' w) : Sq P ops Q ((f,⟨some d,.binOp .shl t x y yt,ty,pos,af,none⟩,S) :: rest) a w :=
  r_shl hS hSw hx hy hlt (by omega) (by
    have : IntKind.u64.wrap ((m : Int) * 2 ^ (min q.toNat IntKind.u64.bits)) = (r : Int):=by
      subst hq hr
      have e : min (s : Int).toNat IntKind.u64.bits = s:=by simp [IntKind.bits]; omega
      rw [e,show ((m : Int) * 2 ^ s) = ((m * 2 ^ s : Nat) : Int) by simp,wrap_u64]
    rw [this]; exact K)
/-- an int to a word -/
theorem r_toU64 {s : TypeId} {k : IntKind} {q : Int} (r : Nat) (hS : StD ds n R a) (hSw : Sf f S w) (hx : ev R x = some (.int k q)) (ht : P.underlying t = some (.int .u64)) (hs : (P.underlying s).isSome = true) (hlt : Nat.blt d n = true) (hq : q = (r : Nat)) (hr : r < 18446744073709551616)
    (K : ∀ a',StD ds n (up R d (.int .u64 (r : Int))) a'→Sq P ops Q rest a' w) : Sq P ops Q ((f,⟨some d,.convert s t x,ty,pos,af,none⟩,S) :: rest) a w :=
  r_convInt hS hSw hx ht hs hlt (by rw [hq,wrap_u64,Nat.mod_eq_of_lt hr]; exact K)
theorem x_toU64 {s : TypeId} {k : IntKind} {q : Int} (r : Nat) (hSw : Sf f S w) (hx : ev R x = some (.int k q)) (ht : P.underlying t = some (.int .u64)) (hs : (P.underlying s).isSome = true) (hlt : Nat.blt d n = true) (hq : q = (r : Nat)) (hr : r < 18446744073709551616) (K : ∀ a',StD ds n (up R d (.int .u64 (r : Int))) a'→Sq P ops Q rest a' w) : ∀ a,StD ds n R a→Sq P ops Q ((f,⟨some d,.convert s t x,ty,pos,af,none⟩,S) :: rest) a w:=fun _ hS => r_toU64 r hS hSw hx ht hs hlt hq hr K
/-- a word to a byte -/
theorem r_toU8 {s : TypeId} {k : IntKind} {q : Nat} (u : UInt8) (hS : StD ds n R a) (hSw : Sf f S w) (hx : ev R x = some (.int k (q : Int))) (ht : P.underlying t = some (.int .u8)) (hs : (P.underlying s).isSome = true) (hlt : Nat.blt d n = true) (hu : u = UInt8.ofNat q)
    (K : ∀ a',StD ds n (up R d (byteV u)) a'→Sq P ops Q rest a' w) : Sq P ops Q ((f,⟨some d,.convert s t x,ty,pos,af,none⟩,S) :: rest) a w :=
  r_convInt hS hSw hx ht hs hlt (by
    have : Value.int .u8 (IntKind.u8.wrap (q : Int)) = byteV u:=by rw [wrap_u8,hu]; simp [byteV]
    rw [this]; exact K)
theorem x_toU8 {s : TypeId} {k : IntKind} {q : Nat} (u : UInt8) (hSw : Sf f S w) (hx : ev R x = some (.int k (q : Int))) (ht : P.underlying t = some (.int .u8)) (hs : (P.underlying s).isSome = true) (hlt : Nat.blt d n = true) (hu : u = UInt8.ofNat q) (K : ∀ a',StD ds n (up R d (byteV u)) a'→Sq P ops Q rest a' w) : ∀ a,StD ds n R a→Sq P ops Q ((f,⟨some d,.convert s t x,ty,pos,af,none⟩,S) :: rest) a w:=fun _ hS => r_toU8 u hS hSw hx ht hs hlt hu K
end

/-! ### names: a one-to-one mix of numbers -/
def mixN (x : Nat) : Nat :=
  let z1:=((x + 1) % 18446744073709551616 * 11400714819323198485) % 18446744073709551616
  let z2:=((z1 ^^^ z1 >>> 30) * 13787848793156543929) % 18446744073709551616
  let z3:=((z2 ^^^ z2 >>> 27) * 10723151780598845931) % 18446744073709551616
  z3 ^^^ z3 >>> 31
theorem xs_lt {z k : Nat} (h : z < 18446744073709551616) : z ^^^ z >>> k < 18446744073709551616:=by
  have : z >>> k≤z:=by rw [Nat.shiftRight_eq_div_pow]; exact Nat.div_le_self _ _
  have : z ^^^ z >>> k < 2 ^ 64:=Nat.xor_lt_two_pow (by omega) (by omega)
  omega
theorem mixN_lt (x : Nat) : mixN x < 18446744073709551616:=by
  unfold mixN; exact xs_lt (Nat.mod_lt _ (by decide))
theorem xs_inj {z y k : Nat} (hk : 0 < k) (h : z ^^^ z >>> k = y ^^^ y >>> k) : z = y:=by
 have e : (z ^^^ y) = (z ^^^ y) >>> k:=by
  rw [Nat.shiftRight_xor_distrib]
  have h1 : z ^^^ (z ^^^ z >>> k) = z ^^^ (y ^^^ y >>> k):=by rw [h]
  rw [←Nat.xor_assoc,Nat.xor_self,Nat.zero_xor,←Nat.xor_assoc] at h1
  rw [h1,Nat.xor_assoc,Nat.xor_self,Nat.xor_zero]
 have h0 : z ^^^ y = 0:=by
  rw [Nat.shiftRight_eq_div_pow] at e
  rcases Nat.eq_zero_or_pos (z ^^^ y) with h | h
  ·exact h
  ·have : (z ^^^ y) / 2 ^ k < z ^^^ y:=Nat.div_lt_self h (Nat.one_lt_two_pow (by omega))
   omega
 have h2 : z ^^^ (z ^^^ y) = z:=by rw [h0,Nat.xor_zero]
 rw [←Nat.xor_assoc,Nat.xor_self,Nat.zero_xor] at h2
 exact h2.symm
theorem mul_inv {z c c' : Nat} (hz : z < 18446744073709551616) (hc : c * c' % 18446744073709551616 = 1) : (z * c % 18446744073709551616) * c' % 18446744073709551616 = z:=by
  rw [Nat.mod_mul_mod,Nat.mul_assoc,←Nat.mul_mod_mod,hc,Nat.mul_one,Nat.mod_eq_of_lt hz]
theorem mul_inj {z y c c' : Nat} (hz : z < 18446744073709551616) (hy : y < 18446744073709551616) (hc : c * c' % 18446744073709551616 = 1) (h : z * c % 18446744073709551616 = y * c % 18446744073709551616) : z = y:=by
  have:=mul_inv hz hc
  rw [h,mul_inv hy hc] at this
  exact this.symm
theorem mixN_inj {x y : Nat} (hx : x < 18446744073709551616) (hy : y < 18446744073709551616) (h : mixN x = mixN y) : x = y:=by
  unfold mixN at h
  have h3:=mul_inj (c':=3573116690164977347) (xs_lt (Nat.mod_lt _ (by decide))) (xs_lt (Nat.mod_lt _ (by decide))) (by decide) (xs_inj (by decide) h)
  have h2:=mul_inj (c':=10871156337175269513) (xs_lt (Nat.mod_lt _ (by decide))) (xs_lt (Nat.mod_lt _ (by decide))) (by decide) (xs_inj (by decide) h3)
  have h1:=mul_inj (c':=17428512612931826493) (Nat.mod_lt _ (by decide)) (Nat.mod_lt _ (by decide)) (by decide) (xs_inj (by decide) h2)
  omega
def nmB (n k : Nat) : UInt8:=UInt8.ofNat (mixN (2 * n + k / 8) >>> (56 - 8 * (k % 8)))
def nm (n : Nat) : List UInt8:=[nmB n 0,nmB n 1,nmB n 2,nmB n 3,nmB n 4,nmB n 5,nmB n 6,nmB n 7,nmB n 8,nmB n 9,nmB n 10,nmB n 11,nmB n 12,nmB n 13,nmB n 14,nmB n 15]
theorem nm_len (n : Nat) : (nm n).length = 16:=rfl
theorem eight {x y : Nat} (hx : x < 18446744073709551616) (hy : y < 18446744073709551616) (h : ∀ k,k < 8→x >>> (56 - 8 * k) % 256 = y >>> (56 - 8 * k) % 256) : x = y:=by
  have h0:=h 0 (by decide); have h1:=h 1 (by decide); have h2:=h 2 (by decide); have h3:=h 3 (by decide)
  have h4:=h 4 (by decide); have h5:=h 5 (by decide); have h6:=h 6 (by decide); have h7:=h 7 (by decide)
  simp only [Nat.shiftRight_eq_div_pow,Nat.reduceMul,Nat.reduceSub,Nat.reducePow,Nat.div_one] at h0 h1 h2 h3 h4 h5 h6 h7
  clear h
  omega
theorem nmB_toNat (n k : Nat) : (nmB n k).toNat = mixN (2 * n + k / 8) >>> (56 - 8 * (k % 8)) % 256:=by simp [nmB]
theorem nm_inj {i j : Nat} (hi : i < 9223372036854775808) (hj : j < 9223372036854775808) (h : nm i = nm j) : i = j:=by
  simp only [nm,List.cons.injEq,and_true] at h
  obtain ⟨h0,h1,h2,h3,h4,h5,h6,h7,_⟩:=h
  have : mixN (2 * i) = mixN (2 * j):=by
    refine eight (mixN_lt _) (mixN_lt _) fun k hk => ?_
    have hk8 : nmB i k = nmB j k:=by
      match k,hk with
      | 0,_ => exact h0
      | 1,_ => exact h1
      | 2,_ => exact h2
      | 3,_ => exact h3
      | 4,_ => exact h4
      | 5,_ => exact h5
      | 6,_ => exact h6
      | 7,_ => exact h7
    have e:=congrArg UInt8.toNat hk8
    rw [nmB_toNat,nmB_toNat,Nat.div_eq_of_lt hk,Nat.mod_eq_of_lt hk] at e
    exact e
  have:=mixN_inj (by omega) (by omega) this
  omega
end Go.Sym
namespace Go.Sym
open Go

section
variable {P : Program} {ops : Array Oper} {Q : Exit→Act→World→Prop} {rest : List Item} {a : Act} {w w0 : World} {n : Nat} {R : Rg} {ds : List Deferred} {S : Nat→Prop} {L K : Blocks}
variable {f : Bool} {d : Nat} {ty : TypeId} {pos : String} {af : Array Edge}
/-- append to nothing -/
theorem r_append_nil {t t2 e es by' k : Nat} {x y : Operand} {vy : Value} {new : List Value} (hS : StD ds n R a) (hH : Hp w0 S L w) (hs : Sub K L) (hx : ev R x = some (.slice none 0 0)) (hy : ev R y = some vy)
    (he : elB P t = some (e,es,by')) (h2 : notInt P t2 = true) (hsrc : Src P es w vy k new) (hk : 0 < k) (hbytes : k * by'≤140737488355328) (hlt : Nat.blt d n = true)
    (kk : ∀ (a' : Act) (w' : World) (b' c : Nat) (l2 : List Value),w0.heap.size≤b'→w.heap.size≤b'→l2.length = c * es→k≤c→l2.take (k * es) = new→Ext w w'→StD ds n (up R d (.slice (some ⟨b',0,none⟩) k c)) a'→Hp w0 S ((b',.cells l2.toArray e (0,0)) :: L) w'→Sq P ops Q rest a' w') :
    Sq P ops Q ((false,⟨some d,.call ⟨.builtin .append,#[x,y],#[t,t2]⟩,ty,pos,af,none⟩,Kp w0 S K) :: rest) a w:=by
  have hold : Sl es w (.slice none 0 0) [] 0 none 0:=⟨rfl,by simp,Nat.le_refl _,fun i u h => by simp at h,fun _ => rfl⟩
  obtain ⟨c,zs,hr,hc,hlen⟩:=run_append_grow' (P:=P) (ty:=ty) he h2 hsrc hold (by omega) (by simpa using hbytes)
  have hHd:=(hH.drew).alloc (.cells ([]++new++zs).toArray e (0,0))
  rw [Nat.zero_add] at hr hc
  refine Sq.done rfl (run_append_op hS hx hy hr) ⟨fun p hp => hHd.blk p (List.mem_cons_of_mem _ (hs.mem p hp)),hHd.mod⟩ (kk _ _ w.heap.size c _ hH.mod.size (Nat.le_refl _) hlen hc ?_ ((Ext.drew w).trans (Ext.alloc w.drew _)) (hS.put hlt _) hHd)
  have : ([]++new : List Value).length = k * es:=by simp [hsrc.size]
  rw [←this,List.take_left]; simp
end

/-! ### terms -/
structure Tm where
  kind : Int
  a : Int
  b : Int
  number : Int
  label : ByteArray
  also : ByteArray
  bytes : ByteArray
def Tm.cells (t : Tm) : List Value:=[.int .i64 t.kind,.int .i64 t.a,.int .i64 t.b,.int .i64 t.number,.string t.label,.string t.also,.string t.bytes]
def tv (t : Tm) : Value:=.agg t.cells.toArray
def hnd (h : List UInt8) : Value:=.agg (hcells h).toArray
def fits (x : Int) : Prop := -9223372036854775808≤x∧x < 9223372036854775808
structure Tm.ok (t : Tm) : Prop where
  kind : fits t.kind
  a : fits t.a
  b : fits t.b
  number : fits t.number
  label : t.label.size≤9223372036854775807
  also : t.also.size≤9223372036854775807
  bytes : t.bytes.size≤9223372036854775807
theorem Tm.cells_len (t : Tm) : t.cells.length = 7:=rfl
theorem Tm.cells_inj {t u : Tm} (h : t.cells = u.cells) : t = u:=by
  obtain ⟨_,_,_,_,_,_,_⟩:=t
  obtain ⟨_,_,_,_,_,_,_⟩:=u
  simp only [Tm.cells,List.cons.injEq,Value.int.injEq,Value.string.injEq,true_and,and_true] at h
  simp only [Tm.mk.injEq]
  exact h
theorem tv_inj {t u : Tm} (h : tv t = tv u) : t = u:=by
  simp only [tv,Value.agg.injEq] at h
  exact Tm.cells_inj (by simpa using h)
theorem hnd_inj {g h : List UInt8} (e : hnd g = hnd h) : g = h:=by
  simp only [hnd,Value.agg.injEq] at e
  exact hcells_inj (by simpa using e)
def tmFld (P : Program) (f : Field) (i : Nat) (str : Bool) : Bool:=Nat.beq f.offset i && Nat.beq (P.cellsOf f.type) 1 && (bif str then isStr P f.type else isI64 P f.type) && f.name != "_"
def tmB (P : Program) (t : TypeId) : Bool:=match P.underlying t with
  | some (.struct fs) => match fs.toList with
    | [f0,f1,f2,f3,f4,f5,f6] => tmFld P f0 0 false && tmFld P f1 1 false && tmFld P f2 2 false && tmFld P f3 3 false && tmFld P f4 4 true && tmFld P f5 5 true && tmFld P f6 6 true
    | _ => false
  | _ => false
theorem tmFld_int {P : Program} {f : Field} {i : Nat} (h : tmFld P f i false = true) : f.offset = i∧P.cellsOf f.type = 1∧P.underlying f.type = some (.int .i64)∧(f.name != "_") = true:=by
 simp only [tmFld,Bool.and_eq_true,cond_false] at h
 refine ⟨Nat.eq_of_beq_eq_true h.1.1.1,Nat.eq_of_beq_eq_true h.1.1.2,?_,h.2⟩
 have:=h.1.2
 unfold isI64 at this
 split at this
 ·assumption
 ·cases this
theorem tmFld_str {P : Program} {f : Field} {i : Nat} (h : tmFld P f i true = true) : f.offset = i∧P.cellsOf f.type = 1∧P.underlying f.type = some .string∧(f.name != "_") = true:=by
 simp only [tmFld,Bool.and_eq_true,cond_true] at h
 refine ⟨Nat.eq_of_beq_eq_true h.1.1.1,Nat.eq_of_beq_eq_true h.1.1.2,?_,h.2⟩
 have:=h.1.2
 unfold isStr at this
 split at this
 ·assumption
 ·cases this
theorem lits_int {P : Program} {t : TypeId} (h : P.underlying t = some (.int .i64)) {x : Int} (hx : fits x) (dd : Nat) : P.keyLits (dd + 1) t [.int .i64 x] = some [.int .i64 x]:=by
  have : (Lit.int .i64 x).wf = true:=by
    unfold fits at hx
    simp [Lit.wf,IntKind.min,IntKind.max,IntKind.signed,IntKind.bits]; omega
  simp [Program.keyLits,h,this]
theorem lits_str {P : Program} {t : TypeId} (h : P.underlying t = some .string) {s : ByteArray} (hs : s.size≤9223372036854775807) (dd : Nat) : P.keyLits (dd + 1) t [.string s] = some [.string s.data.toList]:=by
  simp [Program.keyLits,h,maxLen,hs]
/-- a type of terms as keys -/
structure TmTy (P : Program) (t : TypeId) : Prop where
  row : tmB P t = true
  cells : P.cellsOf t = 7
  key : P.keyType t = true
  law : WideMaps.KeyLaw P t
  types : 1≤P.types.size
  key2 : P.keyTypeAt 2 t = true
  guard : P.eqGuardType P.depth t = false
theorem tmTy_mk {P : Program} {t : TypeId} (hl : laidOutB P = true) (hrow : t < P.types.size) (h : tmB P t = true) (hc : Nat.beq (P.cellsOf t) 7 = true) (hk : P.keyType t = true) (hk2 : P.keyTypeAt 2 t = true) (hg : P.eqGuardType P.depth t = false) : TmTy P t:=by
 refine ⟨h,Nat.eq_of_beq_eq_true hc,hk,?_,Nat.lt_of_le_of_lt (Nat.zero_le _) hrow,hk2,hg⟩
 unfold tmB at h
 split at h
 ·rename_i fs hu
  exact deep_law_laid hl (m:=2) (by omega) hrow hk2 (by rw [hu])
 ·cases h
theorem TmTy.keyOf {P : Program} {t : TypeId} (T : TmTy P t) {u : Tm} (hu : u.ok) : ∃ l,keyOf P t (tv u) = some l:=by
 have h:=T.row
 unfold tmB at h
 split at h
 ·rename_i fs hund
  split at h
  ·rename_i f0 f1 f2 f3 f4 f5 f6 hfs
   simp only [Bool.and_eq_true] at h
   obtain ⟨⟨⟨⟨⟨⟨h0,h1⟩,h2⟩,h3⟩,h4⟩,h5⟩,h6⟩:=h
   obtain ⟨o0,c0,k0,n0⟩:=tmFld_int h0
   obtain ⟨o1,c1,k1,n1⟩:=tmFld_int h1
   obtain ⟨o2,c2,k2,n2⟩:=tmFld_int h2
   obtain ⟨o3,c3,k3,n3⟩:=tmFld_int h3
   obtain ⟨o4,c4,k4,n4⟩:=tmFld_str h4
   obtain ⟨o5,c5,k5,n5⟩:=tmFld_str h5
   obtain ⟨o6,c6,k6,n6⟩:=tmFld_str h6
   obtain ⟨fl⟩:=fs
   simp only at hfs
   subst hfs
   have hall : (#[f0,f1,f2,f3,f4,f5,f6] : Array Field).all (·.name != "_") = true:=by simp [n0,n1,n2,n3,n4,n5,n6] <;> simp_all
   have e : P.keyLits (P.types.size + 1) t u.cells = some [.int .i64 u.kind,.int .i64 u.a,.int .i64 u.b,.int .i64 u.number,.string u.label.data.toList,.string u.also.data.toList,.string u.bytes.data.toList]:=by
    have hts : P.types.size = (P.types.size - 1) + 1:=by have:=T.types; omega
    simp only [Program.keyLits,hund]
    rw [if_pos ⟨by rw [T.cells]; rfl,hall⟩]
    rw [hts]
    simp only [List.mapM_cons,List.mapM_nil,o0,o1,o2,o3,o4,o5,o6,c0,c1,c2,c3,c4,c5,c6,Tm.cells,List.drop_succ_cons,List.drop_zero,List.take_succ_cons,List.take_zero]
    rw [lits_int k0 hu.kind,lits_int k1 hu.a,lits_int k2 hu.b,lits_int k3 hu.number,lits_str k4 hu.label,lits_str k5 hu.also,lits_str k6 hu.bytes]
    rfl
   unfold Go.keyOf
   rw [hund]
   simp only [T.key,Value.formed,hund,T.cells,Value.cells,Bool.true_and,tv]
   rw [if_pos (by simp [Tm.cells])]
   exact ⟨_,by rw [e]; rfl⟩
  ·cases h
 ·cases h

/-! ### a vault in memory -/
structure VB where
  sb : Nat
  fb : Nat
  nb : Nat
  cap : Nat
  l : List Value
  es : Array MapEntry
  c : Nat
  es' : Array MapEntry
  c' : Nat
def VB.top (V : VB) (m : Nat) : List Value:=[.slice (some ⟨V.sb,0,none⟩) m V.cap,.map (some V.fb),.map (some V.nb)]
/-- what the map of terms says -/
structure Fnd (ts : List Tm) (g : Value→Option Value) : Prop where
  some_ : ∀ (t : Tm) (v : Value),g (tv t) = some v→∃ i : Nat,v = .int .i64 (i : Int)∧ts[i]? = some t
  none_ : ∀ (t : Tm) (i : Nat),ts[i]? = some t→t.kind≠1→g (tv t) = some (.int .i64 (i : Int))
/-- what the map of names says -/
def Nms (m : Nat) (g : Value→Option Value) : Prop := ∀ (h : List UInt8) (v : Value),g (hnd h) = some v↔∃ i : Nat,i < m∧h = nm i∧v = .int .i64 (i : Int)
structure VOk (P : Program) (TT TH : Nat) (V : VB) (ts : List Tm) : Prop where
  len : V.l.length = V.cap * 7
  cap : ts.length≤V.cap
  take : V.l.take (ts.length * 7) = ts.flatMap Tm.cells
  rng : ∀ t∈ts,t.ok
  found : ∃ g,MapOk P TT V.es g∧Fnd ts g
  names : ∃ g,MapOk P TH V.es' g∧Nms ts.length g
theorem exists_set (g : Value→Option Value) (x v : Value) : ∃ g',setG g x v g':=by
  classical
  exact ⟨fun y => if y = x then some v else g y,by simp,fun y hy => by simp [hy]⟩
theorem Fnd.push {ts : List Tm} {g g' : Value→Option Value} {t : Tm} (h : Fnd ts g) (hn : t.kind = 1∨t ∉ ts) (hg : setG g (tv t) (.int .i64 (ts.length : Int)) g') : Fnd (ts++[t]) g':=by
 constructor
 ·intro u v hu
  by_cases e : u = t
  ·subst e
   rw [hg.1] at hu
   cases hu
   exact ⟨ts.length,rfl,by simp⟩
  ·rw [hg.2 _ (fun k => e (tv_inj k))] at hu
   obtain ⟨i,h1,h2⟩:=h.some_ u v hu
   exact ⟨i,h1,by rw [List.getElem?_append_left (List.getElem?_eq_some_iff.1 h2).1]; exact h2⟩
 ·intro u i hu hk
  by_cases e : u = t
  ·subst e
   rcases hn with hn | hn
   ·exact absurd hn hk
   ·rw [List.getElem?_append] at hu
    split at hu
    ·exact absurd (List.mem_of_getElem? hu) hn
    ·rename_i hge
     have : i = ts.length:=by
      by_cases e : i - ts.length = 0
      ·omega
      ·obtain ⟨m,hm⟩:=Nat.exists_eq_succ_of_ne_zero e
       rw [hm] at hu; simp at hu
     subst this
     exact hg.1
  ·rw [hg.2 _ (fun k => e (tv_inj k))]
   rw [List.getElem?_append] at hu
   split at hu
   ·exact h.none_ u i hu hk
   ·have:=List.mem_of_getElem? hu
    exact absurd (List.mem_singleton.1 this) e
theorem Nms.push {m : Nat} {g g' : Value→Option Value} (h : Nms m g) (hm : m < 9223372036854775808) (hg : setG g (hnd (nm m)) (.int .i64 (m : Int)) g') : Nms (m + 1) g':=by
 intro u v
 by_cases e : u = nm m
 ·subst e
  rw [hg.1]
  constructor
  ·intro k; cases k; exact ⟨m,by omega,rfl,rfl⟩
  ·rintro ⟨i,hi,he,rfl⟩
   have : i = m:=(nm_inj (by omega) hm he.symm)
   rw [this]
 ·rw [hg.2 _ (fun k => e (hnd_inj k)),h u v]
  constructor
  ·rintro ⟨i,hi,r⟩; exact ⟨i,by omega,r⟩
  ·rintro ⟨i,hi,rfl,r⟩
   refine ⟨i,?_,rfl,r⟩
   by_cases k : i = m
   ·subst k; exact absurd rfl e
   ·omega
theorem one_cells (t : Tm) : ∀ u∈t.cells,u.oneCell' = true:=by
  intro u hu
  simp only [Tm.cells,List.mem_cons,List.not_mem_nil,or_false] at hu
  rcases hu with rfl | rfl | rfl | rfl | rfl | rfl | rfl <;> rfl
/-- what 'make' does -/
def Made (ts : List Tm) (t : Tm) (i : Nat) (ts' : List Tm) : Prop:=(t.kind≠1∧ts[i]? = some t∧ts' = ts)∨((t.kind = 1∨t ∉ ts)∧i = ts.length∧ts' = ts++[t])
/-- a vault's blocks,the first of which is b -/
def VB.F (b : Nat) (V : VB) : Nat→Prop:=fun x => x = b∨x = V.sb∨x = V.fb∨x = V.nb
structure VIn (P : Program) (TV TT TH : Nat) (w : World) (b : Nat) (V : VB) (ts : List Tm) : Prop where
  ok : VOk P TT TH V ts
  h0 : w.heap[b]? = some (.cells (V.top ts.length).toArray TV (0,0))
  h1 : w.heap[V.sb]? = some (.cells V.l.toArray TT (0,0))
  h2 : w.heap[V.fb]? = some (.map V.es V.c)
  h3 : w.heap[V.nb]? = some (.map V.es' V.c')
  n01 : b≠V.sb
  n23 : V.fb≠V.nb
/-- how a call on a vault changes memory -/
structure VStep (w w' : World) (b : Nat) (V V' : VB) : Prop where
  F : ∀ x,V'.F b x→V.F b x∨w.heap.size≤x
  mod : Mod (V.F b) w w'
section
variable {P : Program} {TV TT TH : Nat} {w w' w0 : World} {b : Nat} {V V' : VB} {ts ts' : List Tm} {S : Nat→Prop} {L L' : Blocks}
theorem VStep.of_ext (b : Nat) (V : VB) (h : Ext w w') : VStep w w' b V V:=⟨fun _ h => .inl h,h.mono (fun _ h => h.elim)⟩
theorem VIn.ext (h : VIn P TV TT TH w b V ts) (k : Ext w w') : VIn P TV TT TH w' b V ts:=⟨h.ok,k.heap_some h.h0,k.heap_some h.h1,k.heap_some h.h2,k.heap_some h.h3,h.n01,h.n23⟩
theorem VIn.nd (h : VIn P TV TT TH w b V ts) : [b,V.sb,V.fb,V.nb].Nodup:=by
  have e1 : b≠V.fb:=fun e => by have:=h.h0; rw [e,h.h2] at this; cases this
  have e2 : b≠V.nb:=fun e => by have:=h.h0; rw [e,h.h3] at this; cases this
  have e3 : V.sb≠V.fb:=fun e => by have:=h.h1; rw [e,h.h2] at this; cases this
  have e4 : V.sb≠V.nb:=fun e => by have:=h.h1; rw [e,h.h3] at this; cases this
  simp [h.n01,h.n23,e1,e2,e3,e4]
/-- where a vault's blocks may lie,seen from the call's beginning -/
def VS (S : Nat→Prop) (w0 : World) (b : Nat) (V : VB) : Prop := ∀ x,V.F b x→S x∨w0.heap.size≤x
theorem VS.start (w0 : World) (b : Nat) (V : VB) : VS (V.F b) w0 b V:=fun _ h => .inl h
theorem VS.step (h : VS S w0 b V) (k : VStep w w' b V V') (hs : w0.heap.size≤w.heap.size) : VS S w0 b V':=fun x hx => by
 rcases k.F x hx with e | e
 ·exact h x e
 ·exact .inr (Nat.le_trans hs e)
/-- a vault's blocks in a list give way to what a call left of them -/
inductive Sw (x0 x1 x2 x3 y0 y1 y2 y3 : Nat × Obj) : Blocks→Blocks→Prop
  | here {M : Blocks} : Sw x0 x1 x2 x3 y0 y1 y2 y3 (x0 :: x1 :: x2 :: x3 :: M) (y0 :: y1 :: y2 :: y3 :: M)
  | there {x : Nat × Obj} {M M' : Blocks} : Sw x0 x1 x2 x3 y0 y1 y2 y3 M M'→Sw x0 x1 x2 x3 y0 y1 y2 y3 (x :: M) (x :: M')
theorem Sw.old {x0 x1 x2 x3 y0 y1 y2 y3 : Nat × Obj} (h : Sw x0 x1 x2 x3 y0 y1 y2 y3 L L') : ∀ p∈[x0,x1,x2,x3],p∈L:=by
  induction h with
  | here => intro p hp; simp only [List.mem_cons,List.not_mem_nil,or_false] at hp ⊢; rcases hp with h | h | h | h <;> simp [h]
  | there _ ih => intro p hp; exact List.mem_cons_of_mem _ (ih p hp)
theorem Sw.mem {x0 x1 x2 x3 y0 y1 y2 y3 : Nat × Obj} (h : Sw x0 x1 x2 x3 y0 y1 y2 y3 L L') (nd : (L.map Prod.fst).Nodup) : ∀ p∈L',p∈[y0,y1,y2,y3]∨(p∈L∧∀ q∈[x0,x1,x2,x3],p.1≠q.1):=by
 induction h with
 | @here L =>
  intro p hp
  simp only [List.mem_cons] at hp
  simp only [List.map_cons,List.nodup_cons,List.mem_cons,not_or,List.mem_map,not_exists,not_and] at nd
  rcases hp with h | h | h | h | h
  ·left; simp [h]
  ·left; simp [h]
  ·left; simp [h]
  ·left; simp [h]
  ·right
   refine ⟨by simp [h],fun q hq => ?_⟩
   simp only [List.mem_cons,List.not_mem_nil,or_false] at hq
   rcases hq with rfl | rfl | rfl | rfl
   ·exact nd.1.2.2.2 p h
   ·exact nd.2.1.2.2 p h
   ·exact nd.2.2.1.2 p h
   ·exact nd.2.2.2.1 p h
 | @there x L L' h ih =>
  intro p hp
  simp only [List.map_cons,List.nodup_cons,List.mem_map,not_exists,not_and] at nd
  rcases List.mem_cons.1 hp with rfl | hp
  ·exact .inr ⟨by simp,fun q hq e => nd.1 q (h.old q hq) e.symm⟩
  ·rcases ih nd.2 p hp with h1 | ⟨h1,h2⟩
   ·exact .inl h1
   ·exact .inr ⟨List.mem_cons_of_mem _ h1,h2⟩
theorem Sw.nodup {x0 x1 x2 x3 y0 y1 y2 y3 : Nat × Obj} (h : Sw x0 x1 x2 x3 y0 y1 y2 y3 L L') (nd : (L.map Prod.fst).Nodup) (hy : ([y0,y1,y2,y3].map Prod.fst).Nodup)
  (hc : ∀ p∈L,(∀ q∈[x0,x1,x2,x3],p.1≠q.1)→∀ q∈[y0,y1,y2,y3],p.1≠q.1) : (L'.map Prod.fst).Nodup:=by
 induction h with
 | @here L =>
  have hm:=(Sw.here (x0:=x0) (x1:=x1) (x2:=x2) (x3:=x3) (y0:=y0) (y1:=y1) (y2:=y2) (y3:=y3) (M:=L)).mem nd
  have hdis : ∀ p∈L,∀ q∈[y0,y1,y2,y3],p.1≠q.1:=fun p hp => hc p (by simp [hp]) (fun q hq => by
   simp only [List.map_cons,List.nodup_cons,List.mem_cons,not_or,List.mem_map,not_exists,not_and] at nd
   simp only [List.mem_cons,List.not_mem_nil,or_false] at hq
   rcases hq with rfl | rfl | rfl | rfl
   ·exact nd.1.2.2.2 p hp
   ·exact nd.2.1.2.2 p hp
   ·exact nd.2.2.1.2 p hp
   ·exact nd.2.2.2.1 p hp)
  have e : (y0 :: y1 :: y2 :: y3 :: L).map Prod.fst = [y0,y1,y2,y3].map Prod.fst++L.map Prod.fst:=rfl
  rw [e,List.nodup_append]
  refine ⟨hy,?_,?_⟩
  ·simp only [List.map_cons,List.nodup_cons] at nd; exact nd.2.2.2.2
  ·intro k hk k' hk' heq
   obtain ⟨q,hq,rfl⟩:=List.mem_map.1 hk
   obtain ⟨p,hp,rfl⟩:=List.mem_map.1 hk'
   exact hdis p hp q hq heq.symm
 | @there x L L' h ih =>
  simp only [List.map_cons,List.nodup_cons] at nd ⊢
  refine ⟨fun hm => ?_,ih nd.2 (fun p hp => hc p (by simp [hp]))⟩
  obtain ⟨p,hp,e⟩:=List.mem_map.1 hm
  rcases h.mem nd.2 p hp with h1 | ⟨h1,_⟩
  ·exact hc x (by simp) (fun q hq e2 => nd.1 (List.mem_map.2 ⟨q,h.old q hq,e2.symm⟩)) p h1 e.symm
  ·exact nd.1 (List.mem_map.2 ⟨p,h1,e⟩)
theorem Hp.vault (h : Hp w0 S L w) (hVS : VS S w0 b V) (hst : VStep w w' b V V') (hin : VIn P TV TT TH w' b V' ts')
  (p : Sw (b,.cells (V.top ts.length).toArray TV (0,0)) (V.sb,.cells V.l.toArray TT (0,0)) (V.fb,.map V.es V.c) (V.nb,.map V.es' V.c')
   (b,.cells (V'.top ts'.length).toArray TV (0,0)) (V'.sb,.cells V'.l.toArray TT (0,0)) (V'.fb,.map V'.es V'.c) (V'.nb,.map V'.es' V'.c') L L') : Hp w0 S L' w':=by
 have hnF : ∀ p : Nat × Obj,(∀ q∈([(b,.cells (V.top ts.length).toArray TV (0,0)),(V.sb,.cells V.l.toArray TT (0,0)),(V.fb,.map V.es V.c),(V.nb,.map V.es' V.c')] : Blocks),p.1≠q.1)→¬ V.F b p.1:=by
  intro p hp hF
  rcases hF with e | e | e | e
  ·exact hp _ (List.mem_cons_self) e
  ·exact hp _ (List.mem_cons_of_mem _ List.mem_cons_self) e
  ·exact hp _ (List.mem_cons_of_mem _ (List.mem_cons_of_mem _ List.mem_cons_self)) e
  ·exact hp _ (List.mem_cons_of_mem _ (List.mem_cons_of_mem _ (List.mem_cons_of_mem _ List.mem_cons_self))) e
 refine ⟨fun q hq => ?_,p.nodup h.nd (by simpa using hin.nd) ?_,h.mod.trans hst.mod (fun c hc hF => by
  rcases hVS c hF with e | e
  ·exact e
  ·omega)⟩
 ·rcases p.mem h.nd q hq with h1 | ⟨h1,h2⟩
  ·simp only [List.mem_cons,List.not_mem_nil,or_false] at h1
   rcases h1 with rfl | rfl | rfl | rfl
   ·exact hin.h0
   ·exact hin.h1
   ·exact hin.h2
   ·exact hin.h3
  ·exact hst.mod.heap_some (h.blk q h1) (hnF q h2)
 ·intro q hq hne y hy e
  have hF : V'.F b y.1:=by
   simp only [List.mem_cons,List.not_mem_nil,or_false] at hy
   rcases hy with rfl | rfl | rfl | rfl
   ·exact .inl rfl
   ·exact .inr (.inl rfl)
   ·exact .inr (.inr (.inl rfl))
   ·exact .inr (.inr (.inr rfl))
  rw [←e] at hF
  rcases hst.F q.1 hF with k | k
  ·exact hnF q hne k
  ·have:=lt_of_block (h.blk q hq); omega
theorem Hp.vin (h : Hp w0 S L w) (hin : VOk P TT TH V ts) (n01 : b≠V.sb) (n23 : V.fb≠V.nb) (k0 : In b (.cells (V.top ts.length).toArray TV (0,0)) L) (k1 : In V.sb (.cells V.l.toArray TT (0,0)) L) (k2 : In V.fb (.map V.es V.c) L) (k3 : In V.nb (.map V.es' V.c') L) : VIn P TV TT TH w b V ts :=
  ⟨hin,h.get k0,h.get k1,h.get k2,h.get k3,n01,n23⟩
theorem Hp.knowV (h : Hp w0 S L w) (hin : VIn P TV TT TH w b V ts) (hd : ∀ p∈L,¬ V.F b p.1) : Hp w0 S ((b,.cells (V.top ts.length).toArray TV (0,0)) :: (V.sb,.cells V.l.toArray TT (0,0)) :: (V.fb,.map V.es V.c) :: (V.nb,.map V.es' V.c') :: L) w:=by
 have nd:=hin.nd
 simp only [List.nodup_cons,List.mem_cons,List.not_mem_nil,or_false,not_or] at nd
 refine (((h.know hin.h3 (fun p hp e => hd p hp (.inr (.inr (.inr e))))).know hin.h2 (fun p hp => ?_)).know hin.h1 (fun p hp => ?_)).know hin.h0 (fun p hp => ?_)
 ·rcases List.mem_cons.1 hp with rfl | hp
  ·exact Ne.symm nd.2.2.1
  ·exact fun e => hd p hp (.inr (.inr (.inl e)))
 ·simp only [List.mem_cons] at hp
  rcases hp with rfl | rfl | hp
  ·exact Ne.symm nd.2.1.1
  ·exact Ne.symm nd.2.1.2
  ·exact fun e => hd p hp (.inr (.inl e))
 ·simp only [List.mem_cons] at hp
  rcases hp with rfl | rfl | rfl | hp
  ·exact Ne.symm nd.1.1
  ·exact Ne.symm nd.1.2.1
  ·exact Ne.symm nd.1.2.2
  ·exact fun e => hd p hp (.inl e)
end

section
variable {P : Program} {ops : Array Oper} {Q : Exit→Act→World→Prop} {rest : List Item} {a : Act} {w w0 : World} {n : Nat} {R : Rg} {ds : List Deferred} {S : Nat→Prop} {L K : Blocks}
variable {f : Bool} {d : Nat} {ty : TypeId} {pos : String} {af : Array Edge}
theorem r_lookupS2 {t k e b clock : Nat} {x y : Operand} {es : Array MapEntry} {g : Value→Option Value} {z key v1 : Value} {b1 : Bool} {lx : Lit} (T : MapTy P t k e z) (hS : StD ds n R a) (hx : ev R x = some (.map (some b))) (hy : ev R y = some key) (hi : In b (.map es clock) K) (h : MapOk P k es g) (hk : keyOf P k key = some lx) (e1 : orZ (g key) z = v1) (e2 : (g key).isSome = b1) (hlt : Nat.blt d n = true)
    (kk : ∀ a',StD ds n (up R d (.tuple #[v1,.bool b1])) a'→Sq P ops Q rest a' w) : Sq P ops Q ((true,⟨some d,.lookup t x y true,ty,pos,af,none⟩,Kp w0 S K) :: rest) a w :=
  r_lookupS T hS hx hy hi h hk hlt (by rw [e1,e2]; exact kk)
theorem x_lookupS2 {t k e b clock : Nat} {x y : Operand} {es : Array MapEntry} {g : Value→Option Value} {z key v1 : Value} {b1 : Bool} {lx : Lit} (T : MapTy P t k e z) (hx : ev R x = some (.map (some b))) (hy : ev R y = some key) (hi : In b (.map es clock) K) (h : MapOk P k es g) (hk : keyOf P k key = some lx) (e1 : orZ (g key) z = v1) (e2 : (g key).isSome = b1) (hlt : Nat.blt d n = true) (kk : ∀ a',StD ds n (up R d (.tuple #[v1,.bool b1])) a'→Sq P ops Q rest a' w) : ∀ a,StD ds n R a→Sq P ops Q ((true,⟨some d,.lookup t x y true,ty,pos,af,none⟩,Kp w0 S K) :: rest) a w:=fun _ hS => r_lookupS2 T hS hx hy hi h hk e1 e2 hlt kk
theorem r_mapUpdate2 {t k e b clock : Nat} {x y u : Operand} {es : Array MapEntry} {g g' : Value→Option Value} {z key v : Value} {lx : Lit} {L' : Array MapEntry→Nat→Blocks} (T : MapTy P t k e z) (hS : StD ds n R a) (hH : Hp w0 S L w) (hx : ev R x = some (.map (some b))) (hy : ev R y = some key) (hu : ev R u = some v) (hp : ∀ es' clock',Put b (.map es clock) (.map es' clock') L (L' es' clock')) (hs : ∀ es' clock',Sub K (L' es' clock')) (h : MapOk P k es g) (hk : keyOf P k key = some lx) (hg : setG g key v g') (hw : S b∨w0.heap.size≤b)
    (kk : ∀ w' es' clock',MapOk P k es' g'→Hp w0 S (L' es' clock') w'→Sq P ops Q rest a w') : Sq P ops Q ((false,⟨none,.mapUpdate t x y u,ty,pos,af,none⟩,Kp w0 S K) :: rest) a w:=by
  obtain ⟨w',es',clock',hr,ht,hok⟩:=run_mapUpdate (w:=w) T.und T.law h (hH.blk _ (hp #[] 0).old) hk hg
  have hH':=hH.turned (hp es' clock') ht hw
  exact Sq.skip (w':=w') rfl (by simp [execOp,hS.val hx,hS.val hy,hS.val hu,hr]) (hH'.kp (hs es' clock')) (kk w' es' clock' hok hH')
end
def mapB (P : Program) (t k e : TypeId) : Bool:=match P.underlying t with
  | some (.map k' e') => Nat.beq k' k && Nat.beq e' e
  | _ => false
def zv0 (P : Program) (e : TypeId) : Bool:=match (P.info? e).bind (·.zero) with
 | some (.int .i64 0) => true
 | _ => false
theorem mapTy_mk {P : Program} {t k e : TypeId} (h : mapB P t k e = true) (hz : zv0 P e = true) (law : WideMaps.KeyLaw P k) : MapTy P t k e (.int .i64 0):=by
 unfold mapB at h
 split at h
 ·rename_i k' e' hu
  simp only [Bool.and_eq_true] at h
  obtain rfl:=Nat.eq_of_beq_eq_true h.1
  obtain rfl:=Nat.eq_of_beq_eq_true h.2
  refine ⟨hu,fun w => ?_,law⟩
  unfold zv0 at hz
  split at hz
  ·rename_i hq
   cases hi : P.info? e' with
   | none => rw [hi] at hq; cases hq
   | some i =>
    rw [hi] at hq
    simp only [Option.bind_some] at hq
    simp [zeroValue,typeInfo,hi,hq]
  ·cases hz
 ·cases h
theorem Fnd.look {ts : List Tm} {g : Value→Option Value} (h : Fnd ts g) (t : Tm) : (∃ i : Nat,orZ (g (tv t)) (.int .i64 0) = .int .i64 (i : Int)∧(g (tv t)).isSome = true∧ts[i]? = some t)∨(orZ (g (tv t)) (.int .i64 0) = .int .i64 0∧(g (tv t)).isSome = false∧(t.kind = 1∨t ∉ ts)):=by
 cases hg : g (tv t) with
 | some v =>
  obtain ⟨i,rfl,h2⟩:=h.some_ t v hg
  exact .inl ⟨i,rfl,rfl,h2⟩
 | none =>
  refine .inr ⟨rfl,rfl,?_⟩
  by_cases hk : t.kind = 1
  ·exact .inl hk
  ·refine .inr fun hm => ?_
   obtain ⟨i,hi⟩:=List.getElem?_of_mem hm
   have:=h.none_ t i hi hk
   rw [hg] at this; cases this
theorem Nms.look {m : Nat} {g : Value→Option Value} (h : Nms m g) (u : List UInt8) : (∃ i : Nat,i < m∧u = nm i∧orZ (g (hnd u)) (.int .i64 0) = .int .i64 (i : Int)∧(g (hnd u)).isSome = true)∨((∀ i,i < m→u≠nm i)∧orZ (g (hnd u)) (.int .i64 0) = .int .i64 0∧(g (hnd u)).isSome = false):=by
  cases hg : g (hnd u) with
  | some v =>
    obtain ⟨i,h1,h2,rfl⟩:=(h u v).1 hg
    exact .inl ⟨i,h1,h2,rfl,rfl⟩
  | none =>
    refine .inr ⟨fun i hi e => ?_,rfl,rfl⟩
    have:=(h u _).2 ⟨i,hi,e,rfl⟩
    rw [hg] at this; cases this
theorem VOk.push {P : Program} {TT TH : Nat} {V V' : VB} {ts : List Tm} {t : Tm} {g1 g2 g1' g2' : Value→Option Value} (h : VOk P TT TH V ts) (ht : t.ok) (hn : t.kind = 1∨t ∉ ts) (hm : ts.length < 9223372036854775808)
  (h1 : MapOk P TT V'.es g1') (f1 : Fnd ts g1) (s1 : setG g1 (tv t) (.int .i64 (ts.length : Int)) g1') (h2 : MapOk P TH V'.es' g2') (f2 : Nms ts.length g2) (s2 : setG g2 (hnd (nm ts.length)) (.int .i64 (ts.length : Int)) g2')
  (hl : V'.l.length = V'.cap * 7) (hc : ts.length + 1≤V'.cap) (htk : V'.l.take ((ts.length + 1) * 7) = V.l.take (ts.length * 7)++t.cells) : VOk P TT TH V' (ts++[t]) where
 len:=hl
 cap:=by simpa using hc
 take:=by
  rw [List.length_append,List.length_singleton,htk,h.take]
  simp
 rng:=fun u hu => by
  rcases List.mem_append.1 hu with hu | hu
  ·exact h.rng u hu
  ·rw [List.mem_singleton.1 hu]; exact ht
 found:=⟨g1',h1,f1.push hn s1⟩
 names:=⟨g2',h2,by rw [List.length_append,List.length_singleton]; exact f2.push hm s2⟩
theorem Src.terms {P : Program} {w : World} {b : Nat} {t : Tm} {T : TypeId} (hb : w.heap[b]? = some (.cells t.cells.toArray T (0,0))) : Src P 7 w (.slice (some ⟨b,0,none⟩) 1 1) 1 t.cells:=by
  have h:=Sl.of_block (es:=7) (m:=1) (cap:=1) hb (by simp [Tm.cells_len]) (Nat.le_refl _)
  rw [List.take_of_length_le (by simp [Tm.cells_len])] at h
  exact h.src (one_cells t)
theorem Hp.vin2 {P : Program} {TV TT TH : Nat} {w w0 : World} {b m : Nat} {V : VB} {ts : List Tm} {S : Nat→Prop} {L : Blocks} (h : Hp w0 S L w) (hin : VOk P TT TH V ts) (hm : m = ts.length) (n01 : b≠V.sb) (n23 : V.fb≠V.nb) (k0 : In b (.cells (V.top m).toArray TV (0,0)) L) (k1 : In V.sb (.cells V.l.toArray TT (0,0)) L) (k2 : In V.fb (.map V.es V.c) L) (k3 : In V.nb (.map V.es' V.c') L) : VIn P TV TT TH w b V ts:=by
  subst hm
  exact h.vin hin n01 n23 k0 k1 k2 k3

theorem VIn.notF {P : Program} {TV TT TH : Nat} {w : World} {b c : Nat} {V : VB} {ts : List Tm} {l : Array Value} {T : TypeId} {fz : Nat × Nat} (h : VIn P TV TT TH w b V ts) (hb : w.heap[c]? = some (.cells l T fz)) (h1 : T≠TV) (h2 : T≠TT) : ¬ V.F b c:=by
 intro hF
 rcases hF with rfl | rfl | rfl | rfl
 ·have:=h.h0; rw [hb] at this; cases this; exact h1 rfl
 ·have:=h.h1; rw [hb] at this; cases this; exact h2 rfl
 ·have:=h.h2; rw [hb] at this; cases this
 ·have:=h.h3; rw [hb] at this; cases this
theorem mapOk_same {P : Program} {k : TypeId} {es : Array MapEntry} {g g' : Value→Option Value} (h : MapOk P k es g) (h' : MapOk P k es g') (x : Value) : g x = g' x:=by
  cases e : g x with
  | some v => exact ((h'.at_ x v).2 ((h.at_ x v).1 e)).symm
  | none =>
    cases e' : g' x with
    | none => rfl
    | some v =>
      have:=(h.at_ x v).2 ((h'.at_ x v).1 e')
      rw [e] at this; cases this
theorem Nms.look2 {m : Nat} {g : Value→Option Value} (h : Nms m g) (u : List UInt8) : ∃ (n0 : Int) (th : Bool),orZ (g (hnd u)) (.int .i64 0) = .int .i64 n0∧(g (hnd u)).isSome = th∧((th = true∧∃ i : Nat,i < m∧n0 = (i : Int)∧u = nm i)∨(th = false∧n0 = 0∧∀ i,i < m→u≠nm i)):=by
 rcases h.look u with ⟨i,h1,h2,h3,h4⟩ | ⟨h1,h2,h3⟩
 ·exact ⟨i,true,h3,h4,.inl ⟨rfl,i,h1,rfl,h2⟩⟩
 ·exact ⟨0,false,h2,h3,.inr ⟨rfl,rfl,h1⟩⟩
def zH : List UInt8:=[0,0,0,0,0,0,0,0,0,0,0,0,0,0,0,0]
/-- what 'of' does: h: the other term's name; h',x: what is told -/
def OfT (ts : List Tm) (h : List UInt8) (t : Tm) (h' : List UInt8) (x : Int) (ts' : List Tm) : Prop :=
  (∃ i j : Nat,i < ts.length∧h = nm i∧x = 0∧h' = nm j∧Made ts { t with a:=(i : Int) } j ts')∨((∀ i,i < ts.length→h≠nm i)∧x = 15∧h' = zH∧ts' = ts)
theorem OfT.len {ts ts' : List Tm} {h h' : List UInt8} {t : Tm} {x : Int} (k : OfT ts h t h' x ts') : h'.length = 16:=by
  rcases k with ⟨i,j,_,_,_,rfl,_⟩ | ⟨_,_,rfl,_⟩ <;> rfl
def rootT : Tm:=⟨0,0,0,0,.empty,.empty,.empty⟩
def freshT : Tm:=⟨1,0,0,0,.empty,.empty,.empty⟩
def drv (label bytes : ByteArray) : Tm:=⟨2,0,0,0,label,.empty,bytes⟩
theorem fits_small {x : Int} (h0 : 0≤x) (h1 : x≤9000000000000000000) : fits x:=by unfold fits; omega
theorem tm_ok {k a b n : Int} {l al by' : ByteArray} (h : (0≤k∧k≤9000000000000000000)∧(0≤a∧a≤9000000000000000000)∧(0≤b∧b≤9000000000000000000)∧0≤n∧n≤9000000000000000000) (h1 : l.size≤9223372036854775807) (h2 : al.size≤9223372036854775807) (h3 : by'.size≤9223372036854775807) : (Tm.mk k a b n l al by').ok :=
  ⟨fits_small h.1.1 h.1.2,fits_small h.2.1.1 h.2.1.2,fits_small h.2.2.1.1 h.2.2.1.2,fits_small h.2.2.2.1 h.2.2.2.2,h1,h2,h3⟩
theorem rootT_ok : rootT.ok:=tm_ok (by omega) (by decide) (by decide) (by decide)
theorem freshT_ok : freshT.ok:=tm_ok (by omega) (by decide) (by decide) (by decide)
theorem drv_ok {label bytes : ByteArray} (h1 : label.size≤9223372036854775807) (h2 : bytes.size≤9223372036854775807) : (drv label bytes).ok:=tm_ok (by omega) h1 (by decide) h2
theorem ok_a {t : Tm} (h : t.ok) {i : Nat} (hi : i≤1000000000) : ({ t with a:=(i : Int) } : Tm).ok:=⟨h.kind,fits_small (x:=(i : Int)) (by omega) (by omega),h.b,h.number,h.label,h.also,h.bytes⟩
theorem Made.len {ts ts' : List Tm} {t : Tm} {i : Nat} (h : Made ts t i ts') : ts.length≤ts'.length∧ts'.length≤ts.length + 1∧i < ts'.length:=by
 rcases h with ⟨_,h,rfl⟩ | ⟨_,rfl,rfl⟩
 ·exact ⟨Nat.le_refl _,by omega,(List.getElem?_eq_some_iff.1 h).1⟩
 ·simp
theorem OfT.lens {ts ts' : List Tm} {h h' : List UInt8} {t : Tm} {x : Int} (k : OfT ts h t h' x ts') : ts.length≤ts'.length∧ts'.length≤ts.length + 1:=by
 rcases k with ⟨i,j,_,_,_,_,hm⟩ | ⟨_,_,_,rfl⟩
 ·exact ⟨hm.len.1,hm.len.2.1⟩
 ·simp
end Go.Sym
