/- Rules of symbolic execution over any program of the model, that the claims of this folder use; part Sym4. Conditions: those that each rule names. -/
import Derived.Test.YtcjmehononbadaaDoorSym3
import Derived.Lib.ConvBytes
namespace Go.Sym
open Go

theorem DF {p : Prop} [Decidable p] (h : ¬ p) : decide p = false:=decide_eq_false h
theorem DT {p : Prop} [Decidable p] (h : p) : decide p = true:=decide_eq_true h
/-- bytes that stay,whatever is done to blocks of F -/
def BsF (F : Nat→Prop) (w : World) (v : Value) (l : List UInt8) : Prop := ∀ w',Mod F w w'→Bs w' v l
theorem BsF.bs {F : Nat→Prop} {w : World} {v : Value} {l : List UInt8} (h : BsF F w v l) : Bs w v l:=h w (Mod.refl _ _)
theorem Bs.f {w : World} {v : Value} {l : List UInt8} (h : Bs w v l) : BsF Nobody w v l:=fun _ k => h.ext k
theorem Mod.go {F F' : Nat→Prop} {w w1 w2 : World} (k : Mod F w w1) (k' : Mod F' w1 w2) (hF : ∀ x,F' x→F x∨w.heap.size≤x) : Mod F w w2 :=
 k.trans k' (fun c hc hx => by
  rcases hF c hx with e | e
  ·exact e
  ·omega)
theorem BsF.go {F F' : Nat→Prop} {w w1 : World} {v : Value} {l : List UInt8} (h : BsF F w v l) (k : Mod F w w1) (hF : ∀ x,F' x→F x∨w.heap.size≤x) : BsF F' w1 v l:=fun _ k' => h _ (k.go k' hF)
theorem BsF.nil (F : Nat→Prop) (w : World) : BsF F w (.slice none 0 0) []:=fun w' _ => Bs.nil w'
theorem BsF.block {F : Nat→Prop} {w : World} {c : Nat} {h : List UInt8} {T : TypeId} {fz : Nat × Nat} (hb : w.heap[c]? = some (.cells (hcells h).toArray T fz)) (hl : h.length = 16) (hn : ¬ F c) : BsF F w (.slice (some ⟨c,0,none⟩) 16 16) h:=fun _ k => Bs.handle (k.heap_some hb hn) hl
/-- in a list of known blocks a block stands but once -/
theorem Hp.ne {w0 w : World} {S : Nat→Prop} {L : Blocks} {x y : Nat} {ox oy : Obj} (h : Hp w0 S L w) (k : Sub [(x,ox),(y,oy)] L) (nd : ox≠oy) : x≠y:=by
  intro e
  subst e
  have h1:=h.blk (x,ox) (k.mem _ (by simp))
  have h2:=h.blk (x,oy) (k.mem _ (by simp))
  simp only at h1 h2
  rw [h1] at h2
  exact nd (Option.some.inj h2)
theorem VIn.lt {P : Program} {TV TT TH : Nat} {w : World} {b : Nat} {V : VB} {ts : List Tm} (h : VIn P TV TT TH w b V ts) : ∀ x,V.F b x→x < w.heap.size:=by
 intro x hx
 rcases hx with rfl | rfl | rfl | rfl
 ·exact lt_of_block h.h0
 ·exact lt_of_block h.h1
 ·exact lt_of_block h.h2
 ·exact lt_of_block h.h3
end Go.Sym
namespace Go.Sym
open Go

section
variable {P : Program} {ops : Array Oper} {Q : Exit→Act→World→Prop} {rest : List Item} {a : Act} {w w0 : World} {n : Nat} {R : Rg} {ds : List Deferred} {S : Nat→Prop} {L K : Blocks}
variable {f : Bool} {d : Nat} {ty : TypeId} {pos : String} {af : Array Edge}
theorem eqIn_bool (dd : Nat) {t : TypeId} (u v : Bool) (w : World) (hu : P.underlying t = some .bool) : (Op.equalIn (dd + 1) t (.bool u) (.bool v)).run P w = .ok (u == v) w:=by
  simp [Op.equalIn,run_underlying hu]
def isBool (P : Program) (t : TypeId) : Bool:=match P.underlying t with
  | some .bool => true
  | _ => false
theorem r_boolEql {t yt : TypeId} {x y : Operand} {u v : Bool} (hS : StD ds n R a) (hSw : Sf f (Kp w0 S K) w) (hx : ev R x = some (.bool u)) (hy : ev R y = some (.bool v)) (ht : isBool P t = true) (hlt : Nat.blt d n = true)
  (k : ∀ a',StD ds n (up R d (.bool (u == v))) a'→Sq P ops Q rest a' w) : Sq P ops Q ((f,⟨some d,.binOp .eql t x y yt,ty,pos,af,none⟩,Kp w0 S K) :: rest) a w:=by
 unfold isBool at ht
 split at ht
 ·rename_i hu
  exact r_cmp hS hSw hx hy hlt (fun w => by simp [eqGuard]) (fun w => run_eql_of (by rfl) (fun dd w => eqIn_bool dd u v w hu) w) k
 ·cases ht
theorem x_boolEql {t yt : TypeId} {x y : Operand} {u v : Bool} (hSw : Sf f (Kp w0 S K) w) (hx : ev R x = some (.bool u)) (hy : ev R y = some (.bool v)) (ht : isBool P t = true) (hlt : Nat.blt d n = true) (k : ∀ a',StD ds n (up R d (.bool (u == v))) a'→Sq P ops Q rest a' w) : ∀ a,StD ds n R a→Sq P ops Q ((f,⟨some d,.binOp .eql t x y yt,ty,pos,af,none⟩,Kp w0 S K) :: rest) a w:=fun _ hS => r_boolEql hS hSw hx hy ht hlt k
/-- some cells of a block,as one value -/
theorem r_load_at {t o b m : Nat} {x : Operand} {l vs : List Value} {T : TypeId} {fz : Nat × Nat} (hS : StD ds n R a) (hH : Hp w0 S L w) (hs : Sub K L) (hx : ev R x = some (.pointer (some ⟨b,o,none⟩))) (hi : In b (.cells l.toArray T fz) L) (ht : agB P t = some m) (hv : o + m≤l.length) (he : rd l o m = vs) (hlt : Nat.blt d n = true)
    (k : ∀ a',StD ds n (up R d (.agg vs.toArray)) a'→Sq P ops Q rest a' w) : Sq P ops Q ((false,⟨some d,.load t x,ty,pos,af,none⟩,Kp w0 S K) :: rest) a w :=
  r_load_ag hS hH hs hx hi ht hv hlt (by rw [he]; exact k)
theorem r_load_atS {t o b m : Nat} {x : Operand} {l vs : List Value} {T : TypeId} {fz : Nat × Nat} (hS : StD ds n R a) (hx : ev R x = some (.pointer (some ⟨b,o,none⟩))) (hi : In b (.cells l.toArray T fz) K) (ht : agB P t = some m) (hv : o + m≤l.length) (he : rd l o m = vs) (hlt : Nat.blt d n = true)
    (k : ∀ a',StD ds n (up R d (.agg vs.toArray)) a'→Sq P ops Q rest a' w) : Sq P ops Q ((true,⟨some d,.load t x,ty,pos,af,none⟩,Kp w0 S K) :: rest) a w :=
  r_load_agS hS hx hi ht hv hlt (by rw [he]; exact k)
end
theorem dropI_sub : ∀ (L : Blocks) (k : Nat) (ds : List Nat),(dropI L k ds).Sublist L
  | [],_,_ => List.Sublist.slnil
  | x :: r,k,ds => by
    simp only [dropI]
    cases hb : ds.any (Nat.beq k) with
    | true => exact (dropI_sub r _ ds).cons x
    | false => exact (dropI_sub r _ ds).cons_cons x
theorem Hp.drop {w0 w : World} {S : Nat→Prop} {L : Blocks} (h : Hp w0 S L w) (ds : List Nat) : Hp w0 S (dropI L 0 ds) w :=
  ⟨fun p hp => h.blk p (dropI_mem L 0 ds p hp),h.nd.sublist ((dropI_sub L 0 ds).map _),h.mod⟩
theorem Hp.front {w0 w : World} {S : Nat→Prop} {L L' : Blocks} {b : Nat} {o : Obj} (h : Hp w0 S L w) (d : Del b o L L') : Hp w0 S ((b,o) :: L') w :=
  (h.del d).know (h.blk _ d.old) (d.ne h.nd)

/-! ### handles in a row -/
theorem flat16 : ∀ (hs : List (List UInt8)),(∀ h∈hs,h.length = 16)→(hs.flatMap hcells).length = hs.length * 16
  | [],_ => rfl
  | h :: r,k => by
    have h1:=k h (by simp)
    have h2:=flat16 r (fun x hx => k x (by simp [hx]))
    simp only [List.flatMap_cons,List.length_append,hcells_len,h1,h2,List.length_cons]; omega
theorem rd_flat : ∀ (hs : List (List UInt8)) (i : Nat) (g : List UInt8) (rest : List Value),(∀ h∈hs,h.length = 16)→hs[i]? = some g→rd (hs.flatMap hcells++rest) (i * 16) 16 = hcells g
  | [],i,g,_,_,e => by simp at e
  | h :: r,0,g,rest,k,e => by
    simp only [List.length_cons,Nat.zero_lt_succ,List.getElem?_eq_getElem,List.getElem_cons_zero,Option.some.injEq] at e
    subst e
    have h1:=k h (by simp)
    simp only [rd,Nat.zero_mul,List.drop_zero,List.flatMap_cons,List.append_assoc]
    rw [List.take_left' (by rw [hcells_len,h1])]
  | h :: r,i + 1,g,rest,k,e => by
    have h1:=k h (by simp)
    have ih:=rd_flat r i g rest (fun x hx => k x (by simp [hx])) (by simpa using e)
    rw [←ih]
    simp only [rd,List.flatMap_cons,List.append_assoc]
    rw [show (i + 1) * 16 = (hcells h).length + i * 16 by rw [hcells_len,h1]; omega,List.drop_length_add_append]
theorem rd_row {hs : List (List UInt8)} {l : List Value} {i : Nat} {g : List UInt8} (k : ∀ h∈hs,h.length = 16) (ht : l.take (hs.length * 16) = hs.flatMap hcells) (hi : hs[i]? = some g) : rd l (i * 16) 16 = hcells g∧i * 16 + 16≤l.length:=by
  have hlt:=(List.getElem?_eq_some_iff.1 hi).1
  have e : l = hs.flatMap hcells++l.drop (hs.length * 16):=by rw [←ht,List.take_append_drop]
  have hl : hs.length * 16≤l.length:=by
    have:=congrArg List.length ht
    rw [flat16 hs k,List.length_take] at this
    omega
  exact ⟨by rw [e]; exact rd_flat hs i g _ k hi,by omega⟩

/-! ### what calls of a vault tell,in plain terms -/
/-- a term that is not fresh stands at one place -/
theorem VOk.uniq {P : Program} {TT TH : Nat} {V : VB} {ts : List Tm} (h : VOk P TT TH V ts) {i j : Nat} {t : Tm} (hi : ts[i]? = some t) (hj : ts[j]? = some t) (hk : t.kind≠1) : i = j:=by
  obtain ⟨g,_,hf⟩:=h.found
  have h1:=hf.none_ t i hi hk
  have h2:=hf.none_ t j hj hk
  rw [h1] at h2
  simp only [Option.some.injEq,Value.int.injEq,true_and] at h2
  omega
theorem at_lt {ts : List Tm} {i : Nat} {t : Tm} (hi : ts[i]? = some t) : i < ts.length:=(List.getElem?_eq_some_iff.1 hi).1
theorem toList_loop (bs : ByteArray) : ∀ (m i : Nat) (r : List UInt8),m = bs.size - i→ByteArray.toList.loop bs i r = r.reverse++bs.data.toList.drop i
  | 0,i,r,h => by
    rw [ByteArray.toList.loop]
    have : ¬ i < bs.size:=by omega
    rw [if_neg this,List.drop_of_length_le (by simpa using Nat.not_lt.1 this)]
    simp
  | m + 1,i,r,h => by
    rw [ByteArray.toList.loop]
    have hlt : i < bs.size:=by omega
    rw [if_pos hlt,toList_loop bs m (i + 1) _ (by omega)]
    have hlt' : i < bs.data.toList.length:=by simpa using hlt
    rw [List.drop_eq_getElem_cons hlt']
    simp only [List.reverse_cons,List.append_assoc,List.singleton_append]
    congr 2
    have : i < bs.data.size:=hlt
    simp only [ByteArray.get!,Array.getElem_toList]
    exact getElem!_pos bs.data i this
theorem toList_eq (bs : ByteArray) : bs.toList = bs.data.toList:=by
  unfold ByteArray.toList
  rw [toList_loop bs _ 0 [] rfl]; simp
theorem strOf_toList (l : List UInt8) : (strOf l).toList = l:=by
  rw [toList_eq]; simp [strOf]
end Go.Sym
namespace Go.Sym
open Go
theorem Src.hnd {P : Program} {w : World} {b : Nat} {h : List UInt8} {T : TypeId} {fz : Nat × Nat} (hb : w.heap[b]? = some (.cells (hcells h).toArray T fz)) (hl : h.length = 16) : Src P 16 w (.slice (some ⟨b,0,none⟩) 1 1) 1 (hcells h):=by
  have k:=Sl.of_block (es:=16) (m:=1) (cap:=1) hb (by simp [hcells_len,hl]) (Nat.le_refl _)
  rw [List.take_of_length_le (by simp [hcells_len,hl])] at k
  exact k.src (hcells_one h)
end Go.Sym
namespace Go.Sym
open Go
theorem hv_of {P : Program} {w : World} {ps : Array TypeId} {vs : Array Value} {r : Reach} {b0 j : Nat} {t : TypeId} {v : Value} (h : ∀ (j : Nat) t v,ps[j]? = some t→vs[j]? = some v→Value.okWide P w r b0 t v) (hp : ps[j]? = some t) (ha : vs[j]? = some v) : Value.okWide P w r b0 t v:=h j t v hp ha
end Go.Sym
namespace Go.Sym
open Go

/-! ### regions in which two operations are ready at once -/
section
variable {P : Program} {ops : Array Oper} {Q : Exit→Act→World→Prop}
/-- a step that is carried out -/
def Hs (P : Program) (ops : Array Oper) (Q : Exit→Act→World→Prop) (o : Oper) (S : World→Prop) (C : Act→World→Prop) (a : Act) (w : World) : Prop :=
  if Region.wanted o (yielded ops a.tmps) then o.wp P a w (fun a' w' => S w'∧C a' w') Q∨(o.asks P a w∧LetsOut Q) else S w∧C (a.put o.dst undef) w
/-- as Sq,with what comes behind -/
def SqC (P : Program) (ops : Array Oper) (Q : Exit→Act→World→Prop) (C : Act→World→Prop) : List Item→Act→World→Prop
  | [],a,w => C a w
  | (true,o,S) :: rest,a,w => ∃ v,YieldsIf P ops S o v a∧SqC P ops Q C rest (a.put o.dst v) w
  | (false,o,S) :: rest,a,w => Hs P ops Q o S (SqC P ops Q C rest) a w
theorem wp_then {o : Oper} {a : Act} {w : World} {K C : Act→World→Prop} (h : o.wp P a w K (Exit.then C Q)) : o.wp P a w K Q:=h
theorem Hs.mono {o : Oper} {S : World→Prop} {C C' : Act→World→Prop} {a : Act} {w : World} (h : Hs P ops Q o S C a w) (k : ∀ a w,C a w→C' a w) : Hs P ops Q o S C' a w:=by
 unfold Hs at h ⊢
 split
 ·rename_i hw
  rw [if_pos hw] at h
  exact h.imp (Oper.wp_mono fun a w ⟨h1,h2⟩ => ⟨h1,k a w h2⟩) id
 ·rename_i hw
  rw [if_neg hw] at h
  exact ⟨h.1,k _ _ h.2⟩
theorem SqC.of {C : Act→World→Prop} : ∀ (l : List Item) (a : Act) (w : World),Sq P ops (Exit.then C Q) l a w→SqC P ops Q C l a w
 | [],_,_,h => h
 | (true,o,S) :: rest,a,w,h => by
  obtain ⟨v,h1,h2⟩:=h
  exact ⟨v,h1,SqC.of rest _ _ h2⟩
 | (false,o,S) :: rest,a,w,h => by
  simp only [Sq] at h
  unfold SqC Hs
  split
  ·rename_i hw
   rw [if_pos hw] at h
   rcases h with h | h
   ·exact .inl (Oper.wp_mono (fun a w ⟨h1,h2⟩ => ⟨h1,SqC.of rest a w h2⟩) (wp_then h))
   ·exact .inr h
  ·rename_i hw
   rw [if_neg hw] at h
   exact ⟨h.1,SqC.of rest _ _ h.2⟩
end

/-- a plan that forks -/
inductive PT
  | nil
  | cons (x : Bool × Nat × List Nat) (r : PT)
  | fork (t u : PT)
  | fork3 (t u v : PT)
def PT.items : PT→Plan
  | .nil => []
  | .cons x r => x :: r.items
  | .fork t u => t.items++u.items
  | .fork3 t u v => t.items++(u.items++v.items)
def PT.len : PT→Nat
  | .nil => 0
  | .cons _ r => r.len + 1
  | .fork t u => max t.len u.len
  | .fork3 t u v => max t.len (max u.len v.len)
def PT.head : PT→Nat
  | .cons (false,i,_) _ => i
  | _ => 0
def PT.ofPlan : Plan→PT→PT
  | [],r => r
  | x :: l,r => .cons x (PT.ofPlan l r)
/-- may these be taken in this order? 'al': the first one,that is carried out,may be any of these -/
def treeOk (md : Region.Mode) (ops : Array Oper) : PT→Option (List Nat)→Array Bool→Bool
  | .nil,none,listed => (Region.ready md ops listed).isEmpty
  | .cons (true,i,_) r,none,listed => (ops[i]?).isSome && Region.free md ops listed i && (Region.ready md ops listed).contains i && treeOk md ops r none (listed.setIfInBounds i true)
  | .cons (false,i,_) r,none,listed => (ops[i]?).isSome && (Region.ready md ops listed == [i]) && treeOk md ops r none (listed.setIfInBounds i true)
  | .cons (false,i,_) r,some al,listed => (ops[i]?).isSome && (Region.ready md ops listed == al) && al.contains i && treeOk md ops r none (listed.setIfInBounds i true)
  | .fork t u,none,listed => (Region.ready md ops listed == [t.head,u.head]) && treeOk md ops t (some [t.head,u.head]) listed && treeOk md ops u (some [t.head,u.head]) listed
  | .fork3 t u v,none,listed => (Region.ready md ops listed == [t.head,u.head,v.head]) && treeOk md ops t (some [t.head,u.head,v.head]) listed && treeOk md ops u (some [t.head,u.head,v.head]) listed && treeOk md ops v (some [t.head,u.head,v.head]) listed
  | _,_,_ => false
def SqT (P : Program) (ops : Array Oper) (Q : Exit→Act→World→Prop) (w0 : World) (S : Nat→Prop) (K : Blocks) (l : List Oper) : PT→Act→World→Prop
  | .nil,a,w => Q .normal a w
  | .cons (true,i,ds) r,a,w => ∃ v,YieldsIf P ops (Kp w0 S (dropI K 0 ds)) (nth l i) v a∧SqT P ops Q w0 S K l r (a.put (nth l i).dst v) w
  | .cons (false,i,ds) r,a,w => Hs P ops Q (nth l i) (Kp w0 S (dropI K 0 ds)) (SqT P ops Q w0 S K l r) a w
  | .fork t u,a,w => SqT P ops Q w0 S K l t a w∧SqT P ops Q w0 S K l u a w
  | .fork3 t u v,a,w => SqT P ops Q w0 S K l t a w∧SqT P ops Q w0 S K l u a w∧SqT P ops Q w0 S K l v a w
section
variable {P : Program} {ops : Array Oper} {Q : Exit→Act→World→Prop} {w0 : World} {S : Nat→Prop} {K : Blocks} {l : List Oper}
theorem tr_seg : ∀ {pl : Plan} {r : PT} {a : Act} {w : World},Sq P ops (Exit.then (SqT P ops Q w0 S K l r) Q) (picked w0 S K l pl) a w→SqT P ops Q w0 S K l (PT.ofPlan pl r) a w:=by
  intro pl r a w h
  replace h:=SqC.of _ a w h
  induction pl generalizing a w with
  | nil => exact h
  | cons x pl ih =>
    obtain ⟨b,i,ds⟩:=x
    cases b with
    | true =>
      obtain ⟨v,h1,h2⟩:=h
      exact ⟨v,h1,ih h2⟩
    | false => exact Hs.mono h (fun a w k => ih k)
theorem tr_fork {t u : PT} {a : Act} {w : World} (h : SqT P ops Q w0 S K l t a w) (k : SqT P ops Q w0 S K l u a w) : SqT P ops Q w0 S K l (.fork t u) a w:=⟨h,k⟩
theorem tr_fork3 {t u v : PT} {a : Act} {w : World} (h : SqT P ops Q w0 S K l t a w) (k : SqT P ops Q w0 S K l u a w) (j : SqT P ops Q w0 S K l v a w) : SqT P ops Q w0 S K l (.fork3 t u v) a w:=⟨h,k,j⟩
theorem tr_nil {a : Act} {w : World} (h : Q .normal a w) : SqT P ops Q w0 S K l .nil a w:=h
end
theorem tree_unlisted {md : Region.Mode} {ops : Array Oper} : ∀ (tr : PT) (al : Option (List Nat)) (listed : Array Bool),treeOk md ops tr al listed = true→∀ y∈tr.items,listed.getD y.2.1 false = false:=by
 intro tr
 induction tr with
 | nil => intro _ _ _ y hy; cases hy
 | cons x r ih =>
  obtain ⟨b,i,ds⟩:=x
  intro al listed h y hy
  have key : listed.getD i true = false∧treeOk md ops r none (listed.setIfInBounds i true) = true:=by
   cases b with
   | true =>
    cases al with
    | none =>
     simp only [treeOk,Bool.and_eq_true] at h
     exact ⟨(mem_ready.1 (show i∈Region.ready md ops listed by simpa using h.1.2)).1,h.2⟩
    | some al => simp [treeOk] at h
   | false =>
    cases al with
    | none =>
     simp only [treeOk,Bool.and_eq_true,beq_iff_eq] at h
     exact ⟨(mem_ready.1 (show i∈Region.ready md ops listed by rw [h.1.2]; simp)).1,h.2⟩
    | some al =>
     simp only [treeOk,Bool.and_eq_true,beq_iff_eq] at h
     exact ⟨(mem_ready.1 (show i∈Region.ready md ops listed by rw [h.1.1.2]; simpa using h.1.2)).1,h.2⟩
  rcases List.mem_cons.1 hy with rfl | hy
  ·exact getD_false_true key.1
  ·have:=ih none _ key.2 y hy
   by_cases e : i = y.2.1
   ·rw [←e]; exact getD_false_true key.1
   ·rw [getD_set_ne false e] at this; exact this
 | fork t u iht ihu =>
  intro al listed h y hy
  cases al with
  | none =>
   simp only [treeOk,Bool.and_eq_true] at h
   rcases List.mem_append.1 hy with hy | hy
   ·exact iht _ listed h.1.2 y hy
   ·exact ihu _ listed h.2 y hy
  | some al => simp [treeOk] at h
 | fork3 t u v iht ihu ihv =>
  intro al listed h y hy
  cases al with
  | none =>
   simp only [treeOk,Bool.and_eq_true] at h
   rcases List.mem_append.1 hy with hy | hy
   ·exact iht _ listed h.1.1.2 y hy
   ·rcases List.mem_append.1 hy with hy | hy
    ·exact ihu _ listed h.1.2 y hy
    ·exact ihv _ listed h.2 y hy
  | some al => simp [treeOk] at h
theorem wpAnyL_of_tree {P : Program} {l : List Oper} {Q : Exit→Act→World→Prop} {w0 : World} {S : Nat→Prop} {K : Blocks} {pl0 : Plan} (hsel : Region.noSelect l.toArray = true) (hQ : Steady Q)
  (hk : keepOk .any l.toArray pl0 = true) (h1 : onceOk l.toArray.size pl0 = true) :
  ∀ (tr : PT) (listed : Array Bool) (a : Act) (w : World),(∀ x∈tr.items,x∈pl0)→Closed .any l.toArray listed →
   (∀ x∈tr.items,x.1 = true→Kp w0 S (dropI K 0 x.2.2) w)→SqT P l.toArray Q w0 S K l tr a w →
   (∀ fuel,tr.len≤fuel→treeOk .any l.toArray tr none listed = true→wpAnyL P .any l.toArray Q (relOf w0 S K pl0) fuel listed a w) ∧
   (∀ fuel al i ds r,tr = .cons (false,i,ds) r→r.len≤fuel→treeOk .any l.toArray tr (some al) listed = true→wpOp P l.toArray Q i (fun a' w' => relOf w0 S K pl0 i w w'∧wpAnyL P .any l.toArray Q (relOf w0 S K pl0) fuel (listed.setIfInBounds i true) a' w') a w):=by
 have huniq : ∀ x∈pl0,∀ y∈pl0,x.2.1 = y.2.1→x.2.1 < l.toArray.size→x = y:=by
  intro x hx y hy e hlt
  simp only [onceOk,List.all_eq_true,List.mem_range,beq_iff_eq] at h1
  have h:=h1 x.2.1 hlt
  obtain ⟨z,hz⟩:=List.length_eq_one_iff.1 h
  have e1 : x∈pl0.filter fun q => Nat.beq q.2.1 x.2.1:=List.mem_filter.2 ⟨hx,by simp⟩
  have e2 : y∈pl0.filter fun q => Nat.beq q.2.1 x.2.1:=List.mem_filter.2 ⟨hy,by simp [e]⟩
  rw [hz] at e1 e2
  rw [List.mem_singleton.1 e1,List.mem_singleton.1 e2]
 have hkeep : ∀ x∈pl0,x.1 = true→∀ y∈pl0,y.1 = false→anc .any l.toArray 60 x.2.1 y.2.1 = false→∀ w,Kp w0 S (dropI K 0 y.2.2) w→Kp w0 S (dropI K 0 x.2.2) w:=by
  intro x hx hxs y hy hys ha w hw
  simp only [keepOk,List.all_eq_true] at hk
  have h:=hk x hx
  simp only [hxs,Bool.not_true,Bool.false_or,List.all_eq_true] at h
  have h:=h y hy
  simp only [hys,ha,Bool.false_or,Bool.or_false,Bool.or_eq_true,List.isEmpty_iff,List.all_eq_true] at h
  refine ⟨fun p hp => hw.1 p (dropI_mono K 0 _ _ ?_ p hp),hw.2⟩
  intro k hk2
  rcases h with h | h
  ·rw [h] at hk2; simp at hk2
  ·obtain ⟨q,hq,hq2⟩:=List.any_eq_true.1 hk2
   have:=Nat.eq_of_beq_eq_true hq2
   subst this
   exact h k hq
 intro tr
 induction tr with
 | nil =>
  intro listed a w _ _ _ h
  refine ⟨fun fuel _ hp => ?_,fun fuel al i ds r e => by cases e⟩
  simp only [treeOk,List.isEmpty_iff] at hp
  cases fuel with
  | zero => exact ⟨hp,h⟩
  | succ fuel => exact ⟨fun _ => h,by rw [hp]; simp⟩
 | cons x r ih =>
  obtain ⟨b,i,ds⟩:=x
  intro listed a w hsub hc hS h
  have hmem : (b,i,ds)∈pl0:=hsub _ (by simp [PT.items])
  cases b with
  | true =>
   refine ⟨fun fuel hl hp => ?_,fun fuel al i ds r e => by cases e⟩
   cases fuel with
   | zero => simp [PT.len] at hl
   | succ fuel =>
    simp only [treeOk,Bool.and_eq_true] at hp
    obtain ⟨⟨⟨p1,p2⟩,p3⟩,p4⟩:=hp
    obtain ⟨o,ho⟩:=Option.isSome_iff_exists.1 p1
    have hlt:=(Array.getElem?_eq_some_iff.1 ho).1
    have hn : nth l i = o:=nth_get l i o (by simpa using ho)
    simp only [SqT,hn] at h
    obtain ⟨v,hy,h⟩:=h
    have hrd : i∈Region.ready .any l.toArray listed:=by simpa using p3
    have hS' : ∀ x∈r.items,x.1 = true→Kp w0 S (dropI K 0 x.2.2) w:=fun x hx hxs => hS x (by simp [PT.items,hx]) hxs
    refine wpAnyL_first (B:=Kp w0 S (dropI K 0 ds)) 60 ho (Region.noSelect_spec hsel) (fun c a w hq => hQ _ _ _ _ _ hq) ?_ ?_ fuel listed a w hc (Region.free_spec ho p2) hrd hy (hS (true,i,ds) (by simp [PT.items]) rfl)
     ((ih _ _ _ (fun x hx => hsub x (by simp [PT.items,hx])) (closed_set hc hrd) hS' h).1 fuel (by simpa [PT.len] using hl) p4)
    ·intro j w w' hji hjl hanc hB hR
     simp only [onceOk,List.all_eq_true,List.mem_range,beq_iff_eq] at h1
     have hj:=h1 j hjl
     obtain ⟨z,hz⟩:=List.length_eq_one_iff.1 hj
     have hzm : z∈pl0.filter fun q => Nat.beq q.2.1 j:=by rw [hz]; simp
     obtain ⟨hz1,hz2⟩:=List.mem_filter.1 hzm
     have hz2:=Nat.eq_of_beq_eq_true hz2
     have:=hR z hz1 hz2
     cases hzb : z.1 with
     | true => rw [if_pos hzb] at this; rw [this]; exact hB
     | false =>
      rw [if_neg (by simp [hzb])] at this
      exact hkeep _ hmem rfl z hz1 hzb (by rw [hz2]; exact hanc) w' this
    ·intro w x hx e
     have:=huniq x hx _ hmem e (by rw [e]; exact hlt)
     rw [this]; simp
  | false =>
   -- the step itself,whatever else is ready
   have step0 : ∀ fuel,r.len≤fuel→(l.toArray[i]?).isSome = true→i∈Region.ready .any l.toArray listed→treeOk .any l.toArray r none (listed.setIfInBounds i true) = true →
     wpOp P l.toArray Q i (fun a' w' => relOf w0 S K pl0 i w w'∧wpAnyL P .any l.toArray Q (relOf w0 S K pl0) fuel (listed.setIfInBounds i true) a' w') a w:=by
    intro fuel hl p1 hrd p4
    obtain ⟨o,ho⟩:=Option.isSome_iff_exists.1 p1
    have hlt:=(Array.getElem?_eq_some_iff.1 ho).1
    have hn : nth l i = o:=nth_get l i o (by simpa using ho)
    simp only [SqT,hn] at h
    have step : ∀ a' w',Kp w0 S (dropI K 0 ds) w'→SqT P l.toArray Q w0 S K l r a' w'→relOf w0 S K pl0 i w w'∧wpAnyL P .any l.toArray Q (relOf w0 S K pl0) fuel (listed.setIfInBounds i true) a' w':=by
     intro a' w' k1 k2
     refine ⟨fun x hx e => ?_,(ih _ a' w' (fun x hx => hsub x (by simp [PT.items,hx])) (closed_set hc hrd) (fun x hx hxs => ?_) k2).1 fuel hl p4⟩
     ·have:=huniq x hx _ hmem e (by rw [e]; exact hlt)
      rw [this]; simpa using k1
     ·refine hkeep x (hsub x (by simp [PT.items,hx])) hxs _ hmem rfl ?_ w' k1
      cases ha : anc .any l.toArray 60 x.2.1 i with
      | false => rfl
      | true =>
       exfalso
       obtain ⟨hun,o',ho',hall⟩:=mem_ready.1 hrd
       have hoj' : l.toArray.getD i default = o':=by simp [Array.getD_eq_getD_getElem?] at ho' ⊢; simp [ho']
       have hli:=anc_listed hc 60 i (by rw [hoj']; exact hall) ha
       have hx0:=tree_unlisted r none _ p4 x hx
       by_cases e : i = x.2.1
       ·rw [←e] at hli
        have:=getD_false_true hun
        rw [hli] at this; cases this
       ·rw [getD_set_ne false e,hli] at hx0; cases hx0
    unfold wpOp
    rw [ho]
    unfold Hs at h
    simp only
    split
    ·rename_i hw
     rw [if_pos hw] at h
     exact h.imp (Oper.wp_mono fun a w ⟨k1,k2⟩ => step a w k1 k2) id
    ·rename_i hw
     rw [if_neg hw] at h
     exact step _ _ h.1 h.2
   refine ⟨fun fuel hl hp => ?_,fun fuel al i' ds' r' e hl hp => ?_⟩
   ·cases fuel with
    | zero => simp [PT.len] at hl
    | succ fuel =>
     simp only [treeOk,Bool.and_eq_true,beq_iff_eq] at hp
     obtain ⟨⟨p1,p2⟩,p4⟩:=hp
     refine ⟨fun h0 => absurd (p2 ▸ h0) (by simp),fun j hj => ?_⟩
     rw [p2] at hj
     obtain rfl : j = i:=by simpa using hj
     exact step0 fuel (by simpa [PT.len] using hl) p1 (by rw [p2]; simp) p4
   ·cases e
    simp only [treeOk,Bool.and_eq_true,beq_iff_eq] at hp
    obtain ⟨⟨⟨p1,p2⟩,p3⟩,p4⟩:=hp
    exact step0 fuel hl p1 (by rw [p2]; simpa using p3) p4
 | fork t u iht ihu =>
  intro listed a w hsub hc hS h
  refine ⟨fun fuel hl hp => ?_,fun fuel al i ds r e => by cases e⟩
  simp only [treeOk,Bool.and_eq_true,beq_iff_eq] at hp
  obtain ⟨⟨p1,p2⟩,p3⟩:=hp
  have ht:=(iht listed a w (fun x hx => hsub x (by simp [PT.items,hx])) hc (fun x hx => hS x (by simp [PT.items,hx])) h.1).2
  have hu:=(ihu listed a w (fun x hx => hsub x (by simp [PT.items,hx])) hc (fun x hx => hS x (by simp [PT.items,hx])) h.2).2
  have shape : ∀ (t : PT) (al : List Nat),treeOk .any l.toArray t (some al) listed = true→∃ i ds r,t = .cons (false,i,ds) r∧t.head = i∧r.len + 1 = t.len:=by
   intro t al ht
   match t,ht with
   | .cons (false,i,ds) r,_ => exact ⟨i,ds,r,rfl,rfl,rfl⟩
   | .cons (true,i,ds) r,ht => simp [treeOk] at ht
   | .nil,ht => simp [treeOk] at ht
   | .fork _ _,ht => simp [treeOk] at ht
   | .fork3 _ _ _,ht => simp [treeOk] at ht
  obtain ⟨i,di,ri,et,hi,li⟩:=shape t _ p2
  obtain ⟨j,dj,rj,eu,hj,lj⟩:=shape u _ p3
  simp only [PT.len] at hl
  cases fuel with
  | zero => omega
  | succ fuel =>
   rw [hi,hj] at p1 p2 p3
   refine ⟨fun h0 => absurd (p1 ▸ h0) (by simp),fun k hk => ?_⟩
   rw [p1] at hk
   simp only [List.mem_cons,List.not_mem_nil,or_false] at hk
   rcases hk with rfl | rfl
   ·exact ht fuel _ _ _ _ et (by omega) p2
   ·exact hu fuel _ _ _ _ eu (by omega) p3
 | fork3 t u v iht ihu ihv =>
  intro listed a w hsub hc hS h
  refine ⟨fun fuel hl hp => ?_,fun fuel al i ds r e => by cases e⟩
  simp only [treeOk,Bool.and_eq_true,beq_iff_eq] at hp
  obtain ⟨⟨⟨p1,p2⟩,p3⟩,p4⟩:=hp
  have ht:=(iht listed a w (fun x hx => hsub x (by simp [PT.items,hx])) hc (fun x hx => hS x (by simp [PT.items,hx])) h.1).2
  have hu:=(ihu listed a w (fun x hx => hsub x (by simp [PT.items,hx])) hc (fun x hx => hS x (by simp [PT.items,hx])) h.2.1).2
  have hv:=(ihv listed a w (fun x hx => hsub x (by simp [PT.items,hx])) hc (fun x hx => hS x (by simp [PT.items,hx])) h.2.2).2
  have shape : ∀ (t : PT) (al : List Nat),treeOk .any l.toArray t (some al) listed = true→∃ i ds r,t = .cons (false,i,ds) r∧t.head = i∧r.len + 1 = t.len:=by
   intro t al ht
   match t,ht with
   | .cons (false,i,ds) r,_ => exact ⟨i,ds,r,rfl,rfl,rfl⟩
   | .cons (true,i,ds) r,ht => simp [treeOk] at ht
   | .nil,ht => simp [treeOk] at ht
   | .fork _ _,ht => simp [treeOk] at ht
   | .fork3 _ _ _,ht => simp [treeOk] at ht
  obtain ⟨i,di,ri,et,hi,li⟩:=shape t _ p2
  obtain ⟨j,dj,rj,eu,hj,lj⟩:=shape u _ p3
  obtain ⟨z,dz,rz,ev,hz,lz⟩:=shape v _ p4
  simp only [PT.len] at hl
  cases fuel with
  | zero => omega
  | succ fuel =>
   rw [hi,hj,hz] at p1 p2 p3 p4
   refine ⟨fun h0 => absurd (p1 ▸ h0) (by simp),fun k hk => ?_⟩
   rw [p1] at hk
   simp only [List.mem_cons,List.not_mem_nil,or_false] at hk
   rcases hk with rfl | rfl | rfl
   ·exact ht fuel _ _ _ _ et (by omega) p2
   ·exact hu fuel _ _ _ _ eu (by omega) p3
   ·exact hv fuel _ _ _ _ ev (by omega) p4
theorem reg_tree {P : Program} {id : Nat} {l : List Oper} {Q : Exit→Act→World→Prop} {a : Act} {w w0 : World} {S : Nat→Prop} {L : Blocks} (pl0 : Plan) (tr : PT) (hm : P.follows .mixedOrders = true)
    (hsel : Region.noSelect l.toArray = true) (hlen : Nat.ble tr.len l.toArray.size = true) (hp : treeOk .any l.toArray tr none (Array.replicate l.toArray.size false) = true) (hsub : (tr.items.all fun x => pl0.contains x) = true) (hk : keepOk .any l.toArray pl0 = true) (h1 : onceOk l.toArray.size pl0 = true) (hQ : Steady Q)
    (hH : Hp w0 S L w) (h : SqT P l.toArray Q w0 S L l tr a w.drew) : (Code.region id l.toArray true).wp P Q a w :=
  wp_region_any hm (wpAny_of_L _ _ _ _ ((wpAnyL_of_tree (pl0:=pl0) hsel hQ hk h1 tr _ _ _ (fun x hx => by
    have:=List.all_eq_true.1 hsub x hx
    simpa using this) (fun k hk => by
    have : (Array.replicate l.toArray.size false).getD k false = false:=by rw [Array.getD_eq_getD_getElem?,Array.getElem?_replicate]; split <;> rfl
    rw [this] at hk; cases hk) (fun x _ _ => hH.drew.kpDrop 0 x.2.2) h).1 _ (by simpa [Nat.ble_eq] using hlen) hp))
end Go.Sym
namespace Go.Sym
open Go

/-! ### some blocks give way to others -/
inductive SwL (xs ys : Blocks) : Blocks→Blocks→Prop
  | here {M : Blocks} : SwL xs ys (xs++M) (ys++M)
  | there {x : Nat × Obj} {M M' : Blocks} : SwL xs ys M M'→SwL xs ys (x :: M) (x :: M')
theorem SwL.old {xs ys L L' : Blocks} (h : SwL xs ys L L') : ∀ p∈xs,p∈L:=by
  induction h with
  | here => intro p hp; exact List.mem_append_left _ hp
  | there _ ih => intro p hp; exact List.mem_cons_of_mem _ (ih p hp)
theorem SwL.mem {xs ys L L' : Blocks} (h : SwL xs ys L L') (nd : (L.map Prod.fst).Nodup) : ∀ p∈L',p∈ys∨(p∈L∧p.1 ∉ xs.map Prod.fst):=by
 induction h with
 | @here M =>
  intro p hp
  rcases List.mem_append.1 hp with h | h
  ·exact .inl h
  ·refine .inr ⟨List.mem_append_right _ h,fun hm => ?_⟩
   rw [List.map_append] at nd
   exact (List.nodup_append.1 nd).2.2 _ hm _ (List.mem_map_of_mem h) rfl
 | @there x M M' h ih =>
  intro p hp
  simp only [List.map_cons,List.nodup_cons] at nd
  rcases List.mem_cons.1 hp with rfl | hp
  ·refine .inr ⟨by simp,fun hm => ?_⟩
   obtain ⟨q,hq,e⟩:=List.mem_map.1 hm
   exact nd.1 (List.mem_map.2 ⟨q,h.old q hq,e⟩)
  ·rcases ih nd.2 p hp with h1 | ⟨h1,h2⟩
   ·exact .inl h1
   ·exact .inr ⟨List.mem_cons_of_mem _ h1,h2⟩
theorem SwL.nodup {xs ys L L' : Blocks} (h : SwL xs ys L L') (nd : (L.map Prod.fst).Nodup) (hy : (ys.map Prod.fst).Nodup) (hc : ∀ p∈L,p.1 ∉ xs.map Prod.fst→p.1 ∉ ys.map Prod.fst) : (L'.map Prod.fst).Nodup:=by
 induction h with
 | @here M =>
  rw [List.map_append] at nd ⊢
  obtain ⟨n1,n2,n3⟩:=List.nodup_append.1 nd
  refine List.nodup_append.2 ⟨hy,n2,fun a ha b hb e => ?_⟩
  subst e
  obtain ⟨p,hp,e⟩:=List.mem_map.1 hb
  subst e
  exact hc p (List.mem_append_right _ hp) (fun hm => n3 _ hm _ hb rfl) ha
 | @there x M M' h ih =>
  simp only [List.map_cons,List.nodup_cons] at nd ⊢
  refine ⟨fun hm => ?_,ih nd.2 (fun p hp => hc p (by simp [hp]))⟩
  obtain ⟨p,hp,e⟩:=List.mem_map.1 hm
  rcases h.mem nd.2 p hp with h1 | ⟨h1,_⟩
  ·exact hc x (by simp) (fun hm2 => by
    obtain ⟨q,hq,e2⟩:=List.mem_map.1 hm2
    exact nd.1 (List.mem_map.2 ⟨q,h.old q hq,e2⟩)) (List.mem_map.2 ⟨p,h1,e⟩)
  ·exact nd.1 (List.mem_map.2 ⟨p,h1,e⟩)
theorem Hp.swap {w0 w w' : World} {S F F' : Nat→Prop} {xs ys L L' : Blocks} (h : Hp w0 S L w) (hx : ∀ x,F x↔x∈xs.map Prod.fst) (hyF : ∀ y∈ys.map Prod.fst,F' y) (hVS : ∀ x,F x→S x∨w0.heap.size≤x) (hF : ∀ y,F' y→F y∨w.heap.size≤y) (hM : Mod F w w') (hy : ∀ q∈ys,w'.heap[q.1]? = some q.2) (nd : (ys.map Prod.fst).Nodup) (p : SwL xs ys L L') : Hp w0 S L' w':=by
 refine ⟨fun q hq => ?_,p.nodup h.nd nd ?_,h.mod.trans hM (fun c hc hx => by
  rcases hVS c hx with e | e
  ·exact e
  ·omega)⟩
 ·rcases p.mem h.nd q hq with h1 | ⟨h1,h2⟩
  ·exact hy q h1
  ·exact hM.heap_some (h.blk q h1) (fun k => h2 ((hx _).1 k))
 ·intro q hq hne hm
  rcases hF q.1 (hyF _ hm) with k | k
  ·exact hne ((hx _).1 k)
  ·have:=lt_of_block (h.blk q hq); omega

/-! ### structs of integers and strings -/
/-- a cell is as told: a string or an integer -/
def cellOk (b : Bool) (v : Value) : Prop:=bif b then ∃ s : ByteArray,v = .string s∧s.size≤9223372036854775807 else ∃ x : Int,v = .int .i64 x∧fits x
def rowOk : List Bool→List Value→Prop
  | [],[] => True
  | b :: bs,v :: vs => cellOk b v∧rowOk bs vs
  | _,_ => False
def flFields (P : Program) : Nat→List Field→List Bool→Bool
  | _,[],[] => true
  | i,f :: fs,b :: bs => tmFld P f i b && flFields P (i + 1) fs bs
  | _,_,_ => false
def flB (P : Program) (t : TypeId) (bs : List Bool) : Bool:=match P.underlying t with
  | some (.struct fs) => flFields P 0 fs.toList bs
  | _ => false
structure FlTy (P : Program) (t : TypeId) (bs : List Bool) : Prop where
  row : flB P t bs = true
  cells : P.cellsOf t = bs.length
  key : P.keyType t = true
  law : WideMaps.KeyLaw P t
  types : 1≤P.types.size
  key2 : P.keyTypeAt 2 t = true
  guard : P.eqGuardType P.depth t = false
theorem flTy_mk {P : Program} {t : TypeId} {bs : List Bool} (hl : laidOutB P = true) (hrow : t < P.types.size) (h : flB P t bs = true) (hc : Nat.beq (P.cellsOf t) bs.length = true) (hk : P.keyType t = true) (hk2 : P.keyTypeAt 2 t = true) (hg : P.eqGuardType P.depth t = false) : FlTy P t bs:=by
 refine ⟨h,Nat.eq_of_beq_eq_true hc,hk,?_,Nat.lt_of_le_of_lt (Nat.zero_le _) hrow,hk2,hg⟩
 unfold flB at h
 split at h
 ·rename_i fs hu
  exact deep_law_laid hl (m:=2) (by omega) hrow hk2 (by rw [hu])
 ·cases h
theorem rowOk_len : ∀ {bs : List Bool} {vs : List Value},rowOk bs vs→vs.length = bs.length
  | [],[],_ => rfl
  | _ :: bs,_ :: vs,h => by simp [rowOk_len h.2]
  | [],_ :: _,h => h.elim
  | _ :: _,[],h => h.elim
theorem lits_row {P : Program} {d : Nat} : ∀ (i : Nat) (fs : List Field) (bs : List Bool) (pre vs : List Value),flFields P i fs bs = true→rowOk bs vs→pre.length = i →
  (∃ ls,(fs.mapM fun f => P.keyLits (d + 1) f.type (((pre++vs).drop f.offset).take (P.cellsOf f.type))) = some ls)∧fs.all (·.name != "_") = true
 | _,[],[],_,vs,_,_,_ => ⟨⟨[],rfl⟩,rfl⟩
 | i,f :: fs,b :: bs,pre,v :: vs,hf,hr,hp => by
  simp only [flFields,Bool.and_eq_true] at hf
  obtain ⟨⟨ls,ih⟩,ihn⟩:=lits_row (P:=P) (d:=d) (i + 1) fs bs (pre++[v]) vs hf.2 hr.2 (by simp [hp])
  simp only [List.append_assoc,List.singleton_append] at ih
  have hd : ((pre++v :: vs).drop i) = v :: vs:=by rw [←hp,List.drop_left]
  cases b with
  | false =>
   obtain ⟨o,c,k,n⟩:=tmFld_int hf.1
   obtain ⟨x,rfl,hx⟩:=hr.1
   refine ⟨⟨[.int .i64 x] :: ls,?_⟩,by simp [n,ihn] <;> simp_all⟩
   simp only [List.mapM_cons,o,c,hd,List.take_succ_cons,List.take_zero,lits_int k hx,ih]
   rfl
  | true =>
   obtain ⟨o,c,k,n⟩:=tmFld_str hf.1
   obtain ⟨x,rfl,hx⟩:=hr.1
   refine ⟨⟨[.string x.data.toList] :: ls,?_⟩,by simp [n,ihn] <;> simp_all⟩
   simp only [List.mapM_cons,o,c,hd,List.take_succ_cons,List.take_zero,lits_str k hx,ih]
   rfl
 | _,[],_ :: _,_,_,hf,_,_ => by simp [flFields] at hf
 | _,_ :: _,[],_,_,hf,_,_ => by simp [flFields] at hf
 | _,_ :: _,_ :: _,_,[],_,hr,_ => hr.elim
theorem FlTy.keyOf {P : Program} {t : TypeId} {bs : List Bool} (T : FlTy P t bs) {vs : List Value} (hv : rowOk bs vs) : ∃ l,keyOf P t (.agg vs.toArray) = some l:=by
 have h:=T.row
 unfold flB at h
 split at h
 ·rename_i fs hund
  obtain ⟨⟨ls,e⟩,hn⟩:=lits_row (P:=P) (d:=P.types.size - 1) 0 fs.toList bs [] vs h hv rfl
  have hts : P.types.size - 1 + 1 = P.types.size:=by have:=T.types; omega
  rw [hts] at e
  have hall : fs.all (·.name != "_") = true:=by
   rw [←hn]; simp
  unfold Go.keyOf
  rw [hund]
  simp only [T.key,Value.formed,hund,T.cells,Value.cells,Bool.true_and]
  rw [if_pos (by simp [rowOk_len hv])]
  simp only [Program.keyLits,hund]
  rw [if_pos ⟨by rw [T.cells]; exact rowOk_len hv,hall⟩]
  simp only [List.nil_append] at e
  exact ⟨_,by rw [e]; rfl⟩
 ·cases h
theorem FlTy.eq {P : Program} {t : TypeId} {bs : List Bool} (T : FlTy P t bs) {us vs : List Value} (hu : rowOk bs us) (hv : rowOk bs vs) (w : World) : ∃ r : Bool,(Op.equal t (.agg us.toArray) (.agg vs.toArray)).run P w = .ok r w∧(r = true↔us = vs):=by
 obtain ⟨lu,ku⟩:=T.keyOf hu
 obtain ⟨lv,kv⟩:=T.keyOf hv
 have hw : (match P.underlying t with | some (.array _ _) | some (.struct _) => true | _ => false) = true:=by
  have h:=T.row
  unfold flB at h
  split at h
  ·rename_i fs hund; rw [hund]
  ·cases h
 obtain ⟨r,hr,hiff⟩:=run_equal_deep (P:=P) w (m:=2) (by omega) T.key2 hw ku kv
 refine ⟨r,hr,hiff.trans ⟨fun e => ?_,fun e => ?_⟩⟩
 ·subst e
  have:=T.law.inj ku kv
  simp only [Value.agg.injEq] at this
  simpa using this
 ·subst e; rw [ku] at kv; exact Option.some.inj kv
end Go.Sym
namespace Go.Sym
open Go
section
variable {P : Program} {ops : Array Oper} {Q : Exit→Act→World→Prop} {rest : List Item} {a : Act} {w w0 : World} {n : Nat} {R : Rg} {ds : List Deferred} {S : Nat→Prop} {L K : Blocks}
variable {f : Bool} {d : Nat} {ty : TypeId} {pos : String} {af : Array Edge}
theorem FlTy.eq' {t : TypeId} {bs : List Bool} (T : FlTy P t bs) {us vs : List Value} (hu : rowOk bs us) (hv : rowOk bs vs) : ∃ r : Bool,(r = true↔us = vs)∧∀ w,(Op.equal t (.agg us.toArray) (.agg vs.toArray)).run P w = .ok r w:=by
  classical
  refine ⟨decide (us = vs),by simp,fun w => ?_⟩
  obtain ⟨r,h1,h2⟩:=T.eq hu hv w
  rw [h1]
  congr 1
  rw [Bool.eq_iff_iff,h2]; simp
theorem r_flEql {t yt : TypeId} {x y : Operand} {bs : List Bool} {us vs : List Value} (T : FlTy P t bs) (hS : StD ds n R a) (hSw : Sf f (Kp w0 S K) w) (hx : ev R x = some (.agg us.toArray)) (hy : ev R y = some (.agg vs.toArray)) (hu : rowOk bs us) (hv : rowOk bs vs) (hlt : Nat.blt d n = true)
    (k : ∀ a' (r : Bool),(r = true↔us = vs)→StD ds n (up R d (.bool r)) a'→Sq P ops Q rest a' w) : Sq P ops Q ((f,⟨some d,.binOp .eql t x y yt,ty,pos,af,none⟩,Kp w0 S K) :: rest) a w:=by
  obtain ⟨r,h1,h2⟩:=T.eq' hu hv
  exact r_cmp hS hSw hx hy hlt (fun w => by simp [eqGuard,T.guard]) (fun w => run_binEq (h2 w)) (fun a' h => k a' r h1 h)
theorem r_flNeq {t yt : TypeId} {x y : Operand} {bs : List Bool} {us vs : List Value} (T : FlTy P t bs) (hS : StD ds n R a) (hSw : Sf f (Kp w0 S K) w) (hx : ev R x = some (.agg us.toArray)) (hy : ev R y = some (.agg vs.toArray)) (hu : rowOk bs us) (hv : rowOk bs vs) (hlt : Nat.blt d n = true)
    (k : ∀ a' (r : Bool),(r = true↔us≠vs)→StD ds n (up R d (.bool r)) a'→Sq P ops Q rest a' w) : Sq P ops Q ((f,⟨some d,.binOp .neq t x y yt,ty,pos,af,none⟩,Kp w0 S K) :: rest) a w:=by
  obtain ⟨r,h1,h2⟩:=T.eq' hu hv
  exact r_cmp hS hSw hx hy hlt (fun w => by simp [eqGuard,T.guard]) (fun w => run_binNe (h2 w)) (fun a' h => k a' (!r) (by cases r <;> simp_all) h)
end

/-! ### the document's vault: one row of terms -/
def rcells (t : Tm) : List Value:=[.int .i64 t.kind,.int .i64 t.a,.int .i64 t.b,.string t.label,.int .i64 t.number,.string t.also,.string t.bytes]
def rv (t : Tm) : Value:=.agg (rcells t).toArray
def rbs : List Bool:=[false,false,false,true,false,true,true]
theorem rcells_ok {t : Tm} (h : t.ok) : rowOk rbs (rcells t) :=
  ⟨⟨_,rfl,h.kind⟩,⟨_,rfl,h.a⟩,⟨_,rfl,h.b⟩,⟨_,rfl,h.label⟩,⟨_,rfl,h.number⟩,⟨_,rfl,h.also⟩,⟨_,rfl,h.bytes⟩,trivial⟩
theorem rcells_inj {t u : Tm} (h : rcells t = rcells u) : t = u:=by
  obtain ⟨_,_,_,_,_,_,_⟩:=t
  obtain ⟨_,_,_,_,_,_,_⟩:=u
  simp only [rcells,List.cons.injEq,Value.int.injEq,Value.string.injEq,true_and,and_true] at h
  simp only [Tm.mk.injEq]
  obtain ⟨h1,h2,h3,h4,h5,h6,h7⟩:=h
  exact ⟨h1,h2,h3,h5,h4,h6,h7⟩
theorem rcells_one (t : Tm) : ∀ u∈rcells t,u.oneCell' = true:=by
  intro u hu
  simp only [rcells,List.mem_cons,List.not_mem_nil,or_false] at hu
  rcases hu with rfl | rfl | rfl | rfl | rfl | rfl | rfl <;> rfl
theorem rd7 : ∀ (ts : List Tm) (i : Nat) (t : Tm) (rest : List Value),ts[i]? = some t→rd (ts.flatMap rcells++rest) (i * 7) 7 = rcells t
  | [],i,t,_,e => by simp at e
  | u :: r,0,t,rest,e => by
    simp only [List.length_cons,Nat.zero_lt_succ,List.getElem?_eq_getElem,List.getElem_cons_zero,Option.some.injEq] at e
    subst e
    simp only [rd,Nat.zero_mul,List.drop_zero,List.flatMap_cons,List.append_assoc]
    exact List.take_left' rfl
  | u :: r,i + 1,t,rest,e => by
    have ih:=rd7 r i t rest (by simpa using e)
    rw [←ih]
    simp only [rd,List.flatMap_cons,List.append_assoc]
    rw [show (i + 1) * 7 = (rcells u).length + i * 7 by rw [show (rcells u).length = 7 from rfl]; omega,List.drop_length_add_append]
structure RB where
  sb : Nat
  cap : Nat
  l : List Value
def RB.F (b : Nat) (V : RB) : Nat→Prop:=fun x => x = b∨x = V.sb
def RB.top (V : RB) (m : Nat) : List Value:=[.slice (some ⟨V.sb,0,none⟩) m V.cap]
structure ROk (V : RB) (ts : List Tm) : Prop where
  len : V.l.length = V.cap * 7
  cap : ts.length≤V.cap
  take : V.l.take (ts.length * 7) = ts.flatMap rcells
  rng : ∀ t∈ts,t.ok
theorem ROk.row {V : RB} {ts : List Tm} (h : ROk V ts) {i : Nat} {t : Tm} (hi : ts[i]? = some t) : rd V.l (i * 7) 7 = rcells t∧i * 7 + 7≤V.l.length:=by
  have hlt:=(List.getElem?_eq_some_iff.1 hi).1
  have e : V.l = ts.flatMap rcells++V.l.drop (ts.length * 7):=by rw [←h.take,List.take_append_drop]
  exact ⟨by rw [e]; exact rd7 ts i t _ hi,by have:=h.len; have:=h.cap; omega⟩
theorem ROk.push {V V' : RB} {ts : List Tm} {t : Tm} (h : ROk V ts) (ht : t.ok) (hl : V'.l.length = V'.cap * 7) (hc : ts.length + 1≤V'.cap) (htk : V'.l.take ((ts.length + 1) * 7) = V.l.take (ts.length * 7)++rcells t) : ROk V' (ts++[t]) where
 len:=hl
 cap:=by simpa using hc
 take:=by
  rw [List.length_append,List.length_singleton,htk,h.take]
  simp
 rng:=fun u hu => by
  rcases List.mem_append.1 hu with hu | hu
  ·exact h.rng u hu
  ·rw [List.mem_singleton.1 hu]; exact ht
structure RIn (TV TT : Nat) (w : World) (b : Nat) (V : RB) (ts : List Tm) : Prop where
  ok : ROk V ts
  h0 : w.heap[b]? = some (.cells (V.top ts.length).toArray TV (0,0))
  h1 : w.heap[V.sb]? = some (.cells V.l.toArray TT (0,0))
  n01 : b≠V.sb
structure RStep (w w' : World) (b : Nat) (V V' : RB) : Prop where
  F : ∀ x,V'.F b x→V.F b x∨w.heap.size≤x
  mod : Mod (V.F b) w w'
def RS (S : Nat→Prop) (w0 : World) (b : Nat) (V : RB) : Prop := ∀ x,V.F b x→S x∨w0.heap.size≤x
theorem RS.start (w0 : World) (b : Nat) (V : RB) : RS (V.F b) w0 b V:=fun _ h => .inl h
theorem RS.step {S : Nat→Prop} {w0 w w' : World} {b : Nat} {V V' : RB} (h : RS S w0 b V) (k : RStep w w' b V V') (hs : w0.heap.size≤w.heap.size) : RS S w0 b V':=fun x hx => by
 rcases k.F x hx with e | e
 ·exact h x e
 ·exact .inr (Nat.le_trans hs e)
section
variable {TV TT : Nat} {w w' w0 : World} {b : Nat} {V V' : RB} {ts ts' : List Tm} {S : Nat→Prop} {L L' : Blocks}
theorem RIn.ext (h : RIn TV TT w b V ts) (k : Ext w w') : RIn TV TT w' b V ts:=⟨h.ok,k.heap_some h.h0,k.heap_some h.h1,h.n01⟩
theorem Hp.rvault (h : Hp w0 S L w) (hRS : RS S w0 b V) (hst : RStep w w' b V V') (hin : RIn TV TT w' b V' ts')
  (p : SwL [(b,.cells (V.top ts.length).toArray TV (0,0)),(V.sb,.cells V.l.toArray TT (0,0))] [(b,.cells (V'.top ts'.length).toArray TV (0,0)),(V'.sb,.cells V'.l.toArray TT (0,0))] L L') : Hp w0 S L' w':=by
 refine h.swap (F:=V.F b) (F':=V'.F b) (fun x => by simp [RB.F]) (fun y hy => by simpa [RB.F] using hy) hRS hst.F hst.mod (fun q hq => ?_) (by simp [hin.n01]) p
 simp only [List.mem_cons,List.not_mem_nil,or_false] at hq
 rcases hq with rfl | rfl
 ·exact hin.h0
 ·exact hin.h1
theorem Hp.rin {m : Nat} (h : Hp w0 S L w) (hin : ROk V ts) (hm : m = ts.length) (n01 : b≠V.sb) (k0 : In b (.cells (V.top m).toArray TV (0,0)) L) (k1 : In V.sb (.cells V.l.toArray TT (0,0)) L) : RIn TV TT w b V ts:=by
  subst hm
  exact ⟨hin,h.get k0,h.get k1,n01⟩
theorem Hp.knowR (h : Hp w0 S L w) (hin : RIn TV TT w b V ts) (hd : ∀ p∈L,¬ V.F b p.1) : Hp w0 S ((b,.cells (V.top ts.length).toArray TV (0,0)) :: (V.sb,.cells V.l.toArray TT (0,0)) :: L) w:=by
 refine (h.know hin.h1 (fun p hp e => hd p hp (.inr e))).know hin.h0 (fun p hp => ?_)
 rcases List.mem_cons.1 hp with rfl | hp
 ·exact Ne.symm hin.n01
 ·exact fun e => hd p hp (.inl e)
theorem RIn.lt (h : RIn TV TT w b V ts) : ∀ x,V.F b x→x < w.heap.size:=by
 intro x hx
 rcases hx with rfl | rfl
 ·exact lt_of_block h.h0
 ·exact lt_of_block h.h1
theorem RIn.notF {c : Nat} {l : Array Value} {T : TypeId} {fz : Nat × Nat} (h : RIn TV TT w b V ts) (hb : w.heap[c]? = some (.cells l T fz)) (h1 : T≠TV) (h2 : T≠TT) : ¬ V.F b c:=by
 intro hF
 rcases hF with rfl | rfl
 ·have:=h.h0; rw [hb] at this; cases this; exact h1 rfl
 ·have:=h.h1; rw [hb] at this; cases this; exact h2 rfl
theorem Src.rterms {P : Program} {t : Tm} {T : TypeId} (hb : w.heap[b]? = some (.cells (rcells t).toArray T (0,0))) : Src P 7 w (.slice (some ⟨b,0,none⟩) 1 1) 1 (rcells t):=by
  have h:=Sl.of_block (es:=7) (m:=1) (cap:=1) hb (by simp [rcells]) (Nat.le_refl _)
  rw [List.take_of_length_le (by simp [rcells])] at h
  exact h.src (rcells_one t)
end
end Go.Sym
namespace Go.Sym
open Go
section
variable {P : Program} {ops : Array Oper} {Q : Exit→Act→World→Prop} {rest : List Item} {a : Act} {w : World} {n : Nat} {R : Rg} {ds : List Deferred} {S : World→Prop}
variable {f : Bool} {d : Nat} {ty : TypeId} {pos : String} {af : Array Edge}
theorem r_subE {t yt : TypeId} {x y : Operand} {m m' : Int} (r : Int) (hS : StD ds n R a) (hSw : Sf f S w) (hx : ev R x = some (.int .i64 m)) (hy : ev R y = some (.int .i64 m')) (hlt : Nat.blt d n = true) (he : m - m' = r)
    (hr : -9223372036854775808≤r∧r < 9223372036854775808) (K : ∀ a',StD ds n (up R d (.int .i64 r)) a'→Sq P ops Q rest a' w) : Sq P ops Q ((f,⟨some d,.binOp .sub t x y yt,ty,pos,af,none⟩,S) :: rest) a w:=by
  subst he
  exact r_sub hS hSw hx hy hlt hr K
theorem x_subE {t yt : TypeId} {x y : Operand} {m m' : Int} (r : Int) (hSw : Sf f S w) (hx : ev R x = some (.int .i64 m)) (hy : ev R y = some (.int .i64 m')) (hlt : Nat.blt d n = true) (he : m - m' = r) (hr : -9223372036854775808≤r∧r < 9223372036854775808) (K : ∀ a',StD ds n (up R d (.int .i64 r)) a'→Sq P ops Q rest a' w) : ∀ a,StD ds n R a→Sq P ops Q ((f,⟨some d,.binOp .sub t x y yt,ty,pos,af,none⟩,S) :: rest) a w:=fun _ hS => r_subE r hS hSw hx hy hlt he hr K
end
end Go.Sym
namespace Go.Sym
open Go

theorem SwL.two {x0 x1 y0 y1 : Nat × Obj} {M : Blocks} : SwL [x0,x1] [y0,y1] (x0 :: x1 :: M) (y0 :: y1 :: M):=SwL.here (M:=M)
/-! ### what a call of a vault tells is decided -/
def Uq (ts : List Tm) : Prop := ∀ (i j : Nat) (t : Tm),ts[i]? = some t→ts[j]? = some t→t.kind≠1→i = j
theorem VOk.uq {P : Program} {TT TH : Nat} {V : VB} {ts : List Tm} (h : VOk P TT TH V ts) : Uq ts:=fun _ _ _ hi hj hk => h.uniq hi hj hk
theorem Made.det {ts a b : List Tm} {t : Tm} {i j : Nat} (u : Uq ts) (h : Made ts t i a) (k : Made ts t j b) : i = j∧a = b:=by
 rcases h with ⟨h1,h2,rfl⟩ | ⟨h1,h2,rfl⟩
 ·rcases k with ⟨k1,k2,rfl⟩ | ⟨k1,k2,rfl⟩
  ·exact ⟨u _ _ _ h2 k2 h1,rfl⟩
  ·rcases k1 with e | e
   ·exact absurd e h1
   ·exact absurd (List.mem_of_getElem? h2) e
 ·rcases k with ⟨k1,k2,rfl⟩ | ⟨k1,k2,rfl⟩
  ·rcases h1 with e | e
   ·exact absurd e k1
   ·exact absurd (List.mem_of_getElem? k2) e
  ·exact ⟨h2.trans k2.symm,rfl⟩
theorem OfT.det {ts a b : List Tm} {h h1 h2 : List UInt8} {t : Tm} {x1 x2 : Int} (u : Uq ts) (hb : ts.length≤1000000000) (q : OfT ts h t h1 x1 a) (k : OfT ts h t h2 x2 b) : h1 = h2∧x1 = x2∧a = b:=by
 rcases q with ⟨i,j,hi,e1,e2,e3,m⟩ | ⟨hn,e2,e3,e4⟩
 ·rcases k with ⟨i',j',hi',f1,f2,f3,m'⟩ | ⟨hn',_⟩
  ·obtain rfl : i = i':=nm_inj (by omega) (by omega) (e1.symm.trans f1)
   obtain ⟨rfl,e⟩:=m.det u m'
   exact ⟨e3.trans f3.symm,e2.trans f2.symm,e⟩
  ·exact absurd e1 (hn' i hi)
 ·rcases k with ⟨i',j',hi',f1,f2,f3,m'⟩ | ⟨hn',f2,f3,f4⟩
  ·exact absurd f1 (hn i' hi')
  ·exact ⟨e3.trans f3.symm,e2.trans f2.symm,e4.trans f4.symm⟩
/-! ### three handles in a struct -/
section
variable {P : Program} {ops : Array Oper} {Q : Exit→Act→World→Prop} {rest : List Item} {a : Act} {w w0 : World} {n : Nat} {R : Rg} {ds : List Deferred} {S : Nat→Prop} {L K : Blocks}
variable {f : Bool} {d : Nat} {ty : TypeId} {pos : String} {af : Array Edge}
end
end Go.Sym
namespace Go.Sym
open Go
section
variable {P : Program} {ops : Array Oper} {Q : Exit→Act→World→Prop} {rest : List Item} {a : Act} {w w0 : World} {n : Nat} {R : Rg} {ds : List Deferred} {S : Nat→Prop} {L K : Blocks}
variable {f : Bool} {d : Nat} {ty : TypeId} {pos : String} {af : Array Edge}
end

/-! ### keys,in plain terms -/
theorem BsF.row {F : Nat→Prop} {w : World} {b cap n : Nat} {l2 : List Value} {T : TypeId} {fz : Nat × Nat} {l : List UInt8} (hb : w.heap[b]? = some (.cells l2.toArray T fz)) (hF : ¬ F b) (hlen : l2.length = cap * 1) (hc : n≤cap) (ht : l2.take (n * 1) = l.map byteV) (hn : l.length = n) : BsF F w (.slice (some ⟨b,0,none⟩) n cap) l:=by
  intro w' k
  subst hn
  have h:=Sl.of_block (es:=1) (m:=l.length) (cap:=cap) (k.heap_some hb hF) (by omega) hc
  rw [ht] at h
  exact ⟨_,_,h⟩
end Go.Sym
namespace Go.Sym
open Go
/-! ### acts -/
section
variable {P : Program} {ops : Array Oper} {Q : Exit→Act→World→Prop} {rest : List Item} {a : Act} {w w0 : World} {n : Nat} {R : Rg} {ds : List Deferred} {S : Nat→Prop} {L K : Blocks}
variable {f : Bool} {d : Nat} {ty : TypeId} {pos : String} {af : Array Edge}
theorem r_load_cellsS {t b o m : Nat} {x : Operand} {l : List Value} (hS : StD ds n R a) (hx : ev R x = some (.pointer (some ⟨b,o,none⟩))) (ht : agB P t = some m) (hl : l.length = m) (hc : ∀ w,Kp w0 S K w→∀ i u,l[i]? = some u→w.cell? ⟨b,o + i,none⟩ = some u) (hlt : Nat.blt d n = true)
    (k : ∀ a',StD ds n (up R d (.agg l.toArray)) a'→Sq P ops Q rest a' w) : Sq P ops Q ((true,⟨some d,.load t x,ty,pos,af,none⟩,Kp w0 S K) :: rest) a w :=
  Sq.soft rfl (fun w' hw' => by simp [execOp,hS.val hx,Instr.loadAt,Instr.sureAddr,run_loadVar_cells ht hl (hc w' hw')]) (k _ (hS.put hlt _))
theorem x_load_cellsS {t b o m : Nat} {x : Operand} {l : List Value} (hx : ev R x = some (.pointer (some ⟨b,o,none⟩))) (ht : agB P t = some m) (hl : l.length = m) (hc : ∀ w,Kp w0 S K w→∀ i u,l[i]? = some u→w.cell? ⟨b,o + i,none⟩ = some u) (hlt : Nat.blt d n = true) (k : ∀ a',StD ds n (up R d (.agg l.toArray)) a'→Sq P ops Q rest a' w) : ∀ a,StD ds n R a→Sq P ops Q ((true,⟨some d,.load t x,ty,pos,af,none⟩,Kp w0 S K) :: rest) a w:=fun _ hS => r_load_cellsS hS hx ht hl hc hlt k
/-- a remainder of what isn't below nothing -/
theorem r_remN {t yt : TypeId} {x y : Operand} {m m' : Int} (r : Nat) (hS : StD ds n R a) (hSw : Sf f (Kp w0 S K) w) (hx : ev R x = some (.int .i64 m)) (hy : ev R y = some (.int .i64 m')) (h0 : m'≠0) (he : m.tmod m' = (r : Int)) (hlt : Nat.blt d n = true)
    (k : ∀ a',StD ds n (up R d (.int .i64 (r : Int))) a'→Sq P ops Q rest a' w) : Sq P ops Q ((f,⟨some d,.binOp .rem t x y yt,ty,pos,af,none⟩,Kp w0 S K) :: rest) a w :=
  r_bin hS hSw hx hy hlt (fun w => by simp [binOp,Op.intDiv,h0,he]) k
theorem x_remN {t yt : TypeId} {x y : Operand} {m m' : Int} (r : Nat) (hSw : Sf f (Kp w0 S K) w) (hx : ev R x = some (.int .i64 m)) (hy : ev R y = some (.int .i64 m')) (h0 : m'≠0) (he : m.tmod m' = (r : Int)) (hlt : Nat.blt d n = true) (k : ∀ a',StD ds n (up R d (.int .i64 (r : Int))) a'→Sq P ops Q rest a' w) : ∀ a,StD ds n R a→Sq P ops Q ((f,⟨some d,.binOp .rem t x y yt,ty,pos,af,none⟩,Kp w0 S K) :: rest) a w:=fun _ hS => r_remN r hS hSw hx hy h0 he hlt k
end
end Go.Sym
namespace Go.Sym
open Go
end Go.Sym
namespace Go.Sym
open Go

section
variable {P : Program} {ops : Array Oper} {Q : Exit→Act→World→Prop} {rest : List Item} {a : Act} {w w0 : World} {n : Nat} {R : Rg} {ds : List Deferred} {S : Nat→Prop} {L K : Blocks}
variable {f : Bool} {d : Nat} {ty : TypeId} {pos : String} {af : Array Edge}
/-- a slice as an array's pointer -/
theorem r_toArr {t len es m cap : Nat} {x : Operand} {p : Option Addr} (hS : StD ds n R a) (hSw : Sf f (Kp w0 S K) w) (hx : ev R x = some (.slice p m cap)) (ht : arrB P t = some (len,es)) (hle : len≤m) (hlt : Nat.blt d n = true)
  (k : ∀ a',StD ds n (up R d (.pointer p)) a'→Sq P ops Q rest a' w) : Sq P ops Q ((f,⟨some d,.sliceToArrayPointer t x,ty,pos,af,none⟩,Kp w0 S K) :: rest) a w:=by
 unfold arrB at ht
 split at ht
 ·rename_i len' elem hu
  cases hq : P.info? elem with
  | none => rw [hq] at ht; simp at ht
  | some i =>
   rw [hq] at ht
   simp only [Option.map_some,Option.some.injEq,Prod.mk.injEq] at ht
   obtain ⟨rfl,rfl⟩:=ht
   refine r_pure hS hSw hlt (fun w => ?_) k
   have : ¬ m < len':=by omega
   simp [execOp,hS.val hx,Instr.arrayAt,run_underlying hu,this]
 ·cases ht
/-- a made slice of single cells -/
theorem r_makeSl {t e by' m : Nat} {x y : Operand} {i j : Int} {v0 : Value} (hS : StD ds n R a) (hH : Hp w0 S L w) (hs : Sub K L) (hx : ev R x = some (.int .i64 i)) (hy : ev R y = some (.int .i64 j)) (hi : i = m) (hj : j = m) (he : elB P t = some (e,1,by')) (hz : zcB P e = some [v0]) (hbytes : m * by'≤140737488355328) (hm : m < 4611686018427387904) (hlt : Nat.blt d n = true)
  (k : ∀ a' w' b,w0.heap.size≤b→w.heap.size≤b→StD ds n (up R d (.slice (some ⟨b,0,none⟩) m m)) a'→Hp w0 S ((b,.cells (List.replicate m v0).toArray e (0,0)) :: L) w'→Sq P ops Q rest a' w') :
  Sq P ops Q ((false,⟨some d,.makeSlice t x y,ty,pos,af,none⟩,Kp w0 S K) :: rest) a w:=by
 obtain ⟨ii,z,hu,hi',hzz,hsz,rfl,hzs,hby⟩:=elB_parts he
 subst hi hj
 have hz2 : z.cells.toList = [v0]:=by
  simp only [zcB,hi',Option.bind_some,hzz,Option.map_some,Option.some.injEq] at hz
  exact hz
 have hwrap : IntKind.i64.wrap (m : Int) = m:=wrap_i64 (by omega)
 have hneg : ¬ ((m : Int) < 0):=by omega
 have hw0 : IntKind.i64.wrap 0 = 0:=wrap_i64 (by omega)
 have hbig : ¬ (281474976710656 < (ii.bytes : Int) * (m : Int)):=by
  have h : ((m * ii.bytes : Nat) : Int)≤((140737488355328 : Nat) : Int):=Int.ofNat_le.2 hbytes
  rw [Int.natCast_mul,Int.mul_comm] at h
  generalize (ii.bytes : Int) * (m : Int) = q at h ⊢
  omega
 have hroom : ¬ (m * ii.bytes > roomBytes):=by
  have : roomBytes = 140737488355328:=rfl
  omega
 have hc : z.cells = #[v0]:=by apply Array.ext'; rw [hz2]
 have hrun : (execOp a.eval ⟨some d,.makeSlice t x y,ty,pos,af,none⟩).run P w = .ok (.value (.slice (some ⟨w.heap.size,0,none⟩) m m)) (w.alloc (.cells (List.replicate m v0).toArray e (0,0))):=by
  by_cases h0 : m = 0
  ·subst h0
   simp [execOp,hS.val hx,hS.val hy,Instr.makeSlice,run_underlying hu,asInt,asIntOf,typeInfo,hi',hwrap,hw0,hneg,hbig,sizeOf,hroom,run_askRoom,newRow,hsz]
   have e0 : Array.map (fun _ : Nat => (default : Value)) (Array.range 0) = #[]:=by apply Array.ext'; simp
   rw [e0]
  ·have hcells : (Array.range (m * ii.size)).map (fun q => z.cells[q % z.cells.size]!) = (List.replicate m v0).toArray:=by
    rw [hsz,Nat.mul_one,hc]
    apply Array.ext'
    simp only [Array.toList_map,Array.toList_range]
    apply List.ext_getElem
    ·simp
    ·intro q h1 h2
     simp [Nat.mod_one]
   rw [←hcells]
   have h1 : ¬ m * ii.size = 0:=by rw [hsz]; omega
   simp [execOp,hS.val hx,hS.val hy,Instr.makeSlice,run_underlying hu,asInt,asIntOf,typeInfo,hi',hwrap,hw0,hneg,hbig,sizeOf,hroom,run_askRoom,newRow,h1,zeroValue,hzz]
 have hH':=hH.alloc (.cells (List.replicate m v0).toArray e (0,0))
 exact Sq.done (w':=w.alloc _) rfl hrun ⟨fun p hp => hH'.blk p (List.mem_cons_of_mem _ (hs.mem p hp)),hH'.mod⟩ (k _ _ w.heap.size hH.mod.size (Nat.le_refl _) (hS.put hlt _) hH')
/-- a literal of an empty slice -/
theorem r_buildSlice0 {t e : Nat} (hS : StD ds n R a) (hH : Hp w0 S L w) (hs : Sub K L) (hu : P.underlying t = some (.slice e)) (hi : (P.info? e).isSome = true) (hlt : Nat.blt d n = true)
    (k : ∀ a' w' b,w0.heap.size≤b→w.heap.size≤b→StD ds n (up R d (.slice (some ⟨b,0,none⟩) 0 0)) a'→Hp w0 S ((b,.cells [].toArray e (0,0)) :: L) w'→Sq P ops Q rest a' w') :
    Sq P ops Q ((false,⟨some d,.buildSlice t 0 #[],ty,pos,af,none⟩,Kp w0 S K) :: rest) a w:=by
  obtain ⟨i,hi⟩:=Option.isSome_iff_exists.1 hi
  have hH':=hH.alloc (.cells [].toArray e (0,0))
  refine Sq.done (w':=w.alloc (.cells [].toArray e (0,0))) (v:=.slice (some ⟨w.heap.size,0,none⟩) 0 0) rfl ?_ ⟨fun p hp => hH'.blk p (List.mem_cons_of_mem _ (hs.mem p hp)),hH'.mod⟩ (k _ _ w.heap.size hH.mod.size (Nat.le_refl _) (hS.put hlt _) hH')
  simp [execOp,Instr.buildSlice,run_underlying hu,sizeOf,typeInfo,hi,Instr.fill,newRow]
  have e0 : Array.map (fun _ : Nat => (default : Value)) (Array.range 0) = #[]:=by apply Array.ext'; simp
  rw [e0]
end
end Go.Sym
namespace Go.Sym
open Go
/-! ### what is known -/
def HasN (l : List UInt8) (j : Nat) : Prop := ∃ i,i + 16≤l.length∧(l.drop i).take 16 = nm j
def bools (K : List Bool) : List Value:=K.map Value.bool
theorem bools_len (K : List Bool) : (bools K).length = K.length:=by simp [bools]
theorem bools_get {K : List Bool} {j : Nat} {b : Bool} (h : K[j]? = some b) : (bools K)[j]? = some (.bool b):=by simp [bools,h]
theorem bools_rep (n : Nat) : List.replicate n (Value.bool false) = bools (List.replicate n false):=by simp [bools]
theorem spl_bools {K : List Bool} {j : Nat} {b : Bool} (h : j < K.length) : spl (bools K) (0 + j * 1) [.bool b] = bools (K.set j b):=by
 have e : 0 + j * 1 = j:=by omega
 rw [e]
 apply List.ext_getElem?
 intro q
 simp only [bools,List.getElem?_map,List.getElem?_set,spl]
 rcases Nat.lt_trichotomy q j with hq | hq | hq
 ·rw [List.getElem?_append_left (by simp; omega)]
  simp [List.getElem?_take,hq]
  rw [if_neg (by omega)]
 ·subst hq
  rw [List.getElem?_append_right (by simp; exact Nat.min_le_left _ _)]
  simp [Nat.min_eq_left (Nat.le_of_lt h),h]
 ·rw [List.getElem?_append_right (by simp; omega)]
  have e2 : q - (List.take j (List.map Value.bool K)).length = (q - j - 1) + 1:=by simp; omega
  rw [e2,List.singleton_append,List.getElem?_cons_succ,List.getElem?_drop]
  rw [if_neg (by omega)]
  simp only [List.length_singleton,List.getElem?_map]
  rw [show j + 1 + (q - j - 1) = q by omega]
def KT (K : List Bool) (j : Nat) : Prop:=K[j]? = some true
theorem KT_set {K : List Bool} {j : Nat} (h : j < K.length) (x : Nat) : KT (K.set j true) x↔KT K x∨x = j:=by
 unfold KT
 rw [List.getElem?_set]
 by_cases e : j = x
 ·subst e; simp [h]
 ·rw [if_neg e]
  constructor
  ·exact .inl
  ·rintro (k | k)
   ·exact k
   ·exact absurd k.symm e
theorem KT_rep {n x : Nat} : ¬ KT (List.replicate n false) x:=by
  unfold KT
  rw [List.getElem?_replicate]
  split <;> simp
def cnt : List Bool→Nat
  | [] => 0
  | b :: r => (bif b then 1 else 0) + cnt r
theorem cnt_le : ∀ (K : List Bool),cnt K≤K.length
  | [] => Nat.le_refl _
  | b :: r => by have:=cnt_le r; cases b <;> simp [cnt] <;> omega
theorem cnt_set : ∀ (K : List Bool) (j : Nat),K[j]? = some false→cnt (K.set j true) = cnt K + 1
  | [],j,h => by simp at h
  | b :: r,0,h => by simp at h; subst h; simp [cnt]; omega
  | b :: r,j + 1,h => by
    have:=cnt_set r j (by simpa using h)
    simp [cnt,this]; omega
def Rch (C : Nat→Prop) (t : Tm) : Prop:=((t.kind = 2∨t.kind = 3∨t.kind = 5)∧C t.a.toNat)∨(t.kind = 4∧(C t.a.toNat∨C t.b.toNat))
theorem Rch.mono {C D : Nat→Prop} {t : Tm} (h : Rch C t) (k : ∀ j,C j→D j) : Rch D t:=by
 rcases h with ⟨h,c⟩ | ⟨h,c | c⟩
 ·exact .inl ⟨h,k _ c⟩
 ·exact .inr ⟨h,.inl (k _ c)⟩
 ·exact .inr ⟨h,.inr (k _ c)⟩
end Go.Sym
namespace Go.Sym
open Go
section
variable {w w' w0 : World} {S F F' : Nat→Prop} {L L' : Blocks}
/-- a list of lists of bytes,that stays whatever is done to F -/
def SlG (F : Nat→Prop) (w : World) (v : Value) (ls : List (List UInt8)) : Prop := ∃ (vs : List Value) (p : Option Addr) (cap : Nat),(∀ w',Mod F w w'→Sl 1 w' v vs ls.length p cap)∧∀ (i : Nat) (x : Value),vs[i]? = some x→∃ l,ls[i]? = some l∧BsF F w x l
theorem SlG.go {v : Value} {ls : List (List UInt8)} (h : SlG F w v ls) (k : Mod F w w') (hF : ∀ x,F' x→F x∨w.heap.size≤x) : SlG F' w' v ls:=by
  obtain ⟨vs,p,cap,h1,h2⟩:=h
  exact ⟨vs,p,cap,fun _ k' => h1 _ (k.go k' hF),fun i x hx => by
    obtain ⟨l,e,hb⟩:=h2 i x hx
    exact ⟨l,e,hb.go k hF⟩⟩
theorem SlG.nil (F : Nat→Prop) (w : World) : SlG F w (.slice none 0 0) []:=⟨[],none,0,fun _ _ => ⟨rfl,by simp,Nat.le_refl _,fun i u h => by simp at h,fun _ => rfl⟩,fun i x h => by simp at h⟩
theorem SlG.block {c m cap : Nat} {xs cs : List Value} {T : TypeId} {fz : Nat × Nat} {ls : List (List UInt8)} (hb : w.heap[c]? = some (.cells cs.toArray T fz)) (hF : ¬ F c) (hm : ls.length = m) (hc : m≤cap) (hx : cs.take m = xs) (hl : m≤cs.length) (h : ∀ (i : Nat) (x : Value),xs[i]? = some x→∃ l,ls[i]? = some l∧BsF F w x l) : SlG F w (.slice (some ⟨c,0,none⟩) m cap) ls:=by
  subst hm
  refine ⟨xs,some ⟨c,0,none⟩,cap,fun w' k => ?_,h⟩
  have:=Sl.of_block (es:=1) (m:=ls.length) (cap:=cap) (k.heap_some hb hF) (by omega) hc
  rw [Nat.mul_one,hx] at this
  exact this
theorem VIn.ne4 {P : Program} {TV TT TH b c : Nat} {V : VB} {ts : List Tm} {l : Array Value} {T : TypeId} {fz : Nat × Nat} (h : VIn P TV TT TH w b V ts) (hb : w.heap[c]? = some (.cells l T fz)) (h1 : T≠TV) (h2 : T≠TT) : ∀ p∈([(b,.cells (V.top ts.length).toArray TV (0,0)),(V.sb,.cells V.l.toArray TT (0,0)),(V.fb,.map V.es V.c),(V.nb,.map V.es' V.c')] : Blocks),p.1≠c:=by
 intro p hp e
 refine h.notF hb h1 h2 ?_
 simp only [List.mem_cons,List.not_mem_nil,or_false] at hp
 rcases hp with rfl | rfl | rfl | rfl
 ·exact .inl e.symm
 ·exact .inr (.inl e.symm)
 ·exact .inr (.inr (.inl e.symm))
 ·exact .inr (.inr (.inr e.symm))
theorem Hp.wrote {c : Nat} {o o' : Obj} (h : Hp w0 S L w) (hM : Mod (fun x => x = c) w w') (hc : w'.heap[c]? = some o') (p : Put c o o' L L') (hw : S c∨w0.heap.size≤c) : Hp w0 S L' w':=by
 refine ⟨fun q hq => ?_,by rw [p.keys]; exact h.nd,h.mod.trans hM (fun x hx e => by subst e; rcases hw with k | k; exact k; omega)⟩
 rcases p.mem h.nd q hq with rfl | ⟨h1,h2⟩
 ·exact hc
 ·exact hM.heap_some (h.blk q h1) h2
theorem Sl.addr {es m cap : Nat} {v : Value} {vs : List Value} {p : Option Addr} (h : Sl es w v vs m p cap) (hm : 0 < m * es) : ∃ b o,p = some ⟨b,o,none⟩:=by
  obtain ⟨u,hu⟩ : ∃ u,vs[0]? = some u:=⟨_,List.getElem?_eq_getElem (by rw [h.len]; omega)⟩
  obtain ⟨b,o,e,_⟩:=h.cells 0 u hu
  exact ⟨b,o,e⟩
theorem BsF.cells16 {ba bo n qc : Nat} {l : List UInt8} (hb : BsF F w0 (.slice (some ⟨ba,bo,none⟩) n qc) l) (i : Nat) (w : World) (k : Mod F w0 w) : ∀ (q : Nat) (u : Value),(hcells ((l.drop i).take 16))[q]? = some u→w.cell? ⟨ba,bo + i * 1 + q,none⟩ = some u:=by
  intro q u hu
  obtain ⟨p,cap,hs⟩:=hb w k
  have hv:=hs.val
  simp only [Value.slice.injEq] at hv
  have hq : q < 16:=by
    have:=(List.getElem?_eq_some_iff.1 hu).1
    rw [hcells_len,List.length_take] at this
    omega
  obtain ⟨b,o,e,hc⟩:=hs.cells (i + q) u (by
    rw [hcells,List.getElem?_map,List.getElem?_take,if_pos hq,List.getElem?_drop] at hu
    rw [List.getElem?_map]; exact hu)
  rw [←hv.1] at e
  simp only [Option.some.injEq,Addr.mk.injEq,and_true] at e
  obtain ⟨rfl,rfl⟩:=e
  rw [Nat.mul_one,Nat.add_assoc]; exact hc
end
theorem marks {A : Prop} {n x i : Nat} {l g : List UInt8} (hi : i + 16≤l.length) (hg : g = (l.drop i).take 16) : ((A∨(x < n∧∃ z,z < i∧z + 16≤l.length∧(l.drop z).take 16 = nm x))∨(x < n∧g = nm x))↔A∨(x < n∧∃ z,z < i + 1∧z + 16≤l.length∧(l.drop z).take 16 = nm x):=by
 constructor
 ·rintro ((h | ⟨h,z,h1,h2⟩) | ⟨h,e⟩)
  ·exact .inl h
  ·exact .inr ⟨h,z,by omega,h2⟩
  ·exact .inr ⟨h,i,by omega,hi,by rw [←hg]; exact e⟩
 ·rintro (h | ⟨h,z,h1,h2,h3⟩)
  ·exact .inl (.inl h)
  ·by_cases e : z = i
   ·subst e; exact .inr ⟨h,by rw [hg]; exact h3⟩
   ·exact .inl (.inr ⟨h,z,by omega,h2,h3⟩)
theorem marks_end {A : Prop} {n x i : Nat} {l : List UInt8} (hi : ¬ i + 16≤l.length) : (A∨(x < n∧∃ z,z < i∧z + 16≤l.length∧(l.drop z).take 16 = nm x))↔A∨(x < n∧HasN l x):=by
 constructor
 ·rintro (h | ⟨h,z,_,h2⟩)
  ·exact .inl h
  ·exact .inr ⟨h,z,h2⟩
 ·rintro (h | ⟨h,z,h2⟩)
  ·exact .inl h
  ·exact .inr ⟨h,z,by omega,h2⟩
theorem reach_iff {K : List Bool} {t : Tm} {ia ib : Nat} {ka kb : Bool} (ha : t.a = ia) (hb : t.b = ib) (hka : K[ia]? = some ka) (hkb : K[ib]? = some kb) : Rch (KT K) t↔((t.kind = 2∨t.kind = 3∨t.kind = 5)∧ka = true)∨(t.kind = 4∧(ka = true∨kb = true)):=by
  have e1 : t.a.toNat = ia:=by omega
  have e2 : t.b.toNat = ib:=by omega
  unfold Rch KT
  rw [e1,e2,hka,hkb]
  simp
theorem rdT7 : ∀ (ts : List Tm) (i : Nat) (t : Tm) (rest : List Value),ts[i]? = some t→rd (ts.flatMap Tm.cells++rest) (i * 7) 7 = t.cells
  | [],i,t,_,e => by simp at e
  | u :: r,0,t,rest,e => by
    simp only [List.length_cons,Nat.zero_lt_succ,List.getElem?_eq_getElem,List.getElem_cons_zero,Option.some.injEq] at e
    subst e
    simp only [rd,Nat.zero_mul,List.drop_zero,List.flatMap_cons,List.append_assoc]
    exact List.take_left' rfl
  | u :: r,i + 1,t,rest,e => by
    have ih:=rdT7 r i t rest (by simpa using e)
    rw [←ih]
    simp only [rd,List.flatMap_cons,List.append_assoc]
    rw [show (i + 1) * 7 = u.cells.length + i * 7 by rw [Tm.cells_len]; omega,List.drop_length_add_append]
theorem VOk.row {P : Program} {TT TH : Nat} {V : VB} {ts : List Tm} (h : VOk P TT TH V ts) {i : Nat} {t : Tm} (hi : ts[i]? = some t) : rd V.l (i * 7) 7 = t.cells∧i * 7 + 7≤V.l.length:=by
  have hlt:=(List.getElem?_eq_some_iff.1 hi).1
  have e : V.l = ts.flatMap Tm.cells++V.l.drop (ts.length * 7):=by rw [←h.take,List.take_append_drop]
  exact ⟨by rw [e]; exact rdT7 ts i t _ hi,by have:=h.len; have:=h.cap; omega⟩
section
variable {P : Program} {ops : Array Oper} {Q : Exit→Act→World→Prop} {rest : List Item} {a : Act} {w w0 : World} {n : Nat} {R : Rg} {ds : List Deferred} {S : Nat→Prop} {L K : Blocks}
variable {f : Bool} {d : Nat} {ty : TypeId} {pos : String} {af : Array Edge}
theorem r_slNil {t yt : TypeId} {x : Operand} {p : Option Addr} {m cap : Nat} (hS : StD ds n R a) (hSw : Sf f (Kp w0 S K) w) (hx : ev R x = some (.slice p m cap)) (ht : isSlice P t = true) (hlt : Nat.blt d n = true)
  (k : ∀ a',StD ds n (up R d (.bool p.isNone)) a'→Sq P ops Q rest a' w) : Sq P ops Q ((f,⟨some d,.binOp .eql t x (.const (.slice none 0 0)) yt,ty,pos,af,none⟩,Kp w0 S K) :: rest) a w:=by
 unfold isSlice at ht
 split at ht
 ·rename_i e hu
  exact r_cmp hS hSw hx (vy:=.slice none 0 0) rfl hlt (fun w => by simp [eqGuard]) (fun w => run_eql_of (by cases p <;> rfl) (fun dd w => eqIn_slice dd hu p m cap w) w) k
 ·cases ht
theorem x_slNil {t yt : TypeId} {x : Operand} {p : Option Addr} {m cap : Nat} (hSw : Sf f (Kp w0 S K) w) (hx : ev R x = some (.slice p m cap)) (ht : isSlice P t = true) (hlt : Nat.blt d n = true) (k : ∀ a',StD ds n (up R d (.bool p.isNone)) a'→Sq P ops Q rest a' w) : ∀ a,StD ds n R a→Sq P ops Q ((f,⟨some d,.binOp .eql t x (.const (.slice none 0 0)) yt,ty,pos,af,none⟩,Kp w0 S K) :: rest) a w:=fun _ hS => r_slNil hS hSw hx ht hlt k
/-- a byte of an array's value -/
theorem r_indexB {t e m : Nat} {x y : Operand} {h : List UInt8} {i : Nat} {ii : Int} {u : UInt8} (hS : StD ds n R a) (hSw : Sf f (Kp w0 S K) w) (hx : ev R x = some (.agg (hcells h).toArray)) (hy : ev R y = some (.int .i64 ii)) (hu : P.underlying t = some (.array m e)) (hc : scB P e = true) (h1 : (P.info? e).map (·.size) = some 1) (hi : ii = i) (him : i < m) (hg : h[i]? = some u) (hlt : Nat.blt d n = true)
  (k : ∀ a',StD ds n (up R d (byteV u)) a'→Sq P ops Q rest a' w) : Sq P ops Q ((f,⟨some d,.index t x y,ty,pos,af,none⟩,Kp w0 S K) :: rest) a w:=by
 subst hi
 refine r_pure hS hSw hlt (fun w => ?_) k
 obtain ⟨inf,hinf,hsz⟩:=Option.map_eq_some_iff.1 h1
 have hcell : (hcells h)[i]? = some (byteV u):=by rw [hcells,List.getElem?_map,hg]; rfl
 have e1 : (0 : Int)≤(i : Int)∧(i : Int) < (m : Int):=⟨Int.natCast_nonneg i,Int.ofNat_lt.2 him⟩
 simp [execOp,hS.val hx,hS.val hy,Instr.index,asIntOf,run_underlying hu,e1,sizeOf,typeInfo,hinf,hsz,part,run_isAgg_sc hc,hcell]
 intro hh
 omega
theorem x_indexB {t e m : Nat} {x y : Operand} {h : List UInt8} {i : Nat} {ii : Int} {u : UInt8} (hSw : Sf f (Kp w0 S K) w) (hx : ev R x = some (.agg (hcells h).toArray)) (hy : ev R y = some (.int .i64 ii)) (hu : P.underlying t = some (.array m e)) (hc : scB P e = true) (h1 : (P.info? e).map (·.size) = some 1) (hi : ii = i) (him : i < m) (hg : h[i]? = some u) (hlt : Nat.blt d n = true) (k : ∀ a',StD ds n (up R d (byteV u)) a'→Sq P ops Q rest a' w) : ∀ a,StD ds n R a→Sq P ops Q ((f,⟨some d,.index t x y,ty,pos,af,none⟩,Kp w0 S K) :: rest) a w:=fun _ hS => r_indexB hS hSw hx hy hu hc h1 hi him hg hlt k
end
end Go.Sym
namespace Go.Sym
open Go
theorem cnt_mono : ∀ {K K' : List Bool},K'.length = K.length→(∀ j,KT K j→KT K' j)→cnt K≤cnt K'
  | [],[],_,_ => Nat.le_refl _
  | b :: r,b' :: r',h,k => by
    have ih:=cnt_mono (K:=r) (K':=r') (by simpa using h) (fun j hj => by have:=k (j + 1) (by unfold KT at *; simpa using hj); unfold KT at *; simpa using this)
    have h0 : b = true→b' = true:=fun e => by have:=k 0 (by unfold KT; simp [e]); unfold KT at this; simpa using this
    simp only [cnt]
    cases b with
    | false => simp; omega
    | true => rw [h0 rfl]; simp; omega
  | [],_ :: _,h,_ => by simp at h
  | _ :: _,[],h,_ => by simp at h
theorem seen_step {A B C : Prop} {n j i : Nat} {l : List UInt8} {ls : List (List UInt8)} (hl : ls[i]? = some l) (h1 : B↔A∨(j < n∧∃ x∈ls.take i,HasN x j)) (h2 : C↔B∨(j < n∧HasN l j)) : C↔A∨(j < n∧∃ x∈ls.take (i + 1),HasN x j):=by
 have e : ls.take (i + 1) = ls.take i++[l]:=by rw [List.take_add_one,hl]; rfl
 rw [h2,h1,e]
 constructor
 ·rintro ((h | ⟨h,x,hx,hn⟩) | ⟨h,hn⟩)
  ·exact .inl h
  ·exact .inr ⟨h,x,List.mem_append_left _ hx,hn⟩
  ·exact .inr ⟨h,l,by simp,hn⟩
 ·rintro (h | ⟨h,x,hx,hn⟩)
  ·exact .inl (.inl h)
  ·rcases List.mem_append.1 hx with hx | hx
   ·exact .inl (.inr ⟨h,x,hx,hn⟩)
   ·rw [List.mem_singleton.1 hx] at hn
    exact .inr ⟨h,hn⟩
end Go.Sym
namespace Go.Sym
open Go
end Go.Sym
namespace Go.Sym
open Go
section
variable {P : Program} {ops : Array Oper} {Q : Exit→Act→World→Prop} {rest : List Item} {a : Act} {w w0 : World} {n : Nat} {R : Rg} {ds : List Deferred} {S : World→Prop}
/-- the guard itself wasn't told -/
theorem Sq.guardOff {f : Bool} {d' : Nat} {op : Op} {ty : TypeId} {pos : String} {af : Array Edge} {j d : Nat} {want : Bool} (hS : StD ds n R a) (hj : gslot ops j = some d) (hd : R d = some undef)
    (hSw : Sf f S w) (hlt : Nat.blt d' n = true) (K : ∀ a',StD ds n (up R d' undef) a'→Sq P ops Q rest a' w) : Sq P ops Q ((f,⟨some d',op,ty,pos,af,some (j,want)⟩,S) :: rest) a w:=by
  have hy : yielded ops a.tmps j = none:=by
    have h:=hS.regs d _ hd
    unfold gslot at hj
    cases hq : a.tmps[d]? with
    | none => simp [yielded,hj,hq]
    | some u =>
      simp [Array.getD_eq_getD_getElem?,hq] at h
      simp [yielded,hj,hq,h,undef]
  have hw : ∀ o : Oper,o.guard = some (j,want)→Region.wanted o (yielded ops a.tmps) = false:=fun o ho => by simp [Region.wanted,ho,hy]
  have K':=K _ (hS.put hlt undef)
  cases f with
  | true => exact ⟨undef,.inr ⟨hw _ rfl,rfl⟩,K'⟩
  | false =>
    simp only [Sq]
    rw [if_neg (by simp [hw])]
    exact ⟨hSw,K'⟩
theorem Sq.xguardOff {f : Bool} {d' : Nat} {op : Op} {ty : TypeId} {pos : String} {af : Array Edge} {j d : Nat} {want : Bool} (hj : gslot ops j = some d) (hd : R d = some undef) (hSw : Sf f S w) (hlt : Nat.blt d' n = true) (K : ∀ a',StD ds n (up R d' undef) a'→Sq P ops Q rest a' w) : ∀ a,StD ds n R a→Sq P ops Q ((f,⟨some d',op,ty,pos,af,some (j,want)⟩,S) :: rest) a w:=fun _ hS => Sq.guardOff hS hj hd hSw hlt K
end
section
variable {P : Program} {ops : Array Oper} {Q : Exit→Act→World→Prop} {rest : List Item} {a : Act} {w w0 : World} {n : Nat} {R : Rg} {ds : List Deferred} {S : World→Prop}
variable {f : Bool} {d : Nat} {ty : TypeId} {pos : String} {af : Array Edge}
end
end Go.Sym
