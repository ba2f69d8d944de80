/- Rules of symbolic execution over any program of the model, that the claims of this folder use; part Sym6. Conditions: those that each rule names. -/
import Derived.Test.YtcjmehononbadaaDoorSym5
import Derived.Test.YtcjmehononbadaaDoorSym3
import Derived.MapKept
import Derived.RangeFuncNested
import Derived.RangeFuncLeaves
import Derived.OrdersIn
import Derived.Maps.RangeRun
import Derived.Maps.Keyed
import Derived.Test.YtcjmehononbadaaDoorSym4
/- Words out of bytes; what a string bears. -/
namespace Go.Sym
open Go
theorem stp_eq {e : Nat} {b : UInt8} (he : e < 72057594037927936) : stp e b = e * 256 + b.toNat:=by
  unfold stp
  rw [Nat.mod_eq_of_lt (by omega),←Nat.shiftLeft_eq,Nat.shiftLeft_add_eq_or_of_lt (by have:=b.toNat_lt; omega)]
theorem fold_lt : ∀ (l : List UInt8) (e : Nat),(e + 1) * 256 ^ l.length≤18446744073709551616→l.foldl stp e < (e + 1) * 256 ^ l.length
  | [],e,_ => by simp
  | b :: r,e,h => by
    have hb:=b.toNat_lt
    have hp : 1≤256 ^ r.length:=Nat.one_le_pow _ _ (by decide)
    rw [List.length_cons,Nat.pow_succ] at h
    have h2 : (e + 1) * 256 * 256 ^ r.length≤18446744073709551616:=by rw [Nat.mul_assoc,Nat.mul_comm 256]; exact h
    have h3 : (e + 1) * 256≤(e + 1) * 256 * 256 ^ r.length:=Nat.le_mul_of_pos_right _ hp
    have he : stp e b = e * 256 + b.toNat:=stp_eq (by omega)
    have h4 : (stp e b + 1) * 256 ^ r.length≤(e + 1) * 256 * 256 ^ r.length:=Nat.mul_le_mul_right _ (by omega)
    rw [List.foldl_cons,List.length_cons,Nat.pow_succ,Nat.mul_comm (256 ^ r.length),←Nat.mul_assoc]
    exact Nat.lt_of_lt_of_le (fold_lt r _ (Nat.le_trans h4 h2)) h4
theorem hv_lt7 {l : List UInt8} (h : l.length≤7) : hv l < 72057594037927936:=by
  have h1:=fold_lt l 0 (by
    have : 256 ^ l.length≤256 ^ 7:=Nat.pow_le_pow_right (by decide) h
    omega)
  have h2 : 256 ^ l.length≤256 ^ 7:=Nat.pow_le_pow_right (by decide) h
  unfold hv
  omega
theorem hv_next {l : List UInt8} {i : Nat} {x : UInt8} (hi : i≤7) (hx : l[i]? = some x) : (hv (l.take i) * 256 % 18446744073709551616 + x.toNat) % 18446744073709551616 = hv (l.take (i + 1)):=by
  have hb:=x.toNat_lt
  have h1 : hv (l.take i) < 72057594037927936:=hv_lt7 (by rw [List.length_take]; omega)
  have h2 : l.take (i + 1) = l.take i++[x]:=by
    rw [List.take_add_one,hx]; rfl
  rw [h2,show hv (l.take i++[x]) = stp (hv (l.take i)) x from by simp [hv],stp_eq h1]
  omega
theorem strOf_byt (t : Tm) : strOf (byt t) = t.bytes:=by
  obtain ⟨l,h,_⟩:=strOf_list t.bytes
  unfold byt
  rw [h]; simp [strOf]
theorem byt_len (t : Tm) : (byt t).length = t.bytes.size:=Array.length_toList
theorem str_eq {s : ByteArray} {l : List UInt8} (h : s.toList = (strOf l).toList) : s = strOf l:=by
  obtain ⟨m,rfl,_⟩:=strOf_list s
  rw [strOf_toList,strOf_toList] at h
  rw [h]
end Go.Sym
namespace Go.Sym
open Go
/-! ### numbers,highest first -/
section
variable {P : Program} {ops : Array Oper} {Q : Exit→Act→World→Prop} {rest : List Item} {a : Act} {w w0 : World} {n : Nat} {R : Rg} {ds : List Deferred} {S : Nat→Prop} {L K : Blocks}
variable {f : Bool} {d : Nat} {ty : TypeId} {pos : String} {af : Array Edge}
end
end Go.Sym
namespace Go.Sym
open Go
/-! ### bytes that are put -/
section
variable {P : Program} {ops : Array Oper} {Q : Exit→Act→World→Prop} {rest : List Item} {a : Act} {w w0 : World} {n : Nat} {R : Rg} {ds : List Deferred} {S : Nat→Prop} {L K : Blocks}
variable {f : Bool} {d : Nat} {ty : TypeId} {pos : String} {af : Array Edge}
end
end Go.Sym
namespace Go.Sym
open Go
/-! ### headers that are put -/
section
variable {P : Program} {ops : Array Oper} {Q : Exit→Act→World→Prop} {rest : List Item} {a : Act} {w w0 : World} {n : Nat} {R : Rg} {ds : List Deferred} {S : Nat→Prop} {L K : Blocks}
variable {f : Bool} {d : Nat} {ty : TypeId} {pos : String} {af : Array Edge}
end
end Go.Sym
namespace Go.Sym
open Go
section
variable {P : Program} {ops : Array Oper} {Q : Exit→Act→World→Prop} {rest : List Item} {a : Act} {w w0 : World} {n : Nat} {R : Rg} {ds : List Deferred} {S : Nat→Prop} {L K : Blocks}
variable {f : Bool} {d : Nat} {ty : TypeId} {pos : String} {af : Array Edge}
end
end Go.Sym
namespace Go.Sym
open Go
end Go.Sym
namespace Go.Sym
open Go Go.ChangeShapes Go.WideShapes Go.ChangeAt Go.RowKit Go.Joins
section
variable {H : Type} {enc : TypeId × Value→H} {P : Program}
end
end Go.Sym
namespace Go.Sym
open Go
section
variable {P : Program} {ops : Array Oper} {Q : Exit→Act→World→Prop} {rest : List Item} {a : Act} {w w0 : World} {n : Nat} {R : Rg} {ds : List Deferred} {S : Nat→Prop} {L K : Blocks}
variable {f : Bool} {d : Nat} {ty : TypeId} {pos : String} {af : Array Edge}
/-- as r_alloc,and what becomes of the world -/
theorem r_allocE {t : Nat} {cs : List Value} (hS : StD ds n R a) (hH : Hp w0 S L w) (hs : Sub K L) (hv : zcB P t = some cs) (hlt : Nat.blt d n = true)
    (k : ∀ a' w' b,w0.heap.size≤b→w.heap.size≤b→Ext w w'→StD ds n (up R d (.pointer (some ⟨b,0,none⟩))) a'→Hp w0 S ((b,.cells cs.toArray t (0,0)) :: L) w'→Sq P ops Q rest a' w') : Sq P ops Q ((false,⟨some d,.alloc t,ty,pos,af,none⟩,Kp w0 S K) :: rest) a w:=by
  have hH':=hH.alloc (.cells cs.toArray t (0,0))
  have hK' : Kp w0 S K (w.alloc (.cells cs.toArray t (0,0))):=⟨fun p hp => hH'.blk p (List.mem_cons_of_mem _ (hs.mem p hp)),hH'.mod⟩
  refine Sq.done (w':=w.alloc (.cells cs.toArray t (0,0))) rfl ?_ hK' (k _ _ w.heap.size hH.mod.size (Nat.le_refl _) (Ext.alloc w _) (hS.put hlt _) hH')
  unfold zcB at hv
  cases hi : P.info? t with
  | none => simp [hi] at hv
  | some i =>
    cases hz : i.zero with
    | none => simp [hi,hz] at hv
    | some z =>
      simp [hi,hz] at hv
      subst hv
      simp [execOp,Instr.alloc,zeroValue,typeInfo,hi,hz,newVar,newRow]
/-- as r_store_row,and what becomes of the world -/
theorem r_store_rowM {t b : Nat} {x y : Operand} {l vs : List Value} {T : TypeId} {L' : Blocks} (hS : StD ds n R a) (hH : Hp w0 S L w) (hx : ev R x = some (.pointer (some ⟨b,0,none⟩))) (hy : ev R y = some (.agg vs.toArray)) (hi : Put b (.cells l.toArray T (0,0)) (.cells vs.toArray T (0,0)) L L') (hs : Sub K L')
  (ht : sizeB P t vs.length = true) (h1 : ∀ u∈vs,u.oneCell' = true) (hl : l.length = vs.length) (hw : S b∨w0.heap.size≤b)
  (k : ∀ w',Mod (· = b) w w'→Hp w0 S L' w'→Sq P ops Q rest a w') : Sq P ops Q ((false,⟨none,.store t x y,ty,pos,af,none⟩,Kp w0 S K) :: rest) a w:=by
 have hvs : (Value.agg vs.toArray).cells = vs.toArray:=rfl
 obtain ⟨w',hr,hq⟩:=run_storeVar (P:=P) (w:=w) (t:=t) (b:=b) (o:=0) (l:=l) (T:=T) (v:=.agg vs.toArray) ht (hH.blk _ hi.old) h1 (by rw [hvs]; show 0 + vs.length≤l.length; omega)
 rw [hvs,spl_wr (show 0 + vs.length≤l.length by omega),spl_all hl] at hq
 have hH':=hH.turned hi hq hw
 exact Sq.skip (w':=w') rfl (by simp [execOp,hS.val hx,hS.val hy,Instr.storeAt,Instr.sureAddr,hr]) (hH'.kp hs) (k w' hq.mod hH')
end
end Go.Sym
namespace Go.Sym
open Go
/-! ### what is written behind a pointer -/
section
variable {P : Program} {ops : Array Oper} {Q : Exit→Act→World→Prop} {rest : List Item} {a : Act} {w w0 : World} {n : Nat} {R : Rg} {ds : List Deferred} {S : Nat→Prop} {L K : Blocks}
variable {f : Bool} {d : Nat} {ty : TypeId} {pos : String} {af : Array Edge}
end
end Go.Sym
namespace Go.Sym
open Go
/-! ### messages that are put -/
end Go.Sym
namespace Go.Sym
open Go Go.MapKept
/-! ### a map of ints to bools,all true -/
section
variable {P : Program} {ops : Array Oper} {Q : Exit→Act→World→Prop} {rest : List Item} {a : Act} {w w0 : World} {n : Nat} {R : Rg} {ds : List Deferred} {S : Nat→Prop} {L K : Blocks}
variable {f : Bool} {d : Nat} {ty : TypeId} {pos : String} {af : Array Edge}
end
/-! ### a message's bytes -/
end Go.Sym
namespace Go.Sym
open Go
end Go.Sym
namespace Go.Sym
open Go
end Go.Sym
namespace Go.Sym
open Go
section
variable {P : Program} {ops : Array Oper} {Q : Exit→Act→World→Prop} {rest : List Item} {a : Act} {w w0 : World} {n : Nat} {R : Rg} {ds : List Deferred} {S : Nat→Prop} {L K : Blocks}
variable {f : Bool} {d : Nat} {ty : TypeId} {pos : String} {af : Array Edge}
end
end Go.Sym
namespace Go.Sym
open Go
/-- fewer blocks,in their order -/
theorem Hp.less {w0 w : World} {S : Nat→Prop} {L L' : Blocks} (h : Hp w0 S L w) (s : L'.Sublist L) : Hp w0 S L' w :=
  ⟨fun p hp => h.blk p (s.subset hp),h.nd.sublist (s.map _),h.mod⟩
end Go.Sym
namespace Go.Sym
open Go
/-! ### A range over a function: its mark among the deferred calls; entering and leaving a function that has one -/
section
variable {P : Program} {ops : Array Oper} {Q : Exit→Act→World→Prop} {rest : List Item} {a : Act} {w w0 : World} {n : Nat} {R : Rg} {S : Nat→Prop} {L K : Blocks}
end
end Go.Sym
namespace Go.Sym
open Go
/-! ### arrays of ints that are compared -/
/-- a slice of one's own,of a block that no list names -/
def KO (S : Nat→Prop) (w0 : World) (L : Blocks) (es : Nat) (e : TypeId) (w : World) (v : Value) (m : Nat) (xs : List Value) : Prop :=
  (v = .slice none 0 0∧m = 0∧xs = [])∨∃ (b cap : Nat) (l : List Value),v = .slice (some ⟨b,0,none⟩) m cap∧(S b∨w0.heap.size≤b)∧(∀ p∈L,p.1≠b)∧w.heap[b]? = some (.cells l.toArray e (0,0))∧l.length = cap * es∧m≤cap∧l.take (m * es) = xs
section
variable {P : Program} {ops : Array Oper} {Q : Exit→Act→World→Prop} {rest : List Item} {a : Act} {w w0 : World} {n : Nat} {R : Rg} {ds : List Deferred} {S : Nat→Prop} {L K : Blocks}
variable {f : Bool} {d : Nat} {ty : TypeId} {pos : String} {af : Array Edge}
/-! ### slicing what is nil -/
end
end Go.Sym
/- Slices of strings of one's own. -/
namespace Go.Sym
open Go
def strs (TL : List (List UInt8)) : List Value:=TL.map fun l => .string (strOf l)
theorem strs_nth {row : List Value} {TL : List (List UInt8)} (h : row.take TL.length = strs TL) {q : Nat} {l : List UInt8} (hq : TL[q]? = some l) : nthV row (0 + q * 1) = some (.string (strOf l)):=by
 have hj : q < TL.length:=(List.getElem?_eq_some_iff.1 hq).1
 rw [nthV_eq,Nat.zero_add,Nat.mul_one]
 have:=congrArg (·[q]?) h
 simp only [List.getElem?_take,if_pos hj,strs,List.getElem?_map,hq,Option.map_some] at this
 exact this
theorem src_str {P : Program} {w : World} {b : Nat} {T : TypeId} {s : ByteArray} (h : w.heap[b]? = some (.cells ([.string s] : List Value).toArray T (0,0))) : Src P 1 w (.slice (some ⟨b,0,none⟩) 1 1) 1 [.string s] :=
  (Sl.of_block (es:=1) (m:=1) (cap:=1) h (by simp) (Nat.le_refl _)).src (by intro u hu; simp only [Nat.mul_one,List.take_succ_cons,List.take_zero,List.mem_cons,List.not_mem_nil,or_false] at hu; rcases hu with rfl; rfl)
theorem strs_snoc (TL : List (List UInt8)) (l : List UInt8) : strs TL++[.string (strOf l)] = strs (TL++[l]):=by simp [strs]
theorem hasn_take {TL : List (List UInt8)} {q i : Nat} {l : List UInt8} (hq : TL[q]? = some l) : (∃ m∈TL.take (q + 1),HasN m i)↔(∃ m∈TL.take q,HasN m i)∨HasN l i:=by
 rw [List.take_add_one,hq]
 simp only [Option.toList_some,List.mem_append,List.mem_singleton]
 constructor
 ·rintro ⟨m,h | h,hn⟩
  ·exact .inl ⟨m,h,hn⟩
  ·rw [h] at hn; exact .inr hn
 ·rintro (⟨m,h,hn⟩ | hn)
  ·exact ⟨m,.inl h,hn⟩
  ·exact ⟨l,.inr rfl,hn⟩
theorem kt_some {K : List Bool} {j : Nat} {k : Bool} (h : K[j]? = some k) : KT K j↔k = true:=by
  unfold KT; rw [h]; simp
end Go.Sym
namespace Go.Sym
open Go
/-- texts in a block that is known,or none -/
def TXT (w0 : World) (e : TypeId) (tv : Value) (TL : List (List UInt8)) (LT : Blocks) : Prop :=
  (tv = .slice none 0 0∧LT = []∧TL = [])∨∃ (tb cap : Nat) (row : List Value),tv = .slice (some ⟨tb,0,none⟩) TL.length cap∧LT = [(tb,.cells row.toArray e (0,0))]∧w0.heap.size≤tb∧row.length = cap * 1∧TL.length≤cap∧row.take TL.length = strs TL
theorem TXT.blk {w0 : World} {e : TypeId} {tb cap m : Nat} {row : List Value} {TL : List (List UInt8)} (hB : w0.heap.size≤tb) (hm : m = TL.length) (hl : row.length = cap * 1) (hc : m≤cap) (ht : row.take m = strs TL) : TXT w0 e (.slice (some ⟨tb,0,none⟩) m cap) TL [(tb,.cells row.toArray e (0,0))]:=by
  subst hm; exact .inr ⟨tb,cap,row,rfl,rfl,hB,hl,hc,ht⟩
theorem Hp.rot {w0 w : World} {S : Nat→Prop} {x : Nat × Obj} {L : Blocks} (h : Hp w0 S (x :: L) w) : Hp w0 S (L++[x]) w:=by
 refine ⟨fun p hp => ?_,?_,h.mod⟩
 ·rcases List.mem_append.1 hp with hp | hp
  ·exact h.blk p (List.mem_cons_of_mem _ hp)
  ·rw [List.mem_singleton.1 hp]; exact h.blk x (by simp)
 ·have hd:=h.nd
  simp only [List.map_cons,List.nodup_cons] at hd
  rw [List.map_append,List.map_singleton]
  refine List.nodup_append.2 ⟨hd.2,by simp,fun a ha b hb e => ?_⟩
  rw [List.mem_singleton.1 hb] at e
  exact hd.1 (e ▸ ha)
theorem rch_is {A : Prop} {is ka kb : Bool} {t : Tm} {K : List Bool} (his : is = true↔A) (hKa : KT K t.a.toNat↔ka = true) (hKb : KT K t.b.toNat↔kb = true) :
  ((t.kind = 2∨t.kind = 3∨t.kind = 5)→((is || ka) = true↔A∨Rch (KT K) t))∧(t.kind = 4→(((is || ka) || kb) = true↔A∨Rch (KT K) t))∧((t.kind≠2∧t.kind≠3∧t.kind≠5∧t.kind≠4)→(is = true↔A∨Rch (KT K) t)):=by
 unfold Rch
 rw [hKa,hKb]
 refine ⟨fun hk => ?_,fun hk => ?_,fun ⟨h1,h2,h3,h4⟩ => ?_⟩
 ·have h4 : t.kind≠4:=by omega
  rw [Bool.or_eq_true,his]
  constructor
  ·rintro (h | h); exact .inl h; exact .inr (.inl ⟨hk,h⟩)
  ·rintro (h | ⟨_,h⟩ | ⟨h,_⟩); exact .inl h; exact .inr h; exact absurd h h4
 ·have h4 : ¬ (t.kind = 2∨t.kind = 3∨t.kind = 5):=by omega
  rw [Bool.or_eq_true,Bool.or_eq_true,his]
  constructor
  ·rintro ((h | h) | h); exact .inl h; exact .inr (.inr ⟨hk,.inl h⟩); exact .inr (.inr ⟨hk,.inr h⟩)
  ·rintro (h | ⟨h,_⟩ | ⟨_,h | h⟩); exact .inl (.inl h); exact absurd h h4; exact .inl (.inr h); exact .inr h
 ·rw [his]
  constructor
  ·exact .inl
  ·rintro (h | ⟨h,_⟩ | ⟨h,_⟩); exact h; exact absurd h (by omega); exact absurd h h4
end Go.Sym
/- A law's shelf: handles and sealed texts,and what a call picks from it. -/
namespace Go.Sym
open Go
def h123 : List UInt8:=[1,2,3,0,0,0,0,0,0,0,0,0,0,0,0,0]
def pickH (hs : List (List UInt8)) (i : Int) : List UInt8:=if i < 0 then h123 else (hs[i.toNat % hs.length]?).getD h123
def pickB (ss : List (List UInt8)) (o : Bool) (c : Int) (l : List UInt8) : List UInt8:=if o = true∧0≤c∧0 < ss.length then (ss[c.toNat % ss.length]?).getD l else l
def bitS (nu : Int) (i : Nat) : Bool:=(IntKind.i64.wrap (BitVec.ofInt IntKind.i64.bits (nu.fdiv (2 ^ (i % 8))) &&& BitVec.ofInt IntKind.i64.bits 1).toNat == 1)
def pckS (nu : Int) (ss : List (List UInt8)) : Nat→List (List UInt8)
  | 0 => []
  | n + 1 => if bitS nu n = true then pckS nu ss n++[(ss[n]?).getD []] else pckS nu ss n
def seenL (hs ss : List (List UInt8)) (also : List UInt8) (nu a : Int) : List (List UInt8):=(also :: pckS nu ss ss.length)++(if 0≤a then [7 :: pickH hs a] else [])
theorem pickH_neg {hs : List (List UInt8)} {i : Int} (h : i < 0) : pickH hs i = h123:=if_pos h
theorem pickH_at {hs : List (List UInt8)} {k : Nat} {g : List UInt8} (h : hs[k % hs.length]? = some g) : pickH hs (k : Int) = g:=by
  unfold pickH
  rw [if_neg (by omega),show ((k : Int)).toNat = k from rfl,h]; rfl
theorem pickH_len {hs : List (List UInt8)} (h : ∀ g∈hs,g.length = 16) (i : Int) : (pickH hs i).length = 16:=by
 unfold pickH
 split
 ·rfl
 ·cases hq : hs[i.toNat % hs.length]? with
  | none => rfl
  | some g => exact h g (List.mem_of_getElem? hq)
theorem pickB_no {ss : List (List UInt8)} {o : Bool} {c : Int} {l : List UInt8} (h : ¬ (o = true∧0≤c∧0 < ss.length)) : pickB ss o c l = l:=if_neg h
theorem pickB_at {ss : List (List UInt8)} {k : Nat} {g l : List UInt8} (h : ss[k % ss.length]? = some g) (hp : 0 < ss.length) : pickB ss true (k : Int) l = g:=by
  unfold pickB
  rw [if_pos ⟨rfl,by omega,hp⟩,show ((k : Int)).toNat = k from rfl,h]; rfl
theorem pickB_le {ss : List (List UInt8)} {o : Bool} {c : Int} {l : List UInt8} {B : Nat} (h1 : ∀ s∈ss,s.length≤B) (h2 : l.length≤B) : (pickB ss o c l).length≤B:=by
 unfold pickB
 split
 ·cases hq : ss[c.toNat % ss.length]? with
  | none => exact h2
  | some g => exact h1 g (List.mem_of_getElem? hq)
 ·exact h2
theorem pckS_yes {nu : Int} {ss : List (List UInt8)} {n : Nat} {l : List UInt8} (h : bitS nu n = true) (hl : ss[n]? = some l) : pckS nu ss (n + 1) = pckS nu ss n++[l]:=by
  show (if bitS nu n = true then _ else _) = _
  rw [if_pos h,hl]; rfl
theorem pckS_no {nu : Int} {ss : List (List UInt8)} {n : Nat} (h : bitS nu n = false) : pckS nu ss (n + 1) = pckS nu ss n:=by
  show (if bitS nu n = true then _ else _) = _
  rw [if_neg (by rw [h]; decide)]
theorem pckS_len (nu : Int) (ss : List (List UInt8)) : ∀ n,(pckS nu ss n).length≤n
 | 0 => Nat.le_refl 0
 | n + 1 => by
  have ih:=pckS_len nu ss n
  unfold pckS
  split
  ·rw [List.length_append]; exact Nat.succ_le_succ ih
  ·omega
theorem pckS_mem {nu : Int} {ss : List (List UInt8)} {B : Nat} (h : ∀ s∈ss,s.length≤B) : ∀ n,∀ l∈pckS nu ss n,l.length≤B
 | 0,l,hl => by cases hl
 | n + 1,l,hl => by
  unfold pckS at hl
  split at hl
  ·rcases List.mem_append.1 hl with hl | hl
   ·exact pckS_mem h n l hl
   ·rw [List.mem_singleton.1 hl]
    cases hq : ss[n]? with
    | none => exact Nat.zero_le _
    | some g => exact h g (List.mem_of_getElem? hq)
  ·exact pckS_mem h n l hl
theorem seenL_len {hs ss : List (List UInt8)} {also : List UInt8} {nu a : Int} : (seenL hs ss also nu a).length≤ss.length + 2:=by
  unfold seenL
  have:=pckS_len nu ss ss.length
  rw [List.length_append,List.length_cons]
  split <;> simp <;> omega
theorem seenL_le {hs ss : List (List UInt8)} {also : List UInt8} {nu a : Int} {B : Nat} (h1 : ∀ s∈ss,s.length≤B) (h2 : also.length≤B) (h3 : 17≤B) (h4 : ∀ g∈hs,g.length = 16) : ∀ l∈seenL hs ss also nu a,l.length≤B:=by
 intro l hl
 unfold seenL at hl
 rcases List.mem_append.1 hl with hl | hl
 ·rcases List.mem_cons.1 hl with rfl | hl
  ·exact h2
  ·exact pckS_mem h1 _ l hl
 ·split at hl
  ·rw [List.mem_singleton.1 hl,List.length_cons,pickH_len h4]; exact h3
  ·cases hl
/-- a shelf: its block,the row of handles,the slice of sealed texts -/
structure Shf (TS TH : Nat) (w : World) (sh hb hcap : Nat) (hl : List Value) (hs : List (List UInt8)) (sv : Value) (ss : List (List UInt8)) : Prop where
  top : w.heap[sh]? = some (.cells ([.slice (some ⟨hb,0,none⟩) hs.length hcap,sv] : List Value).toArray TS (0,0))
  row : w.heap[hb]? = some (.cells hl.toArray TH (0,0))
  len : hl.length = hcap * 16
  cap : hs.length≤hcap
  take : hl.take (hs.length * 16) = hs.flatMap hcells
  six : ∀ h∈hs,h.length = 16
  pos : 0 < hs.length
  sl : SlG Nobody w sv ss
  ne : sh≠hb
theorem Shf.ext {TS TH : Nat} {w w' : World} {sh hb hcap : Nat} {hl : List Value} {hs : List (List UInt8)} {sv : Value} {ss : List (List UInt8)} (h : Shf TS TH w sh hb hcap hl hs sv ss) (k : Ext w w') : Shf TS TH w' sh hb hcap hl hs sv ss :=
  ⟨k.heap_some h.top,k.heap_some h.row,h.len,h.cap,h.take,h.six,h.pos,h.sl.go k (fun _ h => .inl h),h.ne⟩
section
variable {P : Program} {ops : Array Oper} {Q : Exit→Act→World→Prop} {rest : List Item} {a : Act} {w : World} {n : Nat} {R : Rg} {ds : List Deferred} {S : World→Prop}
variable {f : Bool} {d : Nat} {ty : TypeId} {pos : String} {af : Array Edge}
theorem r_shrS {t yt : TypeId} {x y : Operand} {k' : IntKind} {m q : Int} (s : Nat) (hS : StD ds n R a) (hSw : Sf f S w) (hx : ev R x = some (.int .i64 m)) (hy : ev R y = some (.int k' q)) (hlt : Nat.blt d n = true) (hq : q = (s : Nat)) (hs : s≤64)
    (K : ∀ a',StD ds n (up R d (.int .i64 (m.fdiv (2 ^ s)))) a'→Sq P ops Q rest a' w) : Sq P ops Q ((f,⟨some d,.binOp .shr t x y yt,ty,pos,af,none⟩,S) :: rest) a w :=
  r_shr hS hSw hx hy hlt (by omega) (by
    have e : min q.toNat IntKind.i64.bits = s:=by subst hq; simp [IntKind.bits]; omega
    rw [e]; exact K)
theorem x_shrS {t yt : TypeId} {x y : Operand} {k' : IntKind} {m q : Int} (s : Nat) (hSw : Sf f S w) (hx : ev R x = some (.int .i64 m)) (hy : ev R y = some (.int k' q)) (hlt : Nat.blt d n = true) (hq : q = (s : Nat)) (hs : s≤64) (K : ∀ a',StD ds n (up R d (.int .i64 (m.fdiv (2 ^ s)))) a'→Sq P ops Q rest a' w) : ∀ a,StD ds n R a→Sq P ops Q ((f,⟨some d,.binOp .shr t x y yt,ty,pos,af,none⟩,S) :: rest) a w:=fun _ hS => r_shrS s hS hSw hx hy hlt hq hs K
theorem r_bit {t yt : TypeId} {x : Operand} {nu : Int} (i : Nat) (hS : StD ds n R a) (hSw : Sf f S w) (hx : ev R x = some (.int .i64 (nu.fdiv (2 ^ (i % 8))))) (hlt : Nat.blt d n = true)
    (K : ∀ (a' : Act) (e : Int),(e == 1) = bitS nu i→StD ds n (up R d (.int .i64 e)) a'→Sq P ops Q rest a' w) : Sq P ops Q ((f,⟨some d,.binOp .and t x (.const (.int .i64 1)) yt,ty,pos,af,none⟩,S) :: rest) a w :=
  r_and hS hSw hx rfl hlt (fun a' h => K a' _ rfl h)
end
theorem Todo.lt {B e : Nat} {F : Nat→Prop} {w : World} {v : Value} {ls : List (List UInt8)} (h : Todo B e F w v ls) {b m cap : Nat} (hv : v = .slice (some ⟨b,0,none⟩) m cap) : b < w.heap.size∧∃ l : List Value,w.heap[b]? = some (.cells l.toArray e (0,0)):=by
 rcases h with ⟨rfl,_⟩ | ⟨b',cap',l,rfl,_,_,hb,_⟩
 ·cases hv
 ·cases hv
  exact ⟨lt_of_block hb,l,hb⟩
theorem Todo.apart {B e yb : Nat} {F S : Nat→Prop} {w0 w1 w : World} {v : Value} {ls : List (List UInt8)} {o : Obj} {L : Blocks} (h : Todo B e F w1 v ls) (hE : Ext w1 w) (hH : Hp w0 S ((yb,o) :: L) w) (hyb : w1.heap.size≤yb) (hL : ∀ p∈L,∀ l fz,p.2 ≠ .cells l e fz) : ∀ b,(∃ m cap,v = .slice (some ⟨b,0,none⟩) m cap)→∀ p∈(yb,o) :: L,p.1≠b:=by
 rintro b ⟨m,cap,hv⟩ p hp rfl
 obtain ⟨h1,l,h2⟩:=h.lt hv
 rcases List.mem_cons.1 hp with rfl | hp
 ·exact absurd h1 (by omega)
 ·have h3:=hH.blk p (List.mem_cons_of_mem _ hp)
  rw [hE.heap_some h2] at h3
  exact hL p hp _ _ (Option.some.inj h3).symm
theorem BsF.one {F : Nat→Prop} {w : World} {v : Value} {l : List UInt8} (h : BsF F w v l) : v.oneCell' = true:=by
  obtain ⟨q,c,h9⟩:=h.bs
  rw [h9.val]; rfl
end Go.Sym
namespace Go.Sym
open Go
section
variable {P : Program} {ops : Array Oper} {Q : Exit→Act→World→Prop} {rest : List Item} {a : Act} {w w0 : World} {n : Nat} {R : Rg} {ds : List Deferred} {S : Nat→Prop} {L K : Blocks}
variable {f : Bool} {d : Nat} {ty : TypeId} {pos : String} {af : Array Edge}
/-! ### numbers that are not below nought -/
end
end Go.Sym
namespace Go.Sym
open Go
theorem Hp.flip {w0 w : World} {S : Nat→Prop} {L : Blocks} {x y : Nat × Obj} (h : Hp w0 S (x :: y :: L) w) : Hp w0 S (y :: x :: L) w:=by
 refine ⟨fun p hp => h.blk p ?_,?_,h.mod⟩
 ·simp only [List.mem_cons] at hp ⊢; rcases hp with h1 | h1 | h1
  ·exact .inr (.inl h1)
  ·exact .inl h1
  ·exact .inr (.inr h1)
 ·have nd:=h.nd
  simp only [List.map_cons,List.nodup_cons,List.mem_cons,not_or] at nd ⊢
  exact ⟨⟨fun e => nd.1.1 e.symm,nd.2.1⟩,nd.1.2,nd.2.2⟩
section
variable {P : Program} {ops : Array Oper} {Q : Exit→Act→World→Prop} {rest : List Item} {a : Act} {w w0 : World} {n : Nat} {R : Rg} {ds : List Deferred} {S : Nat→Prop} {L K : Blocks}
variable {f : Bool} {d : Nat} {ty : TypeId} {pos : String} {af : Array Edge}
end
end Go.Sym
namespace Go.Sym
open Go
end Go.Sym
namespace Go.Sym
open Go
/-! ### A round's code: what has been walked outside one holds within one,where no defer statement stands -/
section
variable {P : Program} {ops : Array Oper} {Q : Exit→Act→World→Prop} {a : Act} {w : World} {n lr : Nat}
end
section
variable {P : Program} {Q : Exit→Act→World→Prop} {a : Act} {w w0 : World} {n : Nat} {R : Rg} {S : Nat→Prop} {L L' : Blocks}
end
end Go.Sym
namespace Go.Sym
open Go
/-! ### An iterator's call of 'yield' -/
section
variable {P : Program} {ops : Array Oper} {Q : Exit→Act→World→Prop} {a : Act} {w : World} {n : Nat}
end
end Go.Sym
namespace Go.Sym
open Go
section
variable {P : Program} {ops : Array Oper} {Q : Exit→Act→World→Prop} {rest : List Item} {a : Act} {w w0 : World} {n : Nat} {R : Rg} {ds : List Deferred} {S : Nat→Prop} {L K : Blocks}
variable {f : Bool} {d : Nat} {ty : TypeId} {pos : String} {af : Array Edge}
end
/-! ### sets of at most one span -/
end Go.Sym
namespace Go.Sym
open Go
section
variable {P : Program} {ops : Array Oper} {Q : Exit→Act→World→Prop} {rest : List Item} {a : Act} {w w0 : World} {n : Nat} {R : Rg} {ds : List Deferred} {S : Nat→Prop} {L K : Blocks}
variable {f : Bool} {d : Nat} {ty : TypeId} {pos : String} {af : Array Edge}
end
end Go.Sym
namespace Go.Sym
open Go
theorem Hp.wide {w0 w : World} {S S' : Nat→Prop} {L : Blocks} (h : Hp w0 S L w) (k : ∀ x,S x→S' x) : Hp w0 S' L w:=⟨h.blk,h.nd,h.mod.mono k⟩
end Go.Sym
/- Maps whose entries are known one by one,and ranging over a map. -/
namespace Go.Sym
open Go
open Go.WideMaps (KeyLaw)
open Go.ChangeMaps (setBlock)

section
variable {P : Program} {ops : Array Oper} {Q : Exit→Act→World→Prop} {rest : List Item} {a : Act} {w w0 : World} {n : Nat} {R : Rg} {ds : List Deferred} {S : Nat→Prop} {L K : Blocks}
variable {f : Bool} {d : Nat} {ty : TypeId} {pos : String} {af : Array Edge}

end
end Go.Sym
/- Lists without doubles; a slice of one's own over worlds; sorted lists. -/
namespace Go.Sym
open Go
open Classical in
open Classical in
theorem Hp.own {w0 w w1 : World} {S F : Nat→Prop} {L : Blocks} (h : Hp w0 S L w) (hM : Mod F w w1) (hF : ∀ p∈L,¬ F p.1) (hS : ∀ x,F x→S x∨w0.heap.size≤x) : Hp w0 S L w1 :=
  ⟨fun p hp => hM.heap_some (h.blk p hp) (hF p hp),h.nd,h.mod.trans hM (fun c hc hf => (hS c hf).resolve_right (by omega))⟩
section
variable {P : Program} {ops : Array Oper} {Q : Exit→Act→World→Prop} {rest : List Item} {a : Act} {w w0 : World} {n : Nat} {R : Rg} {ds : List Deferred} {S : Nat→Prop} {L K : Blocks}
variable {f : Bool} {d : Nat} {ty : TypeId} {pos : String} {af : Array Edge}
/-- a slice built: the world grows by it alone -/
theorem r_buildSliceW {t e es len : Nat} {parts : List (Nat × Operand)} {vs zs cs : List Value} (hS : StD ds n R a) (hH : Hp w0 S L w) (hs : Sub K L) (hv : evs R (parts.map (·.2)) = some vs) (hz : bslB P t len = some (e,es,zs)) (hf : bldA (fun i => some (i * es,es)) zs 0 ((parts.map (·.1)).zip vs) = some cs) (hlt : Nat.blt d n = true)
  (k : ∀ a' w' b,w0.heap.size≤b→w.heap.size≤b→Ext w w'→StD ds n (up R d (.slice (some ⟨b,0,none⟩) len len)) a'→Hp w0 S ((b,.cells cs.toArray e (0,0)) :: L) w'→Sq P ops Q rest a' w') :
  Sq P ops Q ((false,⟨some d,.buildSlice t len parts.toArray,ty,pos,af,none⟩,Kp w0 S K) :: rest) a w:=by
 have h:=hS.vals hv
 have e1 : (parts.map fun x => match x with | (i,x) => (i,a.eval x)) = (parts.map (·.1)).zip vs:=by
  rw [←h,List.map_map]
  clear h hv hf k
  induction parts with
  | nil => rfl
  | cons p r ih => simp [ih]
 unfold bslB at hz
 split at hz
 ·rename_i e' hu
  split at hz
  ·rename_i i hi
   split at hz
   ·rename_i z hzz
    split at hz
    ·rename_i hc
     obtain ⟨c1,c2,c3⟩:=hc
     simp only [Option.some.injEq,Prod.mk.injEq] at hz
     obtain ⟨rfl,rfl,rfl⟩:=hz
     have hfill:=fill_of _ _ _ _ (bldA_fill0 hf)
     have hH':=hH.alloc (.cells cs.toArray e' (0,0))
     refine Sq.done (w':=w.alloc (.cells cs.toArray e' (0,0))) (v:=.slice (some ⟨w.heap.size,0,none⟩) len len) rfl ?_ ⟨fun p hp => hH'.blk p (List.mem_cons_of_mem _ (hs.mem p hp)),hH'.mod⟩ (k _ _ w.heap.size hH.mod.size (Nat.le_refl _) (Ext.alloc _ _) (hS.put hlt _) hH')
     have c2' : ¬ len * i.size = 0:=by omega
     have c3' : ¬ len * i.size > 2 ^ 24:=by omega
     simp only [execOp,List.map_toArray,Sem.run_bind]
     rw [e1]
     simp only [Instr.buildSlice,Sem.run_bind,run_underlying hu,Result.andThen_ok,sizeOf,typeInfo,run_program,hi,Sem.run_pure,c3',c2',if_false,zeroValue,hzz]
     have e2 : (Array.range (len * i.size)).map (fun x => z.cells[x % z.cells.size]!) = (((Array.range (len * i.size)).toList.map fun j => z.cells[j % z.cells.size]!)).toArray:=by
      apply Array.ext'; simp
     rw [e2,hfill]
     simp [newRow]
    ·cases hz
   ·cases hz
  ·cases hz
 ·cases hz
end
end Go.Sym
namespace Go.Sym
open Go
/-! ### regions in which several operations are ready at once: a fork's branches may be forks -/
inductive PTF
  | nil
  | cons (x : Bool × Nat × List Nat) (r : PTF)
  | fork (t u : PTF)
def PTF.items : PTF→Plan
  | .nil => []
  | .cons x r => x :: r.items
  | .fork t u => t.items++u.items
def PTF.len : PTF→Nat
  | .nil => 0
  | .cons _ r => r.len + 1
  | .fork t u => max t.len u.len
def PTF.heads : PTF→List Nat
  | .cons (false,i,_) _ => [i]
  | .fork t u => t.heads++u.heads
  | _ => []
def PTF.ofPlan : Plan→PTF→PTF
  | [],r => r
  | x :: l,r => .cons x (PTF.ofPlan l r)
def treeOkF (md : Region.Mode) (ops : Array Oper) : PTF→Option (List Nat)→Array Bool→Bool
  | .nil,none,listed => (Region.ready md ops listed).isEmpty
  | .cons (true,i,_) r,none,listed => (ops[i]?).isSome && Region.free md ops listed i && (Region.ready md ops listed).contains i && treeOkF md ops r none (listed.setIfInBounds i true)
  | .cons (false,i,_) r,none,listed => (ops[i]?).isSome && (Region.ready md ops listed == [i]) && treeOkF md ops r none (listed.setIfInBounds i true)
  | .cons (false,i,_) r,some al,listed => (ops[i]?).isSome && (Region.ready md ops listed == al) && al.contains i && treeOkF md ops r none (listed.setIfInBounds i true)
  | .fork t u,none,listed => (Region.ready md ops listed == t.heads++u.heads) && treeOkF md ops t (some (t.heads++u.heads)) listed && treeOkF md ops u (some (t.heads++u.heads)) listed
  | .fork t u,some al,listed => treeOkF md ops t (some al) listed && treeOkF md ops u (some al) listed
  | _,_,_ => false
def SqF (P : Program) (ops : Array Oper) (Q : Exit→Act→World→Prop) (w0 : World) (S : Nat→Prop) (K : Blocks) (l : List Oper) : PTF→Act→World→Prop
  | .nil,a,w => Q .normal a w
  | .cons (true,i,ds) r,a,w => ∃ v,YieldsIf P ops (Kp w0 S (dropI K 0 ds)) (nth l i) v a∧SqF P ops Q w0 S K l r (a.put (nth l i).dst v) w
  | .cons (false,i,ds) r,a,w => Hs P ops Q (nth l i) (Kp w0 S (dropI K 0 ds)) (SqF P ops Q w0 S K l r) a w
  | .fork t u,a,w => SqF P ops Q w0 S K l t a w∧SqF P ops Q w0 S K l u a w
section
variable {P : Program} {ops : Array Oper} {Q : Exit→Act→World→Prop} {w0 : World} {S : Nat→Prop} {K : Blocks} {l : List Oper}
theorem trF_seg : ∀ {pl : Plan} {r : PTF} {a : Act} {w : World},Sq P ops (Exit.then (SqF P ops Q w0 S K l r) Q) (picked w0 S K l pl) a w→SqF P ops Q w0 S K l (PTF.ofPlan pl r) a w:=by
  intro pl r a w h
  replace h:=SqC.of _ a w h
  induction pl generalizing a w with
  | nil => exact h
  | cons x pl ih =>
    obtain ⟨b,i,ds⟩:=x
    cases b with
    | true =>
      obtain ⟨v,h1,h2⟩:=h
      exact ⟨v,h1,ih h2⟩
    | false => exact Hs.mono h (fun a w k => ih k)
theorem trF_fork {t u : PTF} {a : Act} {w : World} (h : SqF P ops Q w0 S K l t a w) (k : SqF P ops Q w0 S K l u a w) : SqF P ops Q w0 S K l (.fork t u) a w:=⟨h,k⟩
theorem trF_nil {a : Act} {w : World} (h : Q .normal a w) : SqF P ops Q w0 S K l .nil a w:=h
end
theorem treeF_unlisted {md : Region.Mode} {ops : Array Oper} : ∀ (tr : PTF) (al : Option (List Nat)) (listed : Array Bool),treeOkF md ops tr al listed = true→∀ y∈tr.items,listed.getD y.2.1 false = false:=by
 intro tr
 induction tr with
 | nil => intro _ _ _ y hy; cases hy
 | cons x r ih =>
  obtain ⟨b,i,ds⟩:=x
  intro al listed h y hy
  have key : listed.getD i true = false∧treeOkF md ops r none (listed.setIfInBounds i true) = true:=by
   cases b with
   | true =>
    cases al with
    | none =>
     simp only [treeOkF,Bool.and_eq_true] at h
     exact ⟨(mem_ready.1 (show i∈Region.ready md ops listed by simpa using h.1.2)).1,h.2⟩
    | some al => simp [treeOkF] at h
   | false =>
    cases al with
    | none =>
     simp only [treeOkF,Bool.and_eq_true,beq_iff_eq] at h
     exact ⟨(mem_ready.1 (show i∈Region.ready md ops listed by rw [h.1.2]; simp)).1,h.2⟩
    | some al =>
     simp only [treeOkF,Bool.and_eq_true,beq_iff_eq] at h
     exact ⟨(mem_ready.1 (show i∈Region.ready md ops listed by rw [h.1.1.2]; simpa using h.1.2)).1,h.2⟩
  rcases List.mem_cons.1 hy with rfl | hy
  ·exact getD_false_true key.1
  ·have:=ih none _ key.2 y hy
   by_cases e : i = y.2.1
   ·rw [←e]; exact getD_false_true key.1
   ·rw [getD_set_ne false e] at this; exact this
 | fork t u iht ihu =>
  intro al listed h y hy
  cases al with
  | none =>
   simp only [treeOkF,Bool.and_eq_true] at h
   rcases List.mem_append.1 hy with hy | hy
   ·exact iht _ listed h.1.2 y hy
   ·exact ihu _ listed h.2 y hy
  | some al =>
   simp only [treeOkF,Bool.and_eq_true] at h
   rcases List.mem_append.1 hy with hy | hy
   ·exact iht _ listed h.1 y hy
   ·exact ihu _ listed h.2 y hy
theorem treeF_len {md : Region.Mode} {ops : Array Oper} : ∀ (tr : PTF) (al : List Nat) (listed : Array Bool),treeOkF md ops tr (some al) listed = true→1≤tr.len∧tr.heads≠[]:=by
  intro tr
  induction tr with
  | nil => intro al listed h; simp [treeOkF] at h
  | cons x r ih =>
    obtain ⟨b,i,ds⟩:=x
    intro al listed h
    cases b with
    | true => simp [treeOkF] at h
    | false => exact ⟨by simp [PTF.len],by simp [PTF.heads]⟩
  | fork t u iht ihu =>
    intro al listed h
    simp only [treeOkF,Bool.and_eq_true] at h
    have h1:=iht _ _ h.1
    exact ⟨by simp only [PTF.len]; omega,by simp only [PTF.heads]; intro e; exact h1.2 (List.append_eq_nil_iff.1 e).1⟩
theorem wpAnyL_of_treeF {P : Program} {l : List Oper} {Q : Exit→Act→World→Prop} {w0 : World} {S : Nat→Prop} {K : Blocks} {pl0 : Plan} (hsel : Region.noSelect l.toArray = true) (hQ : Steady Q)
  (hk : keepOk .any l.toArray pl0 = true) (h1 : onceOk l.toArray.size pl0 = true) :
  ∀ (tr : PTF) (listed : Array Bool) (a : Act) (w : World),(∀ x∈tr.items,x∈pl0)→Closed .any l.toArray listed →
   (∀ x∈tr.items,x.1 = true→Kp w0 S (dropI K 0 x.2.2) w)→SqF P l.toArray Q w0 S K l tr a w →
   (∀ fuel,tr.len≤fuel→treeOkF .any l.toArray tr none listed = true→wpAnyL P .any l.toArray Q (relOf w0 S K pl0) fuel listed a w) ∧
   (∀ fuel al i,i∈tr.heads→tr.len≤fuel + 1→treeOkF .any l.toArray tr (some al) listed = true→wpOp P l.toArray Q i (fun a' w' => relOf w0 S K pl0 i w w'∧wpAnyL P .any l.toArray Q (relOf w0 S K pl0) fuel (listed.setIfInBounds i true) a' w') a w):=by
 have huniq : ∀ x∈pl0,∀ y∈pl0,x.2.1 = y.2.1→x.2.1 < l.toArray.size→x = y:=by
  intro x hx y hy e hlt
  simp only [onceOk,List.all_eq_true,List.mem_range,beq_iff_eq] at h1
  have h:=h1 x.2.1 hlt
  obtain ⟨z,hz⟩:=List.length_eq_one_iff.1 h
  have e1 : x∈pl0.filter fun q => Nat.beq q.2.1 x.2.1:=List.mem_filter.2 ⟨hx,by simp⟩
  have e2 : y∈pl0.filter fun q => Nat.beq q.2.1 x.2.1:=List.mem_filter.2 ⟨hy,by simp [e]⟩
  rw [hz] at e1 e2
  rw [List.mem_singleton.1 e1,List.mem_singleton.1 e2]
 have hkeep : ∀ x∈pl0,x.1 = true→∀ y∈pl0,y.1 = false→anc .any l.toArray 60 x.2.1 y.2.1 = false→∀ w,Kp w0 S (dropI K 0 y.2.2) w→Kp w0 S (dropI K 0 x.2.2) w:=by
  intro x hx hxs y hy hys ha w hw
  simp only [keepOk,List.all_eq_true] at hk
  have h:=hk x hx
  simp only [hxs,Bool.not_true,Bool.false_or,List.all_eq_true] at h
  have h:=h y hy
  simp only [hys,ha,Bool.false_or,Bool.or_false,Bool.or_eq_true,List.isEmpty_iff,List.all_eq_true] at h
  refine ⟨fun p hp => hw.1 p (dropI_mono K 0 _ _ ?_ p hp),hw.2⟩
  intro k hk2
  rcases h with h | h
  ·rw [h] at hk2; simp at hk2
  ·obtain ⟨q,hq,hq2⟩:=List.any_eq_true.1 hk2
   have:=Nat.eq_of_beq_eq_true hq2
   subst this
   exact h k hq
 intro tr
 induction tr with
 | nil =>
  intro listed a w _ _ _ h
  refine ⟨fun fuel _ hp => ?_,fun fuel al i hi => by simp [PTF.heads] at hi⟩
  simp only [treeOkF,List.isEmpty_iff] at hp
  cases fuel with
  | zero => exact ⟨hp,h⟩
  | succ fuel => exact ⟨fun _ => h,by rw [hp]; simp⟩
 | cons x r ih =>
  obtain ⟨b,i,ds⟩:=x
  intro listed a w hsub hc hS h
  have hmem : (b,i,ds)∈pl0:=hsub _ (by simp [PTF.items])
  cases b with
  | true =>
   refine ⟨fun fuel hl hp => ?_,fun fuel al i hi => by simp [PTF.heads] at hi⟩
   cases fuel with
   | zero => simp [PTF.len] at hl
   | succ fuel =>
    simp only [treeOkF,Bool.and_eq_true] at hp
    obtain ⟨⟨⟨p1,p2⟩,p3⟩,p4⟩:=hp
    obtain ⟨o,ho⟩:=Option.isSome_iff_exists.1 p1
    have hlt:=(Array.getElem?_eq_some_iff.1 ho).1
    have hn : nth l i = o:=nth_get l i o (by simpa using ho)
    simp only [SqF,hn] at h
    obtain ⟨v,hy,h⟩:=h
    have hrd : i∈Region.ready .any l.toArray listed:=by simpa using p3
    have hS' : ∀ x∈r.items,x.1 = true→Kp w0 S (dropI K 0 x.2.2) w:=fun x hx hxs => hS x (by simp [PTF.items,hx]) hxs
    refine wpAnyL_first (B:=Kp w0 S (dropI K 0 ds)) 60 ho (Region.noSelect_spec hsel) (fun c a w hq => hQ _ _ _ _ _ hq) ?_ ?_ fuel listed a w hc (Region.free_spec ho p2) hrd hy (hS (true,i,ds) (by simp [PTF.items]) rfl)
     ((ih _ _ _ (fun x hx => hsub x (by simp [PTF.items,hx])) (closed_set hc hrd) hS' h).1 fuel (by simpa [PTF.len] using hl) p4)
    ·intro j w w' hji hjl hanc hB hR
     simp only [onceOk,List.all_eq_true,List.mem_range,beq_iff_eq] at h1
     have hj:=h1 j hjl
     obtain ⟨z,hz⟩:=List.length_eq_one_iff.1 hj
     have hzm : z∈pl0.filter fun q => Nat.beq q.2.1 j:=by rw [hz]; simp
     obtain ⟨hz1,hz2⟩:=List.mem_filter.1 hzm
     have hz2:=Nat.eq_of_beq_eq_true hz2
     have:=hR z hz1 hz2
     cases hzb : z.1 with
     | true => rw [if_pos hzb] at this; rw [this]; exact hB
     | false =>
      rw [if_neg (by simp [hzb])] at this
      exact hkeep _ hmem rfl z hz1 hzb (by rw [hz2]; exact hanc) w' this
    ·intro w x hx e
     have:=huniq x hx _ hmem e (by rw [e]; exact hlt)
     rw [this]; simp
  | false =>
   -- the step itself,whatever else is ready
   have step0 : ∀ fuel,r.len≤fuel→(l.toArray[i]?).isSome = true→i∈Region.ready .any l.toArray listed→treeOkF .any l.toArray r none (listed.setIfInBounds i true) = true →
     wpOp P l.toArray Q i (fun a' w' => relOf w0 S K pl0 i w w'∧wpAnyL P .any l.toArray Q (relOf w0 S K pl0) fuel (listed.setIfInBounds i true) a' w') a w:=by
    intro fuel hl p1 hrd p4
    obtain ⟨o,ho⟩:=Option.isSome_iff_exists.1 p1
    have hlt:=(Array.getElem?_eq_some_iff.1 ho).1
    have hn : nth l i = o:=nth_get l i o (by simpa using ho)
    simp only [SqF,hn] at h
    have step : ∀ a' w',Kp w0 S (dropI K 0 ds) w'→SqF P l.toArray Q w0 S K l r a' w'→relOf w0 S K pl0 i w w'∧wpAnyL P .any l.toArray Q (relOf w0 S K pl0) fuel (listed.setIfInBounds i true) a' w':=by
     intro a' w' k1 k2
     refine ⟨fun x hx e => ?_,(ih _ a' w' (fun x hx => hsub x (by simp [PTF.items,hx])) (closed_set hc hrd) (fun x hx hxs => ?_) k2).1 fuel hl p4⟩
     ·have:=huniq x hx _ hmem e (by rw [e]; exact hlt)
      rw [this]; simpa using k1
     ·refine hkeep x (hsub x (by simp [PTF.items,hx])) hxs _ hmem rfl ?_ w' k1
      cases ha : anc .any l.toArray 60 x.2.1 i with
      | false => rfl
      | true =>
       exfalso
       obtain ⟨hun,o',ho',hall⟩:=mem_ready.1 hrd
       have hoj' : l.toArray.getD i default = o':=by simp [Array.getD_eq_getD_getElem?] at ho' ⊢; simp [ho']
       have hli:=anc_listed hc 60 i (by rw [hoj']; exact hall) ha
       have hx0:=treeF_unlisted r none _ p4 x hx
       by_cases e : i = x.2.1
       ·rw [←e] at hli
        have:=getD_false_true hun
        rw [hli] at this; cases this
       ·rw [getD_set_ne false e,hli] at hx0; cases hx0
    unfold wpOp
    rw [ho]
    unfold Hs at h
    simp only
    split
    ·rename_i hw
     rw [if_pos hw] at h
     exact h.imp (Oper.wp_mono fun a w ⟨k1,k2⟩ => step a w k1 k2) id
    ·rename_i hw
     rw [if_neg hw] at h
     exact step _ _ h.1 h.2
   refine ⟨fun fuel hl hp => ?_,fun fuel al i' hi' hl hp => ?_⟩
   ·cases fuel with
    | zero => simp [PTF.len] at hl
    | succ fuel =>
     simp only [treeOkF,Bool.and_eq_true,beq_iff_eq] at hp
     obtain ⟨⟨p1,p2⟩,p4⟩:=hp
     refine ⟨fun h0 => absurd (p2 ▸ h0) (by simp),fun j hj => ?_⟩
     rw [p2] at hj
     obtain rfl : j = i:=by simpa using hj
     exact step0 fuel (by simpa [PTF.len] using hl) p1 (by rw [p2]; simp) p4
   ·obtain rfl : i' = i:=by simpa [PTF.heads] using hi'
    simp only [treeOkF,Bool.and_eq_true,beq_iff_eq] at hp
    obtain ⟨⟨⟨p1,p2⟩,p3⟩,p4⟩:=hp
    exact step0 fuel (by simpa [PTF.len] using hl) p1 (by rw [p2]; simpa using p3) p4
 | fork t u iht ihu =>
  intro listed a w hsub hc hS h
  have ht:=iht listed a w (fun x hx => hsub x (by simp [PTF.items,hx])) hc (fun x hx => hS x (by simp [PTF.items,hx])) h.1
  have hu:=ihu listed a w (fun x hx => hsub x (by simp [PTF.items,hx])) hc (fun x hx => hS x (by simp [PTF.items,hx])) h.2
  refine ⟨fun fuel hl hp => ?_,fun fuel al i hi hl hp => ?_⟩
  ·simp only [treeOkF,Bool.and_eq_true,beq_iff_eq] at hp
   obtain ⟨⟨p1,p2⟩,p3⟩:=hp
   have l1:=treeF_len _ _ _ p2
   simp only [PTF.len] at hl
   cases fuel with
   | zero => omega
   | succ fuel =>
    refine ⟨fun h0 => absurd (List.append_eq_nil_iff.1 (p1.symm.trans h0)).1 l1.2,fun k hk => ?_⟩
    rw [p1] at hk
    rcases List.mem_append.1 hk with hk | hk
    ·exact ht.2 fuel _ k hk (by omega) p2
    ·exact hu.2 fuel _ k hk (by omega) p3
  ·simp only [treeOkF,Bool.and_eq_true] at hp
   simp only [PTF.len] at hl
   rcases List.mem_append.1 (show i∈t.heads++u.heads from hi) with hk | hk
   ·exact ht.2 fuel al i hk (by omega) hp.1
   ·exact hu.2 fuel al i hk (by omega) hp.2
theorem reg_treeF {P : Program} {id : Nat} {l : List Oper} {Q : Exit→Act→World→Prop} {a : Act} {w w0 : World} {S : Nat→Prop} {L : Blocks} (pl0 : Plan) (tr : PTF) (hm : P.follows .mixedOrders = true)
    (hsel : Region.noSelect l.toArray = true) (hlen : Nat.ble tr.len l.toArray.size = true) (hp : treeOkF .any l.toArray tr none (Array.replicate l.toArray.size false) = true) (hsub : (tr.items.all fun x => pl0.contains x) = true) (hk : keepOk .any l.toArray pl0 = true) (h1 : onceOk l.toArray.size pl0 = true) (hQ : Steady Q)
    (hH : Hp w0 S L w) (h : SqF P l.toArray Q w0 S L l tr a w.drew) : (Code.region id l.toArray true).wp P Q a w :=
  wp_region_any hm (wpAny_of_L _ _ _ _ ((wpAnyL_of_treeF (pl0:=pl0) hsel hQ hk h1 tr _ _ _ (fun x hx => by
    have:=List.all_eq_true.1 hsub x hx
    simpa using this) (fun k hk => by
    have : (Array.replicate l.toArray.size false).getD k false = false:=by rw [Array.getD_eq_getD_getElem?,Array.getElem?_replicate]; split <;> rfl
    rw [this] at hk; cases hk) (fun x _ _ => hH.drew.kpDrop 0 x.2.2) h).1 _ (by simpa [Nat.ble_eq] using hlen) hp))
end Go.Sym
/- Two vaults side by side,the program's and the document's. -/
namespace Go.Sym
open Go
theorem VIn.mod {P : Program} {TV TT TH : Nat} {w w' : World} {b : Nat} {V : VB} {ts : List Tm} {F : Nat→Prop} (h : VIn P TV TT TH w b V ts) (k : Mod F w w') (hF : ∀ x,V.F b x→¬ F x) : VIn P TV TT TH w' b V ts :=
  ⟨h.ok,k.heap_some h.h0 (hF _ (.inl rfl)),k.heap_some h.h1 (hF _ (.inr (.inl rfl))),k.heap_some h.h2 (hF _ (.inr (.inr (.inl rfl)))),k.heap_some h.h3 (hF _ (.inr (.inr (.inr rfl)))),h.n01,h.n23⟩
theorem RIn.mod {TV TT : Nat} {w w' : World} {b : Nat} {V : RB} {ts : List Tm} {F : Nat→Prop} (h : RIn TV TT w b V ts) (k : Mod F w w') (hF : ∀ x,V.F b x→¬ F x) : RIn TV TT w' b V ts :=
  ⟨h.ok,k.heap_some h.h0 (hF _ (.inl rfl)),k.heap_some h.h1 (hF _ (.inr rfl)),h.n01⟩
/-- blocks of cells,of none of these types -/
def Clear (TS : List Nat) (L : Blocks) : Prop := ∀ p∈L,∃ (l : Array Value) (T : TypeId) (fz : Nat × Nat),p.2 = .cells l T fz∧T ∉ TS
theorem Clear.nil (TS : List Nat) : Clear TS []:=fun _ h => by cases h
theorem Clear.cons {TS : List Nat} {L : Blocks} {b : Nat} {l : Array Value} {T : TypeId} {fz : Nat × Nat} (hT : T ∉ TS) (h : Clear TS L) : Clear TS ((b,.cells l T fz) :: L):=fun p hp => by
 rcases List.mem_cons.1 hp with rfl | hp
 ·exact ⟨l,T,fz,rfl,hT⟩
 ·exact h p hp
structure BV (P : Program) (TV TT TH TV2 TT2 : Nat) (w : World) (b : Nat) (V : VB) (tv : List Tm) (r : Nat) (R : RB) (tr : List Tm) : Prop where
  v : VIn P TV TT TH w b V tv
  r : RIn TV2 TT2 w r R tr
  t1 : TV2≠TV∧TV2≠TT∧TT2≠TV∧TT2≠TT
section
variable {P : Program} {TV TT TH TV2 TT2 : Nat} {w w' w0 : World} {b r : Nat} {V V' : VB} {R R' : RB} {tv tr tv' tr' : List Tm} {S : Nat→Prop} {L : Blocks}
theorem BV.apart (h : BV P TV TT TH TV2 TT2 w b V tv r R tr) : ∀ x,V.F b x→¬ R.F r x:=by
 rintro x hx (rfl | rfl)
 ·exact h.v.notF h.r.h0 h.t1.1 h.t1.2.1 hx
 ·exact h.v.notF h.r.h1 h.t1.2.2.1 h.t1.2.2.2 hx
theorem BV.ext (h : BV P TV TT TH TV2 TT2 w b V tv r R tr) (k : Ext w w') : BV P TV TT TH TV2 TT2 w' b V tv r R tr:=⟨h.v.ext k,h.r.ext k,h.t1⟩
theorem BV.callV (h : BV P TV TT TH TV2 TT2 w b V tv r R tr) (hv : VIn P TV TT TH w' b V' tv') (k : VStep w w' b V V') : BV P TV TT TH TV2 TT2 w' b V' tv' r R tr :=
  ⟨hv,h.r.mod k.mod (fun x hx hv => h.apart x hv hx),h.t1⟩
theorem BV.callR (h : BV P TV TT TH TV2 TT2 w b V tv r R tr) (hr : RIn TV2 TT2 w' r R' tr') (k : RStep w w' r R R') : BV P TV TT TH TV2 TT2 w' b V tv r R' tr' :=
  ⟨h.v.mod k.mod (fun x hx => h.apart x hx),hr,h.t1⟩
theorem BV.clearV (h : BV P TV TT TH TV2 TT2 w b V tv r R tr) (hH : Hp w0 S L w) (hL : Clear [TV,TT,TV2,TT2] L) : ∀ p∈L,¬ V.F b p.1:=fun p hp => by
  obtain ⟨l,T,fz,e,hT⟩:=hL p hp
  simp only [List.mem_cons,List.not_mem_nil,or_false,not_or] at hT
  exact h.v.notF (c:=p.1) (l:=l) (T:=T) (fz:=fz) (by rw [←e]; exact hH.blk p hp) hT.1 hT.2.1
theorem BV.clearR (h : BV P TV TT TH TV2 TT2 w b V tv r R tr) (hH : Hp w0 S L w) (hL : Clear [TV,TT,TV2,TT2] L) : ∀ p∈L,¬ R.F r p.1:=fun p hp => by
  obtain ⟨l,T,fz,e,hT⟩:=hL p hp
  simp only [List.mem_cons,List.not_mem_nil,or_false,not_or] at hT
  exact h.r.notF (c:=p.1) (l:=l) (T:=T) (fz:=fz) (by rw [←e]; exact hH.blk p hp) hT.2.2.1 hT.2.2.2
theorem BV.put {c : Nat} {l : Array Value} {T : TypeId} {fz : Nat × Nat} (h : BV P TV TT TH TV2 TT2 w b V tv r R tr) (hM : Mod (· = c) w w') (hc : w.heap[c]? = some (.cells l T fz)) (hT : T ∉ [TV,TT,TV2,TT2]) : BV P TV TT TH TV2 TT2 w' b V tv r R tr:=by
 simp only [List.mem_cons,List.not_mem_nil,or_false,not_or] at hT
 exact ⟨h.v.mod hM (fun x hx (e : x = c) => h.v.notF hc hT.1 hT.2.1 (e ▸ hx)),h.r.mod hM (fun x hx (e : x = c) => h.r.notF hc hT.2.2.1 hT.2.2.2 (e ▸ hx)),h.t1⟩
/-- what both own may be written -/
theorem Hp.callV (hH : Hp w0 S L w) (h : BV P TV TT TH TV2 TT2 w b V tv r R tr) (k : VStep w w' b V V') (hL : Clear [TV,TT,TV2,TT2] L) (hS : ∀ x,V.F b x→S x∨w0.heap.size≤x) : Hp w0 S L w'∧∀ x,V'.F b x→S x∨w0.heap.size≤x :=
  ⟨hH.own k.mod (h.clearV hH hL) hS,fun x hx => (k.F x hx).elim (hS x) (fun h9 => .inr (Nat.le_trans hH.mod.size h9))⟩
theorem Hp.callR (hH : Hp w0 S L w) (h : BV P TV TT TH TV2 TT2 w b V tv r R tr) (k : RStep w w' r R R') (hL : Clear [TV,TT,TV2,TT2] L) (hS : ∀ x,R.F r x→S x∨w0.heap.size≤x) : Hp w0 S L w'∧∀ x,R'.F r x→S x∨w0.heap.size≤x :=
  ⟨hH.own k.mod (h.clearR hH hL) hS,fun x hx => (k.F x hx).elim (hS x) (fun h9 => .inr (Nat.le_trans hH.mod.size h9))⟩
end
theorem spL_le (ts : List Tm) (K : List Bool) : ∀ n,(spL ts K n).length≤n
 | 0 => by simp [spL]
 | n + 1 => by
  have ih:=spL_le ts K n
  rw [spL_succ,List.length_append]
  have h1 : (sp1 ts K n).length≤1:=by
   unfold sp1
   split
   ·split <;> simp
   ·simp
  omega
theorem Todo.to {B e : Nat} {F F' : Nat→Prop} {w w' : World} {v : Value} {ls : List (List UInt8)} (h : Todo B e F w v ls) (k : Mod F w w') (hF : ∀ x,F' x→F x∨w.heap.size≤x) : Todo B e F' w' v ls:=by
 rcases h with h | ⟨b,cap,l,rfl,h1,h2,hb,h3,h4,h5⟩
 ·exact .inl h
 ·refine .inr ⟨b,cap,l,rfl,h1,fun h9 => (hF _ h9).elim h2 (fun h8 => by have:=lt_of_block hb; omega),k.heap_some hb h2,h3,h4,h5.go (k.mono fun x hx => .inl hx) (fun x hx => ?_)⟩
  rcases hx with hx | hx
  ·exact (hF x hx).elim (fun h9 => .inl (.inl h9)) .inr
  ·exact .inl (.inr hx)
/-! ### terms that stay well formed -/
theorem Made.wf6 {ts ts' : List Tm} {t : Tm} {i : Nat} (h : Wf6 ts) (m : Made ts t i ts') (ha : 0≤t.a∧t.a < ts.length) (hb : 0≤t.b∧t.b < ts.length) (hk : t.bytes.size≤1099511627776) : Wf6 ts':=by
 rcases m with ⟨_,_,rfl⟩ | ⟨_,_,rfl⟩
 ·exact h
 ·exact h.push ha hb hk
theorem OfT.wf6 {ts ts' : List Tm} {h h' : List UInt8} {t : Tm} {x : Int} (hw : Wf6 ts) (k : OfT ts h t h' x ts') (hb : t.b = 0) (hk : t.bytes.size≤1099511627776) : Wf6 ts':=by
 rcases k with ⟨i,j,hi,_,_,_,m⟩ | ⟨_,_,_,rfl⟩
 ·exact m.wf6 hw ⟨by show 0≤(i : Int); omega,by show (i : Int) < _; omega⟩ ⟨by show 0≤t.b; omega,by show t.b < _; omega⟩ hk
 ·exact hw
theorem OfT.sel6 {ts ts' : List Tm} {h h' : List UInt8} {t : Tm} {x : Int} (hs : Sel6 ts) (k : OfT ts h t h' x ts') (hk : t.kind≠6) : Sel6 ts':=by
 rcases k with ⟨i,j,hi,_,_,_,m⟩ | ⟨_,_,_,rfl⟩
 ·exact hs.made m (fun h9 => absurd h9 hk)
 ·exact hs
theorem AgT.lens {ts ts' : List Tm} {h g h' : List UInt8} {x : Int} (k : AgT ts h g h' x ts') : ts.length≤ts'.length∧ts'.length≤ts.length + 1:=by
 rcases k with ⟨i,j,o,q,t,_,_,_,_,_,_,_,_,_,m⟩ | ⟨_,_,_,rfl⟩
 ·exact ⟨m.len.1,m.len.2.1⟩
 ·exact ⟨Nat.le_refl _,Nat.le_succ _⟩
theorem AgT.len {ts ts' : List Tm} {h g h' : List UInt8} {x : Int} (k : AgT ts h g h' x ts') : h'.length = 16:=by
  rcases k with ⟨i,j,o,q,t,_,_,_,_,_,_,_,_,rfl,m⟩ | ⟨_,_,rfl,rfl⟩ <;> rfl
theorem AgT.wf6 {ts ts' : List Tm} {h g h' : List UInt8} {x : Int} (hw : Wf6 ts) (k : AgT ts h g h' x ts') : Wf6 ts':=by
 rcases k with ⟨i,j,o,q,t,hi,_,_,_,_,_,ho,_,_,m⟩ | ⟨_,_,_,rfl⟩
 ·exact m.wf6 hw ⟨by show 0≤((min i o : Nat) : Int); omega,by show ((min i o : Nat) : Int) < _; omega⟩ ⟨by show 0≤((max i o : Nat) : Int); omega,by show ((max i o : Nat) : Int) < _; omega⟩ (by show ByteArray.empty.size≤_; decide)
 ·exact hw
theorem AgT.sel6 {ts ts' : List Tm} {h g h' : List UInt8} {x : Int} (hs : Sel6 ts) (k : AgT ts h g h' x ts') : Sel6 ts':=by
 rcases k with ⟨i,j,o,q,t,hi,_,_,_,_,_,ho,_,_,m⟩ | ⟨_,_,_,rfl⟩
 ·exact hs.made m (fun h9 => absurd (show (4 : Int) = 6 from h9) (by decide))
 ·exact hs
theorem SealT.lens {ts ts' : List Tm} {h la lp out : List UInt8} {nu x : Int} (k : SealT ts h nu la lp out x ts') : ts.length≤ts'.length∧ts'.length≤ts.length + 1:=by
 rcases k with ⟨_,_,_,rfl⟩ | ⟨k,_,_,⟨_,_,_,rfl⟩ | ⟨_,_,_,_,rfl⟩ | ⟨_,_,_,i,m,_⟩⟩
 ·exact ⟨Nat.le_refl _,Nat.le_succ _⟩
 ·exact ⟨Nat.le_refl _,Nat.le_succ _⟩
 ·exact ⟨Nat.le_refl _,Nat.le_succ _⟩
 ·exact ⟨m.len.1,m.len.2.1⟩
theorem SealT.out {ts ts' : List Tm} {h la lp out : List UInt8} {nu x : Int} (k : SealT ts h nu la lp out x ts') : out.length≤65552:=by
 rcases k with ⟨_,_,rfl,_⟩ | ⟨k,_,_,⟨_,_,rfl,_⟩ | ⟨_,_,_,rfl,_⟩ | ⟨_,_,h9,i,m,rfl⟩⟩
 ·exact Nat.zero_le _
 ·exact Nat.zero_le _
 ·exact Nat.zero_le _
 ·rw [List.length_append,List.length_replicate]; show lp.length + 16≤_; omega
theorem SealT.wf6 {ts ts' : List Tm} {h la lp out : List UInt8} {nu x : Int} (hw : Wf6 ts) (k : SealT ts h nu la lp out x ts') : Wf6 ts':=by
 rcases k with ⟨_,_,_,rfl⟩ | ⟨k,hk,_,⟨_,_,_,rfl⟩ | ⟨_,_,_,_,rfl⟩ | ⟨_,_,h9,i,m,_⟩⟩
 ·exact hw
 ·exact hw
 ·exact hw
 ·exact m.wf6 hw ⟨by show 0≤(k : Int); omega,by show (k : Int) < _; omega⟩ ⟨by show (0 : Int)≤0; decide,by show (0 : Int) < _; omega⟩ (by show (strOf lp).size≤_; rw [show (strOf lp).size = lp.length from by simp [strOf,ByteArray.size]]; omega)
theorem SealT.sel6 {ts ts' : List Tm} {h la lp out : List UInt8} {nu x : Int} (hs : Sel6 ts) (k : SealT ts h nu la lp out x ts') : Sel6 ts':=by
 rcases k with ⟨_,_,_,rfl⟩ | ⟨k,hk,_,⟨_,_,_,rfl⟩ | ⟨_,_,_,_,rfl⟩ | ⟨_,_,h9,i,m,_⟩⟩
 ·exact hs
 ·exact hs
 ·exact hs
 ·exact hs.made m (fun _ => ⟨rfl,rfl⟩)
theorem Wf6.fresh {ts : List Tm} (h : Wf6 ts) (hp : 0 < ts.length) : Wf6 (ts++[freshT]):=h.push ⟨by decide,by show (0 : Int) < _; omega⟩ ⟨by decide,by show (0 : Int) < _; omega⟩ (by decide)
theorem Sel6.fresh {ts : List Tm} (h : Sel6 ts) : Sel6 (ts++[freshT]):=h.made (i:=ts.length) (.inr ⟨.inl rfl,rfl,rfl⟩) (fun h9 => absurd (show (1 : Int) = 6 from h9) (by decide))
theorem trF_have {P : Program} {ops : Array Oper} {Q : Exit→Act→World→Prop} {w0 : World} {S : Nat→Prop} {K : Blocks} {l : List Oper} (T : PTF) (I : Act→World→Prop) {Tr : PTF} {a : Act} {w : World} (h : ∀ a w,I a w→SqF P ops Q w0 S K l T a w)
    (k : (∀ a w,I a w→SqF P ops Q w0 S K l T a w)→SqF P ops Q w0 S K l Tr a w) : SqF P ops Q w0 S K l Tr a w:=k h
theorem Hp.flip2 {w0 w : World} {S : Nat→Prop} {x y z : Nat × Obj} {L : Blocks} (h : Hp w0 S (x :: y :: z :: L) w) : Hp w0 S (y :: z :: x :: L) w:=by
  have hp : (y :: z :: x :: L).Perm (x :: y :: z :: L):=((List.Perm.swap x z L).cons y).trans (List.Perm.swap x y _)
  exact ⟨fun p hp9 => h.blk p (hp.mem_iff.1 hp9),(hp.map Prod.fst).nodup_iff.2 h.nd,h.mod⟩
section
variable {P : Program} {ops : Array Oper} {Q : Exit→Act→World→Prop} {rest : List Item} {a : Act} {w w0 : World} {n : Nat} {R : Rg} {ds : List Deferred} {S : Nat→Prop} {L K : Blocks}
variable {f : Bool} {d : Nat} {ty : TypeId} {pos : String} {af : Array Edge}
theorem r_store1M {t o b : Nat} {x y : Operand} {l : List Value} {T : TypeId} {v : Value} {L' : Blocks} (hS : StD ds n R a) (hH : Hp w0 S L w) (hx : ev R x = some (.pointer (some ⟨b,o,none⟩))) (hy : ev R y = some v) (h1 : v.oneCell' = true) (hi : Put b (.cells l.toArray T (0,0)) (.cells (spl l o [v]).toArray T (0,0)) L L') (hs : Sub K L')
  (ht : sizeB P t 1 = true) (hl : o < l.length) (hw : S b∨w0.heap.size≤b)
  (k : ∀ w',Mod (· = b) w w'→Hp w0 S L' w'→Sq P ops Q rest a w') : Sq P ops Q ((false,⟨none,.store t x y,ty,pos,af,none⟩,Kp w0 S K) :: rest) a w:=by
 have hvs : v.cells = [v].toArray:=by cases v <;> first | rfl | (simp [Value.oneCell'] at h1)
 have hl' : o + [v].length≤l.length:=by simp; omega
 obtain ⟨w',hr,hq⟩:=run_storeVar (P:=P) (w:=w) (t:=t) (b:=b) (o:=o) (l:=l) (T:=T) (v:=v) (by rw [hvs]; exact ht) (hH.blk _ hi.old) (by rw [hvs]; simpa using h1) (by rw [hvs]; exact hl')
 rw [hvs,spl_wr hl'] at hq
 have hH':=hH.turned hi hq hw
 exact Sq.skip (w':=w') rfl (by simp [execOp,hS.val hx,hS.val hy,Instr.storeAt,Instr.sureAddr,hr]) (hH'.kp hs) (k w' hq.mod hH')
end
end Go.Sym
/- Sealed texts on a shelf: one more. -/
namespace Go.Sym
open Go
theorem Todo.koTo {e : Nat} {F : Nat→Prop} {w0 w : World} {v : Value} {ls : List (List UInt8)} {L : Blocks} (h : Todo 0 e F w0 v ls) (hH : Hp w0 F L w) (hL : ∀ p∈L,∀ l fz,p.2 ≠ .cells l e fz) : ∃ xs,KO (fun x => F x∨∃ m c,v = .slice (some ⟨x,0,none⟩) m c) w0 L 1 e w v ls.length xs∧BL (fun x => F x∨∃ m c,v = .slice (some ⟨x,0,none⟩) m c) w0 xs ls:=by
 rcases h with ⟨rfl,rfl⟩ | ⟨b,cap,l,rfl,_,h2,hb,h3,h4,h5⟩
 ·exact ⟨[],.inl ⟨rfl,rfl,rfl⟩,.nil⟩
 ·have hbw:=hH.mod.heap_some hb h2
  refine ⟨l.take ls.length,.inr ⟨b,cap,l,rfl,.inl (.inr ⟨_,_,rfl⟩),fun p hp e9 => ?_,hbw,h3,h4,by rw [Nat.mul_one]⟩,h5.go (Mod.refl _ _) (fun x hx => ?_)⟩
  ·have h9:=hH.blk p hp
   rw [e9,hbw] at h9
   exact hL p hp _ _ (Option.some.inj h9).symm
  ·rcases hx with hx | ⟨m,c,hx⟩
   ·exact .inl (.inl hx)
   ·cases hx; exact .inl (.inr rfl)
theorem KO.wide {S S' : Nat→Prop} {w0 w w' : World} {L L' : Blocks} {es : Nat} {e : TypeId} {v : Value} {m : Nat} {xs : List Value} (h : KO S w0 L es e w v m xs) (hS : ∀ x,S x→S' x) (hE : ∀ (b : Nat) (l : Array Value),w.heap[b]? = some (Obj.cells l e (0,0))→w'.heap[b]? = some (Obj.cells l e (0,0))) (hL : ∀ b,(∃ m c,v = .slice (some ⟨b,0,none⟩) m c)→∀ p∈L',p.1≠b) : KO S' w0 L' es e w' v m xs:=by
 rcases h with h | ⟨b,cap,l,rfl,h1,h2,h3,h4⟩
 ·exact .inl h
 ·exact .inr ⟨b,cap,l,rfl,h1.imp (hS b) id,hL b ⟨_,_,rfl⟩,hE b _ h3,h4⟩
theorem Todo.ofKO {e m : Nat} {FT F' : Nat→Prop} {w0 w : World} {L : Blocks} {v' y : Value} {xs : List Value} {ls : List (List UInt8)} {u : List UInt8} (hk : KO FT w0 L 1 e w v' (m + 1) (xs++[y])) (hm : m = ls.length) (hbl : BL FT w0 xs ls) (hM : Mod FT w0 w) (hF : ∀ x,F' x→FT x∨w0.heap.size≤x)
  (hnF : ∀ (b : Nat) (l : List Value),w.heap[b]? = some (.cells l.toArray e (0,0))→(∀ p∈L,p.1≠b)→¬ F' b) (hy : ∀ b',(∃ m c,v' = .slice (some ⟨b',0,none⟩) m c)→BsF (fun x => F' x∨x = b') w y u) : Todo 0 e F' w v' (ls++[u]):=by
 subst hm
 rcases hk with ⟨_,h,_⟩ | ⟨b,cap,l,rfl,h1,h2,h3,h4,h5,h6⟩
 ·omega
 ·refine .inr ⟨b,cap,l,by rw [List.length_append]; rfl,Nat.zero_le _,hnF b l h3 h2,h3,h4,by rw [List.length_append]; exact h5,?_⟩
  rw [List.length_append,List.length_singleton]
  rw [Nat.mul_one] at h6
  rw [h6]
  exact (hbl.go hM (fun x hx => hx.elim (hF x) (fun e9 => by rw [e9]; exact h1))).snoc (hy b ⟨_,_,rfl⟩)
theorem BV.todo {P : Program} {TV TT TH TV2 TT2 B e : Nat} {F : Nat→Prop} {w w' : World} {b r : Nat} {V : VB} {R : RB} {tv tr : List Tm} {v : Value} {ls : List (List UInt8)} (h : BV P TV TT TH TV2 TT2 w b V tv r R tr) (hT : Todo B e F w v ls) (hM : Mod (fun z => ∃ m c,v = .slice (some ⟨z,0,none⟩) m c) w w') (he : e ∉ [TV,TT,TV2,TT2]) : BV P TV TT TH TV2 TT2 w' b V tv r R tr:=by
 simp only [List.mem_cons,List.not_mem_nil,or_false,not_or] at he
 refine ⟨h.v.mod hM ?_,h.r.mod hM ?_,h.t1⟩
 ·rintro x hx ⟨m,c,e9⟩
  obtain ⟨_,l,h9⟩:=hT.lt e9
  exact h.v.notF h9 he.1 he.2.1 hx
 ·rintro x hx ⟨m,c,e9⟩
  obtain ⟨_,l,h9⟩:=hT.lt e9
  exact h.r.notF h9 he.2.2.1 he.2.2.2 hx
section
variable {P : Program} {ops : Array Oper} {Q : Exit→Act→World→Prop} {rest : List Item} {a : Act} {w w0 : World} {n : Nat} {R : Rg} {ds : List Deferred} {S : Nat→Prop} {L K : Blocks}
variable {f : Bool} {d : Nat} {ty : TypeId} {pos : String} {af : Array Edge}
theorem r_append_KB {t t2 e es by' m k : Nat} {x y : Operand} {v vy : Value} {xs new : List Value} (hS : StD ds n R a) (hH : Hp w0 S L w) (hs : Sub K L) (hx : ev R x = some v) (hy : ev R y = some vy) (hO : KO S w0 L es e w v m xs)
  (he : elB P t = some (e,es,by')) (h2 : notInt P t2 = true) (hsrc : Src P es w vy k new) (hbytes : (m + k) * by'≤140737488355328) (hlt : Nat.blt d n = true)
  (kk : ∀ (a' : Act) (w' : World) (v' : Value),KO S w0 L es e w' v' (m + k) (xs++new)→(∀ b',(∃ m c,v' = .slice (some ⟨b',0,none⟩) m c)→(∃ m c,v = .slice (some ⟨b',0,none⟩) m c)∨w.heap.size≤b')→Mod (fun z => ∃ m c,v = .slice (some ⟨z,0,none⟩) m c) w w'→StD ds n (up R d v') a'→Hp w0 S L w'→Sq P ops Q rest a' w') :
  Sq P ops Q ((false,⟨some d,.call ⟨.builtin .append,#[x,y],#[t,t2]⟩,ty,pos,af,none⟩,Kp w0 S K) :: rest) a w:=by
 rcases hO with ⟨rfl,rfl,rfl⟩ | ⟨b,cap,l,rfl,hB,hne,hb,hl,hm,rfl⟩
 ·by_cases hk : k = 0
  ·subst hk
   have hn : new = []:=List.eq_nil_of_length_eq_zero (by have:=hsrc.size; omega)
   subst hn
   have hr : (Builtin.append_ #[t,t2] ty #[.slice none 0 0,vy]).run P w = .ok (.slice none 0 0) w:=by
    obtain ⟨i,z,hu,hi,hz,rfl,rfl,hzs,hby⟩:=elB_parts he
    unfold notInt at h2
    split at h2
    ·cases h2
    ·rename_i u2 hn hu2
     have hz2 : (u2 matches .int _) = false:=by cases u2 <;> simp_all
     simp only [Builtin.append_,List.getElem?_toArray,List.getElem?_cons_zero,List.getElem?_cons_succ,Sem.run_bind,run_underlying hu,Result.andThen_ok,sizeOf,typeInfo,run_program,hi,Sem.run_pure,run_underlying hu2]
     simp only [Bool.false_eq_true,if_false,hsrc.len w rfl,Result.andThen_ok,Nat.zero_add,Nat.le_refl,if_true,Bool.not_false,hsrc.cells w rfl,Sem.run_pure,Sem.run_bind]
    ·cases h2
   exact Sq.done rfl (run_append_op hS hx hy hr) (hH.kp hs) (kk _ w _ (.inl ⟨rfl,rfl,rfl⟩) (fun b' h => .inl h) (Mod.refl _ _) (hS.put hlt _) hH)
  ·have hold : Sl es w (.slice none 0 0) [] 0 none 0:=⟨rfl,by simp,Nat.le_refl _,fun i u h => by simp at h,fun _ => rfl⟩
   obtain ⟨c,zs,hr,hc,hlen⟩:=run_append_grow' (P:=P) (ty:=ty) he h2 hsrc hold (by omega) hbytes
   have hHd:=(hH.drew).alloc (.cells ([]++new++zs).toArray e (0,0))
   have hHL:=hHd.del .here
   refine Sq.done rfl (run_append_op hS hx hy hr) (hHL.kp hs) (kk _ _ _ (.inr ⟨w.heap.size,c,_,rfl,.inr hH.mod.size,fun p hp e => ?_,hHd.get .here,hlen,hc,?_⟩) (fun b' ⟨_,_,h⟩ => .inr (by cases h; exact Nat.le_refl _)) (((Ext.drew w).trans (Ext.alloc w.drew _)).mono (fun _ h => h.elim)) (hS.put hlt _) hHL)
   ·have:=hH.lt p hp; omega
   ·have : ([]++new : List Value).length = (0 + k) * es:=by simp [hsrc.size]
    rw [←this,List.take_left]
 ·obtain ⟨w',b',c,l2,hr,hmod,hb',hhb,hl2,hc,htk⟩:=run_append_blk (P:=P) (ty:=ty) he h2 hb hl hm hsrc hbytes
  have hH' : Hp w0 S L w':=⟨fun p hp => (hmod.block p.1 (hH.lt p hp) (hne p hp)).trans (hH.blk p hp),hH.nd,hH.mod.trans hmod (fun c hc hcb => by
   subst hcb; rcases hB with h | h
   ·exact h
   ·omega)⟩
  refine Sq.done rfl (run_append_op hS hx hy hr) (hH'.kp hs) (kk _ w' _ (.inr ⟨b',c,l2,rfl,?_,?_,hhb,hl2,hc,htk⟩) (fun b9 ⟨_,_,h⟩ => by cases h; exact hb'.elim (fun h9 => .inl ⟨_,_,by rw [h9]⟩) .inr) (hmod.mono (fun x h => by have h9 : x = b:=h; subst h9; exact ⟨_,_,rfl⟩)) (hS.put hlt _) hH')
  ·rcases hb' with rfl | h
   ·exact hB
   ·exact .inr (Nat.le_trans hH.mod.size h)
  ·intro p hp
   rcases hb' with rfl | h
   ·exact hne p hp
   ·have:=hH.lt p hp; omega
end
end Go.Sym
/- Acts of nine fields in memory. -/
namespace Go.Sym
open Go
theorem wf_i64 {z : Int} (h : (Lit.int .i64 z).wf = true) : -9223372036854775808≤z∧z≤9223372036854775807:=by
  simp only [Lit.wf,Bool.and_eq_true,decide_eq_true_eq] at h
  exact ⟨h.1,h.2⟩
structure Ac9 where
  k : Int
  a : Int
  b : Int
  c : Int
  s : ByteArray
  nu : Int
  va : Value
  vq : Value
  la : List UInt8
  lq : List UInt8
  o : Bool
def Ac9.cells (x : Ac9) : List Value:=[.int .i64 x.k,.int .i64 x.a,.int .i64 x.b,.int .i64 x.c,.string x.s,.int .i64 x.nu,x.va,x.vq,.bool x.o]
structure Ac9.Fine (x : Ac9) (w : World) : Prop where
  s : x.s.size≤9223372036854775807
  nu : -9223372036854775808≤x.nu∧x.nu≤9223372036854775807
  la : x.la.length≤1048576
  lq : x.lq.length≤1048576
  va : Bs w x.va x.la
  vq : Bs w x.vq x.lq
/-- a row of acts in memory -/
def Acs9 (w : World) (q : Option Addr) (acs : List Ac9) : Prop := ∀ (i : Nat) (x : Ac9),acs[i]? = some x→x.Fine w∧∃ b o,q = some ⟨b,o,none⟩∧∀ j u,x.cells[j]? = some u→w.cell? ⟨b,o + i * 9 + j,none⟩ = some u
section
variable {P : Program} {ops : Array Oper} {Q : Exit→Act→World→Prop} {rest : List Item} {a : Act} {w w0 : World} {n : Nat} {R : Rg} {ds : List Deferred} {S : Nat→Prop} {L K : Blocks}
variable {d : Nat} {ty : TypeId} {pos : String} {af : Array Edge}
/-- as r_box,and what becomes of the world -/
theorem r_boxE {t : Nat} {x : Operand} {v : Value} {cs : List Value} (hS : StD ds n R a) (hH : Hp w0 S L w) (hs : Sub K L) (hx : ev R x = some v) (hv : v.cells = cs.toArray) (hlt : Nat.blt d n = true)
    (k : ∀ a' w' b,w0.heap.size≤b→w.heap.size≤b→Ext w w'→StD ds n (up R d (.pointer (some ⟨b,0,none⟩))) a'→Hp w0 S ((b,.cells cs.toArray t (0,0)) :: L) w'→Sq P ops Q rest a' w') : Sq P ops Q ((false,⟨some d,.box t x,ty,pos,af,none⟩,Kp w0 S K) :: rest) a w:=by
  have hH':=hH.alloc (.cells cs.toArray t (0,0))
  have hK' : Kp w0 S K (w.alloc (.cells cs.toArray t (0,0))):=⟨fun p hp => hH'.blk p (List.mem_cons_of_mem _ (hs.mem p hp)),hH'.mod⟩
  exact Sq.done (w':=w.alloc (.cells cs.toArray t (0,0))) rfl (by simp [execOp,hS.val hx,Instr.box,newVar,newRow,hv]) hK' (k _ _ w.heap.size hH.mod.size (Nat.le_refl _) (Ext.alloc w _) (hS.put hlt _) hH')
end
end Go.Sym
