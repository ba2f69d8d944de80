/- Two vaults under any calls answer alike. Part Part11: walks and lemmas of the proof. -/
import Derived.Test.YtcjmehononbadaaDoorPart10
import Derived.Test.YtcjmehononbadaaDoorSym6
namespace Go.Proofs.YtcjmehononbadaaDoor
open Go.Sym

theorem Fc.ag36 : agB Tryd.prog 36 = some 9:=by kernel_rfl
theorem Fc.bsl57_1 : bslB Tryd.prog 57 1 = some (26,16,[.int .u8 0,.int .u8 0,.int .u8 0,.int .u8 0,.int .u8 0,.int .u8 0,.int .u8 0,.int .u8 0,.int .u8 0,.int .u8 0,.int .u8 0,.int .u8 0,.int .u8 0,.int .u8 0,.int .u8 0,.int .u8 0]):=by kernel_rfl
theorem Fc.elH : elB Tryd.prog 57 = some (26,16,16):=by kernel_rfl
theorem Fc.fn10 : isFn Tryd.prog 10 = true:=by kernel_rfl
theorem Fc.fn11 : isFn Tryd.prog 11 = true:=by kernel_rfl
theorem Fc.fn12 : isFn Tryd.prog 12 = true:=by kernel_rfl
theorem Fc.fn13 : isFn Tryd.prog 13 = true:=by kernel_rfl
theorem Fc.fn14 : isFn Tryd.prog 14 = true:=by kernel_rfl
theorem Fc.fn15 : isFn Tryd.prog 15 = true:=by kernel_rfl
theorem Fc.fn17 : isFn Tryd.prog 17 = true:=by kernel_rfl
theorem Fc.fn18 : isFn Tryd.prog 18 = true:=by kernel_rfl
theorem Fc.fn33 : isFn Tryd.prog 33 = true:=by kernel_rfl
theorem Fc.fn34 : isFn Tryd.prog 34 = true:=by kernel_rfl
theorem Fc.fn35 : isFn Tryd.prog 35 = true:=by kernel_rfl
theorem Fc.fn36 : isFn Tryd.prog 36 = true:=by kernel_rfl
theorem Fc.fn37 : isFn Tryd.prog 37 = true:=by kernel_rfl
theorem Fc.fn38 : isFn Tryd.prog 38 = true:=by kernel_rfl
theorem Fc.fn39 : isFn Tryd.prog 39 = true:=by kernel_rfl
theorem Fc.fn40 : isFn Tryd.prog 40 = true:=by kernel_rfl
theorem Fc.fn41 : isFn Tryd.prog 41 = true:=by kernel_rfl
theorem Fc.fn42 : isFn Tryd.prog 42 = true:=by kernel_rfl
theorem Fc.fn43 : isFn Tryd.prog 43 = true:=by kernel_rfl
theorem Fc.fn44 : isFn Tryd.prog 44 = true:=by kernel_rfl
theorem Fc.fn45 : isFn Tryd.prog 45 = true:=by kernel_rfl
theorem Fc.fn7 : isFn Tryd.prog 7 = true:=by kernel_rfl
theorem Fc.fn8 : isFn Tryd.prog 8 = true:=by kernel_rfl
theorem Fc.fn9 : isFn Tryd.prog 9 = true:=by kernel_rfl
theorem Fc.fo36_0 : foff Tryd.prog 36 0 = some 0:=by kernel_rfl
theorem Fc.fo36_2 : foff Tryd.prog 36 2 = some 2:=by kernel_rfl
theorem Fc.fo36_4 : foff Tryd.prog 36 4 = some 4:=by kernel_rfl
theorem Fc.inf5 : (Tryd.prog.info? 5).isSome = true:=by kernel_rfl
theorem Fc.isBool4 : isBool Tryd.prog 4 = true:=by kernel_rfl
theorem Fc.niH : notInt Tryd.prog 57 = true:=by kernel_rfl
theorem Fc.sz57 : sizeB Tryd.prog 57 1 = true:=by kernel_rfl

abbrev BW (w : World) (b : Nat) (V : VB) (tv : List Tm) (r : Nat) (R : RB) (tr : List Tm) : Prop:=BV Tryd.prog 41 64 26 80 77 w b V tv r R tr
def FS (b : Nat) (V : VB) (r : Nat) (R : RB) (sh hb : Nat) : Nat→Prop:=fun x => V.F b x∨R.F r x∨x = sh∨x = hb
def FT (b : Nat) (V : VB) (r : Nat) (R : RB) (sh hb : Nat) (sv : Value) : Nat→Prop:=fun x => FS b V r R sh hb x∨∃ m c,sv = .slice (some ⟨x,0,none⟩) m c
/-- both vaults and the shelf,between two acts -/
structure PL (w : World) (b : Nat) (V : VB) (r : Nat) (R : RB) (ts : List Tm) (sh hb hcap : Nat) (hl : List Value) (hs : List (List UInt8)) (sv : Value) (ss : List (List UInt8)) : Prop where
  bv : BW w b V ts r R ts
  tp : 0 < ts.length
  wf : Wf6 ts
  sel : Sel6 ts
  top : w.heap[sh]? = some (.cells ([.slice (some ⟨hb,0,none⟩) hs.length hcap,sv] : List Value).toArray 59 (0,0))
  row : w.heap[hb]? = some (.cells hl.toArray 26 (0,0))
  len : hl.length = hcap * 16
  cap : hs.length≤hcap
  take : hl.take (hs.length * 16) = hs.flatMap hcells
  six : ∀ h∈hs,h.length = 16
  pos : 0 < hs.length
  td : Todo 0 22 (FS b V r R sh hb) w sv ss
  sz : ∀ s∈ss,s.length≤1099511627776
theorem PL.ne {w : World} {b : Nat} {V : VB} {r : Nat} {R : RB} {ts : List Tm} {sh hb hcap : Nat} {hl : List Value} {hs : List (List UInt8)} {sv : Value} {ss : List (List UInt8)} (h : PL w b V r R ts sh hb hcap hl hs sv ss) : sh≠hb:=fun e => by
  have h1:=h.top
  rw [e,h.row] at h1
  injection h1 with h1
  injection h1 with _ h2
  revert h2; decide
theorem PL.shf {w : World} {b : Nat} {V : VB} {r : Nat} {R : RB} {ts : List Tm} {sh hb hcap : Nat} {hl : List Value} {hs : List (List UInt8)} {sv : Value} {ss : List (List UInt8)} (h : PL w b V r R ts sh hb hcap hl hs sv ss) : Shf 59 26 w sh hb hcap hl hs sv ss :=
  ⟨h.top,h.row,h.len,h.cap,h.take,h.six,h.pos,h.td.slg.go (Mod.refl _ _) (fun _ h => h.elim),h.ne⟩

/-- what an act leaves behind -/
def Next (w0 : World) (b : Nat) (V : VB) (r : Nat) (R : RB) (ts : List Tm) (sh hb : Nat) (hs : List (List UInt8)) (sv : Value) (ss : List (List UInt8)) (w' : World) : Prop :=
  ∃ (V' : VB) (R' : RB) (ts' : List Tm) (hb' hcap' : Nat) (hl' : List Value) (hs' : List (List UInt8)) (sv' : Value) (ss' : List (List UInt8)),
    PL w' b V' r R' ts' sh hb' hcap' hl' hs' sv' ss'∧ts'.length≤ts.length + 1∧hs'.length≤hs.length + 1∧ss'.length≤ss.length + 1∧Mod (FT b V r R sh hb sv) w0 w'∧∀ x,FT b V' r R' sh hb' sv' x→FT b V r R sh hb sv x∨w0.heap.size≤x
theorem known_eq {ts : List Tm} {h : List UInt8} {kb : Bool} {x9 : Int} (hk : kb = true↔∃ i,i < ts.length∧h = nm i) (hx : (∃ i : Nat,i < ts.length∧h = nm i∧x9 = i)∨((∀ i : Nat,i < ts.length→h≠nm i)∧x9 = -1)) : (kb == decide (x9≥0)) = true:=by
 rcases hx with ⟨i,h1,h2,rfl⟩ | ⟨h1,rfl⟩
 ·rw [hk.2 ⟨i,h1,h2⟩,decide_eq_true (by omega)]; rfl
 ·have : kb = false:=by cases kb with
   | false => rfl
   | true => obtain ⟨i,h2,h3⟩:=hk.1 rfl; exact absurd h3 (h1 i h2)
  rw [this,decide_eq_false (by omega)]; rfl
theorem FS.mono {b : Nat} {V : VB} {r : Nat} {R : RB} {sh hb : Nat} {sv : Value} : ∀ x,FS b V r R sh hb x→FT b V r R sh hb sv x:=fun _ h => .inl h
/-- the state behind an act that adds nothing to the sealed texts -/
theorem PL.next {w0 w : World} {b : Nat} {V V' : VB} {r : Nat} {R R' : RB} {ts ts' : List Tm} {sh hb hcap hb' hcap' : Nat} {hl hl' : List Value} {hs hs' : List (List UInt8)} {sv : Value} {ss : List (List UInt8)} (h : PL w0 b V r R ts sh hb hcap hl hs sv ss)
  (bv : BW w b V' ts' r R' ts') (wf : Wf6 ts') (sel : Sel6 ts') (top : w.heap[sh]? = some (.cells ([.slice (some ⟨hb',0,none⟩) hs'.length hcap',sv] : List Value).toArray 59 (0,0))) (row : w.heap[hb']? = some (.cells hl'.toArray 26 (0,0)))
  (len : hl'.length = hcap' * 16) (cap : hs'.length≤hcap') (take : hl'.take (hs'.length * 16) = hs'.flatMap hcells) (six : ∀ h∈hs',h.length = 16) (pos : 0 < hs'.length) (l0 : ts.length≤ts'.length) (l1 : ts'.length≤ts.length + 1) (l2 : hs'.length≤hs.length + 1)
  (hM : Mod (FS b V r R sh hb) w0 w) (hV : ∀ x,V'.F b x→FS b V r R sh hb x∨w0.heap.size≤x) (hR : ∀ x,R'.F r x→FS b V r R sh hb x∨w0.heap.size≤x) (hhb : FS b V r R sh hb hb'∨w0.heap.size≤hb') : Next w0 b V r R ts sh hb hs sv ss w:=by
 have hF : ∀ x,FS b V' r R' sh hb' x→FS b V r R sh hb x∨w0.heap.size≤x:=by
  rintro x (hx | hx | rfl | rfl)
  ·exact hV x hx
  ·exact hR x hx
  ·exact .inl (.inr (.inr (.inl rfl)))
  ·exact hhb
 refine ⟨V',R',ts',hb',hcap',hl',hs',sv,ss,⟨bv,Nat.lt_of_lt_of_le h.tp l0,wf,sel,top,row,len,cap,take,six,pos,h.td.to hM hF,h.sz⟩,l1,l2,Nat.le_succ _,hM.mono FS.mono,?_⟩
 rintro x (hx | hx)
 ·exact (hF x hx).elim (fun h9 => .inl (.inl h9)) .inr
 ·exact .inl (.inr hx)
/-- the state behind an act that adds a sealed text -/
theorem PL.more {w0 w : World} {b : Nat} {V V' : VB} {r : Nat} {R R' : RB} {ts ts' : List Tm} {sh hb hcap : Nat} {hl : List Value} {hs : List (List UInt8)} {sv sv' : Value} {ss : List (List UInt8)} {u : List UInt8} (h : PL w0 b V r R ts sh hb hcap hl hs sv ss)
  (bv : BW w b V' ts' r R' ts') (wf : Wf6 ts') (sel : Sel6 ts') (top : w.heap[sh]? = some (.cells ([.slice (some ⟨hb,0,none⟩) hs.length hcap,sv'] : List Value).toArray 59 (0,0))) (row : w.heap[hb]? = some (.cells hl.toArray 26 (0,0)))
  (l0 : ts.length≤ts'.length) (l1 : ts'.length≤ts.length + 1) (hu : u.length≤1099511627776) (hM : Mod (FT b V r R sh hb sv) w0 w) (hV : ∀ x,V'.F b x→FT b V r R sh hb sv x∨w0.heap.size≤x) (hR : ∀ x,R'.F r x→FT b V r R sh hb sv x∨w0.heap.size≤x)
  (td : Todo 0 22 (FS b V' r R' sh hb) w sv' (ss++[u])) (hfr : ∀ b',(∃ m c,sv' = .slice (some ⟨b',0,none⟩) m c)→(∃ m c,sv = .slice (some ⟨b',0,none⟩) m c)∨w0.heap.size≤b') : Next w0 b V r R ts sh hb hs sv ss w:=by
 refine ⟨V',R',ts',hb,hcap,hl,hs,sv',ss++[u],⟨bv,Nat.lt_of_lt_of_le h.tp l0,wf,sel,top,row,h.len,h.cap,h.take,h.six,h.pos,td,?_⟩,l1,Nat.le_succ _,by rw [List.length_append]; exact Nat.le_refl _,hM,?_⟩
 ·intro s hs
  rcases List.mem_append.1 hs with hs | hs
  ·exact h.sz s hs
  ·rw [List.mem_singleton.1 hs]; exact hu
 ·rintro x ((hx | hx | rfl | rfl) | hx)
  ·exact hV x hx
  ·exact hR x hx
  ·exact .inl (.inl (.inr (.inr (.inl rfl))))
  ·exact .inl (.inl (.inr (.inr (.inr rfl))))
  ·exact (hfr x hx).imp .inr id
theorem PL.same {w0 w : World} {b : Nat} {V : VB} {r : Nat} {R : RB} {ts : List Tm} {sh hb hcap : Nat} {hl : List Value} {hs : List (List UInt8)} {sv : Value} {ss : List (List UInt8)} (h : PL w0 b V r R ts sh hb hcap hl hs sv ss) (k : Ext w0 w) : Next w0 b V r R ts sh hb hs sv ss w :=
  h.next (hs':=hs) (h.bv.ext k) h.wf h.sel (k.heap_some h.top) (k.heap_some h.row) h.len h.cap h.take h.six h.pos (Nat.le_refl _) (Nat.le_succ _) (Nat.le_succ _) (k.mono (fun _ h => h.elim)) (fun x hx => .inl (.inl hx)) (fun x hx => .inl (.inr (.inl hx))) (.inl (.inr (.inr (.inr rfl))))

def DT_0 : PTF:=PTF.ofPlan [(false,14,[]),(false,15,[]),(false,16,[]),(false,17,[])] .nil
def DT_1 : PTF:=PTF.ofPlan [(false,13,[]),(false,15,[]),(false,16,[]),(false,17,[])] .nil
def DT_2 : PTF:=PTF.ofPlan [] (.fork (PTF.ofPlan [(false,13,[])] DT_0) (PTF.ofPlan [(false,14,[])] DT_1))
def DT_3 : PTF:=PTF.ofPlan [(false,12,[]),(false,15,[]),(false,16,[]),(false,17,[])] .nil
def DT_4 : PTF:=PTF.ofPlan [] (.fork (PTF.ofPlan [(false,12,[])] DT_0) (PTF.ofPlan [(false,14,[])] DT_3))
def DT_5 : PTF:=PTF.ofPlan [] (.fork (PTF.ofPlan [(false,12,[])] DT_1) (PTF.ofPlan [(false,13,[])] DT_3))
def DT_6 : PTF:=PTF.ofPlan [] (.fork (PTF.ofPlan [(false,12,[])] DT_2) (.fork (PTF.ofPlan [(false,13,[])] DT_4) (PTF.ofPlan [(false,14,[])] DT_5)))
def DT_7 : PTF:=PTF.ofPlan [(false,11,[]),(false,15,[]),(false,16,[]),(false,17,[])] .nil
def DT_8 : PTF:=PTF.ofPlan [] (.fork (PTF.ofPlan [(false,11,[])] DT_0) (PTF.ofPlan [(false,14,[])] DT_7))
def DT_9 : PTF:=PTF.ofPlan [] (.fork (PTF.ofPlan [(false,11,[])] DT_1) (PTF.ofPlan [(false,13,[])] DT_7))
def DT_10 : PTF:=PTF.ofPlan [] (.fork (PTF.ofPlan [(false,11,[])] DT_2) (.fork (PTF.ofPlan [(false,13,[])] DT_8) (PTF.ofPlan [(false,14,[])] DT_9)))
def DT_11 : PTF:=PTF.ofPlan [] (.fork (PTF.ofPlan [(false,11,[])] DT_3) (PTF.ofPlan [(false,12,[])] DT_7))
def DT_12 : PTF:=PTF.ofPlan [] (.fork (PTF.ofPlan [(false,11,[])] DT_4) (.fork (PTF.ofPlan [(false,12,[])] DT_8) (PTF.ofPlan [(false,14,[])] DT_11)))
def DT_13 : PTF:=PTF.ofPlan [] (.fork (PTF.ofPlan [(false,11,[])] DT_5) (.fork (PTF.ofPlan [(false,12,[])] DT_9) (PTF.ofPlan [(false,13,[])] DT_11)))
def DT_14 : PTF:=PTF.ofPlan [] (.fork (PTF.ofPlan [(false,11,[])] DT_6) (.fork (PTF.ofPlan [(false,12,[])] DT_10) (.fork (PTF.ofPlan [(false,13,[])] DT_12) (PTF.ofPlan [(false,14,[])] DT_13))))
def DT_15 : PTF:=PTF.ofPlan [(false,7,[]),(false,11,[]),(false,15,[]),(false,16,[]),(false,17,[])] .nil
def DT_16 : PTF:=PTF.ofPlan [] (.fork (PTF.ofPlan [(false,7,[])] DT_8) (PTF.ofPlan [(false,14,[])] DT_15))
def DT_17 : PTF:=PTF.ofPlan [] (.fork (PTF.ofPlan [(false,7,[])] DT_9) (PTF.ofPlan [(false,13,[])] DT_15))
def DT_18 : PTF:=PTF.ofPlan [] (.fork (PTF.ofPlan [(false,7,[])] DT_10) (.fork (PTF.ofPlan [(false,13,[])] DT_16) (PTF.ofPlan [(false,14,[])] DT_17)))
def DT_19 : PTF:=PTF.ofPlan [] (.fork (PTF.ofPlan [(false,7,[])] DT_11) (PTF.ofPlan [(false,12,[])] DT_15))
def DT_20 : PTF:=PTF.ofPlan [] (.fork (PTF.ofPlan [(false,7,[])] DT_12) (.fork (PTF.ofPlan [(false,12,[])] DT_16) (PTF.ofPlan [(false,14,[])] DT_19)))
def DT_21 : PTF:=PTF.ofPlan [] (.fork (PTF.ofPlan [(false,7,[])] DT_13) (.fork (PTF.ofPlan [(false,12,[])] DT_17) (PTF.ofPlan [(false,13,[])] DT_19)))
def DT_22 : PTF:=PTF.ofPlan [] (.fork (PTF.ofPlan [(false,7,[])] DT_14) (.fork (PTF.ofPlan [(false,12,[])] DT_18) (.fork (PTF.ofPlan [(false,13,[])] DT_20) (PTF.ofPlan [(false,14,[])] DT_21))))
def DT_23 : PTF:=PTF.ofPlan [(false,3,[]),(false,7,[]),(false,11,[]),(false,15,[]),(false,16,[]),(false,17,[])] .nil
def DT_24 : PTF:=PTF.ofPlan [] (.fork (PTF.ofPlan [(false,3,[])] DT_16) (PTF.ofPlan [(false,14,[])] DT_23))
def DT_25 : PTF:=PTF.ofPlan [] (.fork (PTF.ofPlan [(false,3,[])] DT_17) (PTF.ofPlan [(false,13,[])] DT_23))
def DT_26 : PTF:=PTF.ofPlan [] (.fork (PTF.ofPlan [(false,3,[])] DT_18) (.fork (PTF.ofPlan [(false,13,[])] DT_24) (PTF.ofPlan [(false,14,[])] DT_25)))
def DT_27 : PTF:=PTF.ofPlan [] (.fork (PTF.ofPlan [(false,3,[])] DT_19) (PTF.ofPlan [(false,12,[])] DT_23))
def DT_28 : PTF:=PTF.ofPlan [] (.fork (PTF.ofPlan [(false,3,[])] DT_20) (.fork (PTF.ofPlan [(false,12,[])] DT_24) (PTF.ofPlan [(false,14,[])] DT_27)))
def DT_29 : PTF:=PTF.ofPlan [] (.fork (PTF.ofPlan [(false,3,[])] DT_21) (.fork (PTF.ofPlan [(false,12,[])] DT_25) (PTF.ofPlan [(false,13,[])] DT_27)))
def DT_30 : PTF:=PTF.ofPlan [(true,0,[]),(true,1,[]),(true,2,[]),(true,4,[]),(true,5,[]),(true,6,[]),(true,8,[]),(true,9,[]),(true,10,[])] (.fork (PTF.ofPlan [(false,3,[])] DT_22) (.fork (PTF.ofPlan [(false,12,[])] DT_26) (.fork (PTF.ofPlan [(false,13,[])] DT_28) (PTF.ofPlan [(false,14,[])] DT_29))))
noncomputable def dR1 : Code:=match Tryd.f22.body with
  | some (.seq _ (.seq r _)) => r
  | _ => .skip
set_option maxRecDepth 100000 in
set_option maxHeartbeats 16000000 in
theorem does_r1 (k1 k2 k3 k4 nu : Int) (s : ByteArray) (va vq : Value) (o : Bool) (b : Nat) (V : VB) (r : Nat) (R : RB) (ts : List Tm) (sh hb hcap : Nat) (hl : List Value) (hs : List (List UInt8)) (sv : Value) (ss : List (List UInt8)) (x y z : List UInt8) (hx : x = pickH hs k2) (hx16 : x.length = 16) (hy : y = pickH hs k3) (hy16 : y.length = 16) (hz : z = pickH hs k4) (hz16 : z.length = 16) (w0 : World) (hpl : PL w0 b V r R ts sh hb hcap hl hs sv ss) (b7 : Nat) (hb7 : w0.heap.size≤b7) (a : Act) (w : World) (hS : St 298 (lv [(0,.pointer (some ⟨sh,0,none⟩)),(1,.pointer (some ⟨b,0,none⟩)),(2,.pointer (some ⟨r,0,none⟩)),(7,.pointer (some ⟨b7,0,none⟩)),(8,.bool false)]) a) (hH : Hp w0 Nobody [(b7,.cells ([.int .i64 k1,.int .i64 k2,.int .i64 k3,.int .i64 k4,.string s,.int .i64 nu,va,vq,.bool o] : List Value).toArray 36 (0,0))] w) (Q : Exit→Act→World→Prop) (hQ : Steady Q) : dR1.wp Tryd.prog (Exit.then (fun a w => ∃ b9 b10 b11,w0.heap.size≤b9∧w0.heap.size≤b10∧w0.heap.size≤b11∧St 298 (lv [(0,.pointer (some ⟨sh,0,none⟩)),(1,.pointer (some ⟨b,0,none⟩)),(2,.pointer (some ⟨r,0,none⟩)),(7,.pointer (some ⟨b7,0,none⟩)),(8,.bool false),(9,.pointer (some ⟨b9,0,none⟩)),(10,.pointer (some ⟨b10,0,none⟩)),(11,.pointer (some ⟨b11,0,none⟩))]) a∧Hp w0 Nobody [(b11,.cells (hcells z).toArray 26 (0,0)),(b10,.cells (hcells y).toArray 26 (0,0)),(b9,.cells (hcells x).toArray 26 (0,0)),(b7,.cells ([.int .i64 k1,.int .i64 k2,.int .i64 k3,.int .i64 k4,.string s,.int .i64 nu,va,vq,.bool o] : List Value).toArray 36 (0,0))] w) Q) a w:=by
 obtain ⟨x0,x1,x2,x3,x4,x5,x6,x7,x8,x9,xa,xb,xc,xd,xe,xf,rfl⟩:=len16 hx16
 obtain ⟨y0,y1,y2,y3,y4,y5,y6,y7,y8,y9,ya,yb,yc,yd,ye,yf,rfl⟩:=len16 hy16
 obtain ⟨z0,z1,z2,z3,z4,z5,z6,z7,z8,z9,za,zb,zc,zd,ze,zf,rfl⟩:=len16 hz16
 delta dR1
 dsimp only [Tryd.f22]
 refine reg_treeF [(true,0,[]),(true,1,[]),(true,2,[]),(false,3,[]),(true,4,[]),(true,5,[]),(true,6,[]),(false,7,[]),(true,8,[]),(true,9,[]),(true,10,[]),(false,11,[]),(false,12,[]),(false,13,[]),(false,14,[]),(false,15,[]),(false,16,[]),(false,17,[])] DT_30 Fc.mixed (by kernel_rfl) (by kernel_rfl) (by kernel_rfl) (by kernel_rfl) (by kernel_rfl) (by kernel_rfl) (by repeat (first | with_reducible exact steady_body | with_reducible apply steady_block | with_reducible apply steady_then | with_reducible apply steady_scope | exact hQ)) hH ?_
 replace hH:=hH.drew
 refine trF_have DT_0 (fun a w => ∃ b10 b9,w0.heap.size≤b10∧w0.heap.size≤b9∧St 298 (lv [(0,.pointer (some ⟨sh,0,none⟩)),(1,.pointer (some ⟨b,0,none⟩)),(2,.pointer (some ⟨r,0,none⟩)),(7,.pointer (some ⟨b7,0,none⟩)),(8,.bool false),(9,.pointer (some ⟨b9,0,none⟩)),(10,.pointer (some ⟨b10,0,none⟩)),(25,.pointer (some ⟨sh,0,none⟩)),(27,.int .i64 k2),(28,hnd [x0,x1,x2,x3,x4,x5,x6,x7,x8,x9,xa,xb,xc,xd,xe,xf]),(29,.pointer (some ⟨sh,0,none⟩)),(31,.int .i64 k3),(32,hnd [y0,y1,y2,y3,y4,y5,y6,y7,y8,y9,ya,yb,yc,yd,ye,yf]),(33,.pointer (some ⟨sh,0,none⟩)),(35,.int .i64 k4),(36,hnd [z0,z1,z2,z3,z4,z5,z6,z7,z8,z9,za,zb,zc,zd,ze,zf])]) a∧Hp w0 Nobody [(b10,.cells ([.int .u8 0,.int .u8 0,.int .u8 0,.int .u8 0,.int .u8 0,.int .u8 0,.int .u8 0,.int .u8 0,.int .u8 0,.int .u8 0,.int .u8 0,.int .u8 0,.int .u8 0,.int .u8 0,.int .u8 0,.int .u8 0] : List Value).toArray 26 (0,0)),(b9,.cells ([.int .u8 0,.int .u8 0,.int .u8 0,.int .u8 0,.int .u8 0,.int .u8 0,.int .u8 0,.int .u8 0,.int .u8 0,.int .u8 0,.int .u8 0,.int .u8 0,.int .u8 0,.int .u8 0,.int .u8 0,.int .u8 0] : List Value).toArray 26 (0,0)),(b7,.cells ([.int .i64 k1,.int .i64 k2,.int .i64 k3,.int .i64 k4,.string s,.int .i64 nu,va,vq,.bool o] : List Value).toArray 36 (0,0))] w) ?_ (fun cl0 => ?_)
 ·clear hS hH
  intro a w hI
  obtain ⟨b10,b9,hb10,hb9,hS,hH⟩:=hI
  delta DT_0
  refine trF_seg ?_
  refine r_alloc hS hH (by repeat' constructor) Fc.zc26 rfl ?_
  clear hS hH; intro a w b11 hb11 hwb11 hS hH
  refine r_store_row hS hH rfl rfl (by repeat' constructor) (by repeat' constructor) Fc.sz26 (by first | exact hcells_one _ | exact of_decide_eq_true rfl) (by rfl) (by first | exact .inr (by assumption) | exact .inl (by first | assumption | rfl)) ?_
  clear hH; intro w hH
  refine r_store_row hS hH rfl rfl (by repeat' constructor) (by repeat' constructor) Fc.sz26 (by first | exact hcells_one _ | exact of_decide_eq_true rfl) (by rfl) (by first | exact .inr (by assumption) | exact .inl (by first | assumption | rfl)) ?_
  clear hH; intro w hH
  refine r_store_row hS hH rfl rfl (by repeat' constructor) (by repeat' constructor) Fc.sz26 (by first | exact hcells_one _ | exact of_decide_eq_true rfl) (by rfl) (by first | exact .inr (by assumption) | exact .inl (by first | assumption | rfl)) ?_
  clear hH; intro w hH
  refine Sq.nil (then_n ?_)
  refine trF_nil ?_
  refine then_n ?_
  first
   | exact ⟨b9,b10,b11,hb9,hb10,hb11,hS.live ⟨rfl,rfl,rfl,rfl,rfl,rfl,rfl,rfl,trivial⟩,hH⟩
   | exact ⟨b9,b10,b11,hb9,hb10,hb11,hS.live ⟨rfl,rfl,rfl,rfl,rfl,rfl,rfl,rfl,trivial⟩,hH.flip⟩
   | exact ⟨b9,b10,b11,hb9,hb10,hb11,hS.live ⟨rfl,rfl,rfl,rfl,rfl,rfl,rfl,rfl,trivial⟩,hH.flip2⟩
 refine trF_have DT_1 (fun a w => ∃ b11 b9,w0.heap.size≤b11∧w0.heap.size≤b9∧St 298 (lv [(0,.pointer (some ⟨sh,0,none⟩)),(1,.pointer (some ⟨b,0,none⟩)),(2,.pointer (some ⟨r,0,none⟩)),(7,.pointer (some ⟨b7,0,none⟩)),(8,.bool false),(9,.pointer (some ⟨b9,0,none⟩)),(11,.pointer (some ⟨b11,0,none⟩)),(25,.pointer (some ⟨sh,0,none⟩)),(27,.int .i64 k2),(28,hnd [x0,x1,x2,x3,x4,x5,x6,x7,x8,x9,xa,xb,xc,xd,xe,xf]),(29,.pointer (some ⟨sh,0,none⟩)),(31,.int .i64 k3),(32,hnd [y0,y1,y2,y3,y4,y5,y6,y7,y8,y9,ya,yb,yc,yd,ye,yf]),(33,.pointer (some ⟨sh,0,none⟩)),(35,.int .i64 k4),(36,hnd [z0,z1,z2,z3,z4,z5,z6,z7,z8,z9,za,zb,zc,zd,ze,zf])]) a∧Hp w0 Nobody [(b11,.cells ([.int .u8 0,.int .u8 0,.int .u8 0,.int .u8 0,.int .u8 0,.int .u8 0,.int .u8 0,.int .u8 0,.int .u8 0,.int .u8 0,.int .u8 0,.int .u8 0,.int .u8 0,.int .u8 0,.int .u8 0,.int .u8 0] : List Value).toArray 26 (0,0)),(b9,.cells ([.int .u8 0,.int .u8 0,.int .u8 0,.int .u8 0,.int .u8 0,.int .u8 0,.int .u8 0,.int .u8 0,.int .u8 0,.int .u8 0,.int .u8 0,.int .u8 0,.int .u8 0,.int .u8 0,.int .u8 0,.int .u8 0] : List Value).toArray 26 (0,0)),(b7,.cells ([.int .i64 k1,.int .i64 k2,.int .i64 k3,.int .i64 k4,.string s,.int .i64 nu,va,vq,.bool o] : List Value).toArray 36 (0,0))] w) ?_ (fun cl1 => ?_)
 ·clear hS hH
  intro a w hI
  obtain ⟨b11,b9,hb11,hb9,hS,hH⟩:=hI
  delta DT_1
  refine trF_seg ?_
  refine r_alloc hS hH (by repeat' constructor) Fc.zc26 rfl ?_
  clear hS hH; intro a w b10 hb10 hwb10 hS hH
  refine r_store_row hS hH rfl rfl (by repeat' constructor) (by repeat' constructor) Fc.sz26 (by first | exact hcells_one _ | exact of_decide_eq_true rfl) (by rfl) (by first | exact .inr (by assumption) | exact .inl (by first | assumption | rfl)) ?_
  clear hH; intro w hH
  refine r_store_row hS hH rfl rfl (by repeat' constructor) (by repeat' constructor) Fc.sz26 (by first | exact hcells_one _ | exact of_decide_eq_true rfl) (by rfl) (by first | exact .inr (by assumption) | exact .inl (by first | assumption | rfl)) ?_
  clear hH; intro w hH
  refine r_store_row hS hH rfl rfl (by repeat' constructor) (by repeat' constructor) Fc.sz26 (by first | exact hcells_one _ | exact of_decide_eq_true rfl) (by rfl) (by first | exact .inr (by assumption) | exact .inl (by first | assumption | rfl)) ?_
  clear hH; intro w hH
  refine Sq.nil (then_n ?_)
  refine trF_nil ?_
  refine then_n ?_
  first
   | exact ⟨b9,b10,b11,hb9,hb10,hb11,hS.live ⟨rfl,rfl,rfl,rfl,rfl,rfl,rfl,rfl,trivial⟩,hH⟩
   | exact ⟨b9,b10,b11,hb9,hb10,hb11,hS.live ⟨rfl,rfl,rfl,rfl,rfl,rfl,rfl,rfl,trivial⟩,hH.flip⟩
   | exact ⟨b9,b10,b11,hb9,hb10,hb11,hS.live ⟨rfl,rfl,rfl,rfl,rfl,rfl,rfl,rfl,trivial⟩,hH.flip2⟩
 refine trF_have DT_2 (fun a w => ∃ b9,w0.heap.size≤b9∧St 298 (lv [(0,.pointer (some ⟨sh,0,none⟩)),(1,.pointer (some ⟨b,0,none⟩)),(2,.pointer (some ⟨r,0,none⟩)),(7,.pointer (some ⟨b7,0,none⟩)),(8,.bool false),(9,.pointer (some ⟨b9,0,none⟩)),(25,.pointer (some ⟨sh,0,none⟩)),(27,.int .i64 k2),(28,hnd [x0,x1,x2,x3,x4,x5,x6,x7,x8,x9,xa,xb,xc,xd,xe,xf]),(29,.pointer (some ⟨sh,0,none⟩)),(31,.int .i64 k3),(32,hnd [y0,y1,y2,y3,y4,y5,y6,y7,y8,y9,ya,yb,yc,yd,ye,yf]),(33,.pointer (some ⟨sh,0,none⟩)),(35,.int .i64 k4),(36,hnd [z0,z1,z2,z3,z4,z5,z6,z7,z8,z9,za,zb,zc,zd,ze,zf])]) a∧Hp w0 Nobody [(b9,.cells ([.int .u8 0,.int .u8 0,.int .u8 0,.int .u8 0,.int .u8 0,.int .u8 0,.int .u8 0,.int .u8 0,.int .u8 0,.int .u8 0,.int .u8 0,.int .u8 0,.int .u8 0,.int .u8 0,.int .u8 0,.int .u8 0] : List Value).toArray 26 (0,0)),(b7,.cells ([.int .i64 k1,.int .i64 k2,.int .i64 k3,.int .i64 k4,.string s,.int .i64 nu,va,vq,.bool o] : List Value).toArray 36 (0,0))] w) ?_ (fun cl2 => ?_)
 ·clear hS hH
  intro a w hI
  obtain ⟨b9,hb9,hS,hH⟩:=hI
  delta DT_2
  refine trF_seg ?_
  refine Sq.nil (then_n ?_)
  refine trF_fork ?_ ?_
  ·refine trF_seg ?_
   refine r_alloc hS hH (by repeat' constructor) Fc.zc26 rfl ?_
   clear hS hH; intro a w b10 hb10 hwb10 hS hH
   refine Sq.nil (then_n ?_)
   exact cl0 _ _ ⟨b10,b9,hb10,hb9,hS.live ⟨rfl,rfl,rfl,rfl,rfl,rfl,rfl,rfl,rfl,rfl,rfl,rfl,rfl,rfl,rfl,rfl,trivial⟩,hH⟩
  refine trF_seg ?_
  refine r_alloc hS hH (by repeat' constructor) Fc.zc26 rfl ?_
  clear hS hH; intro a w b11 hb11 hwb11 hS hH
  refine Sq.nil (then_n ?_)
  exact cl1 _ _ ⟨b11,b9,hb11,hb9,hS.live ⟨rfl,rfl,rfl,rfl,rfl,rfl,rfl,rfl,rfl,rfl,rfl,rfl,rfl,rfl,rfl,rfl,trivial⟩,hH⟩
 refine trF_have DT_3 (fun a w => ∃ b11 b10,w0.heap.size≤b11∧w0.heap.size≤b10∧St 298 (lv [(0,.pointer (some ⟨sh,0,none⟩)),(1,.pointer (some ⟨b,0,none⟩)),(2,.pointer (some ⟨r,0,none⟩)),(7,.pointer (some ⟨b7,0,none⟩)),(8,.bool false),(10,.pointer (some ⟨b10,0,none⟩)),(11,.pointer (some ⟨b11,0,none⟩)),(25,.pointer (some ⟨sh,0,none⟩)),(27,.int .i64 k2),(28,hnd [x0,x1,x2,x3,x4,x5,x6,x7,x8,x9,xa,xb,xc,xd,xe,xf]),(29,.pointer (some ⟨sh,0,none⟩)),(31,.int .i64 k3),(32,hnd [y0,y1,y2,y3,y4,y5,y6,y7,y8,y9,ya,yb,yc,yd,ye,yf]),(33,.pointer (some ⟨sh,0,none⟩)),(35,.int .i64 k4),(36,hnd [z0,z1,z2,z3,z4,z5,z6,z7,z8,z9,za,zb,zc,zd,ze,zf])]) a∧Hp w0 Nobody [(b11,.cells ([.int .u8 0,.int .u8 0,.int .u8 0,.int .u8 0,.int .u8 0,.int .u8 0,.int .u8 0,.int .u8 0,.int .u8 0,.int .u8 0,.int .u8 0,.int .u8 0,.int .u8 0,.int .u8 0,.int .u8 0,.int .u8 0] : List Value).toArray 26 (0,0)),(b10,.cells ([.int .u8 0,.int .u8 0,.int .u8 0,.int .u8 0,.int .u8 0,.int .u8 0,.int .u8 0,.int .u8 0,.int .u8 0,.int .u8 0,.int .u8 0,.int .u8 0,.int .u8 0,.int .u8 0,.int .u8 0,.int .u8 0] : List Value).toArray 26 (0,0)),(b7,.cells ([.int .i64 k1,.int .i64 k2,.int .i64 k3,.int .i64 k4,.string s,.int .i64 nu,va,vq,.bool o] : List Value).toArray 36 (0,0))] w) ?_ (fun cl3 => ?_)
 ·clear hS hH
  intro a w hI
  obtain ⟨b11,b10,hb11,hb10,hS,hH⟩:=hI
  delta DT_3
  refine trF_seg ?_
  refine r_alloc hS hH (by repeat' constructor) Fc.zc26 rfl ?_
  clear hS hH; intro a w b9 hb9 hwb9 hS hH
  refine r_store_row hS hH rfl rfl (by repeat' constructor) (by repeat' constructor) Fc.sz26 (by first | exact hcells_one _ | exact of_decide_eq_true rfl) (by rfl) (by first | exact .inr (by assumption) | exact .inl (by first | assumption | rfl)) ?_
  clear hH; intro w hH
  refine r_store_row hS hH rfl rfl (by repeat' constructor) (by repeat' constructor) Fc.sz26 (by first | exact hcells_one _ | exact of_decide_eq_true rfl) (by rfl) (by first | exact .inr (by assumption) | exact .inl (by first | assumption | rfl)) ?_
  clear hH; intro w hH
  refine r_store_row hS hH rfl rfl (by repeat' constructor) (by repeat' constructor) Fc.sz26 (by first | exact hcells_one _ | exact of_decide_eq_true rfl) (by rfl) (by first | exact .inr (by assumption) | exact .inl (by first | assumption | rfl)) ?_
  clear hH; intro w hH
  refine Sq.nil (then_n ?_)
  refine trF_nil ?_
  refine then_n ?_
  first
   | exact ⟨b9,b10,b11,hb9,hb10,hb11,hS.live ⟨rfl,rfl,rfl,rfl,rfl,rfl,rfl,rfl,trivial⟩,hH⟩
   | exact ⟨b9,b10,b11,hb9,hb10,hb11,hS.live ⟨rfl,rfl,rfl,rfl,rfl,rfl,rfl,rfl,trivial⟩,hH.flip⟩
   | exact ⟨b9,b10,b11,hb9,hb10,hb11,hS.live ⟨rfl,rfl,rfl,rfl,rfl,rfl,rfl,rfl,trivial⟩,hH.flip2⟩
 refine trF_have DT_4 (fun a w => ∃ b10,w0.heap.size≤b10∧St 298 (lv [(0,.pointer (some ⟨sh,0,none⟩)),(1,.pointer (some ⟨b,0,none⟩)),(2,.pointer (some ⟨r,0,none⟩)),(7,.pointer (some ⟨b7,0,none⟩)),(8,.bool false),(10,.pointer (some ⟨b10,0,none⟩)),(25,.pointer (some ⟨sh,0,none⟩)),(27,.int .i64 k2),(28,hnd [x0,x1,x2,x3,x4,x5,x6,x7,x8,x9,xa,xb,xc,xd,xe,xf]),(29,.pointer (some ⟨sh,0,none⟩)),(31,.int .i64 k3),(32,hnd [y0,y1,y2,y3,y4,y5,y6,y7,y8,y9,ya,yb,yc,yd,ye,yf]),(33,.pointer (some ⟨sh,0,none⟩)),(35,.int .i64 k4),(36,hnd [z0,z1,z2,z3,z4,z5,z6,z7,z8,z9,za,zb,zc,zd,ze,zf])]) a∧Hp w0 Nobody [(b10,.cells ([.int .u8 0,.int .u8 0,.int .u8 0,.int .u8 0,.int .u8 0,.int .u8 0,.int .u8 0,.int .u8 0,.int .u8 0,.int .u8 0,.int .u8 0,.int .u8 0,.int .u8 0,.int .u8 0,.int .u8 0,.int .u8 0] : List Value).toArray 26 (0,0)),(b7,.cells ([.int .i64 k1,.int .i64 k2,.int .i64 k3,.int .i64 k4,.string s,.int .i64 nu,va,vq,.bool o] : List Value).toArray 36 (0,0))] w) ?_ (fun cl4 => ?_)
 ·clear hS hH
  intro a w hI
  obtain ⟨b10,hb10,hS,hH⟩:=hI
  delta DT_4
  refine trF_seg ?_
  refine Sq.nil (then_n ?_)
  refine trF_fork ?_ ?_
  ·refine trF_seg ?_
   refine r_alloc hS hH (by repeat' constructor) Fc.zc26 rfl ?_
   clear hS hH; intro a w b9 hb9 hwb9 hS hH
   refine Sq.nil (then_n ?_)
   exact cl0 _ _ ⟨b10,b9,hb10,hb9,hS.live ⟨rfl,rfl,rfl,rfl,rfl,rfl,rfl,rfl,rfl,rfl,rfl,rfl,rfl,rfl,rfl,rfl,trivial⟩,hH.flip⟩
  refine trF_seg ?_
  refine r_alloc hS hH (by repeat' constructor) Fc.zc26 rfl ?_
  clear hS hH; intro a w b11 hb11 hwb11 hS hH
  refine Sq.nil (then_n ?_)
  exact cl3 _ _ ⟨b11,b10,hb11,hb10,hS.live ⟨rfl,rfl,rfl,rfl,rfl,rfl,rfl,rfl,rfl,rfl,rfl,rfl,rfl,rfl,rfl,rfl,trivial⟩,hH⟩
 refine trF_have DT_5 (fun a w => ∃ b11,w0.heap.size≤b11∧St 298 (lv [(0,.pointer (some ⟨sh,0,none⟩)),(1,.pointer (some ⟨b,0,none⟩)),(2,.pointer (some ⟨r,0,none⟩)),(7,.pointer (some ⟨b7,0,none⟩)),(8,.bool false),(11,.pointer (some ⟨b11,0,none⟩)),(25,.pointer (some ⟨sh,0,none⟩)),(27,.int .i64 k2),(28,hnd [x0,x1,x2,x3,x4,x5,x6,x7,x8,x9,xa,xb,xc,xd,xe,xf]),(29,.pointer (some ⟨sh,0,none⟩)),(31,.int .i64 k3),(32,hnd [y0,y1,y2,y3,y4,y5,y6,y7,y8,y9,ya,yb,yc,yd,ye,yf]),(33,.pointer (some ⟨sh,0,none⟩)),(35,.int .i64 k4),(36,hnd [z0,z1,z2,z3,z4,z5,z6,z7,z8,z9,za,zb,zc,zd,ze,zf])]) a∧Hp w0 Nobody [(b11,.cells ([.int .u8 0,.int .u8 0,.int .u8 0,.int .u8 0,.int .u8 0,.int .u8 0,.int .u8 0,.int .u8 0,.int .u8 0,.int .u8 0,.int .u8 0,.int .u8 0,.int .u8 0,.int .u8 0,.int .u8 0,.int .u8 0] : List Value).toArray 26 (0,0)),(b7,.cells ([.int .i64 k1,.int .i64 k2,.int .i64 k3,.int .i64 k4,.string s,.int .i64 nu,va,vq,.bool o] : List Value).toArray 36 (0,0))] w) ?_ (fun cl5 => ?_)
 ·clear hS hH
  intro a w hI
  obtain ⟨b11,hb11,hS,hH⟩:=hI
  delta DT_5
  refine trF_seg ?_
  refine Sq.nil (then_n ?_)
  refine trF_fork ?_ ?_
  ·refine trF_seg ?_
   refine r_alloc hS hH (by repeat' constructor) Fc.zc26 rfl ?_
   clear hS hH; intro a w b9 hb9 hwb9 hS hH
   refine Sq.nil (then_n ?_)
   exact cl1 _ _ ⟨b11,b9,hb11,hb9,hS.live ⟨rfl,rfl,rfl,rfl,rfl,rfl,rfl,rfl,rfl,rfl,rfl,rfl,rfl,rfl,rfl,rfl,trivial⟩,hH.flip⟩
  refine trF_seg ?_
  refine r_alloc hS hH (by repeat' constructor) Fc.zc26 rfl ?_
  clear hS hH; intro a w b10 hb10 hwb10 hS hH
  refine Sq.nil (then_n ?_)
  exact cl3 _ _ ⟨b11,b10,hb11,hb10,hS.live ⟨rfl,rfl,rfl,rfl,rfl,rfl,rfl,rfl,rfl,rfl,rfl,rfl,rfl,rfl,rfl,rfl,trivial⟩,hH.flip⟩
 refine trF_have DT_6 (fun a w => St 298 (lv [(0,.pointer (some ⟨sh,0,none⟩)),(1,.pointer (some ⟨b,0,none⟩)),(2,.pointer (some ⟨r,0,none⟩)),(7,.pointer (some ⟨b7,0,none⟩)),(8,.bool false),(25,.pointer (some ⟨sh,0,none⟩)),(27,.int .i64 k2),(28,hnd [x0,x1,x2,x3,x4,x5,x6,x7,x8,x9,xa,xb,xc,xd,xe,xf]),(29,.pointer (some ⟨sh,0,none⟩)),(31,.int .i64 k3),(32,hnd [y0,y1,y2,y3,y4,y5,y6,y7,y8,y9,ya,yb,yc,yd,ye,yf]),(33,.pointer (some ⟨sh,0,none⟩)),(35,.int .i64 k4),(36,hnd [z0,z1,z2,z3,z4,z5,z6,z7,z8,z9,za,zb,zc,zd,ze,zf])]) a∧Hp w0 Nobody [(b7,.cells ([.int .i64 k1,.int .i64 k2,.int .i64 k3,.int .i64 k4,.string s,.int .i64 nu,va,vq,.bool o] : List Value).toArray 36 (0,0))] w) ?_ (fun cl6 => ?_)
 ·clear hS hH
  intro a w hI
  obtain ⟨hS,hH⟩:=hI
  delta DT_6
  refine trF_seg ?_
  refine Sq.nil (then_n ?_)
  refine trF_fork ?_ ?_
  ·refine trF_seg ?_
   refine r_alloc hS hH (by repeat' constructor) Fc.zc26 rfl ?_
   clear hS hH; intro a w b9 hb9 hwb9 hS hH
   refine Sq.nil (then_n ?_)
   exact cl2 _ _ ⟨b9,hb9,hS.live ⟨rfl,rfl,rfl,rfl,rfl,rfl,rfl,rfl,rfl,rfl,rfl,rfl,rfl,rfl,rfl,trivial⟩,hH⟩
  refine trF_fork ?_ ?_
  ·refine trF_seg ?_
   refine r_alloc hS hH (by repeat' constructor) Fc.zc26 rfl ?_
   clear hS hH; intro a w b10 hb10 hwb10 hS hH
   refine Sq.nil (then_n ?_)
   exact cl4 _ _ ⟨b10,hb10,hS.live ⟨rfl,rfl,rfl,rfl,rfl,rfl,rfl,rfl,rfl,rfl,rfl,rfl,rfl,rfl,rfl,trivial⟩,hH⟩
  refine trF_seg ?_
  refine r_alloc hS hH (by repeat' constructor) Fc.zc26 rfl ?_
  clear hS hH; intro a w b11 hb11 hwb11 hS hH
  refine Sq.nil (then_n ?_)
  exact cl5 _ _ ⟨b11,hb11,hS.live ⟨rfl,rfl,rfl,rfl,rfl,rfl,rfl,rfl,rfl,rfl,rfl,rfl,rfl,rfl,rfl,trivial⟩,hH⟩
 refine trF_have DT_7 (fun a w => ∃ b11 b10 b9,w0.heap.size≤b11∧w0.heap.size≤b10∧w0.heap.size≤b9∧St 298 (lv [(0,.pointer (some ⟨sh,0,none⟩)),(1,.pointer (some ⟨b,0,none⟩)),(2,.pointer (some ⟨r,0,none⟩)),(7,.pointer (some ⟨b7,0,none⟩)),(8,.bool false),(9,.pointer (some ⟨b9,0,none⟩)),(10,.pointer (some ⟨b10,0,none⟩)),(11,.pointer (some ⟨b11,0,none⟩)),(25,.pointer (some ⟨sh,0,none⟩)),(27,.int .i64 k2),(28,hnd [x0,x1,x2,x3,x4,x5,x6,x7,x8,x9,xa,xb,xc,xd,xe,xf]),(29,.pointer (some ⟨sh,0,none⟩)),(31,.int .i64 k3),(32,hnd [y0,y1,y2,y3,y4,y5,y6,y7,y8,y9,ya,yb,yc,yd,ye,yf]),(33,.pointer (some ⟨sh,0,none⟩)),(35,.int .i64 k4)]) a∧Hp w0 Nobody [(b11,.cells ([.int .u8 0,.int .u8 0,.int .u8 0,.int .u8 0,.int .u8 0,.int .u8 0,.int .u8 0,.int .u8 0,.int .u8 0,.int .u8 0,.int .u8 0,.int .u8 0,.int .u8 0,.int .u8 0,.int .u8 0,.int .u8 0] : List Value).toArray 26 (0,0)),(b10,.cells ([.int .u8 0,.int .u8 0,.int .u8 0,.int .u8 0,.int .u8 0,.int .u8 0,.int .u8 0,.int .u8 0,.int .u8 0,.int .u8 0,.int .u8 0,.int .u8 0,.int .u8 0,.int .u8 0,.int .u8 0,.int .u8 0] : List Value).toArray 26 (0,0)),(b9,.cells ([.int .u8 0,.int .u8 0,.int .u8 0,.int .u8 0,.int .u8 0,.int .u8 0,.int .u8 0,.int .u8 0,.int .u8 0,.int .u8 0,.int .u8 0,.int .u8 0,.int .u8 0,.int .u8 0,.int .u8 0,.int .u8 0] : List Value).toArray 26 (0,0)),(b7,.cells ([.int .i64 k1,.int .i64 k2,.int .i64 k3,.int .i64 k4,.string s,.int .i64 nu,va,vq,.bool o] : List Value).toArray 36 (0,0))] w) ?_ (fun cl7 => ?_)
 ·clear hS hH
  intro a w hI
  obtain ⟨b11,b10,b9,hb11,hb10,hb9,hS,hH⟩:=hI
  delta DT_7
  refine trF_seg ?_
  refine r_call (l:=[.tmp 33,.tmp 35]) hS rfl rfl Fc.fn32 rfl ?_
  refine Calls.mono (handle_y k4 [z0,z1,z2,z3,z4,z5,z6,z7,z8,z9,za,zb,zc,zd,ze,zf] sh hb hcap hl hs sv ss hz _ (hpl.shf.ext hH.mod)) ?_
  rintro e w1 ⟨rfl,hE11⟩
  replace hH:=hH.ext hE11
  refine ⟨_,rfl,hH.kp (by repeat' constructor),?_⟩
  clear hS; intro a hS
  refine r_store_row hS hH rfl rfl (by repeat' constructor) (by repeat' constructor) Fc.sz26 (by first | exact hcells_one _ | exact of_decide_eq_true rfl) (by rfl) (by first | exact .inr (by assumption) | exact .inl (by first | assumption | rfl)) ?_
  clear hH; intro w hH
  refine r_store_row hS hH rfl rfl (by repeat' constructor) (by repeat' constructor) Fc.sz26 (by first | exact hcells_one _ | exact of_decide_eq_true rfl) (by rfl) (by first | exact .inr (by assumption) | exact .inl (by first | assumption | rfl)) ?_
  clear hH; intro w hH
  refine r_store_row hS hH rfl rfl (by repeat' constructor) (by repeat' constructor) Fc.sz26 (by first | exact hcells_one _ | exact of_decide_eq_true rfl) (by rfl) (by first | exact .inr (by assumption) | exact .inl (by first | assumption | rfl)) ?_
  clear hH; intro w hH
  refine Sq.nil (then_n ?_)
  refine trF_nil ?_
  refine then_n ?_
  first
   | exact ⟨b9,b10,b11,hb9,hb10,hb11,hS.live ⟨rfl,rfl,rfl,rfl,rfl,rfl,rfl,rfl,trivial⟩,hH⟩
   | exact ⟨b9,b10,b11,hb9,hb10,hb11,hS.live ⟨rfl,rfl,rfl,rfl,rfl,rfl,rfl,rfl,trivial⟩,hH.flip⟩
   | exact ⟨b9,b10,b11,hb9,hb10,hb11,hS.live ⟨rfl,rfl,rfl,rfl,rfl,rfl,rfl,rfl,trivial⟩,hH.flip2⟩
 refine trF_have DT_8 (fun a w => ∃ b10 b9,w0.heap.size≤b10∧w0.heap.size≤b9∧St 298 (lv [(0,.pointer (some ⟨sh,0,none⟩)),(1,.pointer (some ⟨b,0,none⟩)),(2,.pointer (some ⟨r,0,none⟩)),(7,.pointer (some ⟨b7,0,none⟩)),(8,.bool false),(9,.pointer (some ⟨b9,0,none⟩)),(10,.pointer (some ⟨b10,0,none⟩)),(25,.pointer (some ⟨sh,0,none⟩)),(27,.int .i64 k2),(28,hnd [x0,x1,x2,x3,x4,x5,x6,x7,x8,x9,xa,xb,xc,xd,xe,xf]),(29,.pointer (some ⟨sh,0,none⟩)),(31,.int .i64 k3),(32,hnd [y0,y1,y2,y3,y4,y5,y6,y7,y8,y9,ya,yb,yc,yd,ye,yf]),(33,.pointer (some ⟨sh,0,none⟩)),(35,.int .i64 k4)]) a∧Hp w0 Nobody [(b10,.cells ([.int .u8 0,.int .u8 0,.int .u8 0,.int .u8 0,.int .u8 0,.int .u8 0,.int .u8 0,.int .u8 0,.int .u8 0,.int .u8 0,.int .u8 0,.int .u8 0,.int .u8 0,.int .u8 0,.int .u8 0,.int .u8 0] : List Value).toArray 26 (0,0)),(b9,.cells ([.int .u8 0,.int .u8 0,.int .u8 0,.int .u8 0,.int .u8 0,.int .u8 0,.int .u8 0,.int .u8 0,.int .u8 0,.int .u8 0,.int .u8 0,.int .u8 0,.int .u8 0,.int .u8 0,.int .u8 0,.int .u8 0] : List Value).toArray 26 (0,0)),(b7,.cells ([.int .i64 k1,.int .i64 k2,.int .i64 k3,.int .i64 k4,.string s,.int .i64 nu,va,vq,.bool o] : List Value).toArray 36 (0,0))] w) ?_ (fun cl8 => ?_)
 ·clear hS hH
  intro a w hI
  obtain ⟨b10,b9,hb10,hb9,hS,hH⟩:=hI
  delta DT_8
  refine trF_seg ?_
  refine Sq.nil (then_n ?_)
  refine trF_fork ?_ ?_
  ·refine trF_seg ?_
   refine r_call (l:=[.tmp 33,.tmp 35]) hS rfl rfl Fc.fn32 rfl ?_
   refine Calls.mono (handle_y k4 [z0,z1,z2,z3,z4,z5,z6,z7,z8,z9,za,zb,zc,zd,ze,zf] sh hb hcap hl hs sv ss hz _ (hpl.shf.ext hH.mod)) ?_
   rintro e w1 ⟨rfl,hE11⟩
   replace hH:=hH.ext hE11
   refine ⟨_,rfl,hH.kp (by repeat' constructor),?_⟩
   clear hS; intro a hS
   refine Sq.nil (then_n ?_)
   exact cl0 _ _ ⟨b10,b9,hb10,hb9,hS.live ⟨rfl,rfl,rfl,rfl,rfl,rfl,rfl,rfl,rfl,rfl,rfl,rfl,rfl,rfl,rfl,rfl,trivial⟩,hH⟩
  refine trF_seg ?_
  refine r_alloc hS hH (by repeat' constructor) Fc.zc26 rfl ?_
  clear hS hH; intro a w b11 hb11 hwb11 hS hH
  refine Sq.nil (then_n ?_)
  exact cl7 _ _ ⟨b11,b10,b9,hb11,hb10,hb9,hS.live ⟨rfl,rfl,rfl,rfl,rfl,rfl,rfl,rfl,rfl,rfl,rfl,rfl,rfl,rfl,rfl,rfl,trivial⟩,hH⟩
 refine trF_have DT_9 (fun a w => ∃ b11 b9,w0.heap.size≤b11∧w0.heap.size≤b9∧St 298 (lv [(0,.pointer (some ⟨sh,0,none⟩)),(1,.pointer (some ⟨b,0,none⟩)),(2,.pointer (some ⟨r,0,none⟩)),(7,.pointer (some ⟨b7,0,none⟩)),(8,.bool false),(9,.pointer (some ⟨b9,0,none⟩)),(11,.pointer (some ⟨b11,0,none⟩)),(25,.pointer (some ⟨sh,0,none⟩)),(27,.int .i64 k2),(28,hnd [x0,x1,x2,x3,x4,x5,x6,x7,x8,x9,xa,xb,xc,xd,xe,xf]),(29,.pointer (some ⟨sh,0,none⟩)),(31,.int .i64 k3),(32,hnd [y0,y1,y2,y3,y4,y5,y6,y7,y8,y9,ya,yb,yc,yd,ye,yf]),(33,.pointer (some ⟨sh,0,none⟩)),(35,.int .i64 k4)]) a∧Hp w0 Nobody [(b11,.cells ([.int .u8 0,.int .u8 0,.int .u8 0,.int .u8 0,.int .u8 0,.int .u8 0,.int .u8 0,.int .u8 0,.int .u8 0,.int .u8 0,.int .u8 0,.int .u8 0,.int .u8 0,.int .u8 0,.int .u8 0,.int .u8 0] : List Value).toArray 26 (0,0)),(b9,.cells ([.int .u8 0,.int .u8 0,.int .u8 0,.int .u8 0,.int .u8 0,.int .u8 0,.int .u8 0,.int .u8 0,.int .u8 0,.int .u8 0,.int .u8 0,.int .u8 0,.int .u8 0,.int .u8 0,.int .u8 0,.int .u8 0] : List Value).toArray 26 (0,0)),(b7,.cells ([.int .i64 k1,.int .i64 k2,.int .i64 k3,.int .i64 k4,.string s,.int .i64 nu,va,vq,.bool o] : List Value).toArray 36 (0,0))] w) ?_ (fun cl9 => ?_)
 ·clear hS hH
  intro a w hI
  obtain ⟨b11,b9,hb11,hb9,hS,hH⟩:=hI
  delta DT_9
  refine trF_seg ?_
  refine Sq.nil (then_n ?_)
  refine trF_fork ?_ ?_
  ·refine trF_seg ?_
   refine r_call (l:=[.tmp 33,.tmp 35]) hS rfl rfl Fc.fn32 rfl ?_
   refine Calls.mono (handle_y k4 [z0,z1,z2,z3,z4,z5,z6,z7,z8,z9,za,zb,zc,zd,ze,zf] sh hb hcap hl hs sv ss hz _ (hpl.shf.ext hH.mod)) ?_
   rintro e w1 ⟨rfl,hE11⟩
   replace hH:=hH.ext hE11
   refine ⟨_,rfl,hH.kp (by repeat' constructor),?_⟩
   clear hS; intro a hS
   refine Sq.nil (then_n ?_)
   exact cl1 _ _ ⟨b11,b9,hb11,hb9,hS.live ⟨rfl,rfl,rfl,rfl,rfl,rfl,rfl,rfl,rfl,rfl,rfl,rfl,rfl,rfl,rfl,rfl,trivial⟩,hH⟩
  refine trF_seg ?_
  refine r_alloc hS hH (by repeat' constructor) Fc.zc26 rfl ?_
  clear hS hH; intro a w b10 hb10 hwb10 hS hH
  refine Sq.nil (then_n ?_)
  exact cl7 _ _ ⟨b11,b10,b9,hb11,hb10,hb9,hS.live ⟨rfl,rfl,rfl,rfl,rfl,rfl,rfl,rfl,rfl,rfl,rfl,rfl,rfl,rfl,rfl,rfl,trivial⟩,hH.flip⟩
 refine trF_have DT_10 (fun a w => ∃ b9,w0.heap.size≤b9∧St 298 (lv [(0,.pointer (some ⟨sh,0,none⟩)),(1,.pointer (some ⟨b,0,none⟩)),(2,.pointer (some ⟨r,0,none⟩)),(7,.pointer (some ⟨b7,0,none⟩)),(8,.bool false),(9,.pointer (some ⟨b9,0,none⟩)),(25,.pointer (some ⟨sh,0,none⟩)),(27,.int .i64 k2),(28,hnd [x0,x1,x2,x3,x4,x5,x6,x7,x8,x9,xa,xb,xc,xd,xe,xf]),(29,.pointer (some ⟨sh,0,none⟩)),(31,.int .i64 k3),(32,hnd [y0,y1,y2,y3,y4,y5,y6,y7,y8,y9,ya,yb,yc,yd,ye,yf]),(33,.pointer (some ⟨sh,0,none⟩)),(35,.int .i64 k4)]) a∧Hp w0 Nobody [(b9,.cells ([.int .u8 0,.int .u8 0,.int .u8 0,.int .u8 0,.int .u8 0,.int .u8 0,.int .u8 0,.int .u8 0,.int .u8 0,.int .u8 0,.int .u8 0,.int .u8 0,.int .u8 0,.int .u8 0,.int .u8 0,.int .u8 0] : List Value).toArray 26 (0,0)),(b7,.cells ([.int .i64 k1,.int .i64 k2,.int .i64 k3,.int .i64 k4,.string s,.int .i64 nu,va,vq,.bool o] : List Value).toArray 36 (0,0))] w) ?_ (fun cl10 => ?_)
 ·clear hS hH
  intro a w hI
  obtain ⟨b9,hb9,hS,hH⟩:=hI
  delta DT_10
  refine trF_seg ?_
  refine Sq.nil (then_n ?_)
  refine trF_fork ?_ ?_
  ·refine trF_seg ?_
   refine r_call (l:=[.tmp 33,.tmp 35]) hS rfl rfl Fc.fn32 rfl ?_
   refine Calls.mono (handle_y k4 [z0,z1,z2,z3,z4,z5,z6,z7,z8,z9,za,zb,zc,zd,ze,zf] sh hb hcap hl hs sv ss hz _ (hpl.shf.ext hH.mod)) ?_
   rintro e w1 ⟨rfl,hE11⟩
   replace hH:=hH.ext hE11
   refine ⟨_,rfl,hH.kp (by repeat' constructor),?_⟩
   clear hS; intro a hS
   refine Sq.nil (then_n ?_)
   exact cl2 _ _ ⟨b9,hb9,hS.live ⟨rfl,rfl,rfl,rfl,rfl,rfl,rfl,rfl,rfl,rfl,rfl,rfl,rfl,rfl,rfl,trivial⟩,hH⟩
  refine trF_fork ?_ ?_
  ·refine trF_seg ?_
   refine r_alloc hS hH (by repeat' constructor) Fc.zc26 rfl ?_
   clear hS hH; intro a w b10 hb10 hwb10 hS hH
   refine Sq.nil (then_n ?_)
   exact cl8 _ _ ⟨b10,b9,hb10,hb9,hS.live ⟨rfl,rfl,rfl,rfl,rfl,rfl,rfl,rfl,rfl,rfl,rfl,rfl,rfl,rfl,rfl,trivial⟩,hH⟩
  refine trF_seg ?_
  refine r_alloc hS hH (by repeat' constructor) Fc.zc26 rfl ?_
  clear hS hH; intro a w b11 hb11 hwb11 hS hH
  refine Sq.nil (then_n ?_)
  exact cl9 _ _ ⟨b11,b9,hb11,hb9,hS.live ⟨rfl,rfl,rfl,rfl,rfl,rfl,rfl,rfl,rfl,rfl,rfl,rfl,rfl,rfl,rfl,trivial⟩,hH⟩
 refine trF_have DT_11 (fun a w => ∃ b11 b10,w0.heap.size≤b11∧w0.heap.size≤b10∧St 298 (lv [(0,.pointer (some ⟨sh,0,none⟩)),(1,.pointer (some ⟨b,0,none⟩)),(2,.pointer (some ⟨r,0,none⟩)),(7,.pointer (some ⟨b7,0,none⟩)),(8,.bool false),(10,.pointer (some ⟨b10,0,none⟩)),(11,.pointer (some ⟨b11,0,none⟩)),(25,.pointer (some ⟨sh,0,none⟩)),(27,.int .i64 k2),(28,hnd [x0,x1,x2,x3,x4,x5,x6,x7,x8,x9,xa,xb,xc,xd,xe,xf]),(29,.pointer (some ⟨sh,0,none⟩)),(31,.int .i64 k3),(32,hnd [y0,y1,y2,y3,y4,y5,y6,y7,y8,y9,ya,yb,yc,yd,ye,yf]),(33,.pointer (some ⟨sh,0,none⟩)),(35,.int .i64 k4)]) a∧Hp w0 Nobody [(b11,.cells ([.int .u8 0,.int .u8 0,.int .u8 0,.int .u8 0,.int .u8 0,.int .u8 0,.int .u8 0,.int .u8 0,.int .u8 0,.int .u8 0,.int .u8 0,.int .u8 0,.int .u8 0,.int .u8 0,.int .u8 0,.int .u8 0] : List Value).toArray 26 (0,0)),(b10,.cells ([.int .u8 0,.int .u8 0,.int .u8 0,.int .u8 0,.int .u8 0,.int .u8 0,.int .u8 0,.int .u8 0,.int .u8 0,.int .u8 0,.int .u8 0,.int .u8 0,.int .u8 0,.int .u8 0,.int .u8 0,.int .u8 0] : List Value).toArray 26 (0,0)),(b7,.cells ([.int .i64 k1,.int .i64 k2,.int .i64 k3,.int .i64 k4,.string s,.int .i64 nu,va,vq,.bool o] : List Value).toArray 36 (0,0))] w) ?_ (fun cl11 => ?_)
 ·clear hS hH
  intro a w hI
  obtain ⟨b11,b10,hb11,hb10,hS,hH⟩:=hI
  delta DT_11
  refine trF_seg ?_
  refine Sq.nil (then_n ?_)
  refine trF_fork ?_ ?_
  ·refine trF_seg ?_
   refine r_call (l:=[.tmp 33,.tmp 35]) hS rfl rfl Fc.fn32 rfl ?_
   refine Calls.mono (handle_y k4 [z0,z1,z2,z3,z4,z5,z6,z7,z8,z9,za,zb,zc,zd,ze,zf] sh hb hcap hl hs sv ss hz _ (hpl.shf.ext hH.mod)) ?_
   rintro e w1 ⟨rfl,hE11⟩
   replace hH:=hH.ext hE11
   refine ⟨_,rfl,hH.kp (by repeat' constructor),?_⟩
   clear hS; intro a hS
   refine Sq.nil (then_n ?_)
   exact cl3 _ _ ⟨b11,b10,hb11,hb10,hS.live ⟨rfl,rfl,rfl,rfl,rfl,rfl,rfl,rfl,rfl,rfl,rfl,rfl,rfl,rfl,rfl,rfl,trivial⟩,hH⟩
  refine trF_seg ?_
  refine r_alloc hS hH (by repeat' constructor) Fc.zc26 rfl ?_
  clear hS hH; intro a w b9 hb9 hwb9 hS hH
  refine Sq.nil (then_n ?_)
  exact cl7 _ _ ⟨b11,b10,b9,hb11,hb10,hb9,hS.live ⟨rfl,rfl,rfl,rfl,rfl,rfl,rfl,rfl,rfl,rfl,rfl,rfl,rfl,rfl,rfl,rfl,trivial⟩,hH.flip2⟩
 refine trF_have DT_12 (fun a w => ∃ b10,w0.heap.size≤b10∧St 298 (lv [(0,.pointer (some ⟨sh,0,none⟩)),(1,.pointer (some ⟨b,0,none⟩)),(2,.pointer (some ⟨r,0,none⟩)),(7,.pointer (some ⟨b7,0,none⟩)),(8,.bool false),(10,.pointer (some ⟨b10,0,none⟩)),(25,.pointer (some ⟨sh,0,none⟩)),(27,.int .i64 k2),(28,hnd [x0,x1,x2,x3,x4,x5,x6,x7,x8,x9,xa,xb,xc,xd,xe,xf]),(29,.pointer (some ⟨sh,0,none⟩)),(31,.int .i64 k3),(32,hnd [y0,y1,y2,y3,y4,y5,y6,y7,y8,y9,ya,yb,yc,yd,ye,yf]),(33,.pointer (some ⟨sh,0,none⟩)),(35,.int .i64 k4)]) a∧Hp w0 Nobody [(b10,.cells ([.int .u8 0,.int .u8 0,.int .u8 0,.int .u8 0,.int .u8 0,.int .u8 0,.int .u8 0,.int .u8 0,.int .u8 0,.int .u8 0,.int .u8 0,.int .u8 0,.int .u8 0,.int .u8 0,.int .u8 0,.int .u8 0] : List Value).toArray 26 (0,0)),(b7,.cells ([.int .i64 k1,.int .i64 k2,.int .i64 k3,.int .i64 k4,.string s,.int .i64 nu,va,vq,.bool o] : List Value).toArray 36 (0,0))] w) ?_ (fun cl12 => ?_)
 ·clear hS hH
  intro a w hI
  obtain ⟨b10,hb10,hS,hH⟩:=hI
  delta DT_12
  refine trF_seg ?_
  refine Sq.nil (then_n ?_)
  refine trF_fork ?_ ?_
  ·refine trF_seg ?_
   refine r_call (l:=[.tmp 33,.tmp 35]) hS rfl rfl Fc.fn32 rfl ?_
   refine Calls.mono (handle_y k4 [z0,z1,z2,z3,z4,z5,z6,z7,z8,z9,za,zb,zc,zd,ze,zf] sh hb hcap hl hs sv ss hz _ (hpl.shf.ext hH.mod)) ?_
   rintro e w1 ⟨rfl,hE11⟩
   replace hH:=hH.ext hE11
   refine ⟨_,rfl,hH.kp (by repeat' constructor),?_⟩
   clear hS; intro a hS
   refine Sq.nil (then_n ?_)
   exact cl4 _ _ ⟨b10,hb10,hS.live ⟨rfl,rfl,rfl,rfl,rfl,rfl,rfl,rfl,rfl,rfl,rfl,rfl,rfl,rfl,rfl,trivial⟩,hH⟩
  refine trF_fork ?_ ?_
  ·refine trF_seg ?_
   refine r_alloc hS hH (by repeat' constructor) Fc.zc26 rfl ?_
   clear hS hH; intro a w b9 hb9 hwb9 hS hH
   refine Sq.nil (then_n ?_)
   exact cl8 _ _ ⟨b10,b9,hb10,hb9,hS.live ⟨rfl,rfl,rfl,rfl,rfl,rfl,rfl,rfl,rfl,rfl,rfl,rfl,rfl,rfl,rfl,trivial⟩,hH.flip⟩
  refine trF_seg ?_
  refine r_alloc hS hH (by repeat' constructor) Fc.zc26 rfl ?_
  clear hS hH; intro a w b11 hb11 hwb11 hS hH
  refine Sq.nil (then_n ?_)
  exact cl11 _ _ ⟨b11,b10,hb11,hb10,hS.live ⟨rfl,rfl,rfl,rfl,rfl,rfl,rfl,rfl,rfl,rfl,rfl,rfl,rfl,rfl,rfl,trivial⟩,hH⟩
 refine trF_have DT_13 (fun a w => ∃ b11,w0.heap.size≤b11∧St 298 (lv [(0,.pointer (some ⟨sh,0,none⟩)),(1,.pointer (some ⟨b,0,none⟩)),(2,.pointer (some ⟨r,0,none⟩)),(7,.pointer (some ⟨b7,0,none⟩)),(8,.bool false),(11,.pointer (some ⟨b11,0,none⟩)),(25,.pointer (some ⟨sh,0,none⟩)),(27,.int .i64 k2),(28,hnd [x0,x1,x2,x3,x4,x5,x6,x7,x8,x9,xa,xb,xc,xd,xe,xf]),(29,.pointer (some ⟨sh,0,none⟩)),(31,.int .i64 k3),(32,hnd [y0,y1,y2,y3,y4,y5,y6,y7,y8,y9,ya,yb,yc,yd,ye,yf]),(33,.pointer (some ⟨sh,0,none⟩)),(35,.int .i64 k4)]) a∧Hp w0 Nobody [(b11,.cells ([.int .u8 0,.int .u8 0,.int .u8 0,.int .u8 0,.int .u8 0,.int .u8 0,.int .u8 0,.int .u8 0,.int .u8 0,.int .u8 0,.int .u8 0,.int .u8 0,.int .u8 0,.int .u8 0,.int .u8 0,.int .u8 0] : List Value).toArray 26 (0,0)),(b7,.cells ([.int .i64 k1,.int .i64 k2,.int .i64 k3,.int .i64 k4,.string s,.int .i64 nu,va,vq,.bool o] : List Value).toArray 36 (0,0))] w) ?_ (fun cl13 => ?_)
 ·clear hS hH
  intro a w hI
  obtain ⟨b11,hb11,hS,hH⟩:=hI
  delta DT_13
  refine trF_seg ?_
  refine Sq.nil (then_n ?_)
  refine trF_fork ?_ ?_
  ·refine trF_seg ?_
   refine r_call (l:=[.tmp 33,.tmp 35]) hS rfl rfl Fc.fn32 rfl ?_
   refine Calls.mono (handle_y k4 [z0,z1,z2,z3,z4,z5,z6,z7,z8,z9,za,zb,zc,zd,ze,zf] sh hb hcap hl hs sv ss hz _ (hpl.shf.ext hH.mod)) ?_
   rintro e w1 ⟨rfl,hE11⟩
   replace hH:=hH.ext hE11
   refine ⟨_,rfl,hH.kp (by repeat' constructor),?_⟩
   clear hS; intro a hS
   refine Sq.nil (then_n ?_)
   exact cl5 _ _ ⟨b11,hb11,hS.live ⟨rfl,rfl,rfl,rfl,rfl,rfl,rfl,rfl,rfl,rfl,rfl,rfl,rfl,rfl,rfl,trivial⟩,hH⟩
  refine trF_fork ?_ ?_
  ·refine trF_seg ?_
   refine r_alloc hS hH (by repeat' constructor) Fc.zc26 rfl ?_
   clear hS hH; intro a w b9 hb9 hwb9 hS hH
   refine Sq.nil (then_n ?_)
   exact cl9 _ _ ⟨b11,b9,hb11,hb9,hS.live ⟨rfl,rfl,rfl,rfl,rfl,rfl,rfl,rfl,rfl,rfl,rfl,rfl,rfl,rfl,rfl,trivial⟩,hH.flip⟩
  refine trF_seg ?_
  refine r_alloc hS hH (by repeat' constructor) Fc.zc26 rfl ?_
  clear hS hH; intro a w b10 hb10 hwb10 hS hH
  refine Sq.nil (then_n ?_)
  exact cl11 _ _ ⟨b11,b10,hb11,hb10,hS.live ⟨rfl,rfl,rfl,rfl,rfl,rfl,rfl,rfl,rfl,rfl,rfl,rfl,rfl,rfl,rfl,trivial⟩,hH.flip⟩
 refine trF_have DT_14 (fun a w => St 298 (lv [(0,.pointer (some ⟨sh,0,none⟩)),(1,.pointer (some ⟨b,0,none⟩)),(2,.pointer (some ⟨r,0,none⟩)),(7,.pointer (some ⟨b7,0,none⟩)),(8,.bool false),(25,.pointer (some ⟨sh,0,none⟩)),(27,.int .i64 k2),(28,hnd [x0,x1,x2,x3,x4,x5,x6,x7,x8,x9,xa,xb,xc,xd,xe,xf]),(29,.pointer (some ⟨sh,0,none⟩)),(31,.int .i64 k3),(32,hnd [y0,y1,y2,y3,y4,y5,y6,y7,y8,y9,ya,yb,yc,yd,ye,yf]),(33,.pointer (some ⟨sh,0,none⟩)),(35,.int .i64 k4)]) a∧Hp w0 Nobody [(b7,.cells ([.int .i64 k1,.int .i64 k2,.int .i64 k3,.int .i64 k4,.string s,.int .i64 nu,va,vq,.bool o] : List Value).toArray 36 (0,0))] w) ?_ (fun cl14 => ?_)
 ·clear hS hH
  intro a w hI
  obtain ⟨hS,hH⟩:=hI
  delta DT_14
  refine trF_seg ?_
  refine Sq.nil (then_n ?_)
  refine trF_fork ?_ ?_
  ·refine trF_seg ?_
   refine r_call (l:=[.tmp 33,.tmp 35]) hS rfl rfl Fc.fn32 rfl ?_
   refine Calls.mono (handle_y k4 [z0,z1,z2,z3,z4,z5,z6,z7,z8,z9,za,zb,zc,zd,ze,zf] sh hb hcap hl hs sv ss hz _ (hpl.shf.ext hH.mod)) ?_
   rintro e w1 ⟨rfl,hE11⟩
   replace hH:=hH.ext hE11
   refine ⟨_,rfl,hH.kp (by repeat' constructor),?_⟩
   clear hS; intro a hS
   refine Sq.nil (then_n ?_)
   exact cl6 _ _ ⟨hS.live ⟨rfl,rfl,rfl,rfl,rfl,rfl,rfl,rfl,rfl,rfl,rfl,rfl,rfl,rfl,trivial⟩,hH⟩
  refine trF_fork ?_ ?_
  ·refine trF_seg ?_
   refine r_alloc hS hH (by repeat' constructor) Fc.zc26 rfl ?_
   clear hS hH; intro a w b9 hb9 hwb9 hS hH
   refine Sq.nil (then_n ?_)
   exact cl10 _ _ ⟨b9,hb9,hS.live ⟨rfl,rfl,rfl,rfl,rfl,rfl,rfl,rfl,rfl,rfl,rfl,rfl,rfl,rfl,trivial⟩,hH⟩
  refine trF_fork ?_ ?_
  ·refine trF_seg ?_
   refine r_alloc hS hH (by repeat' constructor) Fc.zc26 rfl ?_
   clear hS hH; intro a w b10 hb10 hwb10 hS hH
   refine Sq.nil (then_n ?_)
   exact cl12 _ _ ⟨b10,hb10,hS.live ⟨rfl,rfl,rfl,rfl,rfl,rfl,rfl,rfl,rfl,rfl,rfl,rfl,rfl,rfl,trivial⟩,hH⟩
  refine trF_seg ?_
  refine r_alloc hS hH (by repeat' constructor) Fc.zc26 rfl ?_
  clear hS hH; intro a w b11 hb11 hwb11 hS hH
  refine Sq.nil (then_n ?_)
  exact cl13 _ _ ⟨b11,hb11,hS.live ⟨rfl,rfl,rfl,rfl,rfl,rfl,rfl,rfl,rfl,rfl,rfl,rfl,rfl,rfl,trivial⟩,hH⟩
 refine trF_have DT_15 (fun a w => ∃ b11 b10 b9,w0.heap.size≤b11∧w0.heap.size≤b10∧w0.heap.size≤b9∧St 298 (lv [(0,.pointer (some ⟨sh,0,none⟩)),(1,.pointer (some ⟨b,0,none⟩)),(2,.pointer (some ⟨r,0,none⟩)),(7,.pointer (some ⟨b7,0,none⟩)),(8,.bool false),(9,.pointer (some ⟨b9,0,none⟩)),(10,.pointer (some ⟨b10,0,none⟩)),(11,.pointer (some ⟨b11,0,none⟩)),(25,.pointer (some ⟨sh,0,none⟩)),(27,.int .i64 k2),(28,hnd [x0,x1,x2,x3,x4,x5,x6,x7,x8,x9,xa,xb,xc,xd,xe,xf]),(29,.pointer (some ⟨sh,0,none⟩)),(31,.int .i64 k3),(33,.pointer (some ⟨sh,0,none⟩)),(35,.int .i64 k4)]) a∧Hp w0 Nobody [(b11,.cells ([.int .u8 0,.int .u8 0,.int .u8 0,.int .u8 0,.int .u8 0,.int .u8 0,.int .u8 0,.int .u8 0,.int .u8 0,.int .u8 0,.int .u8 0,.int .u8 0,.int .u8 0,.int .u8 0,.int .u8 0,.int .u8 0] : List Value).toArray 26 (0,0)),(b10,.cells ([.int .u8 0,.int .u8 0,.int .u8 0,.int .u8 0,.int .u8 0,.int .u8 0,.int .u8 0,.int .u8 0,.int .u8 0,.int .u8 0,.int .u8 0,.int .u8 0,.int .u8 0,.int .u8 0,.int .u8 0,.int .u8 0] : List Value).toArray 26 (0,0)),(b9,.cells ([.int .u8 0,.int .u8 0,.int .u8 0,.int .u8 0,.int .u8 0,.int .u8 0,.int .u8 0,.int .u8 0,.int .u8 0,.int .u8 0,.int .u8 0,.int .u8 0,.int .u8 0,.int .u8 0,.int .u8 0,.int .u8 0] : List Value).toArray 26 (0,0)),(b7,.cells ([.int .i64 k1,.int .i64 k2,.int .i64 k3,.int .i64 k4,.string s,.int .i64 nu,va,vq,.bool o] : List Value).toArray 36 (0,0))] w) ?_ (fun cl15 => ?_)
 ·clear hS hH
  intro a w hI
  obtain ⟨b11,b10,b9,hb11,hb10,hb9,hS,hH⟩:=hI
  delta DT_15
  refine trF_seg ?_
  refine r_call (l:=[.tmp 29,.tmp 31]) hS rfl rfl Fc.fn32 rfl ?_
  refine Calls.mono (handle_y k3 [y0,y1,y2,y3,y4,y5,y6,y7,y8,y9,ya,yb,yc,yd,ye,yf] sh hb hcap hl hs sv ss hy _ (hpl.shf.ext hH.mod)) ?_
  rintro e w1 ⟨rfl,hE7⟩
  replace hH:=hH.ext hE7
  refine ⟨_,rfl,hH.kp (by repeat' constructor),?_⟩
  clear hS; intro a hS
  refine r_call (l:=[.tmp 33,.tmp 35]) hS rfl rfl Fc.fn32 rfl ?_
  refine Calls.mono (handle_y k4 [z0,z1,z2,z3,z4,z5,z6,z7,z8,z9,za,zb,zc,zd,ze,zf] sh hb hcap hl hs sv ss hz _ (hpl.shf.ext hH.mod)) ?_
  rintro e w1 ⟨rfl,hE11⟩
  replace hH:=hH.ext hE11
  refine ⟨_,rfl,hH.kp (by repeat' constructor),?_⟩
  clear hS; intro a hS
  refine r_store_row hS hH rfl rfl (by repeat' constructor) (by repeat' constructor) Fc.sz26 (by first | exact hcells_one _ | exact of_decide_eq_true rfl) (by rfl) (by first | exact .inr (by assumption) | exact .inl (by first | assumption | rfl)) ?_
  clear hH; intro w hH
  refine r_store_row hS hH rfl rfl (by repeat' constructor) (by repeat' constructor) Fc.sz26 (by first | exact hcells_one _ | exact of_decide_eq_true rfl) (by rfl) (by first | exact .inr (by assumption) | exact .inl (by first | assumption | rfl)) ?_
  clear hH; intro w hH
  refine r_store_row hS hH rfl rfl (by repeat' constructor) (by repeat' constructor) Fc.sz26 (by first | exact hcells_one _ | exact of_decide_eq_true rfl) (by rfl) (by first | exact .inr (by assumption) | exact .inl (by first | assumption | rfl)) ?_
  clear hH; intro w hH
  refine Sq.nil (then_n ?_)
  refine trF_nil ?_
  refine then_n ?_
  first
   | exact ⟨b9,b10,b11,hb9,hb10,hb11,hS.live ⟨rfl,rfl,rfl,rfl,rfl,rfl,rfl,rfl,trivial⟩,hH⟩
   | exact ⟨b9,b10,b11,hb9,hb10,hb11,hS.live ⟨rfl,rfl,rfl,rfl,rfl,rfl,rfl,rfl,trivial⟩,hH.flip⟩
   | exact ⟨b9,b10,b11,hb9,hb10,hb11,hS.live ⟨rfl,rfl,rfl,rfl,rfl,rfl,rfl,rfl,trivial⟩,hH.flip2⟩
 refine trF_have DT_16 (fun a w => ∃ b10 b9,w0.heap.size≤b10∧w0.heap.size≤b9∧St 298 (lv [(0,.pointer (some ⟨sh,0,none⟩)),(1,.pointer (some ⟨b,0,none⟩)),(2,.pointer (some ⟨r,0,none⟩)),(7,.pointer (some ⟨b7,0,none⟩)),(8,.bool false),(9,.pointer (some ⟨b9,0,none⟩)),(10,.pointer (some ⟨b10,0,none⟩)),(25,.pointer (some ⟨sh,0,none⟩)),(27,.int .i64 k2),(28,hnd [x0,x1,x2,x3,x4,x5,x6,x7,x8,x9,xa,xb,xc,xd,xe,xf]),(29,.pointer (some ⟨sh,0,none⟩)),(31,.int .i64 k3),(33,.pointer (some ⟨sh,0,none⟩)),(35,.int .i64 k4)]) a∧Hp w0 Nobody [(b10,.cells ([.int .u8 0,.int .u8 0,.int .u8 0,.int .u8 0,.int .u8 0,.int .u8 0,.int .u8 0,.int .u8 0,.int .u8 0,.int .u8 0,.int .u8 0,.int .u8 0,.int .u8 0,.int .u8 0,.int .u8 0,.int .u8 0] : List Value).toArray 26 (0,0)),(b9,.cells ([.int .u8 0,.int .u8 0,.int .u8 0,.int .u8 0,.int .u8 0,.int .u8 0,.int .u8 0,.int .u8 0,.int .u8 0,.int .u8 0,.int .u8 0,.int .u8 0,.int .u8 0,.int .u8 0,.int .u8 0,.int .u8 0] : List Value).toArray 26 (0,0)),(b7,.cells ([.int .i64 k1,.int .i64 k2,.int .i64 k3,.int .i64 k4,.string s,.int .i64 nu,va,vq,.bool o] : List Value).toArray 36 (0,0))] w) ?_ (fun cl16 => ?_)
 ·clear hS hH
  intro a w hI
  obtain ⟨b10,b9,hb10,hb9,hS,hH⟩:=hI
  delta DT_16
  refine trF_seg ?_
  refine Sq.nil (then_n ?_)
  refine trF_fork ?_ ?_
  ·refine trF_seg ?_
   refine r_call (l:=[.tmp 29,.tmp 31]) hS rfl rfl Fc.fn32 rfl ?_
   refine Calls.mono (handle_y k3 [y0,y1,y2,y3,y4,y5,y6,y7,y8,y9,ya,yb,yc,yd,ye,yf] sh hb hcap hl hs sv ss hy _ (hpl.shf.ext hH.mod)) ?_
   rintro e w1 ⟨rfl,hE7⟩
   replace hH:=hH.ext hE7
   refine ⟨_,rfl,hH.kp (by repeat' constructor),?_⟩
   clear hS; intro a hS
   refine Sq.nil (then_n ?_)
   exact cl8 _ _ ⟨b10,b9,hb10,hb9,hS.live ⟨rfl,rfl,rfl,rfl,rfl,rfl,rfl,rfl,rfl,rfl,rfl,rfl,rfl,rfl,rfl,trivial⟩,hH⟩
  refine trF_seg ?_
  refine r_alloc hS hH (by repeat' constructor) Fc.zc26 rfl ?_
  clear hS hH; intro a w b11 hb11 hwb11 hS hH
  refine Sq.nil (then_n ?_)
  exact cl15 _ _ ⟨b11,b10,b9,hb11,hb10,hb9,hS.live ⟨rfl,rfl,rfl,rfl,rfl,rfl,rfl,rfl,rfl,rfl,rfl,rfl,rfl,rfl,rfl,trivial⟩,hH⟩
 refine trF_have DT_17 (fun a w => ∃ b11 b9,w0.heap.size≤b11∧w0.heap.size≤b9∧St 298 (lv [(0,.pointer (some ⟨sh,0,none⟩)),(1,.pointer (some ⟨b,0,none⟩)),(2,.pointer (some ⟨r,0,none⟩)),(7,.pointer (some ⟨b7,0,none⟩)),(8,.bool false),(9,.pointer (some ⟨b9,0,none⟩)),(11,.pointer (some ⟨b11,0,none⟩)),(25,.pointer (some ⟨sh,0,none⟩)),(27,.int .i64 k2),(28,hnd [x0,x1,x2,x3,x4,x5,x6,x7,x8,x9,xa,xb,xc,xd,xe,xf]),(29,.pointer (some ⟨sh,0,none⟩)),(31,.int .i64 k3),(33,.pointer (some ⟨sh,0,none⟩)),(35,.int .i64 k4)]) a∧Hp w0 Nobody [(b11,.cells ([.int .u8 0,.int .u8 0,.int .u8 0,.int .u8 0,.int .u8 0,.int .u8 0,.int .u8 0,.int .u8 0,.int .u8 0,.int .u8 0,.int .u8 0,.int .u8 0,.int .u8 0,.int .u8 0,.int .u8 0,.int .u8 0] : List Value).toArray 26 (0,0)),(b9,.cells ([.int .u8 0,.int .u8 0,.int .u8 0,.int .u8 0,.int .u8 0,.int .u8 0,.int .u8 0,.int .u8 0,.int .u8 0,.int .u8 0,.int .u8 0,.int .u8 0,.int .u8 0,.int .u8 0,.int .u8 0,.int .u8 0] : List Value).toArray 26 (0,0)),(b7,.cells ([.int .i64 k1,.int .i64 k2,.int .i64 k3,.int .i64 k4,.string s,.int .i64 nu,va,vq,.bool o] : List Value).toArray 36 (0,0))] w) ?_ (fun cl17 => ?_)
 ·clear hS hH
  intro a w hI
  obtain ⟨b11,b9,hb11,hb9,hS,hH⟩:=hI
  delta DT_17
  refine trF_seg ?_
  refine Sq.nil (then_n ?_)
  refine trF_fork ?_ ?_
  ·refine trF_seg ?_
   refine r_call (l:=[.tmp 29,.tmp 31]) hS rfl rfl Fc.fn32 rfl ?_
   refine Calls.mono (handle_y k3 [y0,y1,y2,y3,y4,y5,y6,y7,y8,y9,ya,yb,yc,yd,ye,yf] sh hb hcap hl hs sv ss hy _ (hpl.shf.ext hH.mod)) ?_
   rintro e w1 ⟨rfl,hE7⟩
   replace hH:=hH.ext hE7
   refine ⟨_,rfl,hH.kp (by repeat' constructor),?_⟩
   clear hS; intro a hS
   refine Sq.nil (then_n ?_)
   exact cl9 _ _ ⟨b11,b9,hb11,hb9,hS.live ⟨rfl,rfl,rfl,rfl,rfl,rfl,rfl,rfl,rfl,rfl,rfl,rfl,rfl,rfl,rfl,trivial⟩,hH⟩
  refine trF_seg ?_
  refine r_alloc hS hH (by repeat' constructor) Fc.zc26 rfl ?_
  clear hS hH; intro a w b10 hb10 hwb10 hS hH
  refine Sq.nil (then_n ?_)
  exact cl15 _ _ ⟨b11,b10,b9,hb11,hb10,hb9,hS.live ⟨rfl,rfl,rfl,rfl,rfl,rfl,rfl,rfl,rfl,rfl,rfl,rfl,rfl,rfl,rfl,trivial⟩,hH.flip⟩
 refine trF_have DT_18 (fun a w => ∃ b9,w0.heap.size≤b9∧St 298 (lv [(0,.pointer (some ⟨sh,0,none⟩)),(1,.pointer (some ⟨b,0,none⟩)),(2,.pointer (some ⟨r,0,none⟩)),(7,.pointer (some ⟨b7,0,none⟩)),(8,.bool false),(9,.pointer (some ⟨b9,0,none⟩)),(25,.pointer (some ⟨sh,0,none⟩)),(27,.int .i64 k2),(28,hnd [x0,x1,x2,x3,x4,x5,x6,x7,x8,x9,xa,xb,xc,xd,xe,xf]),(29,.pointer (some ⟨sh,0,none⟩)),(31,.int .i64 k3),(33,.pointer (some ⟨sh,0,none⟩)),(35,.int .i64 k4)]) a∧Hp w0 Nobody [(b9,.cells ([.int .u8 0,.int .u8 0,.int .u8 0,.int .u8 0,.int .u8 0,.int .u8 0,.int .u8 0,.int .u8 0,.int .u8 0,.int .u8 0,.int .u8 0,.int .u8 0,.int .u8 0,.int .u8 0,.int .u8 0,.int .u8 0] : List Value).toArray 26 (0,0)),(b7,.cells ([.int .i64 k1,.int .i64 k2,.int .i64 k3,.int .i64 k4,.string s,.int .i64 nu,va,vq,.bool o] : List Value).toArray 36 (0,0))] w) ?_ (fun cl18 => ?_)
 ·clear hS hH
  intro a w hI
  obtain ⟨b9,hb9,hS,hH⟩:=hI
  delta DT_18
  refine trF_seg ?_
  refine Sq.nil (then_n ?_)
  refine trF_fork ?_ ?_
  ·refine trF_seg ?_
   refine r_call (l:=[.tmp 29,.tmp 31]) hS rfl rfl Fc.fn32 rfl ?_
   refine Calls.mono (handle_y k3 [y0,y1,y2,y3,y4,y5,y6,y7,y8,y9,ya,yb,yc,yd,ye,yf] sh hb hcap hl hs sv ss hy _ (hpl.shf.ext hH.mod)) ?_
   rintro e w1 ⟨rfl,hE7⟩
   replace hH:=hH.ext hE7
   refine ⟨_,rfl,hH.kp (by repeat' constructor),?_⟩
   clear hS; intro a hS
   refine Sq.nil (then_n ?_)
   exact cl10 _ _ ⟨b9,hb9,hS.live ⟨rfl,rfl,rfl,rfl,rfl,rfl,rfl,rfl,rfl,rfl,rfl,rfl,rfl,rfl,trivial⟩,hH⟩
  refine trF_fork ?_ ?_
  ·refine trF_seg ?_
   refine r_alloc hS hH (by repeat' constructor) Fc.zc26 rfl ?_
   clear hS hH; intro a w b10 hb10 hwb10 hS hH
   refine Sq.nil (then_n ?_)
   exact cl16 _ _ ⟨b10,b9,hb10,hb9,hS.live ⟨rfl,rfl,rfl,rfl,rfl,rfl,rfl,rfl,rfl,rfl,rfl,rfl,rfl,rfl,trivial⟩,hH⟩
  refine trF_seg ?_
  refine r_alloc hS hH (by repeat' constructor) Fc.zc26 rfl ?_
  clear hS hH; intro a w b11 hb11 hwb11 hS hH
  refine Sq.nil (then_n ?_)
  exact cl17 _ _ ⟨b11,b9,hb11,hb9,hS.live ⟨rfl,rfl,rfl,rfl,rfl,rfl,rfl,rfl,rfl,rfl,rfl,rfl,rfl,rfl,trivial⟩,hH⟩
 refine trF_have DT_19 (fun a w => ∃ b11 b10,w0.heap.size≤b11∧w0.heap.size≤b10∧St 298 (lv [(0,.pointer (some ⟨sh,0,none⟩)),(1,.pointer (some ⟨b,0,none⟩)),(2,.pointer (some ⟨r,0,none⟩)),(7,.pointer (some ⟨b7,0,none⟩)),(8,.bool false),(10,.pointer (some ⟨b10,0,none⟩)),(11,.pointer (some ⟨b11,0,none⟩)),(25,.pointer (some ⟨sh,0,none⟩)),(27,.int .i64 k2),(28,hnd [x0,x1,x2,x3,x4,x5,x6,x7,x8,x9,xa,xb,xc,xd,xe,xf]),(29,.pointer (some ⟨sh,0,none⟩)),(31,.int .i64 k3),(33,.pointer (some ⟨sh,0,none⟩)),(35,.int .i64 k4)]) a∧Hp w0 Nobody [(b11,.cells ([.int .u8 0,.int .u8 0,.int .u8 0,.int .u8 0,.int .u8 0,.int .u8 0,.int .u8 0,.int .u8 0,.int .u8 0,.int .u8 0,.int .u8 0,.int .u8 0,.int .u8 0,.int .u8 0,.int .u8 0,.int .u8 0] : List Value).toArray 26 (0,0)),(b10,.cells ([.int .u8 0,.int .u8 0,.int .u8 0,.int .u8 0,.int .u8 0,.int .u8 0,.int .u8 0,.int .u8 0,.int .u8 0,.int .u8 0,.int .u8 0,.int .u8 0,.int .u8 0,.int .u8 0,.int .u8 0,.int .u8 0] : List Value).toArray 26 (0,0)),(b7,.cells ([.int .i64 k1,.int .i64 k2,.int .i64 k3,.int .i64 k4,.string s,.int .i64 nu,va,vq,.bool o] : List Value).toArray 36 (0,0))] w) ?_ (fun cl19 => ?_)
 ·clear hS hH
  intro a w hI
  obtain ⟨b11,b10,hb11,hb10,hS,hH⟩:=hI
  delta DT_19
  refine trF_seg ?_
  refine Sq.nil (then_n ?_)
  refine trF_fork ?_ ?_
  ·refine trF_seg ?_
   refine r_call (l:=[.tmp 29,.tmp 31]) hS rfl rfl Fc.fn32 rfl ?_
   refine Calls.mono (handle_y k3 [y0,y1,y2,y3,y4,y5,y6,y7,y8,y9,ya,yb,yc,yd,ye,yf] sh hb hcap hl hs sv ss hy _ (hpl.shf.ext hH.mod)) ?_
   rintro e w1 ⟨rfl,hE7⟩
   replace hH:=hH.ext hE7
   refine ⟨_,rfl,hH.kp (by repeat' constructor),?_⟩
   clear hS; intro a hS
   refine Sq.nil (then_n ?_)
   exact cl11 _ _ ⟨b11,b10,hb11,hb10,hS.live ⟨rfl,rfl,rfl,rfl,rfl,rfl,rfl,rfl,rfl,rfl,rfl,rfl,rfl,rfl,rfl,trivial⟩,hH⟩
  refine trF_seg ?_
  refine r_alloc hS hH (by repeat' constructor) Fc.zc26 rfl ?_
  clear hS hH; intro a w b9 hb9 hwb9 hS hH
  refine Sq.nil (then_n ?_)
  exact cl15 _ _ ⟨b11,b10,b9,hb11,hb10,hb9,hS.live ⟨rfl,rfl,rfl,rfl,rfl,rfl,rfl,rfl,rfl,rfl,rfl,rfl,rfl,rfl,rfl,trivial⟩,hH.flip2⟩
 refine trF_have DT_20 (fun a w => ∃ b10,w0.heap.size≤b10∧St 298 (lv [(0,.pointer (some ⟨sh,0,none⟩)),(1,.pointer (some ⟨b,0,none⟩)),(2,.pointer (some ⟨r,0,none⟩)),(7,.pointer (some ⟨b7,0,none⟩)),(8,.bool false),(10,.pointer (some ⟨b10,0,none⟩)),(25,.pointer (some ⟨sh,0,none⟩)),(27,.int .i64 k2),(28,hnd [x0,x1,x2,x3,x4,x5,x6,x7,x8,x9,xa,xb,xc,xd,xe,xf]),(29,.pointer (some ⟨sh,0,none⟩)),(31,.int .i64 k3),(33,.pointer (some ⟨sh,0,none⟩)),(35,.int .i64 k4)]) a∧Hp w0 Nobody [(b10,.cells ([.int .u8 0,.int .u8 0,.int .u8 0,.int .u8 0,.int .u8 0,.int .u8 0,.int .u8 0,.int .u8 0,.int .u8 0,.int .u8 0,.int .u8 0,.int .u8 0,.int .u8 0,.int .u8 0,.int .u8 0,.int .u8 0] : List Value).toArray 26 (0,0)),(b7,.cells ([.int .i64 k1,.int .i64 k2,.int .i64 k3,.int .i64 k4,.string s,.int .i64 nu,va,vq,.bool o] : List Value).toArray 36 (0,0))] w) ?_ (fun cl20 => ?_)
 ·clear hS hH
  intro a w hI
  obtain ⟨b10,hb10,hS,hH⟩:=hI
  delta DT_20
  refine trF_seg ?_
  refine Sq.nil (then_n ?_)
  refine trF_fork ?_ ?_
  ·refine trF_seg ?_
   refine r_call (l:=[.tmp 29,.tmp 31]) hS rfl rfl Fc.fn32 rfl ?_
   refine Calls.mono (handle_y k3 [y0,y1,y2,y3,y4,y5,y6,y7,y8,y9,ya,yb,yc,yd,ye,yf] sh hb hcap hl hs sv ss hy _ (hpl.shf.ext hH.mod)) ?_
   rintro e w1 ⟨rfl,hE7⟩
   replace hH:=hH.ext hE7
   refine ⟨_,rfl,hH.kp (by repeat' constructor),?_⟩
   clear hS; intro a hS
   refine Sq.nil (then_n ?_)
   exact cl12 _ _ ⟨b10,hb10,hS.live ⟨rfl,rfl,rfl,rfl,rfl,rfl,rfl,rfl,rfl,rfl,rfl,rfl,rfl,rfl,trivial⟩,hH⟩
  refine trF_fork ?_ ?_
  ·refine trF_seg ?_
   refine r_alloc hS hH (by repeat' constructor) Fc.zc26 rfl ?_
   clear hS hH; intro a w b9 hb9 hwb9 hS hH
   refine Sq.nil (then_n ?_)
   exact cl16 _ _ ⟨b10,b9,hb10,hb9,hS.live ⟨rfl,rfl,rfl,rfl,rfl,rfl,rfl,rfl,rfl,rfl,rfl,rfl,rfl,rfl,trivial⟩,hH.flip⟩
  refine trF_seg ?_
  refine r_alloc hS hH (by repeat' constructor) Fc.zc26 rfl ?_
  clear hS hH; intro a w b11 hb11 hwb11 hS hH
  refine Sq.nil (then_n ?_)
  exact cl19 _ _ ⟨b11,b10,hb11,hb10,hS.live ⟨rfl,rfl,rfl,rfl,rfl,rfl,rfl,rfl,rfl,rfl,rfl,rfl,rfl,rfl,trivial⟩,hH⟩
 refine trF_have DT_21 (fun a w => ∃ b11,w0.heap.size≤b11∧St 298 (lv [(0,.pointer (some ⟨sh,0,none⟩)),(1,.pointer (some ⟨b,0,none⟩)),(2,.pointer (some ⟨r,0,none⟩)),(7,.pointer (some ⟨b7,0,none⟩)),(8,.bool false),(11,.pointer (some ⟨b11,0,none⟩)),(25,.pointer (some ⟨sh,0,none⟩)),(27,.int .i64 k2),(28,hnd [x0,x1,x2,x3,x4,x5,x6,x7,x8,x9,xa,xb,xc,xd,xe,xf]),(29,.pointer (some ⟨sh,0,none⟩)),(31,.int .i64 k3),(33,.pointer (some ⟨sh,0,none⟩)),(35,.int .i64 k4)]) a∧Hp w0 Nobody [(b11,.cells ([.int .u8 0,.int .u8 0,.int .u8 0,.int .u8 0,.int .u8 0,.int .u8 0,.int .u8 0,.int .u8 0,.int .u8 0,.int .u8 0,.int .u8 0,.int .u8 0,.int .u8 0,.int .u8 0,.int .u8 0,.int .u8 0] : List Value).toArray 26 (0,0)),(b7,.cells ([.int .i64 k1,.int .i64 k2,.int .i64 k3,.int .i64 k4,.string s,.int .i64 nu,va,vq,.bool o] : List Value).toArray 36 (0,0))] w) ?_ (fun cl21 => ?_)
 ·clear hS hH
  intro a w hI
  obtain ⟨b11,hb11,hS,hH⟩:=hI
  delta DT_21
  refine trF_seg ?_
  refine Sq.nil (then_n ?_)
  refine trF_fork ?_ ?_
  ·refine trF_seg ?_
   refine r_call (l:=[.tmp 29,.tmp 31]) hS rfl rfl Fc.fn32 rfl ?_
   refine Calls.mono (handle_y k3 [y0,y1,y2,y3,y4,y5,y6,y7,y8,y9,ya,yb,yc,yd,ye,yf] sh hb hcap hl hs sv ss hy _ (hpl.shf.ext hH.mod)) ?_
   rintro e w1 ⟨rfl,hE7⟩
   replace hH:=hH.ext hE7
   refine ⟨_,rfl,hH.kp (by repeat' constructor),?_⟩
   clear hS; intro a hS
   refine Sq.nil (then_n ?_)
   exact cl13 _ _ ⟨b11,hb11,hS.live ⟨rfl,rfl,rfl,rfl,rfl,rfl,rfl,rfl,rfl,rfl,rfl,rfl,rfl,rfl,trivial⟩,hH⟩
  refine trF_fork ?_ ?_
  ·refine trF_seg ?_
   refine r_alloc hS hH (by repeat' constructor) Fc.zc26 rfl ?_
   clear hS hH; intro a w b9 hb9 hwb9 hS hH
   refine Sq.nil (then_n ?_)
   exact cl17 _ _ ⟨b11,b9,hb11,hb9,hS.live ⟨rfl,rfl,rfl,rfl,rfl,rfl,rfl,rfl,rfl,rfl,rfl,rfl,rfl,rfl,trivial⟩,hH.flip⟩
  refine trF_seg ?_
  refine r_alloc hS hH (by repeat' constructor) Fc.zc26 rfl ?_
  clear hS hH; intro a w b10 hb10 hwb10 hS hH
  refine Sq.nil (then_n ?_)
  exact cl19 _ _ ⟨b11,b10,hb11,hb10,hS.live ⟨rfl,rfl,rfl,rfl,rfl,rfl,rfl,rfl,rfl,rfl,rfl,rfl,rfl,rfl,trivial⟩,hH.flip⟩
 refine trF_have DT_22 (fun a w => St 298 (lv [(0,.pointer (some ⟨sh,0,none⟩)),(1,.pointer (some ⟨b,0,none⟩)),(2,.pointer (some ⟨r,0,none⟩)),(7,.pointer (some ⟨b7,0,none⟩)),(8,.bool false),(25,.pointer (some ⟨sh,0,none⟩)),(27,.int .i64 k2),(28,hnd [x0,x1,x2,x3,x4,x5,x6,x7,x8,x9,xa,xb,xc,xd,xe,xf]),(29,.pointer (some ⟨sh,0,none⟩)),(31,.int .i64 k3),(33,.pointer (some ⟨sh,0,none⟩)),(35,.int .i64 k4)]) a∧Hp w0 Nobody [(b7,.cells ([.int .i64 k1,.int .i64 k2,.int .i64 k3,.int .i64 k4,.string s,.int .i64 nu,va,vq,.bool o] : List Value).toArray 36 (0,0))] w) ?_ (fun cl22 => ?_)
 ·clear hS hH
  intro a w hI
  obtain ⟨hS,hH⟩:=hI
  delta DT_22
  refine trF_seg ?_
  refine Sq.nil (then_n ?_)
  refine trF_fork ?_ ?_
  ·refine trF_seg ?_
   refine r_call (l:=[.tmp 29,.tmp 31]) hS rfl rfl Fc.fn32 rfl ?_
   refine Calls.mono (handle_y k3 [y0,y1,y2,y3,y4,y5,y6,y7,y8,y9,ya,yb,yc,yd,ye,yf] sh hb hcap hl hs sv ss hy _ (hpl.shf.ext hH.mod)) ?_
   rintro e w1 ⟨rfl,hE7⟩
   replace hH:=hH.ext hE7
   refine ⟨_,rfl,hH.kp (by repeat' constructor),?_⟩
   clear hS; intro a hS
   refine Sq.nil (then_n ?_)
   exact cl14 _ _ ⟨hS.live ⟨rfl,rfl,rfl,rfl,rfl,rfl,rfl,rfl,rfl,rfl,rfl,rfl,rfl,trivial⟩,hH⟩
  refine trF_fork ?_ ?_
  ·refine trF_seg ?_
   refine r_alloc hS hH (by repeat' constructor) Fc.zc26 rfl ?_
   clear hS hH; intro a w b9 hb9 hwb9 hS hH
   refine Sq.nil (then_n ?_)
   exact cl18 _ _ ⟨b9,hb9,hS.live ⟨rfl,rfl,rfl,rfl,rfl,rfl,rfl,rfl,rfl,rfl,rfl,rfl,rfl,trivial⟩,hH⟩
  refine trF_fork ?_ ?_
  ·refine trF_seg ?_
   refine r_alloc hS hH (by repeat' constructor) Fc.zc26 rfl ?_
   clear hS hH; intro a w b10 hb10 hwb10 hS hH
   refine Sq.nil (then_n ?_)
   exact cl20 _ _ ⟨b10,hb10,hS.live ⟨rfl,rfl,rfl,rfl,rfl,rfl,rfl,rfl,rfl,rfl,rfl,rfl,rfl,trivial⟩,hH⟩
  refine trF_seg ?_
  refine r_alloc hS hH (by repeat' constructor) Fc.zc26 rfl ?_
  clear hS hH; intro a w b11 hb11 hwb11 hS hH
  refine Sq.nil (then_n ?_)
  exact cl21 _ _ ⟨b11,hb11,hS.live ⟨rfl,rfl,rfl,rfl,rfl,rfl,rfl,rfl,rfl,rfl,rfl,rfl,rfl,trivial⟩,hH⟩
 refine trF_have DT_23 (fun a w => ∃ b11 b10 b9,w0.heap.size≤b11∧w0.heap.size≤b10∧w0.heap.size≤b9∧St 298 (lv [(0,.pointer (some ⟨sh,0,none⟩)),(1,.pointer (some ⟨b,0,none⟩)),(2,.pointer (some ⟨r,0,none⟩)),(7,.pointer (some ⟨b7,0,none⟩)),(8,.bool false),(9,.pointer (some ⟨b9,0,none⟩)),(10,.pointer (some ⟨b10,0,none⟩)),(11,.pointer (some ⟨b11,0,none⟩)),(25,.pointer (some ⟨sh,0,none⟩)),(27,.int .i64 k2),(29,.pointer (some ⟨sh,0,none⟩)),(31,.int .i64 k3),(33,.pointer (some ⟨sh,0,none⟩)),(35,.int .i64 k4)]) a∧Hp w0 Nobody [(b11,.cells ([.int .u8 0,.int .u8 0,.int .u8 0,.int .u8 0,.int .u8 0,.int .u8 0,.int .u8 0,.int .u8 0,.int .u8 0,.int .u8 0,.int .u8 0,.int .u8 0,.int .u8 0,.int .u8 0,.int .u8 0,.int .u8 0] : List Value).toArray 26 (0,0)),(b10,.cells ([.int .u8 0,.int .u8 0,.int .u8 0,.int .u8 0,.int .u8 0,.int .u8 0,.int .u8 0,.int .u8 0,.int .u8 0,.int .u8 0,.int .u8 0,.int .u8 0,.int .u8 0,.int .u8 0,.int .u8 0,.int .u8 0] : List Value).toArray 26 (0,0)),(b9,.cells ([.int .u8 0,.int .u8 0,.int .u8 0,.int .u8 0,.int .u8 0,.int .u8 0,.int .u8 0,.int .u8 0,.int .u8 0,.int .u8 0,.int .u8 0,.int .u8 0,.int .u8 0,.int .u8 0,.int .u8 0,.int .u8 0] : List Value).toArray 26 (0,0)),(b7,.cells ([.int .i64 k1,.int .i64 k2,.int .i64 k3,.int .i64 k4,.string s,.int .i64 nu,va,vq,.bool o] : List Value).toArray 36 (0,0))] w) ?_ (fun cl23 => ?_)
 ·clear hS hH
  intro a w hI
  obtain ⟨b11,b10,b9,hb11,hb10,hb9,hS,hH⟩:=hI
  delta DT_23
  refine trF_seg ?_
  refine r_call (l:=[.tmp 25,.tmp 27]) hS rfl rfl Fc.fn32 rfl ?_
  refine Calls.mono (handle_y k2 [x0,x1,x2,x3,x4,x5,x6,x7,x8,x9,xa,xb,xc,xd,xe,xf] sh hb hcap hl hs sv ss hx _ (hpl.shf.ext hH.mod)) ?_
  rintro e w1 ⟨rfl,hE3⟩
  replace hH:=hH.ext hE3
  refine ⟨_,rfl,hH.kp (by repeat' constructor),?_⟩
  clear hS; intro a hS
  refine r_call (l:=[.tmp 29,.tmp 31]) hS rfl rfl Fc.fn32 rfl ?_
  refine Calls.mono (handle_y k3 [y0,y1,y2,y3,y4,y5,y6,y7,y8,y9,ya,yb,yc,yd,ye,yf] sh hb hcap hl hs sv ss hy _ (hpl.shf.ext hH.mod)) ?_
  rintro e w1 ⟨rfl,hE7⟩
  replace hH:=hH.ext hE7
  refine ⟨_,rfl,hH.kp (by repeat' constructor),?_⟩
  clear hS; intro a hS
  refine r_call (l:=[.tmp 33,.tmp 35]) hS rfl rfl Fc.fn32 rfl ?_
  refine Calls.mono (handle_y k4 [z0,z1,z2,z3,z4,z5,z6,z7,z8,z9,za,zb,zc,zd,ze,zf] sh hb hcap hl hs sv ss hz _ (hpl.shf.ext hH.mod)) ?_
  rintro e w1 ⟨rfl,hE11⟩
  replace hH:=hH.ext hE11
  refine ⟨_,rfl,hH.kp (by repeat' constructor),?_⟩
  clear hS; intro a hS
  refine r_store_row hS hH rfl rfl (by repeat' constructor) (by repeat' constructor) Fc.sz26 (by first | exact hcells_one _ | exact of_decide_eq_true rfl) (by rfl) (by first | exact .inr (by assumption) | exact .inl (by first | assumption | rfl)) ?_
  clear hH; intro w hH
  refine r_store_row hS hH rfl rfl (by repeat' constructor) (by repeat' constructor) Fc.sz26 (by first | exact hcells_one _ | exact of_decide_eq_true rfl) (by rfl) (by first | exact .inr (by assumption) | exact .inl (by first | assumption | rfl)) ?_
  clear hH; intro w hH
  refine r_store_row hS hH rfl rfl (by repeat' constructor) (by repeat' constructor) Fc.sz26 (by first | exact hcells_one _ | exact of_decide_eq_true rfl) (by rfl) (by first | exact .inr (by assumption) | exact .inl (by first | assumption | rfl)) ?_
  clear hH; intro w hH
  refine Sq.nil (then_n ?_)
  refine trF_nil ?_
  refine then_n ?_
  first
   | exact ⟨b9,b10,b11,hb9,hb10,hb11,hS.live ⟨rfl,rfl,rfl,rfl,rfl,rfl,rfl,rfl,trivial⟩,hH⟩
   | exact ⟨b9,b10,b11,hb9,hb10,hb11,hS.live ⟨rfl,rfl,rfl,rfl,rfl,rfl,rfl,rfl,trivial⟩,hH.flip⟩
   | exact ⟨b9,b10,b11,hb9,hb10,hb11,hS.live ⟨rfl,rfl,rfl,rfl,rfl,rfl,rfl,rfl,trivial⟩,hH.flip2⟩
 refine trF_have DT_24 (fun a w => ∃ b10 b9,w0.heap.size≤b10∧w0.heap.size≤b9∧St 298 (lv [(0,.pointer (some ⟨sh,0,none⟩)),(1,.pointer (some ⟨b,0,none⟩)),(2,.pointer (some ⟨r,0,none⟩)),(7,.pointer (some ⟨b7,0,none⟩)),(8,.bool false),(9,.pointer (some ⟨b9,0,none⟩)),(10,.pointer (some ⟨b10,0,none⟩)),(25,.pointer (some ⟨sh,0,none⟩)),(27,.int .i64 k2),(29,.pointer (some ⟨sh,0,none⟩)),(31,.int .i64 k3),(33,.pointer (some ⟨sh,0,none⟩)),(35,.int .i64 k4)]) a∧Hp w0 Nobody [(b10,.cells ([.int .u8 0,.int .u8 0,.int .u8 0,.int .u8 0,.int .u8 0,.int .u8 0,.int .u8 0,.int .u8 0,.int .u8 0,.int .u8 0,.int .u8 0,.int .u8 0,.int .u8 0,.int .u8 0,.int .u8 0,.int .u8 0] : List Value).toArray 26 (0,0)),(b9,.cells ([.int .u8 0,.int .u8 0,.int .u8 0,.int .u8 0,.int .u8 0,.int .u8 0,.int .u8 0,.int .u8 0,.int .u8 0,.int .u8 0,.int .u8 0,.int .u8 0,.int .u8 0,.int .u8 0,.int .u8 0,.int .u8 0] : List Value).toArray 26 (0,0)),(b7,.cells ([.int .i64 k1,.int .i64 k2,.int .i64 k3,.int .i64 k4,.string s,.int .i64 nu,va,vq,.bool o] : List Value).toArray 36 (0,0))] w) ?_ (fun cl24 => ?_)
 ·clear hS hH
  intro a w hI
  obtain ⟨b10,b9,hb10,hb9,hS,hH⟩:=hI
  delta DT_24
  refine trF_seg ?_
  refine Sq.nil (then_n ?_)
  refine trF_fork ?_ ?_
  ·refine trF_seg ?_
   refine r_call (l:=[.tmp 25,.tmp 27]) hS rfl rfl Fc.fn32 rfl ?_
   refine Calls.mono (handle_y k2 [x0,x1,x2,x3,x4,x5,x6,x7,x8,x9,xa,xb,xc,xd,xe,xf] sh hb hcap hl hs sv ss hx _ (hpl.shf.ext hH.mod)) ?_
   rintro e w1 ⟨rfl,hE3⟩
   replace hH:=hH.ext hE3
   refine ⟨_,rfl,hH.kp (by repeat' constructor),?_⟩
   clear hS; intro a hS
   refine Sq.nil (then_n ?_)
   exact cl16 _ _ ⟨b10,b9,hb10,hb9,hS.live ⟨rfl,rfl,rfl,rfl,rfl,rfl,rfl,rfl,rfl,rfl,rfl,rfl,rfl,rfl,trivial⟩,hH⟩
  refine trF_seg ?_
  refine r_alloc hS hH (by repeat' constructor) Fc.zc26 rfl ?_
  clear hS hH; intro a w b11 hb11 hwb11 hS hH
  refine Sq.nil (then_n ?_)
  exact cl23 _ _ ⟨b11,b10,b9,hb11,hb10,hb9,hS.live ⟨rfl,rfl,rfl,rfl,rfl,rfl,rfl,rfl,rfl,rfl,rfl,rfl,rfl,rfl,trivial⟩,hH⟩
 refine trF_have DT_25 (fun a w => ∃ b11 b9,w0.heap.size≤b11∧w0.heap.size≤b9∧St 298 (lv [(0,.pointer (some ⟨sh,0,none⟩)),(1,.pointer (some ⟨b,0,none⟩)),(2,.pointer (some ⟨r,0,none⟩)),(7,.pointer (some ⟨b7,0,none⟩)),(8,.bool false),(9,.pointer (some ⟨b9,0,none⟩)),(11,.pointer (some ⟨b11,0,none⟩)),(25,.pointer (some ⟨sh,0,none⟩)),(27,.int .i64 k2),(29,.pointer (some ⟨sh,0,none⟩)),(31,.int .i64 k3),(33,.pointer (some ⟨sh,0,none⟩)),(35,.int .i64 k4)]) a∧Hp w0 Nobody [(b11,.cells ([.int .u8 0,.int .u8 0,.int .u8 0,.int .u8 0,.int .u8 0,.int .u8 0,.int .u8 0,.int .u8 0,.int .u8 0,.int .u8 0,.int .u8 0,.int .u8 0,.int .u8 0,.int .u8 0,.int .u8 0,.int .u8 0] : List Value).toArray 26 (0,0)),(b9,.cells ([.int .u8 0,.int .u8 0,.int .u8 0,.int .u8 0,.int .u8 0,.int .u8 0,.int .u8 0,.int .u8 0,.int .u8 0,.int .u8 0,.int .u8 0,.int .u8 0,.int .u8 0,.int .u8 0,.int .u8 0,.int .u8 0] : List Value).toArray 26 (0,0)),(b7,.cells ([.int .i64 k1,.int .i64 k2,.int .i64 k3,.int .i64 k4,.string s,.int .i64 nu,va,vq,.bool o] : List Value).toArray 36 (0,0))] w) ?_ (fun cl25 => ?_)
 ·clear hS hH
  intro a w hI
  obtain ⟨b11,b9,hb11,hb9,hS,hH⟩:=hI
  delta DT_25
  refine trF_seg ?_
  refine Sq.nil (then_n ?_)
  refine trF_fork ?_ ?_
  ·refine trF_seg ?_
   refine r_call (l:=[.tmp 25,.tmp 27]) hS rfl rfl Fc.fn32 rfl ?_
   refine Calls.mono (handle_y k2 [x0,x1,x2,x3,x4,x5,x6,x7,x8,x9,xa,xb,xc,xd,xe,xf] sh hb hcap hl hs sv ss hx _ (hpl.shf.ext hH.mod)) ?_
   rintro e w1 ⟨rfl,hE3⟩
   replace hH:=hH.ext hE3
   refine ⟨_,rfl,hH.kp (by repeat' constructor),?_⟩
   clear hS; intro a hS
   refine Sq.nil (then_n ?_)
   exact cl17 _ _ ⟨b11,b9,hb11,hb9,hS.live ⟨rfl,rfl,rfl,rfl,rfl,rfl,rfl,rfl,rfl,rfl,rfl,rfl,rfl,rfl,trivial⟩,hH⟩
  refine trF_seg ?_
  refine r_alloc hS hH (by repeat' constructor) Fc.zc26 rfl ?_
  clear hS hH; intro a w b10 hb10 hwb10 hS hH
  refine Sq.nil (then_n ?_)
  exact cl23 _ _ ⟨b11,b10,b9,hb11,hb10,hb9,hS.live ⟨rfl,rfl,rfl,rfl,rfl,rfl,rfl,rfl,rfl,rfl,rfl,rfl,rfl,rfl,trivial⟩,hH.flip⟩
 refine trF_have DT_26 (fun a w => ∃ b9,w0.heap.size≤b9∧St 298 (lv [(0,.pointer (some ⟨sh,0,none⟩)),(1,.pointer (some ⟨b,0,none⟩)),(2,.pointer (some ⟨r,0,none⟩)),(7,.pointer (some ⟨b7,0,none⟩)),(8,.bool false),(9,.pointer (some ⟨b9,0,none⟩)),(25,.pointer (some ⟨sh,0,none⟩)),(27,.int .i64 k2),(29,.pointer (some ⟨sh,0,none⟩)),(31,.int .i64 k3),(33,.pointer (some ⟨sh,0,none⟩)),(35,.int .i64 k4)]) a∧Hp w0 Nobody [(b9,.cells ([.int .u8 0,.int .u8 0,.int .u8 0,.int .u8 0,.int .u8 0,.int .u8 0,.int .u8 0,.int .u8 0,.int .u8 0,.int .u8 0,.int .u8 0,.int .u8 0,.int .u8 0,.int .u8 0,.int .u8 0,.int .u8 0] : List Value).toArray 26 (0,0)),(b7,.cells ([.int .i64 k1,.int .i64 k2,.int .i64 k3,.int .i64 k4,.string s,.int .i64 nu,va,vq,.bool o] : List Value).toArray 36 (0,0))] w) ?_ (fun cl26 => ?_)
 ·clear hS hH
  intro a w hI
  obtain ⟨b9,hb9,hS,hH⟩:=hI
  delta DT_26
  refine trF_seg ?_
  refine Sq.nil (then_n ?_)
  refine trF_fork ?_ ?_
  ·refine trF_seg ?_
   refine r_call (l:=[.tmp 25,.tmp 27]) hS rfl rfl Fc.fn32 rfl ?_
   refine Calls.mono (handle_y k2 [x0,x1,x2,x3,x4,x5,x6,x7,x8,x9,xa,xb,xc,xd,xe,xf] sh hb hcap hl hs sv ss hx _ (hpl.shf.ext hH.mod)) ?_
   rintro e w1 ⟨rfl,hE3⟩
   replace hH:=hH.ext hE3
   refine ⟨_,rfl,hH.kp (by repeat' constructor),?_⟩
   clear hS; intro a hS
   refine Sq.nil (then_n ?_)
   exact cl18 _ _ ⟨b9,hb9,hS.live ⟨rfl,rfl,rfl,rfl,rfl,rfl,rfl,rfl,rfl,rfl,rfl,rfl,rfl,trivial⟩,hH⟩
  refine trF_fork ?_ ?_
  ·refine trF_seg ?_
   refine r_alloc hS hH (by repeat' constructor) Fc.zc26 rfl ?_
   clear hS hH; intro a w b10 hb10 hwb10 hS hH
   refine Sq.nil (then_n ?_)
   exact cl24 _ _ ⟨b10,b9,hb10,hb9,hS.live ⟨rfl,rfl,rfl,rfl,rfl,rfl,rfl,rfl,rfl,rfl,rfl,rfl,rfl,trivial⟩,hH⟩
  refine trF_seg ?_
  refine r_alloc hS hH (by repeat' constructor) Fc.zc26 rfl ?_
  clear hS hH; intro a w b11 hb11 hwb11 hS hH
  refine Sq.nil (then_n ?_)
  exact cl25 _ _ ⟨b11,b9,hb11,hb9,hS.live ⟨rfl,rfl,rfl,rfl,rfl,rfl,rfl,rfl,rfl,rfl,rfl,rfl,rfl,trivial⟩,hH⟩
 refine trF_have DT_27 (fun a w => ∃ b11 b10,w0.heap.size≤b11∧w0.heap.size≤b10∧St 298 (lv [(0,.pointer (some ⟨sh,0,none⟩)),(1,.pointer (some ⟨b,0,none⟩)),(2,.pointer (some ⟨r,0,none⟩)),(7,.pointer (some ⟨b7,0,none⟩)),(8,.bool false),(10,.pointer (some ⟨b10,0,none⟩)),(11,.pointer (some ⟨b11,0,none⟩)),(25,.pointer (some ⟨sh,0,none⟩)),(27,.int .i64 k2),(29,.pointer (some ⟨sh,0,none⟩)),(31,.int .i64 k3),(33,.pointer (some ⟨sh,0,none⟩)),(35,.int .i64 k4)]) a∧Hp w0 Nobody [(b11,.cells ([.int .u8 0,.int .u8 0,.int .u8 0,.int .u8 0,.int .u8 0,.int .u8 0,.int .u8 0,.int .u8 0,.int .u8 0,.int .u8 0,.int .u8 0,.int .u8 0,.int .u8 0,.int .u8 0,.int .u8 0,.int .u8 0] : List Value).toArray 26 (0,0)),(b10,.cells ([.int .u8 0,.int .u8 0,.int .u8 0,.int .u8 0,.int .u8 0,.int .u8 0,.int .u8 0,.int .u8 0,.int .u8 0,.int .u8 0,.int .u8 0,.int .u8 0,.int .u8 0,.int .u8 0,.int .u8 0,.int .u8 0] : List Value).toArray 26 (0,0)),(b7,.cells ([.int .i64 k1,.int .i64 k2,.int .i64 k3,.int .i64 k4,.string s,.int .i64 nu,va,vq,.bool o] : List Value).toArray 36 (0,0))] w) ?_ (fun cl27 => ?_)
 ·clear hS hH
  intro a w hI
  obtain ⟨b11,b10,hb11,hb10,hS,hH⟩:=hI
  delta DT_27
  refine trF_seg ?_
  refine Sq.nil (then_n ?_)
  refine trF_fork ?_ ?_
  ·refine trF_seg ?_
   refine r_call (l:=[.tmp 25,.tmp 27]) hS rfl rfl Fc.fn32 rfl ?_
   refine Calls.mono (handle_y k2 [x0,x1,x2,x3,x4,x5,x6,x7,x8,x9,xa,xb,xc,xd,xe,xf] sh hb hcap hl hs sv ss hx _ (hpl.shf.ext hH.mod)) ?_
   rintro e w1 ⟨rfl,hE3⟩
   replace hH:=hH.ext hE3
   refine ⟨_,rfl,hH.kp (by repeat' constructor),?_⟩
   clear hS; intro a hS
   refine Sq.nil (then_n ?_)
   exact cl19 _ _ ⟨b11,b10,hb11,hb10,hS.live ⟨rfl,rfl,rfl,rfl,rfl,rfl,rfl,rfl,rfl,rfl,rfl,rfl,rfl,rfl,trivial⟩,hH⟩
  refine trF_seg ?_
  refine r_alloc hS hH (by repeat' constructor) Fc.zc26 rfl ?_
  clear hS hH; intro a w b9 hb9 hwb9 hS hH
  refine Sq.nil (then_n ?_)
  exact cl23 _ _ ⟨b11,b10,b9,hb11,hb10,hb9,hS.live ⟨rfl,rfl,rfl,rfl,rfl,rfl,rfl,rfl,rfl,rfl,rfl,rfl,rfl,rfl,trivial⟩,hH.flip2⟩
 refine trF_have DT_28 (fun a w => ∃ b10,w0.heap.size≤b10∧St 298 (lv [(0,.pointer (some ⟨sh,0,none⟩)),(1,.pointer (some ⟨b,0,none⟩)),(2,.pointer (some ⟨r,0,none⟩)),(7,.pointer (some ⟨b7,0,none⟩)),(8,.bool false),(10,.pointer (some ⟨b10,0,none⟩)),(25,.pointer (some ⟨sh,0,none⟩)),(27,.int .i64 k2),(29,.pointer (some ⟨sh,0,none⟩)),(31,.int .i64 k3),(33,.pointer (some ⟨sh,0,none⟩)),(35,.int .i64 k4)]) a∧Hp w0 Nobody [(b10,.cells ([.int .u8 0,.int .u8 0,.int .u8 0,.int .u8 0,.int .u8 0,.int .u8 0,.int .u8 0,.int .u8 0,.int .u8 0,.int .u8 0,.int .u8 0,.int .u8 0,.int .u8 0,.int .u8 0,.int .u8 0,.int .u8 0] : List Value).toArray 26 (0,0)),(b7,.cells ([.int .i64 k1,.int .i64 k2,.int .i64 k3,.int .i64 k4,.string s,.int .i64 nu,va,vq,.bool o] : List Value).toArray 36 (0,0))] w) ?_ (fun cl28 => ?_)
 ·clear hS hH
  intro a w hI
  obtain ⟨b10,hb10,hS,hH⟩:=hI
  delta DT_28
  refine trF_seg ?_
  refine Sq.nil (then_n ?_)
  refine trF_fork ?_ ?_
  ·refine trF_seg ?_
   refine r_call (l:=[.tmp 25,.tmp 27]) hS rfl rfl Fc.fn32 rfl ?_
   refine Calls.mono (handle_y k2 [x0,x1,x2,x3,x4,x5,x6,x7,x8,x9,xa,xb,xc,xd,xe,xf] sh hb hcap hl hs sv ss hx _ (hpl.shf.ext hH.mod)) ?_
   rintro e w1 ⟨rfl,hE3⟩
   replace hH:=hH.ext hE3
   refine ⟨_,rfl,hH.kp (by repeat' constructor),?_⟩
   clear hS; intro a hS
   refine Sq.nil (then_n ?_)
   exact cl20 _ _ ⟨b10,hb10,hS.live ⟨rfl,rfl,rfl,rfl,rfl,rfl,rfl,rfl,rfl,rfl,rfl,rfl,rfl,trivial⟩,hH⟩
  refine trF_fork ?_ ?_
  ·refine trF_seg ?_
   refine r_alloc hS hH (by repeat' constructor) Fc.zc26 rfl ?_
   clear hS hH; intro a w b9 hb9 hwb9 hS hH
   refine Sq.nil (then_n ?_)
   exact cl24 _ _ ⟨b10,b9,hb10,hb9,hS.live ⟨rfl,rfl,rfl,rfl,rfl,rfl,rfl,rfl,rfl,rfl,rfl,rfl,rfl,trivial⟩,hH.flip⟩
  refine trF_seg ?_
  refine r_alloc hS hH (by repeat' constructor) Fc.zc26 rfl ?_
  clear hS hH; intro a w b11 hb11 hwb11 hS hH
  refine Sq.nil (then_n ?_)
  exact cl27 _ _ ⟨b11,b10,hb11,hb10,hS.live ⟨rfl,rfl,rfl,rfl,rfl,rfl,rfl,rfl,rfl,rfl,rfl,rfl,rfl,trivial⟩,hH⟩
 refine trF_have DT_29 (fun a w => ∃ b11,w0.heap.size≤b11∧St 298 (lv [(0,.pointer (some ⟨sh,0,none⟩)),(1,.pointer (some ⟨b,0,none⟩)),(2,.pointer (some ⟨r,0,none⟩)),(7,.pointer (some ⟨b7,0,none⟩)),(8,.bool false),(11,.pointer (some ⟨b11,0,none⟩)),(25,.pointer (some ⟨sh,0,none⟩)),(27,.int .i64 k2),(29,.pointer (some ⟨sh,0,none⟩)),(31,.int .i64 k3),(33,.pointer (some ⟨sh,0,none⟩)),(35,.int .i64 k4)]) a∧Hp w0 Nobody [(b11,.cells ([.int .u8 0,.int .u8 0,.int .u8 0,.int .u8 0,.int .u8 0,.int .u8 0,.int .u8 0,.int .u8 0,.int .u8 0,.int .u8 0,.int .u8 0,.int .u8 0,.int .u8 0,.int .u8 0,.int .u8 0,.int .u8 0] : List Value).toArray 26 (0,0)),(b7,.cells ([.int .i64 k1,.int .i64 k2,.int .i64 k3,.int .i64 k4,.string s,.int .i64 nu,va,vq,.bool o] : List Value).toArray 36 (0,0))] w) ?_ (fun cl29 => ?_)
 ·clear hS hH
  intro a w hI
  obtain ⟨b11,hb11,hS,hH⟩:=hI
  delta DT_29
  refine trF_seg ?_
  refine Sq.nil (then_n ?_)
  refine trF_fork ?_ ?_
  ·refine trF_seg ?_
   refine r_call (l:=[.tmp 25,.tmp 27]) hS rfl rfl Fc.fn32 rfl ?_
   refine Calls.mono (handle_y k2 [x0,x1,x2,x3,x4,x5,x6,x7,x8,x9,xa,xb,xc,xd,xe,xf] sh hb hcap hl hs sv ss hx _ (hpl.shf.ext hH.mod)) ?_
   rintro e w1 ⟨rfl,hE3⟩
   replace hH:=hH.ext hE3
   refine ⟨_,rfl,hH.kp (by repeat' constructor),?_⟩
   clear hS; intro a hS
   refine Sq.nil (then_n ?_)
   exact cl21 _ _ ⟨b11,hb11,hS.live ⟨rfl,rfl,rfl,rfl,rfl,rfl,rfl,rfl,rfl,rfl,rfl,rfl,rfl,trivial⟩,hH⟩
  refine trF_fork ?_ ?_
  ·refine trF_seg ?_
   refine r_alloc hS hH (by repeat' constructor) Fc.zc26 rfl ?_
   clear hS hH; intro a w b9 hb9 hwb9 hS hH
   refine Sq.nil (then_n ?_)
   exact cl25 _ _ ⟨b11,b9,hb11,hb9,hS.live ⟨rfl,rfl,rfl,rfl,rfl,rfl,rfl,rfl,rfl,rfl,rfl,rfl,rfl,trivial⟩,hH.flip⟩
  refine trF_seg ?_
  refine r_alloc hS hH (by repeat' constructor) Fc.zc26 rfl ?_
  clear hS hH; intro a w b10 hb10 hwb10 hS hH
  refine Sq.nil (then_n ?_)
  exact cl27 _ _ ⟨b11,b10,hb11,hb10,hS.live ⟨rfl,rfl,rfl,rfl,rfl,rfl,rfl,rfl,rfl,rfl,rfl,rfl,rfl,trivial⟩,hH.flip⟩
 delta DT_30
 refine trF_seg ?_
 refine r_move hS trivial rfl rfl (x_fieldAddr trivial rfl Fc.fo36_1 rfl (x_load_scS rfl (by repeat' constructor) Fc.sc3 (by rfl) rfl (x_move trivial rfl rfl (x_fieldAddr trivial rfl Fc.fo36_2 rfl (x_load_scS rfl (by repeat' constructor) Fc.sc3 (by rfl) rfl (x_move trivial rfl rfl (x_fieldAddr trivial rfl Fc.fo36_3 rfl (x_load_scS rfl (by repeat' constructor) Fc.sc3 (by rfl) rfl ?_)))))))); clear hS; intro a hS
 refine Sq.nil (then_n ?_)
 refine trF_fork ?_ ?_
 ·refine trF_seg ?_
  refine r_call (l:=[.tmp 25,.tmp 27]) hS rfl rfl Fc.fn32 rfl ?_
  refine Calls.mono (handle_y k2 [x0,x1,x2,x3,x4,x5,x6,x7,x8,x9,xa,xb,xc,xd,xe,xf] sh hb hcap hl hs sv ss hx _ (hpl.shf.ext hH.mod)) ?_
  rintro e w1 ⟨rfl,hE3⟩
  replace hH:=hH.ext hE3
  refine ⟨_,rfl,hH.kp (by repeat' constructor),?_⟩
  clear hS; intro a hS
  refine Sq.nil (then_n ?_)
  exact cl22 _ _ ⟨hS.live ⟨rfl,rfl,rfl,rfl,rfl,rfl,rfl,rfl,rfl,rfl,rfl,rfl,trivial⟩,hH⟩
 refine trF_fork ?_ ?_
 ·refine trF_seg ?_
  refine r_alloc hS hH (by repeat' constructor) Fc.zc26 rfl ?_
  clear hS hH; intro a w b9 hb9 hwb9 hS hH
  refine Sq.nil (then_n ?_)
  exact cl26 _ _ ⟨b9,hb9,hS.live ⟨rfl,rfl,rfl,rfl,rfl,rfl,rfl,rfl,rfl,rfl,rfl,rfl,trivial⟩,hH⟩
 refine trF_fork ?_ ?_
 ·refine trF_seg ?_
  refine r_alloc hS hH (by repeat' constructor) Fc.zc26 rfl ?_
  clear hS hH; intro a w b10 hb10 hwb10 hS hH
  refine Sq.nil (then_n ?_)
  exact cl28 _ _ ⟨b10,hb10,hS.live ⟨rfl,rfl,rfl,rfl,rfl,rfl,rfl,rfl,rfl,rfl,rfl,rfl,trivial⟩,hH⟩
 refine trF_seg ?_
 refine r_alloc hS hH (by repeat' constructor) Fc.zc26 rfl ?_
 clear hS hH; intro a w b11 hb11 hwb11 hS hH
 refine Sq.nil (then_n ?_)
 exact cl29 _ _ ⟨b11,hb11,hS.live ⟨rfl,rfl,rfl,rfl,rfl,rfl,rfl,rfl,rfl,rfl,rfl,rfl,trivial⟩,hH⟩

end Go.Proofs.YtcjmehononbadaaDoor
