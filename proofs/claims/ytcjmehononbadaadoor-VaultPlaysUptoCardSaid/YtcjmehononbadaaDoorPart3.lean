/- Two vaults under any calls answer alike. Part Part3: walks and lemmas of the proof. -/
import Derived.Test.YtcjmehononbadaaDoorPart2
import Derived.Test.YtcjmehononbadaaDoorSym5
namespace Go.Proofs.YtcjmehononbadaaDoor
open Go.Sym

theorem Fc.elb : elB Tryd.prog 69 = some (4,1,1):=by kernel_rfl
theorem Fc.fn54 : isFn Tryd.prog 54 = true:=by kernel_rfl
theorem Fc.fn55 : isFn Tryd.prog 55 = true:=by kernel_rfl
theorem Fc.pl71 : placesB Tryd.prog 71 = some [(0,1),(1,1),(2,1)]:=by kernel_rfl
theorem Fc.sz67 : sizeB Tryd.prog 67 1 = true:=by kernel_rfl
theorem Fc.sz69 : sizeB Tryd.prog 69 1 = true:=by kernel_rfl
theorem Fc.zc4 : zcB Tryd.prog 4 = some [.bool false]:=by kernel_rfl
theorem Fc.zc67 : zcB Tryd.prog 67 = some [.pointer none]:=by kernel_rfl
theorem Fc.zc69 : zcB Tryd.prog 69 = some [.slice none 0 0]:=by kernel_rfl
theorem Fc.zc71 : zcB Tryd.prog 71 = some [.pointer none,.slice none 0 0,.slice none 0 0]:=by kernel_rfl
set_option maxRecDepth 100000 in
set_option maxHeartbeats 4000000 in
theorem knows6_nil (b : Nat) (V : VB) (ts : List Tm) (hm : ts.length≤1000000000) (hwf : Wf6 ts) (hpos : 0 < ts.length) (w0 : World) (hvi : VI w0 b V ts) :
  Calls Tryd.prog 26 #[.pointer (some ⟨b,0,none⟩),.slice none 0 0] w0 fun e w' => ∃ bs bk K tdv,e = .returned (.pointer (some ⟨bs,0,none⟩))∧w'.heap[bs]? = some (.cells [.pointer (some ⟨b,0,none⟩),.slice (some ⟨bk,0,none⟩) ts.length ts.length,tdv].toArray 71 (0,0))∧w'.heap[bk]? = some (.cells (bools K).toArray 4 (0,0))∧Knows6 ts [] K∧Ext w0 w'∧w0.heap.size≤bs∧w0.heap.size≤bk:=by
 refine enter Tryd.func26 rfl rfl rfl ?_
 intro a hS
 have hH:=Hp.start w0 (Nobody)
 have h0:=hpos
 have hll : ∀ l∈([] : List (List UInt8)),l.length≤1099511627776:=fun l hl => (by cases hl)
 have hlsl : ([] : List (List UInt8)).length≤1099511627776:=by decide
 replace hH:=hH.knowV hvi (by intro p hp; simp at hp)
 refine c_seq (reg_plain w0 (Nobody) ?_)
 refine r_box hS hH (by repeat' constructor) rfl rfl rfl ?_
 clear hS hH; intro a w b2 hb2 hwb2 hS hH
 refine r_assign hS hH.kp0 rfl rfl ?_; clear hS; intro a hS
 refine Sq.nil (then_n ?_)
 refine c_cut (fun a w => ∃ (bs bk b5  : Nat),w0.heap.size≤bs∧w0.heap.size≤bk∧w0.heap.size≤b5∧St 34 (lv [(2,.pointer (some ⟨b2,0,none⟩)),(5,.pointer (some ⟨b5,0,none⟩))]) a∧Hp w0 Nobody [(bs,.cells [.pointer (some ⟨b,0,none⟩),.slice (some ⟨bk,0,none⟩) ts.length ts.length,.slice none 0 0].toArray 71 (0,0)),(bk,.cells (bools (List.replicate ts.length false)).toArray 4 (0,0)),(b5,.cells [.pointer (some ⟨bs,0,none⟩)].toArray 67 (0,0)),(b2,.cells [.pointer (some ⟨b,0,none⟩)].toArray 23 (0,0)),(b,.cells (V.top ts.length).toArray 41 (0,0)),(V.sb,.cells V.l.toArray 64 (0,0)),(V.fb,.map V.es V.c),(V.nb,.map V.es' V.c')] w) ?_ ?_
 ·refine reg_tree [(true,0,[]),(true,1,[]),(true,2,[]),(true,3,[]),(true,4,[]),(true,5,[]),(false,6,[]),(true,7,[]),(false,8,[]),(true,9,[]),(false,10,[]),(false,11,[]),(false,12,[])] (PT.ofPlan [(true,0,[]),(true,1,[]),(true,2,[]),(true,3,[]),(true,4,[]),(true,5,[]),(true,7,[])] (.fork3 (PT.ofPlan [(false,6,[])] (.fork (PT.ofPlan [(false,8,[]),(true,9,[])] (.fork (PT.ofPlan [(false,10,[]),(false,11,[]),(false,12,[])] .nil) (PT.ofPlan [(false,11,[]),(false,10,[]),(false,12,[])] .nil))) (PT.ofPlan [(false,11,[]),(false,8,[]),(true,9,[]),(false,10,[]),(false,12,[])] .nil))) (PT.ofPlan [(false,8,[])] (.fork (PT.ofPlan [(false,6,[]),(true,9,[])] (.fork (PT.ofPlan [(false,10,[]),(false,11,[]),(false,12,[])] .nil) (PT.ofPlan [(false,11,[]),(false,10,[]),(false,12,[])] .nil))) (PT.ofPlan [(false,11,[]),(false,6,[]),(true,9,[]),(false,10,[]),(false,12,[])] .nil))) (PT.ofPlan [(false,11,[])] (.fork (PT.ofPlan [(false,6,[]),(false,8,[]),(true,9,[]),(false,10,[]),(false,12,[])] .nil) (PT.ofPlan [(false,8,[]),(false,6,[]),(true,9,[]),(false,10,[]),(false,12,[])] .nil))))) Fc.mixed (by kernel_rfl) (by kernel_rfl) (by kernel_rfl) (by kernel_rfl) (by kernel_rfl) (by kernel_rfl) (by repeat (first | with_reducible exact steady_body | with_reducible apply steady_block | with_reducible apply steady_then | exact steady_body)) hH ?_
  replace hH:=hH.drew
  refine tr_seg ?_
  refine r_load_scS hS rfl (by repeat' constructor) Fc.sc23 (by rfl) rfl (x_load_scS rfl (by repeat' constructor) Fc.sc23 (by rfl) rfl (x_nilCheck trivial rfl rfl (x_fieldAddr trivial rfl Fc.fo41_0 rfl (x_load_scS rfl (by repeat' constructor) Fc.sc37 (by rfl) rfl (x_lenSl trivial rfl Fc.isSlice37 rfl (x_move trivial rfl rfl ?_)))))); clear hS; intro a hS
  refine Sq.nil (then_n ?_)
  refine tr_fork3 ?_ ?_ ?_
  ·refine tr_seg ?_
   refine r_makeSl (m:=ts.length) (v0:=.bool false) hS hH (by repeat' constructor) rfl rfl rfl rfl Fc.elb Fc.zc4 (by omega) (by omega) rfl ?_
   clear hS hH; intro a w bk hbk hwbk hS hH
   rw [bools_rep] at hH
   refine Sq.nil (then_n ?_)
   refine tr_fork ?_ ?_
   ·refine tr_seg ?_
    refine r_call (l:=[.tmp 15]) hS rfl rfl Fc.fn54 rfl ?_
    refine Calls.mono (clone_nil _) ?_
    rintro e w1 ⟨rfl,hE⟩
    replace hH:=hH.ext hE
    refine ⟨_,rfl,hH.kp (by repeat' constructor),?_⟩
    clear hS; intro a hS
    refine r_buildS (parts:=[(0,.tmp 8),(1,.tmp 14),(2,.tmp 16)]) hS trivial rfl rfl Fc.zc71 Fc.pl71 (by rfl) ?_; clear hS; intro a hS
    refine Sq.nil (then_n ?_)
    refine tr_fork ?_ ?_
    ·refine tr_seg ?_
     refine r_box hS hH (by repeat' constructor) rfl rfl rfl ?_
     clear hS hH; intro a w bs hbs hwbs hS hH
     refine r_alloc hS hH (by repeat' constructor) Fc.zc67 rfl ?_
     clear hS hH; intro a w b5 hb5 hwb5 hS hH
     refine r_store1 hS hH rfl rfl rfl (by repeat' constructor) (by repeat' constructor) Fc.sz67 (of_decide_eq_true rfl) (.inr (by assumption)) ?_
     clear hH; intro w hH
     refine Sq.nil (then_n ?_)
     refine tr_nil ?_
     refine then_n ?_
     have hH2:=((hH.front (b:=b5) (by repeat' constructor)).front (b:=bk) (by repeat' constructor)).front (b:=bs) (by repeat' constructor)
     exact ⟨bs,bk,b5,hbs,hbk,hb5,hS.live ⟨rfl,rfl,trivial⟩,hH2⟩
    ·refine tr_seg ?_
     refine r_alloc hS hH (by repeat' constructor) Fc.zc67 rfl ?_
     clear hS hH; intro a w b5 hb5 hwb5 hS hH
     refine r_box hS hH (by repeat' constructor) rfl rfl rfl ?_
     clear hS hH; intro a w bs hbs hwbs hS hH
     refine r_store1 hS hH rfl rfl rfl (by repeat' constructor) (by repeat' constructor) Fc.sz67 (of_decide_eq_true rfl) (.inr (by assumption)) ?_
     clear hH; intro w hH
     refine Sq.nil (then_n ?_)
     refine tr_nil ?_
     refine then_n ?_
     have hH2:=((hH.front (b:=b5) (by repeat' constructor)).front (b:=bk) (by repeat' constructor)).front (b:=bs) (by repeat' constructor)
     exact ⟨bs,bk,b5,hbs,hbk,hb5,hS.live ⟨rfl,rfl,trivial⟩,hH2⟩
   ·refine tr_seg ?_
    refine r_alloc hS hH (by repeat' constructor) Fc.zc67 rfl ?_
    clear hS hH; intro a w b5 hb5 hwb5 hS hH
    refine r_call (l:=[.tmp 15]) hS rfl rfl Fc.fn54 rfl ?_
    refine Calls.mono (clone_nil _) ?_
    rintro e w1 ⟨rfl,hE⟩
    replace hH:=hH.ext hE
    refine ⟨_,rfl,hH.kp (by repeat' constructor),?_⟩
    clear hS; intro a hS
    refine r_buildS (parts:=[(0,.tmp 8),(1,.tmp 14),(2,.tmp 16)]) hS trivial rfl rfl Fc.zc71 Fc.pl71 (by rfl) ?_; clear hS; intro a hS
    refine r_box hS hH (by repeat' constructor) rfl rfl rfl ?_
    clear hS hH; intro a w bs hbs hwbs hS hH
    refine r_store1 hS hH rfl rfl rfl (by repeat' constructor) (by repeat' constructor) Fc.sz67 (of_decide_eq_true rfl) (.inr (by assumption)) ?_
    clear hH; intro w hH
    refine Sq.nil (then_n ?_)
    refine tr_nil ?_
    refine then_n ?_
    have hH2:=((hH.front (b:=b5) (by repeat' constructor)).front (b:=bk) (by repeat' constructor)).front (b:=bs) (by repeat' constructor)
    exact ⟨bs,bk,b5,hbs,hbk,hb5,hS.live ⟨rfl,rfl,trivial⟩,hH2⟩
  ·refine tr_seg ?_
   refine r_call (l:=[.tmp 15]) hS rfl rfl Fc.fn54 rfl ?_
   refine Calls.mono (clone_nil _) ?_
   rintro e w1 ⟨rfl,hE⟩
   replace hH:=hH.ext hE
   refine ⟨_,rfl,hH.kp (by repeat' constructor),?_⟩
   clear hS; intro a hS
   refine Sq.nil (then_n ?_)
   refine tr_fork ?_ ?_
   ·refine tr_seg ?_
    refine r_makeSl (m:=ts.length) (v0:=.bool false) hS hH (by repeat' constructor) rfl rfl rfl rfl Fc.elb Fc.zc4 (by omega) (by omega) rfl ?_
    clear hS hH; intro a w bk hbk hwbk hS hH
    rw [bools_rep] at hH
    refine r_buildS (parts:=[(0,.tmp 8),(1,.tmp 14),(2,.tmp 16)]) hS trivial rfl rfl Fc.zc71 Fc.pl71 (by rfl) ?_; clear hS; intro a hS
    refine Sq.nil (then_n ?_)
    refine tr_fork ?_ ?_
    ·refine tr_seg ?_
     refine r_box hS hH (by repeat' constructor) rfl rfl rfl ?_
     clear hS hH; intro a w bs hbs hwbs hS hH
     refine r_alloc hS hH (by repeat' constructor) Fc.zc67 rfl ?_
     clear hS hH; intro a w b5 hb5 hwb5 hS hH
     refine r_store1 hS hH rfl rfl rfl (by repeat' constructor) (by repeat' constructor) Fc.sz67 (of_decide_eq_true rfl) (.inr (by assumption)) ?_
     clear hH; intro w hH
     refine Sq.nil (then_n ?_)
     refine tr_nil ?_
     refine then_n ?_
     have hH2:=((hH.front (b:=b5) (by repeat' constructor)).front (b:=bk) (by repeat' constructor)).front (b:=bs) (by repeat' constructor)
     exact ⟨bs,bk,b5,hbs,hbk,hb5,hS.live ⟨rfl,rfl,trivial⟩,hH2⟩
    ·refine tr_seg ?_
     refine r_alloc hS hH (by repeat' constructor) Fc.zc67 rfl ?_
     clear hS hH; intro a w b5 hb5 hwb5 hS hH
     refine r_box hS hH (by repeat' constructor) rfl rfl rfl ?_
     clear hS hH; intro a w bs hbs hwbs hS hH
     refine r_store1 hS hH rfl rfl rfl (by repeat' constructor) (by repeat' constructor) Fc.sz67 (of_decide_eq_true rfl) (.inr (by assumption)) ?_
     clear hH; intro w hH
     refine Sq.nil (then_n ?_)
     refine tr_nil ?_
     refine then_n ?_
     have hH2:=((hH.front (b:=b5) (by repeat' constructor)).front (b:=bk) (by repeat' constructor)).front (b:=bs) (by repeat' constructor)
     exact ⟨bs,bk,b5,hbs,hbk,hb5,hS.live ⟨rfl,rfl,trivial⟩,hH2⟩
   ·refine tr_seg ?_
    refine r_alloc hS hH (by repeat' constructor) Fc.zc67 rfl ?_
    clear hS hH; intro a w b5 hb5 hwb5 hS hH
    refine r_makeSl (m:=ts.length) (v0:=.bool false) hS hH (by repeat' constructor) rfl rfl rfl rfl Fc.elb Fc.zc4 (by omega) (by omega) rfl ?_
    clear hS hH; intro a w bk hbk hwbk hS hH
    rw [bools_rep] at hH
    refine r_buildS (parts:=[(0,.tmp 8),(1,.tmp 14),(2,.tmp 16)]) hS trivial rfl rfl Fc.zc71 Fc.pl71 (by rfl) ?_; clear hS; intro a hS
    refine r_box hS hH (by repeat' constructor) rfl rfl rfl ?_
    clear hS hH; intro a w bs hbs hwbs hS hH
    refine r_store1 hS hH rfl rfl rfl (by repeat' constructor) (by repeat' constructor) Fc.sz67 (of_decide_eq_true rfl) (.inr (by assumption)) ?_
    clear hH; intro w hH
    refine Sq.nil (then_n ?_)
    refine tr_nil ?_
    refine then_n ?_
    have hH2:=((hH.front (b:=b5) (by repeat' constructor)).front (b:=bk) (by repeat' constructor)).front (b:=bs) (by repeat' constructor)
    exact ⟨bs,bk,b5,hbs,hbk,hb5,hS.live ⟨rfl,rfl,trivial⟩,hH2⟩
  ·refine tr_seg ?_
   refine r_alloc hS hH (by repeat' constructor) Fc.zc67 rfl ?_
   clear hS hH; intro a w b5 hb5 hwb5 hS hH
   refine Sq.nil (then_n ?_)
   refine tr_fork ?_ ?_
   ·refine tr_seg ?_
    refine r_makeSl (m:=ts.length) (v0:=.bool false) hS hH (by repeat' constructor) rfl rfl rfl rfl Fc.elb Fc.zc4 (by omega) (by omega) rfl ?_
    clear hS hH; intro a w bk hbk hwbk hS hH
    rw [bools_rep] at hH
    refine r_call (l:=[.tmp 15]) hS rfl rfl Fc.fn54 rfl ?_
    refine Calls.mono (clone_nil _) ?_
    rintro e w1 ⟨rfl,hE⟩
    replace hH:=hH.ext hE
    refine ⟨_,rfl,hH.kp (by repeat' constructor),?_⟩
    clear hS; intro a hS
    refine r_buildS (parts:=[(0,.tmp 8),(1,.tmp 14),(2,.tmp 16)]) hS trivial rfl rfl Fc.zc71 Fc.pl71 (by rfl) ?_; clear hS; intro a hS
    refine r_box hS hH (by repeat' constructor) rfl rfl rfl ?_
    clear hS hH; intro a w bs hbs hwbs hS hH
    refine r_store1 hS hH rfl rfl rfl (by repeat' constructor) (by repeat' constructor) Fc.sz67 (of_decide_eq_true rfl) (.inr (by assumption)) ?_
    clear hH; intro w hH
    refine Sq.nil (then_n ?_)
    refine tr_nil ?_
    refine then_n ?_
    have hH2:=((hH.front (b:=b5) (by repeat' constructor)).front (b:=bk) (by repeat' constructor)).front (b:=bs) (by repeat' constructor)
    exact ⟨bs,bk,b5,hbs,hbk,hb5,hS.live ⟨rfl,rfl,trivial⟩,hH2⟩
   ·refine tr_seg ?_
    refine r_call (l:=[.tmp 15]) hS rfl rfl Fc.fn54 rfl ?_
    refine Calls.mono (clone_nil _) ?_
    rintro e w1 ⟨rfl,hE⟩
    replace hH:=hH.ext hE
    refine ⟨_,rfl,hH.kp (by repeat' constructor),?_⟩
    clear hS; intro a hS
    refine r_makeSl (m:=ts.length) (v0:=.bool false) hS hH (by repeat' constructor) rfl rfl rfl rfl Fc.elb Fc.zc4 (by omega) (by omega) rfl ?_
    clear hS hH; intro a w bk hbk hwbk hS hH
    rw [bools_rep] at hH
    refine r_buildS (parts:=[(0,.tmp 8),(1,.tmp 14),(2,.tmp 16)]) hS trivial rfl rfl Fc.zc71 Fc.pl71 (by rfl) ?_; clear hS; intro a hS
    refine r_box hS hH (by repeat' constructor) rfl rfl rfl ?_
    clear hS hH; intro a w bs hbs hwbs hS hH
    refine r_store1 hS hH rfl rfl rfl (by repeat' constructor) (by repeat' constructor) Fc.sz67 (of_decide_eq_true rfl) (.inr (by assumption)) ?_
    clear hH; intro w hH
    refine Sq.nil (then_n ?_)
    refine tr_nil ?_
    refine then_n ?_
    have hH2:=((hH.front (b:=b5) (by repeat' constructor)).front (b:=bk) (by repeat' constructor)).front (b:=bs) (by repeat' constructor)
    exact ⟨bs,bk,b5,hbs,hbk,hb5,hS.live ⟨rfl,rfl,trivial⟩,hH2⟩
 clear hS hH; intro a w hJ; obtain ⟨bs,bk,b5,hbs,hbk,hb5,hS,hH⟩:=hJ
 refine c_seq (reg_plain w0 (Nobody) ?_)
 refine r_load_sc hS hH (by repeat' constructor) rfl (by repeat' constructor) Fc.sc67 (by rfl) rfl (x_nilCheck hH.kp0 rfl rfl (x_fieldAddr hH.kp0 rfl Fc.fo71_1 rfl (x_load_sc hH (by repeat' constructor) rfl (by repeat' constructor) Fc.sc69 (by rfl) rfl (x_indexAddrS (j:=0) hH.kp0 rfl rfl Fc.slb69 rfl h0 rfl ?_)))); clear hS; intro a hS
 refine r_store1 hS hH rfl rfl rfl (by repeat' constructor) (by repeat' constructor) Fc.sz4 (by rw [bools_len]; simpa using h0) (.inr hbk) ?_; clear hH; intro w hH
 rw [spl_bools (by simpa using h0)] at hH
 refine Sq.nil (then_n (c_seq (reg_plain w0 (Nobody) ?_)))
 refine r_load_sc hS hH (by repeat' constructor) rfl (by repeat' constructor) Fc.sc23 (by rfl) rfl (x_nilCheck hH.kp0 rfl rfl (x_fieldAddr hH.kp0 rfl Fc.fo41_0 rfl (x_load_sc hH (by repeat' constructor) rfl (by repeat' constructor) Fc.sc37 (by rfl) rfl (x_lenSl hH.kp0 rfl Fc.isSlice37 rfl ?_)))); clear hS; intro a hS
 refine r_makeSl (m:=ts.length) (v0:=.bool false) hS hH (by repeat' constructor) rfl rfl rfl rfl Fc.elb Fc.zc4 (by omega) (by omega) rfl ?_
 clear hS hH; intro a w bo hbo hwbo hS hH
 rw [bools_rep] at hH
 refine r_alloc hS hH (by repeat' constructor) Fc.zc69 rfl ?_
 clear hS hH; intro a w b6 hb6 hwb6 hS hH
 refine r_store1 hS hH rfl rfl rfl (by repeat' constructor) (by repeat' constructor) Fc.sz69 (of_decide_eq_true rfl) (by first | exact .inr (by assumption) | exact .inl (by first | assumption | rfl)) ?_
 clear hH; intro w hH
 refine Sq.nil (then_n (c_seq (reg_plain w0 (Nobody) ?_)))
 refine r_makeFunc hS hH.kp0 rfl rfl rfl (x_assign hH.kp0 rfl rfl ?_); clear hS; intro a hS
 refine Sq.nil (then_n (c_seq (wp_block ?_)))
 refine c_loop (fun m a w => ∃ (K O : List Bool) (tdv : Value) (ls1 : List (List UInt8)),m + (cnt K + cnt O) = 2 * ts.length∧KnowI6 ts [] ls1 K O∧SlG (fun x => x = bk∨x = bs∨x = bo) w tdv ls1∧(∀ l∈ls1,l.length≤1099511627776)∧ls1.length≤1099511627776∧St 34 (lv [(5,.pointer (some ⟨b5,0,none⟩)),(7,.func (.func 55) #[] #[.pointer (some ⟨b5,0,none⟩),.pointer (some ⟨b2,0,none⟩),.pointer (some ⟨b6,0,none⟩)])]) a∧Hp w0 Nobody [(b6,.cells [.slice (some ⟨bo,0,none⟩) ts.length ts.length].toArray 69 (0,0)),(bo,.cells (bools O).toArray 4 (0,0)),(bs,.cells [.pointer (some ⟨b,0,none⟩),.slice (some ⟨bk,0,none⟩) ts.length ts.length,tdv].toArray 71 (0,0)),(bk,.cells (bools K).toArray 4 (0,0)),(b5,.cells [.pointer (some ⟨bs,0,none⟩)].toArray 67 (0,0)),(b2,.cells [.pointer (some ⟨b,0,none⟩)].toArray 23 (0,0)),(b,.cells (V.top ts.length).toArray 41 (0,0)),(V.sb,.cells V.l.toArray 64 (0,0)),(V.fb,.map V.es V.c),(V.nb,.map V.es' V.c')] w) (2 * ts.length - (cnt ((List.replicate ts.length false).set 0 true) + cnt (List.replicate ts.length false))) ?_ ?_
 ·have hsg : SlG (fun x => x = bk∨x = bs∨x = bo) w (.slice none 0 0) []:=SlG.nil _ _
  exact ⟨((List.replicate ts.length false).set 0 true),_,_,[],by have:=cnt2_le (K:=((List.replicate ts.length false).set 0 true)) (O:=List.replicate ts.length false) (n:=ts.length) (by simp) (by simp); omega,KnowI6.start h0,hsg,hll,hlsl,hS.live ⟨rfl,rfl,trivial⟩,hH⟩
 clear hS hH; intro m a w hI; obtain ⟨K,O,tdv,ls1,hmc,hKI,hsg,hll1,hls1,hS,hH⟩:=hI
 have hcl0:=cnt2_le hKI.len hKI.lenO
 have nko : bo≠bk:=fun e => by have nd:=hH.nd; simp [e] at nd
 refine c_seq (c_seq (reg_plain w0 (Nobody) ?_))
 refine r_move hS hH.kp0 rfl rfl ?_; clear hS; intro a hS
 refine r_call (l:=[]) hS rfl rfl Fc.fn55 rfl ?_
 refine Calls.mono (step6_v b V ts hm hwf b5 b2 b6 bs bk bo tdv ls1 hll1 hls1 K O hKI.len hKI.lenO nko _ (hH.vin hvi.ok hvi.n01 hvi.n23 (by repeat' constructor) (by repeat' constructor) (by repeat' constructor) (by repeat' constructor)) (hH.get (b:=bs) (by repeat' constructor)) (hH.get (b:=bk) (by repeat' constructor)) (hH.get (b:=b5) (by repeat' constructor)) (hH.get (b:=b2) (by repeat' constructor)) (hH.get (b:=b6) (by repeat' constructor)) (hH.get (b:=bo) (by repeat' constructor)) hsg) ?_
 rintro e w1 ⟨more,K2,O2,tdv2,tds,rfl,hbs2,hbk2,hbo2,hSR,hsg2,htl9,hM⟩
 have nbk : bs≠bk:=hH.ne (x:=bs) (y:=bk) (.cons (by repeat' constructor) (.cons (by repeat' constructor) .nil)) (by intro h; injection h with _ h2 _; revert h2; decide)
 replace hH:=hH.mod3 hM hbs2 hbk2 hbo2 (by repeat' constructor) (by repeat' constructor) (by repeat' constructor) (.inr hbs) (.inr hbk) (.inr hbo)
 refine ⟨_,rfl,hH.kp0,?_⟩
 clear hS; intro a hS
 refine Sq.nil (then_n ?_)
 refine c_cond hS rfl (fun hc0 => ?_) (fun hc0 => ?_)
 ·have hcn:=hSR.yes hc0
  have hcl:=cnt2_le hSR.len hSR.lenO
  refine wp_skip (then_n (wp_block (wp_skip (blk_n (then_n ?_)))))
  exact ⟨m - ((cnt K2 + cnt O2) - (cnt K + cnt O)),by omega,K2,O2,_,tds,by omega,hKI.next hSR,hsg2,fun l hl => by obtain ⟨j9,t9,h9,_,_,_,rfl⟩:=hSR.tds_ l hl; exact hwf.sz j9 t9 h9,by omega,hS.live ⟨rfl,rfl,trivial⟩,hH⟩
 ·subst hc0
  have hKN:=hKI.done hSR
  refine wp_exit (then_e (then_e (blk_hit (then_n (c_seq (reg_plain w0 (Nobody) ?_))))))
  refine r_load_sc hS hH (by repeat' constructor) rfl (by repeat' constructor) Fc.sc67 (by rfl) rfl (x_assign hH.kp0 rfl rfl ?_); clear hS; intro a hS
  refine Sq.nil (then_n (wp_ret ?_))
  exact leave (.inl rfl) hS rfl (Res.tmp rfl Res.nil) ⟨bs,bk,K2,_,rfl,hH.get (b:=bs) (by repeat' constructor),hH.get (b:=bk) (by repeat' constructor),hKN,hH.mod,hbs,hbk⟩

set_option maxRecDepth 100000 in
set_option maxHeartbeats 4000000 in
theorem knows6_sl (b : Nat) (V : VB) (ts : List Tm) (hm : ts.length≤1000000000) (hwf : Wf6 ts) (hpos : 0 < ts.length) (q : Addr) (qc : Nat) (ls : List (List UInt8)) (hll : ∀ l∈ls,l.length≤1099511627776) (hls2 : ls.length≤1048576) (xs : List Value) (w0 : World) (hvi : VI w0 b V ts) (hsl0 : ∀ w',Ext w0 w'→Sl 1 w' (.slice (some q) ls.length qc) xs ls.length (some q) qc) (hall : ∀ (i : Nat) (x : Value),xs[i]? = some x→∃ l,ls[i]? = some l∧BsF Nobody w0 x l) :
  Calls Tryd.prog 26 #[.pointer (some ⟨b,0,none⟩),.slice (some q) ls.length qc] w0 fun e w' => ∃ bs bk K tdv,e = .returned (.pointer (some ⟨bs,0,none⟩))∧w'.heap[bs]? = some (.cells [.pointer (some ⟨b,0,none⟩),.slice (some ⟨bk,0,none⟩) ts.length ts.length,tdv].toArray 71 (0,0))∧w'.heap[bk]? = some (.cells (bools K).toArray 4 (0,0))∧Knows6 ts ls K∧Ext w0 w'∧w0.heap.size≤bs∧w0.heap.size≤bk:=by
 refine enter Tryd.func26 rfl rfl rfl ?_
 intro a hS
 have hH:=Hp.start w0 (Nobody)
 have h0:=hpos
 have hlsl : ls.length≤1099511627776:=by omega
 have hx1 : ∀ u∈xs,u.oneCell' = true:=by intro u hu; obtain ⟨i,hi⟩:=List.getElem?_of_mem hu; obtain ⟨l,_,hb⟩:=hall i u hi; obtain ⟨p9,c9,hs9⟩:=hb.bs; rw [hs9.val]; rfl
 replace hH:=hH.knowV hvi (by intro p hp; simp at hp)
 refine c_seq (reg_plain w0 (Nobody) ?_)
 refine r_box hS hH (by repeat' constructor) rfl rfl rfl ?_
 clear hS hH; intro a w b2 hb2 hwb2 hS hH
 refine r_assign hS hH.kp0 rfl rfl ?_; clear hS; intro a hS
 refine Sq.nil (then_n ?_)
 refine c_cut (fun a w => ∃ (bs bk b5 cb cap : Nat) (l2 : List Value),w0.heap.size≤bs∧w0.heap.size≤bk∧w0.heap.size≤b5∧w0.heap.size≤cb∧ls.length≤cap∧l2.length = cap∧l2.take ls.length = xs∧St 34 (lv [(2,.pointer (some ⟨b2,0,none⟩)),(5,.pointer (some ⟨b5,0,none⟩))]) a∧Hp w0 Nobody [(bs,.cells [.pointer (some ⟨b,0,none⟩),.slice (some ⟨bk,0,none⟩) ts.length ts.length,.slice (some ⟨cb,0,none⟩) ls.length cap].toArray 71 (0,0)),(bk,.cells (bools (List.replicate ts.length false)).toArray 4 (0,0)),(b5,.cells [.pointer (some ⟨bs,0,none⟩)].toArray 67 (0,0)),(cb,.cells l2.toArray 22 (0,0)),(b2,.cells [.pointer (some ⟨b,0,none⟩)].toArray 23 (0,0)),(b,.cells (V.top ts.length).toArray 41 (0,0)),(V.sb,.cells V.l.toArray 64 (0,0)),(V.fb,.map V.es V.c),(V.nb,.map V.es' V.c')] w) ?_ ?_
 ·refine reg_tree [(true,0,[]),(true,1,[]),(true,2,[]),(true,3,[]),(true,4,[]),(true,5,[]),(false,6,[]),(true,7,[]),(false,8,[]),(true,9,[]),(false,10,[]),(false,11,[]),(false,12,[])] (PT.ofPlan [(true,0,[]),(true,1,[]),(true,2,[]),(true,3,[]),(true,4,[]),(true,5,[]),(true,7,[])] (.fork3 (PT.ofPlan [(false,6,[])] (.fork (PT.ofPlan [(false,8,[]),(true,9,[])] (.fork (PT.ofPlan [(false,10,[]),(false,11,[]),(false,12,[])] .nil) (PT.ofPlan [(false,11,[]),(false,10,[]),(false,12,[])] .nil))) (PT.ofPlan [(false,11,[]),(false,8,[]),(true,9,[]),(false,10,[]),(false,12,[])] .nil))) (PT.ofPlan [(false,8,[])] (.fork (PT.ofPlan [(false,6,[]),(true,9,[])] (.fork (PT.ofPlan [(false,10,[]),(false,11,[]),(false,12,[])] .nil) (PT.ofPlan [(false,11,[]),(false,10,[]),(false,12,[])] .nil))) (PT.ofPlan [(false,11,[]),(false,6,[]),(true,9,[]),(false,10,[]),(false,12,[])] .nil))) (PT.ofPlan [(false,11,[])] (.fork (PT.ofPlan [(false,6,[]),(false,8,[]),(true,9,[]),(false,10,[]),(false,12,[])] .nil) (PT.ofPlan [(false,8,[]),(false,6,[]),(true,9,[]),(false,10,[]),(false,12,[])] .nil))))) Fc.mixed (by kernel_rfl) (by kernel_rfl) (by kernel_rfl) (by kernel_rfl) (by kernel_rfl) (by kernel_rfl) (by repeat (first | with_reducible exact steady_body | with_reducible apply steady_block | with_reducible apply steady_then | exact steady_body)) hH ?_
  replace hH:=hH.drew
  refine tr_seg ?_
  refine r_load_scS hS rfl (by repeat' constructor) Fc.sc23 (by rfl) rfl (x_load_scS rfl (by repeat' constructor) Fc.sc23 (by rfl) rfl (x_nilCheck trivial rfl rfl (x_fieldAddr trivial rfl Fc.fo41_0 rfl (x_load_scS rfl (by repeat' constructor) Fc.sc37 (by rfl) rfl (x_lenSl trivial rfl Fc.isSlice37 rfl (x_move trivial rfl rfl ?_)))))); clear hS; intro a hS
  refine Sq.nil (then_n ?_)
  refine tr_fork3 ?_ ?_ ?_
  ·refine tr_seg ?_
   refine r_makeSl (m:=ts.length) (v0:=.bool false) hS hH (by repeat' constructor) rfl rfl rfl rfl Fc.elb Fc.zc4 (by omega) (by omega) rfl ?_
   clear hS hH; intro a w bk hbk hwbk hS hH
   rw [bools_rep] at hH
   refine Sq.nil (then_n ?_)
   refine tr_fork ?_ ?_
   ·refine tr_seg ?_
    refine r_call (l:=[.tmp 15]) hS rfl rfl Fc.fn54 rfl ?_
    refine Calls.mono (clone_sl q xs ls.length qc _ (hsl0 _ hH.mod) hx1 (by omega)) ?_
    rintro e w1 ⟨cb,cap,l2,rfl,hcb,hcbk,hcap,hl2,htk2,hE⟩
    have hlt:=fun (p : Nat × Obj) hp => lt_of_block (hH.blk p hp)
    have hcb0:=Nat.le_trans hH.mod.size hcb
    replace hH:=(hH.ext hE).know hcbk (fun p hp e => by have h1:=hlt p hp; omega)
    refine ⟨_,rfl,hH.kp (by repeat' constructor),?_⟩
    clear hS; intro a hS
    refine r_buildS (parts:=[(0,.tmp 8),(1,.tmp 14),(2,.tmp 16)]) hS trivial rfl rfl Fc.zc71 Fc.pl71 (by rfl) ?_; clear hS; intro a hS
    refine Sq.nil (then_n ?_)
    refine tr_fork ?_ ?_
    ·refine tr_seg ?_
     refine r_box hS hH (by repeat' constructor) rfl rfl rfl ?_
     clear hS hH; intro a w bs hbs hwbs hS hH
     refine r_alloc hS hH (by repeat' constructor) Fc.zc67 rfl ?_
     clear hS hH; intro a w b5 hb5 hwb5 hS hH
     refine r_store1 hS hH rfl rfl rfl (by repeat' constructor) (by repeat' constructor) Fc.sz67 (of_decide_eq_true rfl) (.inr (by assumption)) ?_
     clear hH; intro w hH
     refine Sq.nil (then_n ?_)
     refine tr_nil ?_
     refine then_n ?_
     have hH2:=(((hH.front (b:=cb) (by repeat' constructor)).front (b:=b5) (by repeat' constructor)).front (b:=bk) (by repeat' constructor)).front (b:=bs) (by repeat' constructor)
     exact ⟨bs,bk,b5,cb,cap,l2,hbs,hbk,hb5,hcb0,hcap,hl2,htk2,hS.live ⟨rfl,rfl,trivial⟩,hH2⟩
    ·refine tr_seg ?_
     refine r_alloc hS hH (by repeat' constructor) Fc.zc67 rfl ?_
     clear hS hH; intro a w b5 hb5 hwb5 hS hH
     refine r_box hS hH (by repeat' constructor) rfl rfl rfl ?_
     clear hS hH; intro a w bs hbs hwbs hS hH
     refine r_store1 hS hH rfl rfl rfl (by repeat' constructor) (by repeat' constructor) Fc.sz67 (of_decide_eq_true rfl) (.inr (by assumption)) ?_
     clear hH; intro w hH
     refine Sq.nil (then_n ?_)
     refine tr_nil ?_
     refine then_n ?_
     have hH2:=(((hH.front (b:=cb) (by repeat' constructor)).front (b:=b5) (by repeat' constructor)).front (b:=bk) (by repeat' constructor)).front (b:=bs) (by repeat' constructor)
     exact ⟨bs,bk,b5,cb,cap,l2,hbs,hbk,hb5,hcb0,hcap,hl2,htk2,hS.live ⟨rfl,rfl,trivial⟩,hH2⟩
   ·refine tr_seg ?_
    refine r_alloc hS hH (by repeat' constructor) Fc.zc67 rfl ?_
    clear hS hH; intro a w b5 hb5 hwb5 hS hH
    refine r_call (l:=[.tmp 15]) hS rfl rfl Fc.fn54 rfl ?_
    refine Calls.mono (clone_sl q xs ls.length qc _ (hsl0 _ hH.mod) hx1 (by omega)) ?_
    rintro e w1 ⟨cb,cap,l2,rfl,hcb,hcbk,hcap,hl2,htk2,hE⟩
    have hlt:=fun (p : Nat × Obj) hp => lt_of_block (hH.blk p hp)
    have hcb0:=Nat.le_trans hH.mod.size hcb
    replace hH:=(hH.ext hE).know hcbk (fun p hp e => by have h1:=hlt p hp; omega)
    refine ⟨_,rfl,hH.kp (by repeat' constructor),?_⟩
    clear hS; intro a hS
    refine r_buildS (parts:=[(0,.tmp 8),(1,.tmp 14),(2,.tmp 16)]) hS trivial rfl rfl Fc.zc71 Fc.pl71 (by rfl) ?_; clear hS; intro a hS
    refine r_box hS hH (by repeat' constructor) rfl rfl rfl ?_
    clear hS hH; intro a w bs hbs hwbs hS hH
    refine r_store1 hS hH rfl rfl rfl (by repeat' constructor) (by repeat' constructor) Fc.sz67 (of_decide_eq_true rfl) (.inr (by assumption)) ?_
    clear hH; intro w hH
    refine Sq.nil (then_n ?_)
    refine tr_nil ?_
    refine then_n ?_
    have hH2:=(((hH.front (b:=cb) (by repeat' constructor)).front (b:=b5) (by repeat' constructor)).front (b:=bk) (by repeat' constructor)).front (b:=bs) (by repeat' constructor)
    exact ⟨bs,bk,b5,cb,cap,l2,hbs,hbk,hb5,hcb0,hcap,hl2,htk2,hS.live ⟨rfl,rfl,trivial⟩,hH2⟩
  ·refine tr_seg ?_
   refine r_call (l:=[.tmp 15]) hS rfl rfl Fc.fn54 rfl ?_
   refine Calls.mono (clone_sl q xs ls.length qc _ (hsl0 _ hH.mod) hx1 (by omega)) ?_
   rintro e w1 ⟨cb,cap,l2,rfl,hcb,hcbk,hcap,hl2,htk2,hE⟩
   have hlt:=fun (p : Nat × Obj) hp => lt_of_block (hH.blk p hp)
   have hcb0:=Nat.le_trans hH.mod.size hcb
   replace hH:=(hH.ext hE).know hcbk (fun p hp e => by have h1:=hlt p hp; omega)
   refine ⟨_,rfl,hH.kp (by repeat' constructor),?_⟩
   clear hS; intro a hS
   refine Sq.nil (then_n ?_)
   refine tr_fork ?_ ?_
   ·refine tr_seg ?_
    refine r_makeSl (m:=ts.length) (v0:=.bool false) hS hH (by repeat' constructor) rfl rfl rfl rfl Fc.elb Fc.zc4 (by omega) (by omega) rfl ?_
    clear hS hH; intro a w bk hbk hwbk hS hH
    rw [bools_rep] at hH
    refine r_buildS (parts:=[(0,.tmp 8),(1,.tmp 14),(2,.tmp 16)]) hS trivial rfl rfl Fc.zc71 Fc.pl71 (by rfl) ?_; clear hS; intro a hS
    refine Sq.nil (then_n ?_)
    refine tr_fork ?_ ?_
    ·refine tr_seg ?_
     refine r_box hS hH (by repeat' constructor) rfl rfl rfl ?_
     clear hS hH; intro a w bs hbs hwbs hS hH
     refine r_alloc hS hH (by repeat' constructor) Fc.zc67 rfl ?_
     clear hS hH; intro a w b5 hb5 hwb5 hS hH
     refine r_store1 hS hH rfl rfl rfl (by repeat' constructor) (by repeat' constructor) Fc.sz67 (of_decide_eq_true rfl) (.inr (by assumption)) ?_
     clear hH; intro w hH
     refine Sq.nil (then_n ?_)
     refine tr_nil ?_
     refine then_n ?_
     have hH2:=(((hH.front (b:=cb) (by repeat' constructor)).front (b:=b5) (by repeat' constructor)).front (b:=bk) (by repeat' constructor)).front (b:=bs) (by repeat' constructor)
     exact ⟨bs,bk,b5,cb,cap,l2,hbs,hbk,hb5,hcb0,hcap,hl2,htk2,hS.live ⟨rfl,rfl,trivial⟩,hH2⟩
    ·refine tr_seg ?_
     refine r_alloc hS hH (by repeat' constructor) Fc.zc67 rfl ?_
     clear hS hH; intro a w b5 hb5 hwb5 hS hH
     refine r_box hS hH (by repeat' constructor) rfl rfl rfl ?_
     clear hS hH; intro a w bs hbs hwbs hS hH
     refine r_store1 hS hH rfl rfl rfl (by repeat' constructor) (by repeat' constructor) Fc.sz67 (of_decide_eq_true rfl) (.inr (by assumption)) ?_
     clear hH; intro w hH
     refine Sq.nil (then_n ?_)
     refine tr_nil ?_
     refine then_n ?_
     have hH2:=(((hH.front (b:=cb) (by repeat' constructor)).front (b:=b5) (by repeat' constructor)).front (b:=bk) (by repeat' constructor)).front (b:=bs) (by repeat' constructor)
     exact ⟨bs,bk,b5,cb,cap,l2,hbs,hbk,hb5,hcb0,hcap,hl2,htk2,hS.live ⟨rfl,rfl,trivial⟩,hH2⟩
   ·refine tr_seg ?_
    refine r_alloc hS hH (by repeat' constructor) Fc.zc67 rfl ?_
    clear hS hH; intro a w b5 hb5 hwb5 hS hH
    refine r_makeSl (m:=ts.length) (v0:=.bool false) hS hH (by repeat' constructor) rfl rfl rfl rfl Fc.elb Fc.zc4 (by omega) (by omega) rfl ?_
    clear hS hH; intro a w bk hbk hwbk hS hH
    rw [bools_rep] at hH
    refine r_buildS (parts:=[(0,.tmp 8),(1,.tmp 14),(2,.tmp 16)]) hS trivial rfl rfl Fc.zc71 Fc.pl71 (by rfl) ?_; clear hS; intro a hS
    refine r_box hS hH (by repeat' constructor) rfl rfl rfl ?_
    clear hS hH; intro a w bs hbs hwbs hS hH
    refine r_store1 hS hH rfl rfl rfl (by repeat' constructor) (by repeat' constructor) Fc.sz67 (of_decide_eq_true rfl) (.inr (by assumption)) ?_
    clear hH; intro w hH
    refine Sq.nil (then_n ?_)
    refine tr_nil ?_
    refine then_n ?_
    have hH2:=(((hH.front (b:=cb) (by repeat' constructor)).front (b:=b5) (by repeat' constructor)).front (b:=bk) (by repeat' constructor)).front (b:=bs) (by repeat' constructor)
    exact ⟨bs,bk,b5,cb,cap,l2,hbs,hbk,hb5,hcb0,hcap,hl2,htk2,hS.live ⟨rfl,rfl,trivial⟩,hH2⟩
  ·refine tr_seg ?_
   refine r_alloc hS hH (by repeat' constructor) Fc.zc67 rfl ?_
   clear hS hH; intro a w b5 hb5 hwb5 hS hH
   refine Sq.nil (then_n ?_)
   refine tr_fork ?_ ?_
   ·refine tr_seg ?_
    refine r_makeSl (m:=ts.length) (v0:=.bool false) hS hH (by repeat' constructor) rfl rfl rfl rfl Fc.elb Fc.zc4 (by omega) (by omega) rfl ?_
    clear hS hH; intro a w bk hbk hwbk hS hH
    rw [bools_rep] at hH
    refine r_call (l:=[.tmp 15]) hS rfl rfl Fc.fn54 rfl ?_
    refine Calls.mono (clone_sl q xs ls.length qc _ (hsl0 _ hH.mod) hx1 (by omega)) ?_
    rintro e w1 ⟨cb,cap,l2,rfl,hcb,hcbk,hcap,hl2,htk2,hE⟩
    have hlt:=fun (p : Nat × Obj) hp => lt_of_block (hH.blk p hp)
    have hcb0:=Nat.le_trans hH.mod.size hcb
    replace hH:=(hH.ext hE).know hcbk (fun p hp e => by have h1:=hlt p hp; omega)
    refine ⟨_,rfl,hH.kp (by repeat' constructor),?_⟩
    clear hS; intro a hS
    refine r_buildS (parts:=[(0,.tmp 8),(1,.tmp 14),(2,.tmp 16)]) hS trivial rfl rfl Fc.zc71 Fc.pl71 (by rfl) ?_; clear hS; intro a hS
    refine r_box hS hH (by repeat' constructor) rfl rfl rfl ?_
    clear hS hH; intro a w bs hbs hwbs hS hH
    refine r_store1 hS hH rfl rfl rfl (by repeat' constructor) (by repeat' constructor) Fc.sz67 (of_decide_eq_true rfl) (.inr (by assumption)) ?_
    clear hH; intro w hH
    refine Sq.nil (then_n ?_)
    refine tr_nil ?_
    refine then_n ?_
    have hH2:=(((hH.front (b:=cb) (by repeat' constructor)).front (b:=b5) (by repeat' constructor)).front (b:=bk) (by repeat' constructor)).front (b:=bs) (by repeat' constructor)
    exact ⟨bs,bk,b5,cb,cap,l2,hbs,hbk,hb5,hcb0,hcap,hl2,htk2,hS.live ⟨rfl,rfl,trivial⟩,hH2⟩
   ·refine tr_seg ?_
    refine r_call (l:=[.tmp 15]) hS rfl rfl Fc.fn54 rfl ?_
    refine Calls.mono (clone_sl q xs ls.length qc _ (hsl0 _ hH.mod) hx1 (by omega)) ?_
    rintro e w1 ⟨cb,cap,l2,rfl,hcb,hcbk,hcap,hl2,htk2,hE⟩
    have hlt:=fun (p : Nat × Obj) hp => lt_of_block (hH.blk p hp)
    have hcb0:=Nat.le_trans hH.mod.size hcb
    replace hH:=(hH.ext hE).know hcbk (fun p hp e => by have h1:=hlt p hp; omega)
    refine ⟨_,rfl,hH.kp (by repeat' constructor),?_⟩
    clear hS; intro a hS
    refine r_makeSl (m:=ts.length) (v0:=.bool false) hS hH (by repeat' constructor) rfl rfl rfl rfl Fc.elb Fc.zc4 (by omega) (by omega) rfl ?_
    clear hS hH; intro a w bk hbk hwbk hS hH
    rw [bools_rep] at hH
    refine r_buildS (parts:=[(0,.tmp 8),(1,.tmp 14),(2,.tmp 16)]) hS trivial rfl rfl Fc.zc71 Fc.pl71 (by rfl) ?_; clear hS; intro a hS
    refine r_box hS hH (by repeat' constructor) rfl rfl rfl ?_
    clear hS hH; intro a w bs hbs hwbs hS hH
    refine r_store1 hS hH rfl rfl rfl (by repeat' constructor) (by repeat' constructor) Fc.sz67 (of_decide_eq_true rfl) (.inr (by assumption)) ?_
    clear hH; intro w hH
    refine Sq.nil (then_n ?_)
    refine tr_nil ?_
    refine then_n ?_
    have hH2:=(((hH.front (b:=cb) (by repeat' constructor)).front (b:=b5) (by repeat' constructor)).front (b:=bk) (by repeat' constructor)).front (b:=bs) (by repeat' constructor)
    exact ⟨bs,bk,b5,cb,cap,l2,hbs,hbk,hb5,hcb0,hcap,hl2,htk2,hS.live ⟨rfl,rfl,trivial⟩,hH2⟩
 clear hS hH; intro a w hJ; obtain ⟨bs,bk,b5,cb,cap,l2,hbs,hbk,hb5,hcb0,hcap,hl2,htk2,hS,hH⟩:=hJ
 refine c_seq (reg_plain w0 (Nobody) ?_)
 refine r_load_sc hS hH (by repeat' constructor) rfl (by repeat' constructor) Fc.sc67 (by rfl) rfl (x_nilCheck hH.kp0 rfl rfl (x_fieldAddr hH.kp0 rfl Fc.fo71_1 rfl (x_load_sc hH (by repeat' constructor) rfl (by repeat' constructor) Fc.sc69 (by rfl) rfl (x_indexAddrS (j:=0) hH.kp0 rfl rfl Fc.slb69 rfl h0 rfl ?_)))); clear hS; intro a hS
 refine r_store1 hS hH rfl rfl rfl (by repeat' constructor) (by repeat' constructor) Fc.sz4 (by rw [bools_len]; simpa using h0) (.inr hbk) ?_; clear hH; intro w hH
 rw [spl_bools (by simpa using h0)] at hH
 refine Sq.nil (then_n (c_seq (reg_plain w0 (Nobody) ?_)))
 refine r_load_sc hS hH (by repeat' constructor) rfl (by repeat' constructor) Fc.sc23 (by rfl) rfl (x_nilCheck hH.kp0 rfl rfl (x_fieldAddr hH.kp0 rfl Fc.fo41_0 rfl (x_load_sc hH (by repeat' constructor) rfl (by repeat' constructor) Fc.sc37 (by rfl) rfl (x_lenSl hH.kp0 rfl Fc.isSlice37 rfl ?_)))); clear hS; intro a hS
 refine r_makeSl (m:=ts.length) (v0:=.bool false) hS hH (by repeat' constructor) rfl rfl rfl rfl Fc.elb Fc.zc4 (by omega) (by omega) rfl ?_
 clear hS hH; intro a w bo hbo hwbo hS hH
 rw [bools_rep] at hH
 refine r_alloc hS hH (by repeat' constructor) Fc.zc69 rfl ?_
 clear hS hH; intro a w b6 hb6 hwb6 hS hH
 refine r_store1 hS hH rfl rfl rfl (by repeat' constructor) (by repeat' constructor) Fc.sz69 (of_decide_eq_true rfl) (by first | exact .inr (by assumption) | exact .inl (by first | assumption | rfl)) ?_
 clear hH; intro w hH
 refine Sq.nil (then_n (c_seq (reg_plain w0 (Nobody) ?_)))
 refine r_makeFunc hS hH.kp0 rfl rfl rfl (x_assign hH.kp0 rfl rfl ?_); clear hS; intro a hS
 refine Sq.nil (then_n (c_seq (wp_block ?_)))
 refine c_loop (fun m a w => ∃ (K O : List Bool) (tdv : Value) (ls1 : List (List UInt8)),m + (cnt K + cnt O) = 2 * ts.length∧KnowI6 ts ls ls1 K O∧SlG (fun x => x = bk∨x = bs∨x = bo) w tdv ls1∧(∀ l∈ls1,l.length≤1099511627776)∧ls1.length≤1099511627776∧St 34 (lv [(5,.pointer (some ⟨b5,0,none⟩)),(7,.func (.func 55) #[] #[.pointer (some ⟨b5,0,none⟩),.pointer (some ⟨b2,0,none⟩),.pointer (some ⟨b6,0,none⟩)])]) a∧Hp w0 Nobody [(b6,.cells [.slice (some ⟨bo,0,none⟩) ts.length ts.length].toArray 69 (0,0)),(bo,.cells (bools O).toArray 4 (0,0)),(bs,.cells [.pointer (some ⟨b,0,none⟩),.slice (some ⟨bk,0,none⟩) ts.length ts.length,tdv].toArray 71 (0,0)),(bk,.cells (bools K).toArray 4 (0,0)),(b5,.cells [.pointer (some ⟨bs,0,none⟩)].toArray 67 (0,0)),(b2,.cells [.pointer (some ⟨b,0,none⟩)].toArray 23 (0,0)),(b,.cells (V.top ts.length).toArray 41 (0,0)),(V.sb,.cells V.l.toArray 64 (0,0)),(V.fb,.map V.es V.c),(V.nb,.map V.es' V.c')] w) (2 * ts.length - (cnt ((List.replicate ts.length false).set 0 true) + cnt (List.replicate ts.length false))) ?_ ?_
 ·have ncb : ¬ (cb = bk∨cb = bs∨cb = bo):=by rintro (e | e | e); exact hH.ne (x:=cb) (y:=bk) (.cons (by repeat' constructor) (.cons (by repeat' constructor) .nil)) (by intro h; injection h with _ h2 _; revert h2; decide) e; exact hH.ne (x:=cb) (y:=bs) (.cons (by repeat' constructor) (.cons (by repeat' constructor) .nil)) (by intro h; injection h with _ h2 _; revert h2; decide) e; exact hH.ne (x:=cb) (y:=bo) (.cons (by repeat' constructor) (.cons (by repeat' constructor) .nil)) (by intro h; injection h with _ h2 _; revert h2; decide) e
  have hsg : SlG (fun x => x = bk∨x = bs∨x = bo) w (.slice (some ⟨cb,0,none⟩) ls.length cap) ls:=SlG.block (hH.get (b:=cb) (by repeat' constructor)) ncb rfl hcap htk2 (by omega) (fun i x hx => by obtain ⟨l,e,hb⟩:=hall i x hx; exact ⟨l,e,hb.go hH.mod (fun z hz => .inr (by rcases hz with rfl | rfl | rfl <;> assumption))⟩)
  exact ⟨((List.replicate ts.length false).set 0 true),_,_,ls,by have:=cnt2_le (K:=((List.replicate ts.length false).set 0 true)) (O:=List.replicate ts.length false) (n:=ts.length) (by simp) (by simp); omega,KnowI6.start h0,hsg,hll,hlsl,hS.live ⟨rfl,rfl,trivial⟩,hH.drop [5]⟩
 clear hS hH; intro m a w hI; obtain ⟨K,O,tdv,ls1,hmc,hKI,hsg,hll1,hls1,hS,hH⟩:=hI
 have hcl0:=cnt2_le hKI.len hKI.lenO
 have nko : bo≠bk:=fun e => by have nd:=hH.nd; simp [e] at nd
 refine c_seq (c_seq (reg_plain w0 (Nobody) ?_))
 refine r_move hS hH.kp0 rfl rfl ?_; clear hS; intro a hS
 refine r_call (l:=[]) hS rfl rfl Fc.fn55 rfl ?_
 refine Calls.mono (step6_v b V ts hm hwf b5 b2 b6 bs bk bo tdv ls1 hll1 hls1 K O hKI.len hKI.lenO nko _ (hH.vin hvi.ok hvi.n01 hvi.n23 (by repeat' constructor) (by repeat' constructor) (by repeat' constructor) (by repeat' constructor)) (hH.get (b:=bs) (by repeat' constructor)) (hH.get (b:=bk) (by repeat' constructor)) (hH.get (b:=b5) (by repeat' constructor)) (hH.get (b:=b2) (by repeat' constructor)) (hH.get (b:=b6) (by repeat' constructor)) (hH.get (b:=bo) (by repeat' constructor)) hsg) ?_
 rintro e w1 ⟨more,K2,O2,tdv2,tds,rfl,hbs2,hbk2,hbo2,hSR,hsg2,htl9,hM⟩
 have nbk : bs≠bk:=hH.ne (x:=bs) (y:=bk) (.cons (by repeat' constructor) (.cons (by repeat' constructor) .nil)) (by intro h; injection h with _ h2 _; revert h2; decide)
 replace hH:=hH.mod3 hM hbs2 hbk2 hbo2 (by repeat' constructor) (by repeat' constructor) (by repeat' constructor) (.inr hbs) (.inr hbk) (.inr hbo)
 refine ⟨_,rfl,hH.kp0,?_⟩
 clear hS; intro a hS
 refine Sq.nil (then_n ?_)
 refine c_cond hS rfl (fun hc0 => ?_) (fun hc0 => ?_)
 ·have hcn:=hSR.yes hc0
  have hcl:=cnt2_le hSR.len hSR.lenO
  refine wp_skip (then_n (wp_block (wp_skip (blk_n (then_n ?_)))))
  exact ⟨m - ((cnt K2 + cnt O2) - (cnt K + cnt O)),by omega,K2,O2,_,tds,by omega,hKI.next hSR,hsg2,fun l hl => by obtain ⟨j9,t9,h9,_,_,_,rfl⟩:=hSR.tds_ l hl; exact hwf.sz j9 t9 h9,by omega,hS.live ⟨rfl,rfl,trivial⟩,hH⟩
 ·subst hc0
  have hKN:=hKI.done hSR
  refine wp_exit (then_e (then_e (blk_hit (then_n (c_seq (reg_plain w0 (Nobody) ?_))))))
  refine r_load_sc hS hH (by repeat' constructor) rfl (by repeat' constructor) Fc.sc67 (by rfl) rfl (x_assign hH.kp0 rfl rfl ?_); clear hS; intro a hS
  refine Sq.nil (then_n (wp_ret ?_))
  exact leave (.inl rfl) hS rfl (Res.tmp rfl Res.nil) ⟨bs,bk,K2,_,rfl,hH.get (b:=bs) (by repeat' constructor),hH.get (b:=bk) (by repeat' constructor),hKN,hH.mod,hbs,hbk⟩

end Go.Proofs.YtcjmehononbadaaDoor
namespace Go.Proofs.YtcjmehononbadaaDoor
open Go.Sym

theorem Fc.ar106 : arrB Tryd.prog 106 = some (2,1):=by kernel_rfl
theorem Fc.fn26 : isFn Tryd.prog 26 = true:=by kernel_rfl
theorem Fc.fn27 : isFn Tryd.prog 27 = true:=by kernel_rfl
theorem Fc.fn58 : isFn Tryd.prog 58 = true:=by kernel_rfl
theorem Fc.sc5 : scB Tryd.prog 5 = true:=by kernel_rfl
theorem Fc.sc81 : scB Tryd.prog 81 = true:=by kernel_rfl
theorem Fc.sz1_5 : (Tryd.prog.info? 5).map (·.size) = some 1:=by kernel_rfl
theorem Fc.sz81 : sizeB Tryd.prog 81 1 = true:=by kernel_rfl
theorem Fc.uh26 : Tryd.prog.underlying 26 = some (.array 16 5):=by kernel_rfl
theorem Fc.us5 : (Tryd.prog.underlying 5).isSome = true:=by kernel_rfl
theorem Fc.zc106 : zcB Tryd.prog 106 = some [.int .u64 0,.int .u64 0]:=by kernel_rfl
theorem knows6_v (b : Nat) (V : VB) (ts : List Tm) (hm : ts.length≤1000000000) (hwf : Wf6 ts) (hpos : 0 < ts.length) (sv : Value) (ls : List (List UInt8)) (hll : ∀ l∈ls,l.length≤1099511627776) (hls2 : ls.length≤1048576) (w0 : World) (hvi : VI w0 b V ts) (hs : SlG Nobody w0 sv ls) :
    Calls Tryd.prog 26 #[.pointer (some ⟨b,0,none⟩),sv] w0 fun e w' => ∃ bs bk K tdv,e = .returned (.pointer (some ⟨bs,0,none⟩))∧w'.heap[bs]? = some (.cells [.pointer (some ⟨b,0,none⟩),.slice (some ⟨bk,0,none⟩) ts.length ts.length,tdv].toArray 71 (0,0))∧w'.heap[bk]? = some (.cells (bools K).toArray 4 (0,0))∧Knows6 ts ls K∧Ext w0 w'∧w0.heap.size≤bs∧w0.heap.size≤bk:=by
  obtain ⟨xs,p,cap,h1,h2⟩:=hs
  have hv:=(h1 _ (Mod.refl _ _)).val
  cases p with
  | none =>
    have hc:=(h1 _ (Mod.refl _ _)).nil rfl
    have hle:=(h1 _ (Mod.refl _ _)).le
    have hl : ls = []:=List.eq_nil_of_length_eq_zero (by omega)
    subst hl
    subst hc
    subst hv
    exact knows6_nil b V ts hm hwf hpos w0 hvi
  | some q =>
    subst hv
    exact knows6_sl b V ts hm hwf hpos q cap ls hll hls2 xs w0 hvi h1 h2

end Go.Proofs.YtcjmehononbadaaDoor
namespace Go.Proofs.YtcjmehononbadaaDoor
open Go.Sym

theorem Fc.el22 : elB Tryd.prog 22 = some (5,1,1):=by kernel_rfl
theorem Fc.ni22 : notInt Tryd.prog 22 = true:=by kernel_rfl
theorem Fc.zc5 : zcB Tryd.prog 5 = some [.int .u8 0]:=by kernel_rfl
set_option maxRecDepth 100000 in
set_option maxHeartbeats 4000000 in
theorem Seal_big (b : Nat) (V : VB) (ts : List Tm) (h : List UInt8) (hh : h.length = 16) (k : Nat) (hk : k < ts.length) (hnm : h = nm k) (nu : Int) (hnu : 0≤nu∧nu≤9223372036854775807) (va vp : Value) (la lp : List UInt8) (hla : la.length≤9223372036854775807) (hlp : 65536 < lp.length) (hm : ts.length≤1000000000) (w0 : World) (hvi : VI w0 b V ts) (hba : BsF (V.F b) w0 va la) (hbp : BsF (V.F b) w0 vp lp) : Calls Tryd.prog 8 #[.pointer (some ⟨b,0,none⟩),hnd h,.int .i64 nu,va,vp] w0 fun e w' => e = .returned (.tuple #[.slice none 0 0,.int .i64 3])∧Ext w0 w':=by
 refine enter Tryd.func8 rfl rfl rfl ?_
 intro a hS
 have hH:=Hp.start w0 (Nobody)
 obtain ⟨x0,x1,x2,x3,x4,x5,x6,x7,x8,x9,xa,xb,xc,xd,xe,xf,rfl⟩:=len16 hh
 replace hH:=hH.knowV hvi (by intro p hp; simp at hp)
 obtain ⟨g2,hm2,hf2⟩:=hvi.ok.names
 obtain ⟨n0,th,e1,e2,hcase⟩:=hf2.look2 [x0,x1,x2,x3,x4,x5,x6,x7,x8,x9,xa,xb,xc,xd,xe,xf]
 rcases hcase.symm with ⟨_,_,hno⟩ | ⟨h,j9,hj9,hn0,hgj⟩
 ·exact absurd hnm (hno k hk)
 subst h
 subst hn0
 obtain rfl : j9 = k:=nm_inj (by omega) (by omega) (hgj.symm.trans hnm)
 obtain ⟨qp,qcp,hsp⟩:=hbp.bs
 have hvp:=hsp.val
 subst hvp
 have hspl:=hsp.le
 refine c_seq (reg_plain w0 (Nobody) ?_)
 refine r_box hS hH (by repeat' constructor) rfl rfl rfl ?_
 clear hS hH; intro a w b6 hb6 hwb6 hS hH
 refine r_assign hS hH.kp0 rfl rfl (x_assign hH.kp0 rfl rfl ?_); clear hS; intro a hS
 refine Sq.nil (then_n (c_seq (c_seq (reg_plain w0 (Nobody) ?_))))
 refine r_move hS hH.kp0 rfl rfl ?_; clear hS; intro a hS
 refine r_call (l:=[.tmp 15]) hS rfl rfl Fc.fn24 rfl ?_
 refine Calls.mono (none_v b V ts _ (hH.vin hvi.ok hvi.n01 hvi.n23 (by repeat' constructor) (by repeat' constructor) (by repeat' constructor) (by repeat' constructor))) ?_
 rintro e w1 ⟨rfl,hE⟩
 replace hH:=hH.ext hE
 refine ⟨_,rfl,hH.kp0,?_⟩
 clear hS; intro a hS
 refine Sq.nil (then_n (c_condF hS rfl rfl (wp_skip (then_n (c_seq ?_)))))
 refine reg_draw [(true,0,[]),(true,1,[]),(true,2,[]),(true,3,[]),(true,4,[]),(true,5,[]),(true,6,[]),(true,7,[]),(true,8,[]),(true,9,[]),(true,10,[])] Fc.mixed (by kernel_rfl) (by kernel_rfl) (by kernel_rfl) (by kernel_rfl) (by kernel_rfl) (by repeat (first | with_reducible exact steady_body | with_reducible apply steady_block | with_reducible apply steady_then | exact steady_body)) hH ?_
 replace hH:=hH.drew
 refine r_move hS trivial rfl rfl (x_nilCheck trivial rfl rfl (x_fieldAddr trivial rfl Fc.fo41_2 rfl (x_load_scS rfl (by repeat' constructor) Fc.sc39 (by rfl) rfl (x_load_rowS rfl (by repeat' constructor) Fc.ag26 (by rfl) rfl (x_lookupS2 Fc.mtN rfl rfl (by repeat' constructor) hm2 (Fc.arrH.keyOf (h:=[x0,x1,x2,x3,x4,x5,x6,x7,x8,x9,xa,xb,xc,xd,xe,xf]) rfl) e1 e2 rfl (x_move trivial rfl rfl (x_extract trivial rfl rfl rfl (x_extract trivial rfl rfl rfl (x_assign trivial rfl rfl (x_assign trivial rfl rfl ?_)))))))))); clear hS; intro a hS
 refine Sq.nil (then_n (c_seq (wp_block (c_seq (reg_plain w0 (Nobody) ?_)))))
 refine r_move hS hH.kp0 rfl rfl (x_not hH.kp0 rfl rfl (x_assign hH.kp0 rfl rfl ?_)); clear hS; intro a hS
 refine Sq.nil (then_n (c_condF hS rfl rfl (c_seq (reg_plain w0 (Nobody) ?_))))
 refine r_move hS hH.kp0 rfl rfl (x_lss hH.kp0 rfl rfl rfl (x_assign hH.kp0 rfl rfl ?_)); clear hS; intro a hS
 refine Sq.nil (then_n ?_)
 refine c_condF hS rfl (DF (by omega)) ?_
 refine c_seq (reg_plain w0 (Nobody) ?_)
 refine r_move hS hH.kp0 rfl rfl (x_lenSl hH.kp0 rfl Fc.isSlice22 rfl (x_gtr hH.kp0 rfl rfl rfl (x_assign hH.kp0 rfl rfl ?_))); clear hS; intro a hS
 refine Sq.nil (then_n ?_)
 refine c_condT hS rfl (DT (by omega)) ?_
 refine c_seq (reg_plain w0 (Nobody) ?_)
 refine r_assign hS hH.kp0 rfl rfl (x_assign hH.kp0 rfl rfl ?_); clear hS; intro a hS
 refine Sq.nil (then_n (wp_ret (blk_r (then_r ?_))))
 exact leave (.inl rfl) hS rfl (Res.tmp rfl (Res.tmp rfl Res.nil)) ⟨rfl,hH.mod⟩

set_option maxRecDepth 100000 in
set_option maxHeartbeats 4000000 in
theorem Seal_v (b : Nat) (V : VB) (ts : List Tm) (h : List UInt8) (hh : h.length = 16) (k : Nat) (hk : k < ts.length) (hnm : h = nm k) (nu : Int) (hnu : 0≤nu∧nu≤9223372036854775807) (va vp : Value) (la lp : List UInt8) (hla : la.length≤9223372036854775807) (hlp : lp.length≤65536) (hm : ts.length≤1000000000) (w0 : World) (hvi : VI w0 b V ts) (hba : BsF (V.F b) w0 va la) (hbp : BsF (V.F b) w0 vp lp) : Calls Tryd.prog 8 #[.pointer (some ⟨b,0,none⟩),hnd h,.int .i64 nu,va,vp] w0 fun e w' => ∃ (cb cap i : Nat) (cl : List Value) (V' : VB) (ts' : List Tm),e = .returned (.tuple #[.slice (some ⟨cb,0,none⟩) (lp.length + 16) cap,.int .i64 0])∧w0.heap.size≤cb∧w'.heap[cb]? = some (.cells cl.toArray 5 (0,0))∧BB cap cl (List.replicate lp.length 0++nm i)∧VI w' b V' ts'∧VStep w0 w' b V V'∧Made ts (selT k nu (strOf la) (strOf lp)) i ts':=by
 refine enter Tryd.func8 rfl rfl rfl ?_
 intro a hS
 have hH:=Hp.start w0 (V.F b)
 obtain ⟨x0,x1,x2,x3,x4,x5,x6,x7,x8,x9,xa,xb,xc,xd,xe,xf,rfl⟩:=len16 hh
 replace hH:=hH.knowV hvi (by intro p hp; simp at hp)
 have hVS:=VS.start w0 b V
 obtain ⟨g2,hm2,hf2⟩:=hvi.ok.names
 obtain ⟨n0,th,e1,e2,hcase⟩:=hf2.look2 [x0,x1,x2,x3,x4,x5,x6,x7,x8,x9,xa,xb,xc,xd,xe,xf]
 rcases hcase.symm with ⟨_,_,hno⟩ | ⟨h,j9,hj9,hn0,hgj⟩
 ·exact absurd hnm (hno k hk)
 subst h
 subst hn0
 obtain rfl : j9 = k:=nm_inj (by omega) (by omega) (hgj.symm.trans hnm)
 obtain ⟨qp,qcp,hsp⟩:=hbp.bs
 have hvp:=hsp.val
 subst hvp
 have hspl:=hsp.le
 refine c_seq (reg_plain w0 (V.F b) ?_)
 refine r_box hS hH (by repeat' constructor) rfl rfl rfl ?_
 clear hS hH; intro a w b6 hb6 hwb6 hS hH
 refine r_assign hS hH.kp0 rfl rfl (x_assign hH.kp0 rfl rfl ?_); clear hS; intro a hS
 refine Sq.nil (then_n (c_seq (c_seq (reg_plain w0 (V.F b) ?_))))
 refine r_move hS hH.kp0 rfl rfl ?_; clear hS; intro a hS
 refine r_call (l:=[.tmp 15]) hS rfl rfl Fc.fn24 rfl ?_
 refine Calls.mono (none_v b V ts _ (hH.vin hvi.ok hvi.n01 hvi.n23 (by repeat' constructor) (by repeat' constructor) (by repeat' constructor) (by repeat' constructor))) ?_
 rintro e w1 ⟨rfl,hE⟩
 replace hH:=hH.ext hE
 refine ⟨_,rfl,hH.kp0,?_⟩
 clear hS; intro a hS
 refine Sq.nil (then_n (c_condF hS rfl rfl (wp_skip (then_n (c_seq ?_)))))
 refine reg_draw [(true,0,[]),(true,1,[]),(true,2,[]),(true,3,[]),(true,4,[]),(true,5,[]),(true,6,[]),(true,7,[]),(true,8,[]),(true,9,[]),(true,10,[])] Fc.mixed (by kernel_rfl) (by kernel_rfl) (by kernel_rfl) (by kernel_rfl) (by kernel_rfl) (by repeat (first | with_reducible exact steady_body | with_reducible apply steady_block | with_reducible apply steady_then | exact steady_body)) hH ?_
 replace hH:=hH.drew
 refine r_move hS trivial rfl rfl (x_nilCheck trivial rfl rfl (x_fieldAddr trivial rfl Fc.fo41_2 rfl (x_load_scS rfl (by repeat' constructor) Fc.sc39 (by rfl) rfl (x_load_rowS rfl (by repeat' constructor) Fc.ag26 (by rfl) rfl (x_lookupS2 Fc.mtN rfl rfl (by repeat' constructor) hm2 (Fc.arrH.keyOf (h:=[x0,x1,x2,x3,x4,x5,x6,x7,x8,x9,xa,xb,xc,xd,xe,xf]) rfl) e1 e2 rfl (x_move trivial rfl rfl (x_extract trivial rfl rfl rfl (x_extract trivial rfl rfl rfl (x_assign trivial rfl rfl (x_assign trivial rfl rfl ?_)))))))))); clear hS; intro a hS
 refine Sq.nil (then_n (c_seq (wp_block (c_seq (reg_plain w0 (V.F b) ?_)))))
 refine r_move hS hH.kp0 rfl rfl (x_not hH.kp0 rfl rfl (x_assign hH.kp0 rfl rfl ?_)); clear hS; intro a hS
 refine Sq.nil (then_n (c_condF hS rfl rfl (c_seq (reg_plain w0 (V.F b) ?_))))
 refine r_move hS hH.kp0 rfl rfl (x_lss hH.kp0 rfl rfl rfl (x_assign hH.kp0 rfl rfl ?_)); clear hS; intro a hS
 refine Sq.nil (then_n ?_)
 refine c_condF hS rfl (DF (by omega)) ?_
 refine c_seq (reg_plain w0 (V.F b) ?_)
 refine r_move hS hH.kp0 rfl rfl (x_lenSl hH.kp0 rfl Fc.isSlice22 rfl (x_gtr hH.kp0 rfl rfl rfl (x_assign hH.kp0 rfl rfl ?_))); clear hS; intro a hS
 refine Sq.nil (then_n ?_)
 refine c_condF hS rfl (DF (by omega)) ?_
 refine wp_skip (blk_n (then_n (c_seq (reg_plain w0 (V.F b) ?_))))
 refine r_move hS hH.kp0 rfl rfl (x_move hH.kp0 rfl rfl (x_move hH.kp0 rfl rfl (x_move hH.kp0 rfl rfl (x_bytesStr hH.kp0 rfl (hba _ hH.mod) Fc.u8s22 Fc.isStr9 rfl (x_move hH.kp0 rfl rfl (x_bytesStr hH.kp0 rfl (hbp _ hH.mod) Fc.u8s22 Fc.isStr9 rfl (x_buildS (parts:=[(0,.const (.int .i64 6)),(1,.tmp 37),(3,.tmp 38),(5,.tmp 40),(6,.tmp 42)]) hH.kp0 rfl rfl Fc.zc64 Fc.pl64 (by rfl) ?_))))))); clear hS; intro a hS
 refine r_call (l:=[.tmp 36,.tmp 43]) hS rfl rfl Fc.fn23 rfl ?_
 refine Calls.mono (make_c b V ts (selT j9 nu (strOf la) (strOf lp)) (selT_ok2 (by omega) hnu hla (by show lp.length≤_; omega)) hm _ (hH.vin hvi.ok hvi.n01 hvi.n23 (by repeat' constructor) (by repeat' constructor) (by repeat' constructor) (by repeat' constructor))) ?_
 rintro e w1 ⟨h,i,V1,ts1,rfl,hqz,hvi1,hst,hmd⟩
 obtain ⟨z0,z1,z2,z3,z4,z5,z6,z7,z8,z9,za,zb,zc,zd,ze,zf,rfl⟩:=len16 (h:=h) (by rw [hqz]; rfl)
 have hVS1:=hVS.step hst hH.mod.size
 replace hH:=hH.vault hVS hst hvi1 (by repeat' constructor)
 refine ⟨_,rfl,hH.kp0,?_⟩
 clear hS; intro a hS
 refine r_alloc hS hH (by repeat' constructor) Fc.zc26 rfl ?_
 clear hS hH; intro a w b14 hb14 hwb14 hS hH
 refine r_store_row hS hH rfl rfl (by repeat' constructor) (by repeat' constructor) Fc.sz26 (by first | exact hcells_one _ | exact of_decide_eq_true rfl) (by rfl) (by first | exact .inr (by assumption) | exact .inl (by first | assumption | rfl)) ?_
 clear hH; intro w hH
 refine Sq.nil (then_n (c_seq ?_))
 refine reg_draw [(true,0,[]),(true,1,[]),(true,3,[]),(false,2,[]),(false,4,[]),(true,5,[]),(true,6,[])] Fc.mixed (by kernel_rfl) (by kernel_rfl) (by kernel_rfl) (by kernel_rfl) (by kernel_rfl) (by repeat (first | with_reducible exact steady_body | with_reducible apply steady_block | with_reducible apply steady_then | exact steady_body)) hH ?_
 replace hH:=hH.drew
 refine r_move hS trivial rfl rfl (x_lenSl trivial rfl Fc.isSlice22 rfl (x_slArr trivial rfl Fc.ar26 rfl ?_)); clear hS; intro a hS
 refine r_makeSl (m:=lp.length) (v0:=.int .u8 0) hS hH (by repeat' constructor) rfl rfl rfl rfl Fc.el22 Fc.zc5 (by omega) (by omega) rfl ?_
 clear hS hH; intro a w b47 hb47 hwb47 hS hH
 refine r_append_own2 (m:=lp.length) (cap:=lp.length) hS hH rfl rfl (by repeat' constructor) (by repeat' constructor) Fc.el22 Fc.ni22 (by rw [List.length_replicate,Nat.mul_one]) (Nat.le_refl _) (Bs.handle (h:=[z0,z1,z2,z3,z4,z5,z6,z7,z8,z9,za,zb,zc,zd,ze,zf]) (hH.get (b:=b14) (by repeat' constructor)) rfl).src (by show (lp.length + 16) * 1≤_; omega) hb47 rfl ?_
 clear hS hH; intro a w bz cz kz hbz1 hlz hcz htz hmz hS hH
 have hBz : BB cz kz (List.replicate lp.length 0++[z0,z1,z2,z3,z4,z5,z6,z7,z8,z9,za,zb,zc,zd,ze,zf]):=⟨by rw [hlz,Nat.mul_one],by rw [List.length_append,List.length_replicate]; exact hcz,by rw [List.length_append,List.length_replicate]; rw [Nat.mul_one,Nat.mul_one] at htz; rw [show ([z0,z1,z2,z3,z4,z5,z6,z7,z8,z9,za,zb,zc,zd,ze,zf] : List UInt8).length = 16 from rfl]; rw [show lp.length + ([z0,z1,z2,z3,z4,z5,z6,z7,z8,z9,za,zb,zc,zd,ze,zf] : List UInt8).length = lp.length + 16 from rfl] at htz; rw [htz,List.map_append,rep_byte,List.take_of_length_le (by simp)]⟩
 refine r_assign hS trivial rfl rfl (x_assign trivial rfl rfl ?_); clear hS; intro a hS
 refine Sq.nil (then_n (wp_ret ?_))
 rw [hqz] at hBz
 exact leave (.inl rfl) hS rfl (Res.tmp rfl (Res.tmp rfl Res.nil)) ⟨bz,cz,i,kz,V1,ts1,rfl,hbz1,hH.get (b:=bz) (by repeat' constructor),hBz,(hH.vin hvi1.ok hvi1.n01 hvi1.n23 (by repeat' constructor) (by repeat' constructor) (by repeat' constructor) (by repeat' constructor)),⟨hVS1,hH.mod⟩,hmd⟩

end Go.Proofs.YtcjmehononbadaaDoor
namespace Go.Proofs.YtcjmehononbadaaDoor
open Go.Sym

theorem Fc.fn47 : isFn Tryd.prog 47 = true:=by kernel_rfl
theorem Fc.fn48 : isFn Tryd.prog 48 = true:=by kernel_rfl
set_option maxRecDepth 100000 in
set_option maxHeartbeats 400000 in
theorem trimR_c (q : Option Addr) (qc : Nat) (u : List UInt8) (hl : u.length≤1099511627776) (w0 : World) (hb : BsF Nobody w0 (.slice q u.length qc) u) : Calls Tryd.prog 48 #[.slice q u.length qc,.int .u8 0] w0 fun e w' => ∃ m,e = .returned (.slice q m qc)∧m≤u.length∧(∀ i,m≤i→i < u.length→u[i]? = some 0)∧Ext w0 w':=by
 refine enter Tryd.func48 rfl rfl rfl ?_
 intro a hS
 have hH:=Hp.start w0 (Nobody)
 refine c_seq (reg_plain w0 (Nobody) ?_)
 refine r_assign hS hH.kp0 rfl rfl ?_; clear hS; intro a hS
 refine Sq.nil (then_n (c_seq (wp_block ?_)))
 refine c_loop (fun mm a w => mm≤u.length∧(∀ i,mm≤i→i < u.length→u[i]? = some 0)∧St 24 (lv [(0,.slice q mm qc),(1,.int .u8 0)]) a∧Hp w0 Nobody [] w) (u.length) ?_ ?_
 ·exact ⟨Nat.le_refl _,fun i h1 h2 => by omega,hS.live ⟨rfl,rfl,trivial⟩,hH⟩
 clear hS hH; intro mm a w hI; obtain ⟨hmu,hz,hS,hH⟩:=hI
 refine c_seq (c_seq (reg_plain w0 (Nobody) ?_))
 refine r_move hS hH.kp0 rfl rfl (x_lenSl hH.kp0 rfl Fc.isSlice22 rfl (x_gtr hH.kp0 rfl rfl rfl ?_)); clear hS; intro a hS
 rcases (by omega : mm = 0∨1≤mm) with hm0 | hm0
 ·refine r_move hS hH.kp0 rfl rfl ?_; clear hS; intro a hS
  first
   | (refine Sq.guardYes hS rfl rfl (by first | rfl | exact DT (by omega) | exact DF (by omega) | exact beq_iff_eq.2 (by omega) | exact beq_false_of_ne (by omega) | exact bne_iff_ne.2 (by omega) | exact bne_eq_false_iff_eq.2 (by omega) | assumption | exact beq_self_eq_true _ | exact congrArg not (beq_self_eq_true _)) ?_; refine r_move hS hH.kp0 rfl rfl ?_; clear hS; intro a hS)
   | (refine Sq.guardNo hS rfl rfl (by first | rfl | exact DT (by omega) | exact DF (by omega) | exact beq_iff_eq.2 (by omega) | exact beq_false_of_ne (by omega) | exact bne_iff_ne.2 (by omega) | exact bne_eq_false_iff_eq.2 (by omega) | assumption | exact beq_self_eq_true _ | exact congrArg not (beq_self_eq_true _)) hH.kp0 rfl ?_; clear hS; intro a hS)
   | (refine Sq.guardOff hS rfl rfl hH.kp0 rfl ?_; clear hS; intro a hS)
  first
   | (refine Sq.guardYes hS rfl rfl (by first | rfl | exact DT (by omega) | exact DF (by omega) | exact beq_iff_eq.2 (by omega) | exact beq_false_of_ne (by omega) | exact bne_iff_ne.2 (by omega) | exact bne_eq_false_iff_eq.2 (by omega) | assumption | exact beq_self_eq_true _ | exact congrArg not (beq_self_eq_true _)) ?_; refine r_move hS hH.kp0 rfl rfl ?_; clear hS; intro a hS)
   | (refine Sq.guardNo hS rfl rfl (by first | rfl | exact DT (by omega) | exact DF (by omega) | exact beq_iff_eq.2 (by omega) | exact beq_false_of_ne (by omega) | exact bne_iff_ne.2 (by omega) | exact bne_eq_false_iff_eq.2 (by omega) | assumption | exact beq_self_eq_true _ | exact congrArg not (beq_self_eq_true _)) hH.kp0 rfl ?_; clear hS; intro a hS)
   | (refine Sq.guardOff hS rfl rfl hH.kp0 rfl ?_; clear hS; intro a hS)
  first
   | (refine Sq.guardYes hS rfl rfl (by first | rfl | exact DT (by omega) | exact DF (by omega) | exact beq_iff_eq.2 (by omega) | exact beq_false_of_ne (by omega) | exact bne_iff_ne.2 (by omega) | exact bne_eq_false_iff_eq.2 (by omega) | assumption | exact beq_self_eq_true _ | exact congrArg not (beq_self_eq_true _)) ?_; refine r_lenSl hS hH.kp0 rfl Fc.isSlice22 rfl ?_; clear hS; intro a hS)
   | (refine Sq.guardNo hS rfl rfl (by first | rfl | exact DT (by omega) | exact DF (by omega) | exact beq_iff_eq.2 (by omega) | exact beq_false_of_ne (by omega) | exact bne_iff_ne.2 (by omega) | exact bne_eq_false_iff_eq.2 (by omega) | assumption | exact beq_self_eq_true _ | exact congrArg not (beq_self_eq_true _)) hH.kp0 rfl ?_; clear hS; intro a hS)
   | (refine Sq.guardOff hS rfl rfl hH.kp0 rfl ?_; clear hS; intro a hS)
  first
   | (refine Sq.guardYes hS rfl rfl (by first | rfl | exact DT (by omega) | exact DF (by omega) | exact beq_iff_eq.2 (by omega) | exact beq_false_of_ne (by omega) | exact bne_iff_ne.2 (by omega) | exact bne_eq_false_iff_eq.2 (by omega) | assumption | exact beq_self_eq_true _ | exact congrArg not (beq_self_eq_true _)) ?_; (first | refine r_sub hS hH.kp0 rfl rfl rfl (by omega) ?_ | refine r_subw hS hH.kp0 rfl rfl rfl ?_); clear hS; intro a hS)
   | (refine Sq.guardNo hS rfl rfl (by first | rfl | exact DT (by omega) | exact DF (by omega) | exact beq_iff_eq.2 (by omega) | exact beq_false_of_ne (by omega) | exact bne_iff_ne.2 (by omega) | exact bne_eq_false_iff_eq.2 (by omega) | assumption | exact beq_self_eq_true _ | exact congrArg not (beq_self_eq_true _)) hH.kp0 rfl ?_; clear hS; intro a hS)
   | (refine Sq.guardOff hS rfl rfl hH.kp0 rfl ?_; clear hS; intro a hS)
  first
   | (refine Sq.guardYes hS rfl rfl (by first | rfl | exact DT (by omega) | exact DF (by omega) | exact beq_iff_eq.2 (by omega) | exact beq_false_of_ne (by omega) | exact bne_iff_ne.2 (by omega) | exact bne_eq_false_iff_eq.2 (by omega) | assumption | exact beq_self_eq_true _ | exact congrArg not (beq_self_eq_true _)) ?_; subst hqe; refine r_indexAddrS (j:=mm - 1) hS hH.kp0 rfl rfl Fc.slb22 (by omega) (by omega) rfl ?_; clear hS; intro a hS)
   | (refine Sq.guardNo hS rfl rfl (by first | rfl | exact DT (by omega) | exact DF (by omega) | exact beq_iff_eq.2 (by omega) | exact beq_false_of_ne (by omega) | exact bne_iff_ne.2 (by omega) | exact bne_eq_false_iff_eq.2 (by omega) | assumption | exact beq_self_eq_true _ | exact congrArg not (beq_self_eq_true _)) hH.kp0 rfl ?_; clear hS; intro a hS)
   | (refine Sq.guardOff hS rfl rfl hH.kp0 rfl ?_; clear hS; intro a hS)
  first
   | (refine Sq.guardYes hS rfl rfl (by first | rfl | exact DT (by omega) | exact DF (by omega) | exact beq_iff_eq.2 (by omega) | exact beq_false_of_ne (by omega) | exact bne_iff_ne.2 (by omega) | exact bne_eq_false_iff_eq.2 (by omega) | assumption | exact beq_self_eq_true _ | exact congrArg not (beq_self_eq_true _)) ?_; refine r_load_cell (v:=byteV y) hS hH.kp0 rfl (by rw [Nat.mul_one]; exact hb.byte hH.mod hy) Fc.sc5 rfl ?_; clear hS; intro a hS)
   | (refine Sq.guardNo hS rfl rfl (by first | rfl | exact DT (by omega) | exact DF (by omega) | exact beq_iff_eq.2 (by omega) | exact beq_false_of_ne (by omega) | exact bne_iff_ne.2 (by omega) | exact bne_eq_false_iff_eq.2 (by omega) | assumption | exact beq_self_eq_true _ | exact congrArg not (beq_self_eq_true _)) hH.kp0 rfl ?_; clear hS; intro a hS)
   | (refine Sq.guardOff hS rfl rfl hH.kp0 rfl ?_; clear hS; intro a hS)
  first
   | (refine Sq.guardYes hS rfl rfl (by first | rfl | exact DT (by omega) | exact DF (by omega) | exact beq_iff_eq.2 (by omega) | exact beq_false_of_ne (by omega) | exact bne_iff_ne.2 (by omega) | exact bne_eq_false_iff_eq.2 (by omega) | assumption | exact beq_self_eq_true _ | exact congrArg not (beq_self_eq_true _)) ?_; refine r_move hS hH.kp0 rfl rfl ?_; clear hS; intro a hS)
   | (refine Sq.guardNo hS rfl rfl (by first | rfl | exact DT (by omega) | exact DF (by omega) | exact beq_iff_eq.2 (by omega) | exact beq_false_of_ne (by omega) | exact bne_iff_ne.2 (by omega) | exact bne_eq_false_iff_eq.2 (by omega) | assumption | exact beq_self_eq_true _ | exact congrArg not (beq_self_eq_true _)) hH.kp0 rfl ?_; clear hS; intro a hS)
   | (refine Sq.guardOff hS rfl rfl hH.kp0 rfl ?_; clear hS; intro a hS)
  first
   | (refine Sq.guardYes hS rfl rfl (by first | rfl | exact DT (by omega) | exact DF (by omega) | exact beq_iff_eq.2 (by omega) | exact beq_false_of_ne (by omega) | exact bne_iff_ne.2 (by omega) | exact bne_eq_false_iff_eq.2 (by omega) | assumption | exact beq_self_eq_true _ | exact congrArg not (beq_self_eq_true _)) ?_; refine r_eql hS hH.kp0 rfl rfl rfl ?_; clear hS; intro a hS)
   | (refine Sq.guardNo hS rfl rfl (by first | rfl | exact DT (by omega) | exact DF (by omega) | exact beq_iff_eq.2 (by omega) | exact beq_false_of_ne (by omega) | exact bne_iff_ne.2 (by omega) | exact bne_eq_false_iff_eq.2 (by omega) | assumption | exact beq_self_eq_true _ | exact congrArg not (beq_self_eq_true _)) hH.kp0 rfl ?_; clear hS; intro a hS)
   | (refine Sq.guardOff hS rfl rfl hH.kp0 rfl ?_; clear hS; intro a hS)
  first
   | (refine r_pickT hS hH.kp0 rfl (by first | rfl | exact DT (by omega) | exact DF (by omega) | exact beq_iff_eq.2 (by omega) | exact beq_false_of_ne (by omega) | exact bne_iff_ne.2 (by omega) | exact bne_eq_false_iff_eq.2 (by omega) | assumption | exact beq_self_eq_true _ | exact congrArg not (beq_self_eq_true _)) rfl rfl ?_; clear hS; intro a hS)
   | (refine r_pickF hS hH.kp0 rfl (by first | rfl | exact DT (by omega) | exact DF (by omega) | exact beq_iff_eq.2 (by omega) | exact beq_false_of_ne (by omega) | exact bne_iff_ne.2 (by omega) | exact bne_eq_false_iff_eq.2 (by omega) | assumption | exact beq_self_eq_true _ | exact congrArg not (beq_self_eq_true _)) rfl rfl ?_; clear hS; intro a hS)
  refine Sq.nil (then_n ?_)
  refine c_condF hS rfl (by first | rfl | exact DT (by omega) | exact DF (by omega) | exact beq_iff_eq.2 (by omega) | exact beq_false_of_ne (by omega) | exact bne_iff_ne.2 (by omega) | exact bne_eq_false_iff_eq.2 (by omega) | assumption | exact beq_self_eq_true _ | exact congrArg not (beq_self_eq_true _)) ?_
  refine wp_exit (then_e (then_e (blk_hit (then_n (c_seq (reg_plain w0 (Nobody) ?_))))))
  refine r_move hS hH.kp0 rfl rfl (x_assign hH.kp0 rfl rfl ?_); clear hS; intro a hS
  refine Sq.nil (then_n (wp_ret ?_))
  exact leave (.inl rfl) hS rfl (Res.tmp rfl Res.nil) ⟨mm,rfl,hmu,hz,hH.mod⟩
 ·obtain ⟨y,hy⟩ : ∃ y,u[mm - 1]? = some y:=⟨_,List.getElem?_eq_getElem (by omega)⟩
  obtain ⟨qb,qo,hqe⟩:=hb.addr (by omega)
  have hqc:=hb.len.2
  refine r_move hS hH.kp0 rfl rfl ?_; clear hS; intro a hS
  first
   | (refine Sq.guardYes hS rfl rfl (by first | rfl | exact DT (by omega) | exact DF (by omega) | exact beq_iff_eq.2 (by omega) | exact beq_false_of_ne (by omega) | exact bne_iff_ne.2 (by omega) | exact bne_eq_false_iff_eq.2 (by omega) | assumption | exact beq_self_eq_true _ | exact congrArg not (beq_self_eq_true _)) ?_; refine r_move hS hH.kp0 rfl rfl ?_; clear hS; intro a hS)
   | (refine Sq.guardNo hS rfl rfl (by first | rfl | exact DT (by omega) | exact DF (by omega) | exact beq_iff_eq.2 (by omega) | exact beq_false_of_ne (by omega) | exact bne_iff_ne.2 (by omega) | exact bne_eq_false_iff_eq.2 (by omega) | assumption | exact beq_self_eq_true _ | exact congrArg not (beq_self_eq_true _)) hH.kp0 rfl ?_; clear hS; intro a hS)
   | (refine Sq.guardOff hS rfl rfl hH.kp0 rfl ?_; clear hS; intro a hS)
  first
   | (refine Sq.guardYes hS rfl rfl (by first | rfl | exact DT (by omega) | exact DF (by omega) | exact beq_iff_eq.2 (by omega) | exact beq_false_of_ne (by omega) | exact bne_iff_ne.2 (by omega) | exact bne_eq_false_iff_eq.2 (by omega) | assumption | exact beq_self_eq_true _ | exact congrArg not (beq_self_eq_true _)) ?_; refine r_move hS hH.kp0 rfl rfl ?_; clear hS; intro a hS)
   | (refine Sq.guardNo hS rfl rfl (by first | rfl | exact DT (by omega) | exact DF (by omega) | exact beq_iff_eq.2 (by omega) | exact beq_false_of_ne (by omega) | exact bne_iff_ne.2 (by omega) | exact bne_eq_false_iff_eq.2 (by omega) | assumption | exact beq_self_eq_true _ | exact congrArg not (beq_self_eq_true _)) hH.kp0 rfl ?_; clear hS; intro a hS)
   | (refine Sq.guardOff hS rfl rfl hH.kp0 rfl ?_; clear hS; intro a hS)
  first
   | (refine Sq.guardYes hS rfl rfl (by first | rfl | exact DT (by omega) | exact DF (by omega) | exact beq_iff_eq.2 (by omega) | exact beq_false_of_ne (by omega) | exact bne_iff_ne.2 (by omega) | exact bne_eq_false_iff_eq.2 (by omega) | assumption | exact beq_self_eq_true _ | exact congrArg not (beq_self_eq_true _)) ?_; refine r_lenSl hS hH.kp0 rfl Fc.isSlice22 rfl ?_; clear hS; intro a hS)
   | (refine Sq.guardNo hS rfl rfl (by first | rfl | exact DT (by omega) | exact DF (by omega) | exact beq_iff_eq.2 (by omega) | exact beq_false_of_ne (by omega) | exact bne_iff_ne.2 (by omega) | exact bne_eq_false_iff_eq.2 (by omega) | assumption | exact beq_self_eq_true _ | exact congrArg not (beq_self_eq_true _)) hH.kp0 rfl ?_; clear hS; intro a hS)
   | (refine Sq.guardOff hS rfl rfl hH.kp0 rfl ?_; clear hS; intro a hS)
  first
   | (refine Sq.guardYes hS rfl rfl (by first | rfl | exact DT (by omega) | exact DF (by omega) | exact beq_iff_eq.2 (by omega) | exact beq_false_of_ne (by omega) | exact bne_iff_ne.2 (by omega) | exact bne_eq_false_iff_eq.2 (by omega) | assumption | exact beq_self_eq_true _ | exact congrArg not (beq_self_eq_true _)) ?_; (first | refine r_sub hS hH.kp0 rfl rfl rfl (by omega) ?_ | refine r_subw hS hH.kp0 rfl rfl rfl ?_); clear hS; intro a hS)
   | (refine Sq.guardNo hS rfl rfl (by first | rfl | exact DT (by omega) | exact DF (by omega) | exact beq_iff_eq.2 (by omega) | exact beq_false_of_ne (by omega) | exact bne_iff_ne.2 (by omega) | exact bne_eq_false_iff_eq.2 (by omega) | assumption | exact beq_self_eq_true _ | exact congrArg not (beq_self_eq_true _)) hH.kp0 rfl ?_; clear hS; intro a hS)
   | (refine Sq.guardOff hS rfl rfl hH.kp0 rfl ?_; clear hS; intro a hS)
  first
   | (refine Sq.guardYes hS rfl rfl (by first | rfl | exact DT (by omega) | exact DF (by omega) | exact beq_iff_eq.2 (by omega) | exact beq_false_of_ne (by omega) | exact bne_iff_ne.2 (by omega) | exact bne_eq_false_iff_eq.2 (by omega) | assumption | exact beq_self_eq_true _ | exact congrArg not (beq_self_eq_true _)) ?_; subst hqe; refine r_indexAddrS (j:=mm - 1) hS hH.kp0 rfl rfl Fc.slb22 (by omega) (by omega) rfl ?_; clear hS; intro a hS)
   | (refine Sq.guardNo hS rfl rfl (by first | rfl | exact DT (by omega) | exact DF (by omega) | exact beq_iff_eq.2 (by omega) | exact beq_false_of_ne (by omega) | exact bne_iff_ne.2 (by omega) | exact bne_eq_false_iff_eq.2 (by omega) | assumption | exact beq_self_eq_true _ | exact congrArg not (beq_self_eq_true _)) hH.kp0 rfl ?_; clear hS; intro a hS)
   | (refine Sq.guardOff hS rfl rfl hH.kp0 rfl ?_; clear hS; intro a hS)
  first
   | (refine Sq.guardYes hS rfl rfl (by first | rfl | exact DT (by omega) | exact DF (by omega) | exact beq_iff_eq.2 (by omega) | exact beq_false_of_ne (by omega) | exact bne_iff_ne.2 (by omega) | exact bne_eq_false_iff_eq.2 (by omega) | assumption | exact beq_self_eq_true _ | exact congrArg not (beq_self_eq_true _)) ?_; refine r_load_cell (v:=byteV y) hS hH.kp0 rfl (by rw [Nat.mul_one]; exact hb.byte hH.mod hy) Fc.sc5 rfl ?_; clear hS; intro a hS)
   | (refine Sq.guardNo hS rfl rfl (by first | rfl | exact DT (by omega) | exact DF (by omega) | exact beq_iff_eq.2 (by omega) | exact beq_false_of_ne (by omega) | exact bne_iff_ne.2 (by omega) | exact bne_eq_false_iff_eq.2 (by omega) | assumption | exact beq_self_eq_true _ | exact congrArg not (beq_self_eq_true _)) hH.kp0 rfl ?_; clear hS; intro a hS)
   | (refine Sq.guardOff hS rfl rfl hH.kp0 rfl ?_; clear hS; intro a hS)
  first
   | (refine Sq.guardYes hS rfl rfl (by first | rfl | exact DT (by omega) | exact DF (by omega) | exact beq_iff_eq.2 (by omega) | exact beq_false_of_ne (by omega) | exact bne_iff_ne.2 (by omega) | exact bne_eq_false_iff_eq.2 (by omega) | assumption | exact beq_self_eq_true _ | exact congrArg not (beq_self_eq_true _)) ?_; refine r_move hS hH.kp0 rfl rfl ?_; clear hS; intro a hS)
   | (refine Sq.guardNo hS rfl rfl (by first | rfl | exact DT (by omega) | exact DF (by omega) | exact beq_iff_eq.2 (by omega) | exact beq_false_of_ne (by omega) | exact bne_iff_ne.2 (by omega) | exact bne_eq_false_iff_eq.2 (by omega) | assumption | exact beq_self_eq_true _ | exact congrArg not (beq_self_eq_true _)) hH.kp0 rfl ?_; clear hS; intro a hS)
   | (refine Sq.guardOff hS rfl rfl hH.kp0 rfl ?_; clear hS; intro a hS)
  first
   | (refine Sq.guardYes hS rfl rfl (by first | rfl | exact DT (by omega) | exact DF (by omega) | exact beq_iff_eq.2 (by omega) | exact beq_false_of_ne (by omega) | exact bne_iff_ne.2 (by omega) | exact bne_eq_false_iff_eq.2 (by omega) | assumption | exact beq_self_eq_true _ | exact congrArg not (beq_self_eq_true _)) ?_; refine r_eql hS hH.kp0 rfl rfl rfl ?_; clear hS; intro a hS)
   | (refine Sq.guardNo hS rfl rfl (by first | rfl | exact DT (by omega) | exact DF (by omega) | exact beq_iff_eq.2 (by omega) | exact beq_false_of_ne (by omega) | exact bne_iff_ne.2 (by omega) | exact bne_eq_false_iff_eq.2 (by omega) | assumption | exact beq_self_eq_true _ | exact congrArg not (beq_self_eq_true _)) hH.kp0 rfl ?_; clear hS; intro a hS)
   | (refine Sq.guardOff hS rfl rfl hH.kp0 rfl ?_; clear hS; intro a hS)
  first
   | (refine r_pickT hS hH.kp0 rfl (by first | rfl | exact DT (by omega) | exact DF (by omega) | exact beq_iff_eq.2 (by omega) | exact beq_false_of_ne (by omega) | exact bne_iff_ne.2 (by omega) | exact bne_eq_false_iff_eq.2 (by omega) | assumption | exact beq_self_eq_true _ | exact congrArg not (beq_self_eq_true _)) rfl rfl ?_; clear hS; intro a hS)
   | (refine r_pickF hS hH.kp0 rfl (by first | rfl | exact DT (by omega) | exact DF (by omega) | exact beq_iff_eq.2 (by omega) | exact beq_false_of_ne (by omega) | exact bne_iff_ne.2 (by omega) | exact bne_eq_false_iff_eq.2 (by omega) | assumption | exact beq_self_eq_true _ | exact congrArg not (beq_self_eq_true _)) rfl rfl ?_; clear hS; intro a hS)
  refine Sq.nil (then_n ?_)
  refine c_cond hS rfl (fun hc0 => ?_) (fun hc0 => ?_)
  ·have hy0 : y = 0:=by have:=eq_of_beq hc0; exact UInt8.toNat_inj.1 (by show y.toNat = 0; omega)
   refine wp_skip (then_n (wp_block (reg_plain w0 (Nobody) ?_)))
   refine r_move hS hH.kp0 rfl rfl (x_move hH.kp0 rfl rfl (x_lenSl hH.kp0 rfl Fc.isSlice22 rfl (x_sub hH.kp0 rfl rfl rfl (by omega) ?_))); clear hS; intro a hS
   refine r_slHi (hh:=mm - 1) hS hH.kp0 rfl rfl Fc.slb22 (by omega) (by omega) (fun q hq => by cases hq; rfl) rfl ?_; clear hS; intro a hS
   refine r_assign hS hH.kp0 rfl rfl ?_; clear hS; intro a hS
   refine Sq.nil (blk_n (then_n ?_))
   exact ⟨mm - 1,by omega,by omega,fun i h1 h2 => by (by_cases h : i = mm - 1); (rw [h,hy]; exact congrArg some hy0); exact hz i (by omega) h2,hS.live ⟨rfl,rfl,trivial⟩,hH⟩
  ·refine wp_exit (then_e (then_e (blk_hit (then_n (c_seq (reg_plain w0 (Nobody) ?_))))))
   refine r_move hS hH.kp0 rfl rfl (x_assign hH.kp0 rfl rfl ?_); clear hS; intro a hS
   refine Sq.nil (then_n (wp_ret ?_))
   exact leave (.inl rfl) hS rfl (Res.tmp rfl Res.nil) ⟨mm,rfl,hmu,hz,hH.mod⟩

set_option maxRecDepth 100000 in
set_option maxHeartbeats 400000 in
theorem trimL_c (q : Option Addr) (qc : Nat) (u : List UInt8) (hl : u.length≤1099511627776) (w0 : World) (hb0 : BsF Nobody w0 (.slice q u.length qc) u) : Calls Tryd.prog 47 #[.slice q u.length qc,.int .u8 0] w0 fun e w' => ∃ (q' : Option Addr) (m c' : Nat),e = .returned (.slice q' m c')∧(m = 0↔∀ x∈u,x = 0)∧Ext w0 w':=by
 refine enter Tryd.func47 rfl rfl rfl ?_
 intro a hS
 have hH:=Hp.start w0 (Nobody)
 refine c_seq (reg_plain w0 (Nobody) ?_)
 refine r_assign hS hH.kp0 rfl rfl ?_; clear hS; intro a hS
 refine Sq.nil (then_n (c_seq (wp_block ?_)))
 refine c_loop (fun mm a w => ∃ (qx : Option Addr) (cx : Nat) (t : List UInt8),mm = t.length∧BsF Nobody w0 (.slice qx t.length cx) t∧((∀ x∈u,x = 0)↔∀ x∈t,x = 0)∧St 21 (lv [(0,.slice qx t.length cx),(1,.int .u8 0)]) a∧Hp w0 Nobody [] w) (u.length) ?_ ?_
 ·exact ⟨q,qc,u,rfl,hb0,Iff.rfl,hS.live ⟨rfl,rfl,trivial⟩,hH⟩
 clear hS hH; intro mm a w hI; obtain ⟨qx,cx,t,hmt,hb,hz,hS,hH⟩:=hI
 subst hmt
 refine c_seq (c_seq (reg_plain w0 (Nobody) ?_))
 refine r_move hS hH.kp0 rfl rfl (x_lenSl hH.kp0 rfl Fc.isSlice22 rfl (x_gtr hH.kp0 rfl rfl rfl ?_)); clear hS; intro a hS
 rcases t with _ | ⟨y,t⟩
 ·refine r_move hS hH.kp0 rfl rfl ?_; clear hS; intro a hS
  first
   | (refine Sq.guardYes hS rfl rfl (by first | rfl | exact DT (by omega) | exact DF (by omega) | exact beq_iff_eq.2 (by omega) | exact beq_false_of_ne (by omega) | exact bne_iff_ne.2 (by omega) | exact bne_eq_false_iff_eq.2 (by omega) | assumption | exact beq_self_eq_true _ | exact congrArg not (beq_self_eq_true _)) ?_; refine r_move hS hH.kp0 rfl rfl ?_; clear hS; intro a hS)
   | (refine Sq.guardNo hS rfl rfl (by first | rfl | exact DT (by omega) | exact DF (by omega) | exact beq_iff_eq.2 (by omega) | exact beq_false_of_ne (by omega) | exact bne_iff_ne.2 (by omega) | exact bne_eq_false_iff_eq.2 (by omega) | assumption | exact beq_self_eq_true _ | exact congrArg not (beq_self_eq_true _)) hH.kp0 rfl ?_; clear hS; intro a hS)
   | (refine Sq.guardOff hS rfl rfl hH.kp0 rfl ?_; clear hS; intro a hS)
  first
   | (refine Sq.guardYes hS rfl rfl (by first | rfl | exact DT (by omega) | exact DF (by omega) | exact beq_iff_eq.2 (by omega) | exact beq_false_of_ne (by omega) | exact bne_iff_ne.2 (by omega) | exact bne_eq_false_iff_eq.2 (by omega) | assumption | exact beq_self_eq_true _ | exact congrArg not (beq_self_eq_true _)) ?_; refine r_indexAddrS (j:=0) hS hH.kp0 rfl rfl Fc.slb22 rfl (by simp) rfl ?_; clear hS; intro a hS)
   | (refine Sq.guardNo hS rfl rfl (by first | rfl | exact DT (by omega) | exact DF (by omega) | exact beq_iff_eq.2 (by omega) | exact beq_false_of_ne (by omega) | exact bne_iff_ne.2 (by omega) | exact bne_eq_false_iff_eq.2 (by omega) | assumption | exact beq_self_eq_true _ | exact congrArg not (beq_self_eq_true _)) hH.kp0 rfl ?_; clear hS; intro a hS)
   | (refine Sq.guardOff hS rfl rfl hH.kp0 rfl ?_; clear hS; intro a hS)
  first
   | (refine Sq.guardYes hS rfl rfl (by first | rfl | exact DT (by omega) | exact DF (by omega) | exact beq_iff_eq.2 (by omega) | exact beq_false_of_ne (by omega) | exact bne_iff_ne.2 (by omega) | exact bne_eq_false_iff_eq.2 (by omega) | assumption | exact beq_self_eq_true _ | exact congrArg not (beq_self_eq_true _)) ?_; refine r_load_cell (v:=byteV y) hS hH.kp0 rfl (by rw [Nat.zero_mul]; exact hb.byte hH.mod rfl) Fc.sc5 rfl ?_; clear hS; intro a hS)
   | (refine Sq.guardNo hS rfl rfl (by first | rfl | exact DT (by omega) | exact DF (by omega) | exact beq_iff_eq.2 (by omega) | exact beq_false_of_ne (by omega) | exact bne_iff_ne.2 (by omega) | exact bne_eq_false_iff_eq.2 (by omega) | assumption | exact beq_self_eq_true _ | exact congrArg not (beq_self_eq_true _)) hH.kp0 rfl ?_; clear hS; intro a hS)
   | (refine Sq.guardOff hS rfl rfl hH.kp0 rfl ?_; clear hS; intro a hS)
  first
   | (refine Sq.guardYes hS rfl rfl (by first | rfl | exact DT (by omega) | exact DF (by omega) | exact beq_iff_eq.2 (by omega) | exact beq_false_of_ne (by omega) | exact bne_iff_ne.2 (by omega) | exact bne_eq_false_iff_eq.2 (by omega) | assumption | exact beq_self_eq_true _ | exact congrArg not (beq_self_eq_true _)) ?_; refine r_move hS hH.kp0 rfl rfl ?_; clear hS; intro a hS)
   | (refine Sq.guardNo hS rfl rfl (by first | rfl | exact DT (by omega) | exact DF (by omega) | exact beq_iff_eq.2 (by omega) | exact beq_false_of_ne (by omega) | exact bne_iff_ne.2 (by omega) | exact bne_eq_false_iff_eq.2 (by omega) | assumption | exact beq_self_eq_true _ | exact congrArg not (beq_self_eq_true _)) hH.kp0 rfl ?_; clear hS; intro a hS)
   | (refine Sq.guardOff hS rfl rfl hH.kp0 rfl ?_; clear hS; intro a hS)
  first
   | (refine Sq.guardYes hS rfl rfl (by first | rfl | exact DT (by omega) | exact DF (by omega) | exact beq_iff_eq.2 (by omega) | exact beq_false_of_ne (by omega) | exact bne_iff_ne.2 (by omega) | exact bne_eq_false_iff_eq.2 (by omega) | assumption | exact beq_self_eq_true _ | exact congrArg not (beq_self_eq_true _)) ?_; refine r_eql hS hH.kp0 rfl rfl rfl ?_; clear hS; intro a hS)
   | (refine Sq.guardNo hS rfl rfl (by first | rfl | exact DT (by omega) | exact DF (by omega) | exact beq_iff_eq.2 (by omega) | exact beq_false_of_ne (by omega) | exact bne_iff_ne.2 (by omega) | exact bne_eq_false_iff_eq.2 (by omega) | assumption | exact beq_self_eq_true _ | exact congrArg not (beq_self_eq_true _)) hH.kp0 rfl ?_; clear hS; intro a hS)
   | (refine Sq.guardOff hS rfl rfl hH.kp0 rfl ?_; clear hS; intro a hS)
  first
   | (refine r_pickT hS hH.kp0 rfl (by first | rfl | exact DT (by omega) | exact DF (by omega) | exact beq_iff_eq.2 (by omega) | exact beq_false_of_ne (by omega) | exact bne_iff_ne.2 (by omega) | exact bne_eq_false_iff_eq.2 (by omega) | assumption | exact beq_self_eq_true _ | exact congrArg not (beq_self_eq_true _)) rfl rfl ?_; clear hS; intro a hS)
   | (refine r_pickF hS hH.kp0 rfl (by first | rfl | exact DT (by omega) | exact DF (by omega) | exact beq_iff_eq.2 (by omega) | exact beq_false_of_ne (by omega) | exact bne_iff_ne.2 (by omega) | exact bne_eq_false_iff_eq.2 (by omega) | assumption | exact beq_self_eq_true _ | exact congrArg not (beq_self_eq_true _)) rfl rfl ?_; clear hS; intro a hS)
  refine Sq.nil (then_n ?_)
  refine c_condF hS rfl (by first | rfl | exact DT (by omega) | exact DF (by omega) | exact beq_iff_eq.2 (by omega) | exact beq_false_of_ne (by omega) | exact bne_iff_ne.2 (by omega) | exact bne_eq_false_iff_eq.2 (by omega) | assumption | exact beq_self_eq_true _ | exact congrArg not (beq_self_eq_true _)) ?_
  refine wp_exit (then_e (then_e (blk_hit (then_n (c_seq (c_seq (reg_plain w0 (Nobody) ?_)))))))
  refine r_move hS hH.kp0 rfl rfl (x_lenSl hH.kp0 rfl Fc.isSlice22 rfl (x_eql hH.kp0 rfl rfl rfl ?_)); clear hS; intro a hS
  refine Sq.nil (then_n ?_)
  refine c_condT hS rfl (by first | rfl | exact DT (by omega) | exact DF (by omega) | exact beq_iff_eq.2 (by omega) | exact beq_false_of_ne (by omega) | exact bne_iff_ne.2 (by omega) | exact bne_eq_false_iff_eq.2 (by omega) | assumption | exact beq_self_eq_true _ | exact congrArg not (beq_self_eq_true _)) ?_
  refine c_seq (reg_plain w0 (Nobody) ?_)
  refine r_assign hS hH.kp0 rfl rfl ?_; clear hS; intro a hS
  refine Sq.nil (then_n (wp_ret (then_r ?_)))
  exact leave (.inl rfl) hS rfl (Res.tmp rfl Res.nil) ⟨none,0,0,rfl,⟨fun _ => hz.2 (by simp),fun _ => rfl⟩,hH.mod⟩
 ·obtain ⟨qb,qo,hqe⟩:=hb.addr (by simp)
  have hqc:=hb.len.2
  subst hqe
  rw [show (y :: t).length = t.length + 1 from rfl] at hS
  refine r_move hS hH.kp0 rfl rfl ?_; clear hS; intro a hS
  first
   | (refine Sq.guardYes hS rfl rfl (by first | rfl | exact DT (by omega) | exact DF (by omega) | exact beq_iff_eq.2 (by omega) | exact beq_false_of_ne (by omega) | exact bne_iff_ne.2 (by omega) | exact bne_eq_false_iff_eq.2 (by omega) | assumption | exact beq_self_eq_true _ | exact congrArg not (beq_self_eq_true _)) ?_; refine r_move hS hH.kp0 rfl rfl ?_; clear hS; intro a hS)
   | (refine Sq.guardNo hS rfl rfl (by first | rfl | exact DT (by omega) | exact DF (by omega) | exact beq_iff_eq.2 (by omega) | exact beq_false_of_ne (by omega) | exact bne_iff_ne.2 (by omega) | exact bne_eq_false_iff_eq.2 (by omega) | assumption | exact beq_self_eq_true _ | exact congrArg not (beq_self_eq_true _)) hH.kp0 rfl ?_; clear hS; intro a hS)
   | (refine Sq.guardOff hS rfl rfl hH.kp0 rfl ?_; clear hS; intro a hS)
  first
   | (refine Sq.guardYes hS rfl rfl (by first | rfl | exact DT (by omega) | exact DF (by omega) | exact beq_iff_eq.2 (by omega) | exact beq_false_of_ne (by omega) | exact bne_iff_ne.2 (by omega) | exact bne_eq_false_iff_eq.2 (by omega) | assumption | exact beq_self_eq_true _ | exact congrArg not (beq_self_eq_true _)) ?_; refine r_indexAddrS (j:=0) hS hH.kp0 rfl rfl Fc.slb22 rfl (by simp) rfl ?_; clear hS; intro a hS)
   | (refine Sq.guardNo hS rfl rfl (by first | rfl | exact DT (by omega) | exact DF (by omega) | exact beq_iff_eq.2 (by omega) | exact beq_false_of_ne (by omega) | exact bne_iff_ne.2 (by omega) | exact bne_eq_false_iff_eq.2 (by omega) | assumption | exact beq_self_eq_true _ | exact congrArg not (beq_self_eq_true _)) hH.kp0 rfl ?_; clear hS; intro a hS)
   | (refine Sq.guardOff hS rfl rfl hH.kp0 rfl ?_; clear hS; intro a hS)
  first
   | (refine Sq.guardYes hS rfl rfl (by first | rfl | exact DT (by omega) | exact DF (by omega) | exact beq_iff_eq.2 (by omega) | exact beq_false_of_ne (by omega) | exact bne_iff_ne.2 (by omega) | exact bne_eq_false_iff_eq.2 (by omega) | assumption | exact beq_self_eq_true _ | exact congrArg not (beq_self_eq_true _)) ?_; refine r_load_cell (v:=byteV y) hS hH.kp0 rfl (by rw [Nat.zero_mul]; exact hb.byte hH.mod rfl) Fc.sc5 rfl ?_; clear hS; intro a hS)
   | (refine Sq.guardNo hS rfl rfl (by first | rfl | exact DT (by omega) | exact DF (by omega) | exact beq_iff_eq.2 (by omega) | exact beq_false_of_ne (by omega) | exact bne_iff_ne.2 (by omega) | exact bne_eq_false_iff_eq.2 (by omega) | assumption | exact beq_self_eq_true _ | exact congrArg not (beq_self_eq_true _)) hH.kp0 rfl ?_; clear hS; intro a hS)
   | (refine Sq.guardOff hS rfl rfl hH.kp0 rfl ?_; clear hS; intro a hS)
  first
   | (refine Sq.guardYes hS rfl rfl (by first | rfl | exact DT (by omega) | exact DF (by omega) | exact beq_iff_eq.2 (by omega) | exact beq_false_of_ne (by omega) | exact bne_iff_ne.2 (by omega) | exact bne_eq_false_iff_eq.2 (by omega) | assumption | exact beq_self_eq_true _ | exact congrArg not (beq_self_eq_true _)) ?_; refine r_move hS hH.kp0 rfl rfl ?_; clear hS; intro a hS)
   | (refine Sq.guardNo hS rfl rfl (by first | rfl | exact DT (by omega) | exact DF (by omega) | exact beq_iff_eq.2 (by omega) | exact beq_false_of_ne (by omega) | exact bne_iff_ne.2 (by omega) | exact bne_eq_false_iff_eq.2 (by omega) | assumption | exact beq_self_eq_true _ | exact congrArg not (beq_self_eq_true _)) hH.kp0 rfl ?_; clear hS; intro a hS)
   | (refine Sq.guardOff hS rfl rfl hH.kp0 rfl ?_; clear hS; intro a hS)
  first
   | (refine Sq.guardYes hS rfl rfl (by first | rfl | exact DT (by omega) | exact DF (by omega) | exact beq_iff_eq.2 (by omega) | exact beq_false_of_ne (by omega) | exact bne_iff_ne.2 (by omega) | exact bne_eq_false_iff_eq.2 (by omega) | assumption | exact beq_self_eq_true _ | exact congrArg not (beq_self_eq_true _)) ?_; refine r_eql hS hH.kp0 rfl rfl rfl ?_; clear hS; intro a hS)
   | (refine Sq.guardNo hS rfl rfl (by first | rfl | exact DT (by omega) | exact DF (by omega) | exact beq_iff_eq.2 (by omega) | exact beq_false_of_ne (by omega) | exact bne_iff_ne.2 (by omega) | exact bne_eq_false_iff_eq.2 (by omega) | assumption | exact beq_self_eq_true _ | exact congrArg not (beq_self_eq_true _)) hH.kp0 rfl ?_; clear hS; intro a hS)
   | (refine Sq.guardOff hS rfl rfl hH.kp0 rfl ?_; clear hS; intro a hS)
  first
   | (refine r_pickT hS hH.kp0 rfl (by first | rfl | exact DT (by omega) | exact DF (by omega) | exact beq_iff_eq.2 (by omega) | exact beq_false_of_ne (by omega) | exact bne_iff_ne.2 (by omega) | exact bne_eq_false_iff_eq.2 (by omega) | assumption | exact beq_self_eq_true _ | exact congrArg not (beq_self_eq_true _)) rfl rfl ?_; clear hS; intro a hS)
   | (refine r_pickF hS hH.kp0 rfl (by first | rfl | exact DT (by omega) | exact DF (by omega) | exact beq_iff_eq.2 (by omega) | exact beq_false_of_ne (by omega) | exact bne_iff_ne.2 (by omega) | exact bne_eq_false_iff_eq.2 (by omega) | assumption | exact beq_self_eq_true _ | exact congrArg not (beq_self_eq_true _)) rfl rfl ?_; clear hS; intro a hS)
  refine Sq.nil (then_n ?_)
  refine c_cond hS rfl (fun hc0 => ?_) (fun hc0 => ?_)
  ·have hy0 : y = 0:=by have:=eq_of_beq hc0; exact UInt8.toNat_inj.1 (by show y.toNat = 0; omega)
   refine wp_skip (then_n (wp_block (reg_plain w0 (Nobody) ?_)))
   refine r_move hS hH.kp0 rfl rfl (x_slLo (ll:=1) hH.kp0 rfl rfl Fc.slb22 rfl (by simp) rfl ?_); clear hS; intro a hS
   have hb2:=hb.low rfl (by simp : 1≤(y :: t).length)
   refine r_assign hS hH.kp0 rfl rfl ?_; clear hS; intro a hS
   refine Sq.nil (blk_n (then_n ?_))
   subst hy0
   exact ⟨t.length,Nat.lt_succ_self _,_,_,t,rfl,hb2,hz.trans zeros_drop,hS.live ⟨rfl,rfl,trivial⟩,hH⟩
  ·have hyn : ¬ y = 0:=fun h => by subst h; cases hc0
   refine wp_exit (then_e (then_e (blk_hit (then_n (c_seq (c_seq (reg_plain w0 (Nobody) ?_)))))))
   refine r_move hS hH.kp0 rfl rfl (x_lenSl hH.kp0 rfl Fc.isSlice22 rfl (x_eql hH.kp0 rfl rfl rfl ?_)); clear hS; intro a hS
   refine Sq.nil (then_n ?_)
   refine c_condF hS rfl (by first | rfl | exact DT (by omega) | exact DF (by omega) | exact beq_iff_eq.2 (by omega) | exact beq_false_of_ne (by omega) | exact bne_iff_ne.2 (by omega) | exact bne_eq_false_iff_eq.2 (by omega) | assumption | exact beq_self_eq_true _ | exact congrArg not (beq_self_eq_true _)) ?_
   refine wp_skip (then_n (c_seq (reg_plain w0 (Nobody) ?_)))
   refine r_move hS hH.kp0 rfl rfl (x_assign hH.kp0 rfl rfl ?_); clear hS; intro a hS
   refine Sq.nil (then_n (wp_ret ?_))
   exact leave (.inl rfl) hS rfl (Res.tmp rfl Res.nil) ⟨_,_,_,rfl,⟨fun h => by simp at h,fun h => absurd (hz.1 h y (by simp)) hyn⟩,hH.mod⟩

set_option maxRecDepth 100000 in
set_option maxHeartbeats 400000 in
theorem trim_c (q : Option Addr) (qc : Nat) (u : List UInt8) (hl : u.length≤1099511627776) (w0 : World) (hb : BsF Nobody w0 (.slice q u.length qc) u) : Calls Tryd.prog 25 #[.slice q u.length qc,.string { data := #[0] }] w0 fun e w' => ∃ (q' : Option Addr) (m c' : Nat),e = .returned (.slice q' m c')∧(m = 0↔∀ x∈u,x = 0)∧Ext w0 w':=by
 refine enter Tryd.func25 rfl rfl rfl ?_
 intro a hS
 have hH:=Hp.start w0 (Nobody)
 have hbm : ∀ {m : Nat} (w9 : World),Ext w0 w9→BsF Nobody w9 (.slice q (u.take m).length qc) (u.take m):=fun {m} w9 k9 => BsF.pre (hb.go k9 (fun x (h : Nobody x) => h.elim)) m
 refine c_seq (reg_plain w0 (Nobody) ?_)
 refine r_assign hS hH.kp0 rfl rfl ?_; clear hS; intro a hS
 refine Sq.nil (then_n (c_seq (c_seq (reg_plain w0 (Nobody) ?_))))
 refine r_move hS hH.kp0 rfl rfl (x_lenSl hH.kp0 rfl Fc.isSlice22 rfl ?_); clear hS; intro a hS
 rcases (by omega : u.length = 0∨1≤u.length) with hu0 | hu0
 ·refine r_eql hS hH.kp0 rfl rfl rfl ?_; clear hS; intro a hS
  refine Sq.nil (then_n ?_)
  refine c_condT hS rfl (by first | rfl | exact DT (by omega) | exact DF (by omega) | exact beq_iff_eq.2 (by omega) | exact beq_false_of_ne (by omega) | exact bne_iff_ne.2 (by omega) | exact bne_eq_false_iff_eq.2 (by omega) | assumption | exact beq_self_eq_true _ | exact congrArg not (beq_self_eq_true _)) ?_
  refine c_seq (reg_plain w0 (Nobody) ?_)
  refine r_assign hS hH.kp0 rfl rfl ?_; clear hS; intro a hS
  refine Sq.nil (then_n (wp_ret (then_r ?_)))
  have hun : u = []:=List.eq_nil_of_length_eq_zero hu0
  subst hun
  exact leave (.inl rfl) hS rfl (Res.tmp rfl Res.nil) ⟨none,0,0,rfl,⟨fun _ => by simp,fun _ => rfl⟩,hH.mod⟩
 ·refine r_eql hS hH.kp0 rfl rfl rfl ?_; clear hS; intro a hS
  refine Sq.nil (then_n ?_)
  refine c_condF hS rfl (by first | rfl | exact DT (by omega) | exact DF (by omega) | exact beq_iff_eq.2 (by omega) | exact beq_false_of_ne (by omega) | exact bne_iff_ne.2 (by omega) | exact bne_eq_false_iff_eq.2 (by omega) | assumption | exact beq_self_eq_true _ | exact congrArg not (beq_self_eq_true _)) ?_
  refine wp_skip (then_n (c_seq (c_seq (reg_plain w0 (Nobody) ?_))))
  refine r_move hS hH.kp0 rfl rfl (x_strEql hH.kp0 rfl rfl rfl ?_); clear hS; intro a hS
  refine Sq.nil (then_n ?_)
  refine c_condF hS rfl (by show ((strOf [0]).toList == (strOf []).toList) = false; rw [strOf_toList,strOf_toList]; rfl) ?_
  refine wp_skip (then_n (c_seq (c_seq (reg_plain w0 (Nobody) ?_))))
  refine r_move hS hH.kp0 rfl rfl (x_lenStr hH.kp0 rfl Fc.isStr9 rfl (x_eql hH.kp0 rfl rfl rfl (x_move hH.kp0 rfl rfl ?_))); clear hS; intro a hS
  first
   | (refine Sq.guardYes hS rfl rfl (by first | rfl | exact DT (by omega) | exact DF (by omega) | exact beq_iff_eq.2 (by omega) | exact beq_false_of_ne (by omega) | exact bne_iff_ne.2 (by omega) | exact bne_eq_false_iff_eq.2 (by omega) | assumption | exact beq_self_eq_true _ | exact congrArg not (beq_self_eq_true _)) ?_; refine r_move hS hH.kp0 rfl rfl ?_; clear hS; intro a hS)
   | (refine Sq.guardNo hS rfl rfl (by first | rfl | exact DT (by omega) | exact DF (by omega) | exact beq_iff_eq.2 (by omega) | exact beq_false_of_ne (by omega) | exact bne_iff_ne.2 (by omega) | exact bne_eq_false_iff_eq.2 (by omega) | assumption | exact beq_self_eq_true _ | exact congrArg not (beq_self_eq_true _)) hH.kp0 rfl ?_; clear hS; intro a hS)
   | (refine Sq.guardOff hS rfl rfl hH.kp0 rfl ?_; clear hS; intro a hS)
  first
   | (refine Sq.guardYes hS rfl rfl (by first | rfl | exact DT (by omega) | exact DF (by omega) | exact beq_iff_eq.2 (by omega) | exact beq_false_of_ne (by omega) | exact bne_iff_ne.2 (by omega) | exact bne_eq_false_iff_eq.2 (by omega) | assumption | exact beq_self_eq_true _ | exact congrArg not (beq_self_eq_true _)) ?_; refine r_indexStr (i:=0) (u:=0) hS hH.kp0 rfl rfl Fc.und9 rfl rfl ?_; clear hS; intro a hS)
   | (refine Sq.guardNo hS rfl rfl (by first | rfl | exact DT (by omega) | exact DF (by omega) | exact beq_iff_eq.2 (by omega) | exact beq_false_of_ne (by omega) | exact bne_iff_ne.2 (by omega) | exact bne_eq_false_iff_eq.2 (by omega) | assumption | exact beq_self_eq_true _ | exact congrArg not (beq_self_eq_true _)) hH.kp0 rfl ?_; clear hS; intro a hS)
   | (refine Sq.guardOff hS rfl rfl hH.kp0 rfl ?_; clear hS; intro a hS)
  first
   | (refine Sq.guardYes hS rfl rfl (by first | rfl | exact DT (by omega) | exact DF (by omega) | exact beq_iff_eq.2 (by omega) | exact beq_false_of_ne (by omega) | exact bne_iff_ne.2 (by omega) | exact bne_eq_false_iff_eq.2 (by omega) | assumption | exact beq_self_eq_true _ | exact congrArg not (beq_self_eq_true _)) ?_; refine r_lss hS hH.kp0 rfl rfl rfl ?_; clear hS; intro a hS)
   | (refine Sq.guardNo hS rfl rfl (by first | rfl | exact DT (by omega) | exact DF (by omega) | exact beq_iff_eq.2 (by omega) | exact beq_false_of_ne (by omega) | exact bne_iff_ne.2 (by omega) | exact bne_eq_false_iff_eq.2 (by omega) | assumption | exact beq_self_eq_true _ | exact congrArg not (beq_self_eq_true _)) hH.kp0 rfl ?_; clear hS; intro a hS)
   | (refine Sq.guardOff hS rfl rfl hH.kp0 rfl ?_; clear hS; intro a hS)
  first
   | (refine r_pickT hS hH.kp0 rfl (by first | rfl | exact DT (by omega) | exact DF (by omega) | exact beq_iff_eq.2 (by omega) | exact beq_false_of_ne (by omega) | exact bne_iff_ne.2 (by omega) | exact bne_eq_false_iff_eq.2 (by omega) | assumption | exact beq_self_eq_true _ | exact congrArg not (beq_self_eq_true _)) rfl rfl ?_; clear hS; intro a hS)
   | (refine r_pickF hS hH.kp0 rfl (by first | rfl | exact DT (by omega) | exact DF (by omega) | exact beq_iff_eq.2 (by omega) | exact beq_false_of_ne (by omega) | exact bne_iff_ne.2 (by omega) | exact bne_eq_false_iff_eq.2 (by omega) | assumption | exact beq_self_eq_true _ | exact congrArg not (beq_self_eq_true _)) rfl rfl ?_; clear hS; intro a hS)
  refine Sq.nil (then_n (c_condT hS rfl rfl (c_seq ?_)))
  refine reg_draw [(true,0,[]),(true,1,[]),(true,2,[]),(true,4,[]),(true,5,[]),(false,3,[]),(false,6,[]),(true,7,[])] Fc.mixed (by kernel_rfl) (by kernel_rfl) (by kernel_rfl) (by kernel_rfl) (by kernel_rfl) (by repeat (first | with_reducible exact steady_body | with_reducible apply steady_block | with_reducible apply steady_then | exact steady_body)) hH ?_
  replace hH:=hH.drew
  refine r_move hS trivial rfl rfl (x_move trivial rfl rfl (x_indexStr (i:=0) (u:=0) trivial rfl rfl Fc.und9 rfl rfl (x_move trivial rfl rfl (x_indexStr (i:=0) (u:=0) trivial rfl rfl Fc.und9 rfl rfl ?_)))); clear hS; intro a hS
  refine r_call (l:=[.tmp 21,.tmp 23]) hS rfl rfl Fc.fn48 rfl ?_
  refine Calls.mono (trimR_c q qc u hl _ (hb.go hH.mod (fun _ h => h.elim))) ?_
  rintro e w1 ⟨m,rfl,hmu,hmz,hE⟩
  replace hH:=hH.ext hE
  have hmt : (u.take m).length = m:=by rw [List.length_take]; omega
  rw [←hmt]
  refine ⟨_,rfl,hH.kp (by repeat' constructor),?_⟩
  clear hS; intro a hS
  refine r_call (l:=[.tmp 24,.tmp 26]) hS rfl rfl Fc.fn47 rfl ?_
  refine Calls.mono (trimL_c q qc (u.take m) (by omega) _ (hbm _ hH.mod)) ?_
  rintro e w1 ⟨q',m',c',rfl,hm',hE⟩
  replace hH:=hH.ext hE
  refine ⟨_,rfl,hH.kp (by repeat' constructor),?_⟩
  clear hS; intro a hS
  refine r_assign hS trivial rfl rfl ?_; clear hS; intro a hS
  refine Sq.nil (then_n (wp_ret (then_r ?_)))
  exact leave (.inl rfl) hS rfl (Res.tmp rfl Res.nil) ⟨q',m',c',rfl,hm'.trans (zeros_take hmz).symm,hH.mod⟩

end Go.Proofs.YtcjmehononbadaaDoor
