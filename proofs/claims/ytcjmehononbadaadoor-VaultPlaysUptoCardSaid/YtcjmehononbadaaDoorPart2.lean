/- Two vaults under any calls answer alike. Part Part2: walks and lemmas of the proof. -/
import Derived.Test.YtcjmehononbadaaDoorPart1
import Derived.Test.YtcjmehononbadaaDoorSym5
namespace Go.Proofs.YtcjmehononbadaaDoor
open Go.Sym

theorem Fc.bsl31_1 : bslB Tryd.prog 31 1 = some (22,1,[.slice none 0 0]):=by kernel_rfl
theorem Fc.fn56 : isFn Tryd.prog 56 = true:=by kernel_rfl
theorem Fc.fn57 : isFn Tryd.prog 57 = true:=by kernel_rfl
theorem Fc.fo64_6 : foff Tryd.prog 64 6 = some 6:=by kernel_rfl
theorem Fc.fo71_2 : foff Tryd.prog 71 2 = some 2:=by kernel_rfl
theorem Fc.sc22 : scB Tryd.prog 22 = true:=by kernel_rfl
theorem Fc.sc31 : scB Tryd.prog 31 = true:=by kernel_rfl
theorem Fc.sc67 : scB Tryd.prog 67 = true:=by kernel_rfl
theorem Fc.sc9 : scB Tryd.prog 9 = true:=by kernel_rfl
theorem Fc.slb31 : slB Tryd.prog 31 = some 1:=by kernel_rfl
theorem Fc.slb37 : slB Tryd.prog 37 = some 7:=by kernel_rfl
theorem Fc.sz31 : sizeB Tryd.prog 31 1 = true:=by kernel_rfl
theorem Fc.sz64 : sizeB Tryd.prog 64 7 = true:=by kernel_rfl
theorem Fc.und22 : Tryd.prog.underlying 22 = some (.slice 5):=by kernel_rfl
theorem Fc.und9 : Tryd.prog.underlying 9 = some .string:=by kernel_rfl
set_option maxRecDepth 100000 in
set_option maxHeartbeats 8000000 in
theorem step6_v (b : Nat) (V : VB) (ts : List Tm) (hm : ts.length≤1000000000) (hwf : Wf6 ts) (sp vb ob bs bk bo : Nat) (tdv : Value) (ls : List (List UInt8)) (hll : ∀ l∈ls,l.length≤1099511627776) (hls2 : ls.length≤1099511627776) (K O : List Bool) (hK : K.length = ts.length) (hO : O.length = ts.length) (nko : bo≠bk) (w0 : World) (hvi : VI w0 b V ts) (h1 : w0.heap[bs]? = some (.cells [.pointer (some ⟨b,0,none⟩),.slice (some ⟨bk,0,none⟩) ts.length ts.length,tdv].toArray 71 (0,0))) (h2 : w0.heap[bk]? = some (.cells (bools K).toArray 4 (0,0)))
  (h3 : w0.heap[sp]? = some (.cells [.pointer (some ⟨bs,0,none⟩)].toArray 67 (0,0))) (h4 : w0.heap[vb]? = some (.cells [.pointer (some ⟨b,0,none⟩)].toArray 23 (0,0))) (h5 : w0.heap[ob]? = some (.cells [.slice (some ⟨bo,0,none⟩) ts.length ts.length].toArray 69 (0,0))) (h6 : w0.heap[bo]? = some (.cells (bools O).toArray 4 (0,0))) (hls : SlG (fun x => x = bk∨x = bs∨x = bo) w0 tdv ls) :
  Calls Tryd.prog 55 #[.pointer (some ⟨sp,0,none⟩),.pointer (some ⟨vb,0,none⟩),.pointer (some ⟨ob,0,none⟩)] w0 fun e w' => ∃ more K' O' tdv' tds,e = .returned (.bool more)∧w'.heap[bs]? = some (.cells [.pointer (some ⟨b,0,none⟩),.slice (some ⟨bk,0,none⟩) ts.length ts.length,tdv'].toArray 71 (0,0))∧w'.heap[bk]? = some (.cells (bools K').toArray 4 (0,0))∧w'.heap[bo]? = some (.cells (bools O').toArray 4 (0,0))∧StepR6 ts ls K O more K' O' tds∧SlG (fun x => x = bk∨x = bs∨x = bo) w' tdv' tds∧tds.length≤ts.length∧Mod (fun x => x = bk∨x = bs∨x = bo) w0 w':=by
 refine enter Tryd.func55 rfl rfl rfl ?_
 intro a hS
 have hH:=Hp.start w0 (fun x => x = bk∨x = bs∨x = bo)
 obtain ⟨vs,p,cap,hsl0,hall⟩:=hls
 have hv9:=(hsl0 _ (Mod.refl _ _)).val
 subst hv9
 have nbk : bs≠bk:=by intro e; rw [e,h2] at h1; simp at h1
 replace hH:=((hH.knowV hvi (by intro p hp; simp at hp)).know h6 (hvi.ne4 h6 (by decide) (by decide)))
 replace hH:=hH.know h2 (by intro p hp; rcases List.mem_cons.1 hp with rfl | hp; exact nko; exact hvi.ne4 h2 (by decide) (by decide) p hp)
 replace hH:=hH.know h1 (by intro p hp; rcases List.mem_cons.1 hp with rfl | hp; (intro e; rw [←e,h2] at h1; simp at h1); rcases List.mem_cons.1 hp with rfl | hp; (intro e; rw [←e,h6] at h1; simp at h1); exact hvi.ne4 h1 (by decide) (by decide) p hp)
 replace hH:=hH.know h5 (by intro p hp; rcases List.mem_cons.1 hp with rfl | hp; (intro e; rw [←e,h1] at h5; simp at h5); rcases List.mem_cons.1 hp with rfl | hp; (intro e; rw [←e,h2] at h5; simp at h5); rcases List.mem_cons.1 hp with rfl | hp; (intro e; rw [←e,h6] at h5; simp at h5); exact hvi.ne4 h5 (by decide) (by decide) p hp)
 replace hH:=hH.know h4 (by intro p hp; rcases List.mem_cons.1 hp with rfl | hp; (intro e; rw [←e,h5] at h4; simp at h4); rcases List.mem_cons.1 hp with rfl | hp; (intro e; rw [←e,h1] at h4; simp at h4); rcases List.mem_cons.1 hp with rfl | hp; (intro e; rw [←e,h2] at h4; simp at h4); rcases List.mem_cons.1 hp with rfl | hp; (intro e; rw [←e,h6] at h4; simp at h4); exact hvi.ne4 h4 (by decide) (by decide) p hp)
 replace hH:=hH.know h3 (by intro p hp; rcases List.mem_cons.1 hp with rfl | hp; (intro e; rw [←e,h4] at h3; simp at h3); rcases List.mem_cons.1 hp with rfl | hp; (intro e; rw [←e,h5] at h3; simp at h3); rcases List.mem_cons.1 hp with rfl | hp; (intro e; rw [←e,h1] at h3; simp at h3); rcases List.mem_cons.1 hp with rfl | hp; (intro e; rw [←e,h2] at h3; simp at h3); rcases List.mem_cons.1 hp with rfl | hp; (intro e; rw [←e,h6] at h3; simp at h3); exact hvi.ne4 h3 (by decide) (by decide) p hp)
 have hkeys : ∀ x∈[sp,vb,ob,bs,bk,bo,b,V.sb,V.fb,V.nb],x < w0.heap.size:=by intro x hx; obtain ⟨p9,hp9,e9⟩:=List.mem_map.1 (show x∈List.map Prod.fst ([(sp,.cells [.pointer (some ⟨bs,0,none⟩)].toArray 67 (0,0)),(vb,.cells [.pointer (some ⟨b,0,none⟩)].toArray 23 (0,0)),(ob,.cells [.slice (some ⟨bo,0,none⟩) ts.length ts.length].toArray 69 (0,0)),(bs,.cells [.pointer (some ⟨b,0,none⟩),.slice (some ⟨bk,0,none⟩) ts.length ts.length,.slice p ls.length cap].toArray 71 (0,0)),(bk,.cells (bools K).toArray 4 (0,0)),(bo,.cells (bools O).toArray 4 (0,0)),(b,.cells (V.top ts.length).toArray 41 (0,0)),(V.sb,.cells V.l.toArray 64 (0,0)),(V.fb,.map V.es V.c),(V.nb,.map V.es' V.c')] : Blocks) from hx); rw [←e9]; exact hH.lt p9 hp9
 have l_bk:=hkeys bk (by simp)
 have l_bs:=hkeys bs (by simp)
 have l_bo:=hkeys bo (by simp)
 obtain ⟨SR,hSR⟩ : ∃ S : Nat→Prop,S = fun x => x = bk∨x = bs∨x = bo:=⟨_,rfl⟩
 rw [←hSR] at hH
 refine c_seq (reg_plain w0 (SR) ?_)
 refine r_assign hS hH.kp0 rfl rfl ?_; clear hS; intro a hS
 refine Sq.nil (then_n (c_seq (c_seq (reg_plain w0 (SR) ?_))))
 refine r_load_sc hS hH (by repeat' constructor) rfl (by repeat' constructor) Fc.sc67 (by rfl) rfl (x_nilCheck hH.kp0 rfl rfl (x_fieldAddr hH.kp0 rfl Fc.fo71_2 rfl (x_load_sc hH (by repeat' constructor) rfl (by repeat' constructor) Fc.sc31 (by rfl) rfl (x_lenSl hH.kp0 rfl Fc.isSlice31 rfl (x_move hH.kp0 rfl rfl ?_))))); clear hS; intro a hS
 refine Sq.nil (then_n (wp_block ?_))
 refine c_loop (fun m a w => ∃ (i : Nat) (ii : Int) (K1 : List Bool),m + i = ls.length∧ii = i∧K1.length = ts.length∧cnt K≤cnt K1∧(∀ j,KT K1 j↔KT K j∨(j < ts.length∧∃ l∈ls.take i,HasN l j))∧St 100 (lv [(0,.pointer (some ⟨sp,0,none⟩)),(1,.pointer (some ⟨vb,0,none⟩)),(2,.pointer (some ⟨ob,0,none⟩)),(3,.bool false),(12,.slice p ls.length cap),(13,.int .i64 (ls.length : Int)),(14,.int .i64 ii)]) a∧Hp w0 SR [(sp,.cells [.pointer (some ⟨bs,0,none⟩)].toArray 67 (0,0)),(vb,.cells [.pointer (some ⟨b,0,none⟩)].toArray 23 (0,0)),(ob,.cells [.slice (some ⟨bo,0,none⟩) ts.length ts.length].toArray 69 (0,0)),(bs,.cells [.pointer (some ⟨b,0,none⟩),.slice (some ⟨bk,0,none⟩) ts.length ts.length,.slice p ls.length cap].toArray 71 (0,0)),(bk,.cells (bools K1).toArray 4 (0,0)),(bo,.cells (bools O).toArray 4 (0,0)),(b,.cells (V.top ts.length).toArray 41 (0,0)),(V.sb,.cells V.l.toArray 64 (0,0)),(V.fb,.map V.es V.c),(V.nb,.map V.es' V.c')] w) (ls.length) ?_ ?_
 ·exact ⟨0,_,K,by omega,rfl,hK,Nat.le_refl _,fun j => by simp,hS.live ⟨rfl,rfl,rfl,rfl,rfl,rfl,rfl,trivial⟩,hH⟩
 clear hS hH; intro m a w hI; obtain ⟨i,ii,K1,hmi,hii,hK1,hcn,hR,hS,hH⟩:=hI
 refine c_seq (reg_plain w0 (SR) ?_)
 refine r_lss hS hH.kp0 rfl rfl rfl ?_; clear hS; intro a hS
 refine Sq.nil (then_n (c_seq ?_))
 refine c_cond hS rfl (fun hc0 => ?_) (fun hc0 => ?_)
 ·have hlt:=of_decide_eq_true hc0
  have hsl:=hsl0 _ (hSR ▸ hH.mod)
  obtain ⟨ba,bo_,hq⟩:=hsl.addr (by omega)
  subst hq
  obtain ⟨x,hx⟩ : ∃ x,vs[i]? = some x:=⟨_,List.getElem?_eq_getElem (by rw [hsl.len]; omega)⟩
  obtain ⟨l,hli,hbx⟩:=hall i x hx
  obtain ⟨bb,oo,hbo,hcell⟩:=hsl.cells i x hx
  cases hbo
  refine wp_skip (then_n (c_seq (wp_block (c_seq (reg_plain w0 (SR) ?_)))))
  refine r_indexAddrS (j:=i) hS hH.kp0 rfl rfl Fc.slb31 hii (by omega) rfl ?_; clear hS; intro a hS
  refine r_load_cell (v:=x) hS hH.kp0 rfl (by rw [Nat.mul_one]; exact hcell) Fc.sc22 rfl ?_; clear hS; intro a hS
  refine r_assign hS hH.kp0 rfl rfl ?_; clear hS; intro a hS
  refine Sq.nil (then_n (reg_plain w0 (SR) ?_))
  refine r_load_sc hS hH (by repeat' constructor) rfl (by repeat' constructor) Fc.sc67 (by rfl) rfl (x_move hH.kp0 rfl rfl ?_); clear hS; intro a hS
  refine r_call (l:=[.tmp 18,.tmp 19]) hS rfl rfl Fc.fn56 rfl ?_
  refine Calls.mono (read_v b V ts hm bs bk _ K1 hK1 x l (hll l (List.mem_of_getElem? hli)) _ (hH.vin hvi.ok hvi.n01 hvi.n23 (by repeat' constructor) (by repeat' constructor) (by repeat' constructor) (by repeat' constructor)) (hH.get (b:=bs) (by repeat' constructor)) (hH.get (b:=bk) (by repeat' constructor)) (hbx.go (hSR ▸ hH.mod) (fun z hz => .inl (.inl hz)))) ?_
  rintro e w1 ⟨u,K2,rfl,hK2,hk2,hR2,hM2⟩
  replace hH:=hH.wrote hM2 hk2 (by repeat' constructor) (.inl (by rw [hSR]; simp))
  refine ⟨_,rfl,hH.kp0,?_⟩
  clear hS; intro a hS
  refine Sq.nil (blk_n (then_n (reg_plain w0 (SR) ?_)))
  refine r_add hS hH.kp0 rfl rfl rfl (by omega) (x_move hH.kp0 rfl rfl ?_); clear hS; intro a hS
  refine Sq.nil (then_n ?_)
  refine ⟨m - 1,by omega,i + 1,_,K2,by omega,?_,hK2,?_,?_,hS.live ⟨rfl,rfl,rfl,rfl,rfl,rfl,rfl,trivial⟩,hH⟩
  ·omega
  ·exact Nat.le_trans hcn (cnt_mono (hK2.trans hK1.symm) (fun j hj => (hR2 j).2 (.inl hj)))
  ·exact fun j => seen_step hli (hR j) (hR2 j)
 ·have hge:=of_decide_eq_false hc0
  have hii0 : i = ls.length:=by omega
  subst hii0
  rw [List.take_of_length_le (Nat.le_refl _)] at hR
  obtain ⟨K0,hK0e⟩ : ∃ z,z = K1:=⟨_,rfl⟩
  rw [←hK0e] at hH hK1 hR hcn
  have hK0:=hK1
  clear hK1
  refine wp_exit (then_e (then_e (blk_hit (then_n (c_seq (reg_plain w0 (SR) ?_))))))
  refine r_load_sc hS hH (by repeat' constructor) rfl (by repeat' constructor) Fc.sc67 (by rfl) rfl (x_nilCheck hH.kp0 rfl rfl (x_fieldAddr hH.kp0 rfl Fc.fo71_2 rfl ?_)); clear hS; intro a hS
  refine r_store1 hS hH rfl rfl rfl (by repeat' constructor) (by repeat' constructor) Fc.sz31 (of_decide_eq_true rfl) (.inl (by rw [hSR]; simp)) ?_
  clear hH; intro w hH
  refine Sq.nil (then_n (c_seq (reg_plain w0 (SR) ?_)))
  refine r_assign hS hH.kp0 rfl rfl ?_; clear hS; intro a hS
  refine Sq.nil (then_n (c_seq (c_seq (reg_plain w0 (SR) ?_))))
  refine r_load_sc hS hH (by repeat' constructor) rfl (by repeat' constructor) Fc.sc23 (by rfl) rfl (x_nilCheck hH.kp0 rfl rfl (x_fieldAddr hH.kp0 rfl Fc.fo41_0 rfl (x_load_sc hH (by repeat' constructor) rfl (by repeat' constructor) Fc.sc37 (by rfl) rfl (x_lenSl hH.kp0 rfl Fc.isSlice37 rfl (x_move hH.kp0 rfl rfl ?_))))); clear hS; intro a hS
  refine Sq.nil ?_
  have hHz:=hH
  subst hSR
  obtain ⟨wB,hwBe⟩ : ∃ z,z = w0:=⟨_,rfl⟩
  subst hwBe
  refine then_n (wp_block ?_)
  refine c_loop (fun m a w => ∃ (i : Nat) (ii : Int) (K1 O1 : List Bool) (mr : Bool) (tdv1 : Value) (tds : List (List UInt8)),m + i = ts.length∧ii = i∧Pass6 ts K0 O K1 O1 tds mr i i∧tds.length≤i∧Todo wB.heap.size 22 (fun x => x = bk∨x = bs∨x = bo) w tdv1 tds∧St 100 (lv [(0,.pointer (some ⟨sp,0,none⟩)),(1,.pointer (some ⟨vb,0,none⟩)),(2,.pointer (some ⟨ob,0,none⟩)),(3,.bool false),(6,.bool mr),(28,.slice (some ⟨V.sb,0,none⟩) ts.length V.cap),(29,.int .i64 (ts.length : Int)),(30,.int .i64 ii)]) a∧Hp wB (fun x => x = bk∨x = bs∨x = bo) [(sp,.cells [.pointer (some ⟨bs,0,none⟩)].toArray 67 (0,0)),(vb,.cells [.pointer (some ⟨b,0,none⟩)].toArray 23 (0,0)),(ob,.cells [.slice (some ⟨bo,0,none⟩) ts.length ts.length].toArray 69 (0,0)),(bs,.cells [.pointer (some ⟨b,0,none⟩),.slice (some ⟨bk,0,none⟩) ts.length ts.length,tdv1].toArray 71 (0,0)),(bk,.cells (bools K1).toArray 4 (0,0)),(bo,.cells (bools O1).toArray 4 (0,0)),(b,.cells (V.top ts.length).toArray 41 (0,0)),(V.sb,.cells V.l.toArray 64 (0,0)),(V.fb,.map V.es V.c),(V.nb,.map V.es' V.c')] w) (ts.length) ?_ ?_
  ·exact ⟨0,_,K0,O,false,_,[],by omega,rfl,Pass6.start hK0 hO,Nat.zero_le _,Todo.nil _ _ _ _,hS.live ⟨rfl,rfl,rfl,rfl,rfl,rfl,rfl,rfl,trivial⟩,hH⟩
  clear hS hH; intro m a w0 hI; obtain ⟨i,ii,K1,O1,mr,tdv1,tds,hmi,hii,hP,hln,htd,hS,hHI⟩:=hI
  have hK1:=hP.len
  have hO1:=hP.lenO
  have hwB:=hHI.mod.size
  rcases id htd with ⟨rfl,rfl⟩ | ⟨tb,tcap,tl,rfl,htb1,htb2,htb3,htl1,htl2,htbl⟩
  ·obtain ⟨tds,htds0⟩ : ∃ z : List (List UInt8),z = []:=⟨_,rfl⟩
   rw [←htds0] at hP hln htd
   obtain ⟨SR,hSR⟩ : ∃ S : Nat→Prop,S = fun x => x = bk∨x = bs∨x = bo:=⟨_,rfl⟩
   have hH : Hp w0 SR [(sp,.cells [.pointer (some ⟨bs,0,none⟩)].toArray 67 (0,0)),(vb,.cells [.pointer (some ⟨b,0,none⟩)].toArray 23 (0,0)),(ob,.cells [.slice (some ⟨bo,0,none⟩) ts.length ts.length].toArray 69 (0,0)),(bs,.cells [.pointer (some ⟨b,0,none⟩),.slice (some ⟨bk,0,none⟩) ts.length ts.length,.slice none 0 0].toArray 71 (0,0)),(bk,.cells (bools K1).toArray 4 (0,0)),(bo,.cells (bools O1).toArray 4 (0,0)),(b,.cells (V.top ts.length).toArray 41 (0,0)),(V.sb,.cells V.l.toArray 64 (0,0)),(V.fb,.map V.es V.c),(V.nb,.map V.es' V.c')] w0:=hHI.fresh
   refine c_seq (reg_plain w0 (SR) ?_)
   refine r_lss hS hH.kp0 rfl rfl rfl ?_; clear hS; intro a hS
   refine Sq.nil (then_n (c_seq ?_))
   refine c_cond hS rfl (fun hc1 => ?_) (fun hc1 => ?_)
   ·have hlt:=of_decide_eq_true hc1
    obtain ⟨t,ht⟩ : ∃ t,ts[i]? = some t:=⟨_,List.getElem?_eq_getElem (by omega)⟩
    have hrow:=hvi.ok.row ht
    obtain ⟨hwa1,hwa2⟩:=hwf.a i t ht
    obtain ⟨hwb1,hwb2⟩:=hwf.b i t ht
    obtain ⟨ia,hta⟩:=Int.eq_ofNat_of_zero_le hwa1
    obtain ⟨ib,htb_⟩:=Int.eq_ofNat_of_zero_le hwb1
    have hia : ia < ts.length:=by omega
    have hib : ib < ts.length:=by omega
    obtain ⟨ka,hka⟩ : ∃ k,K1[ia]? = some k:=⟨_,List.getElem?_eq_getElem (by omega)⟩
    obtain ⟨kb,hkb⟩ : ∃ k,K1[ib]? = some k:=⟨_,List.getElem?_eq_getElem (by omega)⟩
    obtain ⟨ki,hki⟩ : ∃ k,K1[i]? = some k:=⟨_,List.getElem?_eq_getElem (by omega)⟩
    obtain ⟨oi,hoi⟩ : ∃ k,O1[i]? = some k:=⟨_,List.getElem?_eq_getElem (by omega)⟩
    refine wp_skip (then_n (c_seq (wp_block (c_seq (reg_plain w0 (SR) ?_)))))
    refine r_move hS hH.kp0 rfl rfl (x_indexAddrS (j:=i) hH.kp0 rfl rfl Fc.slb37 hii (by omega) rfl ?_); clear hS; intro a hS
    refine r_load_at (vs:=t.cells) hS hH (by repeat' constructor) rfl (by repeat' constructor) Fc.ag64 (by rw [Nat.zero_add]; exact hrow.2) (by rw [Nat.zero_add]; exact hrow.1) rfl ?_; clear hS; intro a hS
    refine r_alloc hS hH (by repeat' constructor) Fc.zc64 rfl ?_
    clear hS hH; intro a w b8 hb8 hwb8 hS hH
    refine r_assign hS hH.kp0 rfl rfl ?_; clear hS; intro a hS
    refine r_store_row hS hH rfl rfl (by repeat' constructor) (by repeat' constructor) Fc.sz64 (one_cells t) (by rfl) (.inr (by assumption)) ?_; clear hH; intro w hH
    refine Sq.nil (then_n ?_)
    refine c_cut (fun a w => ∃ (K2 : List Bool) (mr2 : Bool),Pass6 ts K0 O K2 O1 tds mr2 (i + 1) i∧St 100 (lv [(0,.pointer (some ⟨sp,0,none⟩)),(1,.pointer (some ⟨vb,0,none⟩)),(2,.pointer (some ⟨ob,0,none⟩)),(3,.bool false),(6,.bool mr2),(7,.int .i64 ii),(8,.pointer (some ⟨b8,0,none⟩)),(28,.slice (some ⟨V.sb,0,none⟩) ts.length V.cap),(29,.int .i64 (ts.length : Int)),(30,.int .i64 ii)]) a∧Hp w0 SR [(b8,.cells t.cells.toArray 64 (0,0)),(sp,.cells [.pointer (some ⟨bs,0,none⟩)].toArray 67 (0,0)),(vb,.cells [.pointer (some ⟨b,0,none⟩)].toArray 23 (0,0)),(ob,.cells [.slice (some ⟨bo,0,none⟩) ts.length ts.length].toArray 69 (0,0)),(bs,.cells [.pointer (some ⟨b,0,none⟩),.slice (some ⟨bk,0,none⟩) ts.length ts.length,.slice none 0 0].toArray 71 (0,0)),(bk,.cells (bools K2).toArray 4 (0,0)),(bo,.cells (bools O1).toArray 4 (0,0)),(b,.cells (V.top ts.length).toArray 41 (0,0)),(V.sb,.cells V.l.toArray 64 (0,0)),(V.fb,.map V.es V.c),(V.nb,.map V.es' V.c')] w) ?_ ?_
    ·refine c_seq (reg_plain w0 (SR) ?_)
     refine r_load_sc hS hH (by repeat' constructor) rfl (by repeat' constructor) Fc.sc67 (by rfl) rfl (x_nilCheck hH.kp0 rfl rfl (x_fieldAddr hH.kp0 rfl Fc.fo71_1 rfl (x_load_sc hH (by repeat' constructor) rfl (by repeat' constructor) Fc.sc69 (by rfl) rfl (x_move hH.kp0 rfl rfl (x_indexAddrS (j:=i) hH.kp0 rfl rfl Fc.slb69 hii (by omega) rfl ?_))))); clear hS; intro a hS
     refine r_load_sc hS hH (by repeat' constructor) rfl (by repeat' constructor) Fc.sc4 (v:=.bool ki) (by rw [nthV_eq,Nat.zero_add,Nat.mul_one]; exact bools_get hki) rfl ?_; clear hS; intro a hS
     refine r_not hS hH.kp0 rfl rfl ?_; clear hS; intro a hS
     rcases ki with _ | _
     ·refine r_move hS hH.kp0 rfl rfl (Sq.xguardYes rfl rfl rfl (x_load_sc hH (by repeat' constructor) rfl (by repeat' constructor) Fc.sc67 (by rfl) rfl (Sq.xguardYes rfl rfl rfl (x_load_row hH (by repeat' constructor) rfl (by repeat' constructor) Fc.ag64 (by rfl) rfl (Sq.xguardYes rfl rfl rfl ?_))))); clear hS; intro a hS
      refine r_call (l:=[.tmp 44,.tmp 45]) hS rfl rfl Fc.fn57 rfl ?_
      refine Calls.mono (reaches_v b bs bk ts.length _ K1 t ia ib ka kb hta htb_ hia hib hka hkb _ (hH.get (b:=bs) (by repeat' constructor)) (hH.get (b:=bk) (by repeat' constructor))) ?_
      rintro e w1 ⟨r,rfl,hr,hE⟩
      replace hH:=hH.ext hE
      refine ⟨_,rfl,hH.kp0,?_⟩
      clear hS; intro a hS
      refine r_pickT hS hH.kp0 rfl rfl rfl rfl ?_; clear hS; intro a hS
      refine Sq.nil (then_n ?_)
      refine c_cond hS rfl (fun hc2 => ?_) (fun hc2 => ?_)
      ·have hreach:=hr.1 hc2
       refine reg_plain w0 (SR) ?_
       refine r_load_sc hS hH (by repeat' constructor) rfl (by repeat' constructor) Fc.sc67 (by rfl) rfl (x_nilCheck hH.kp0 rfl rfl (x_fieldAddr hH.kp0 rfl Fc.fo71_1 rfl (x_load_sc hH (by repeat' constructor) rfl (by repeat' constructor) Fc.sc69 (by rfl) rfl (x_move hH.kp0 rfl rfl (x_indexAddrS (j:=i) hH.kp0 rfl rfl Fc.slb69 hii (by omega) rfl ?_))))); clear hS; intro a hS
       refine r_store1 hS hH rfl rfl rfl (by repeat' constructor) (by repeat' constructor) Fc.sz4 (by rw [bools_len]; omega) (.inl (by rw [hSR]; simp)) ?_; clear hH; intro w hH
       rw [spl_bools (by omega)] at hH
       refine r_assign hS hH.kp0 rfl rfl ?_; clear hS; intro a hS
       refine Sq.nil ?_
       obtain ⟨K2,hK2e⟩ : ∃ z,z = K1.set i true:=⟨_,rfl⟩
       rw [←hK2e] at hH
       obtain ⟨mr2,hmr2⟩ : ∃ z,z = true:=⟨_,rfl⟩
       rw [←hmr2] at hS
       have hP2 : Pass6 ts K0 O K2 O1 tds mr2 (i + 1) i:=by rw [hK2e,hmr2]; exact hP.setK hki ht hreach
       refine then_n ?_
       exact ⟨K2,mr2,hP2,hS.live ⟨rfl,rfl,rfl,rfl,rfl,rfl,rfl,rfl,rfl,rfl,trivial⟩,hH⟩
      ·have hreach : ¬ Rch (KT K1) t:=fun h => by have:=hr.2 h; rw [this] at hc2; cases hc2
       obtain ⟨K2,hK2e⟩ : ∃ z,z = K1:=⟨_,rfl⟩
       obtain ⟨mr2,hmr2⟩ : ∃ z,z = mr:=⟨_,rfl⟩
       rw [←hK2e] at hH
       rw [←hmr2] at hS
       have hP2 : Pass6 ts K0 O K2 O1 tds mr2 (i + 1) i:=by rw [hK2e,hmr2]; exact hP.sameK (.inr (fun u hu => by rw [ht] at hu; cases hu; exact hreach))
       refine wp_skip (then_n ?_)
       exact ⟨K2,mr2,hP2,hS.live ⟨rfl,rfl,rfl,rfl,rfl,rfl,rfl,rfl,rfl,rfl,trivial⟩,hH⟩
     ·refine r_move hS hH.kp0 rfl rfl (Sq.xguardNo rfl rfl rfl hH.kp0 rfl (Sq.xguardNo rfl rfl rfl hH.kp0 rfl (Sq.xguardNo rfl rfl rfl hH.kp0 rfl (x_pickF hH.kp0 rfl rfl rfl rfl ?_)))); clear hS; intro a hS
      refine Sq.nil ?_
      obtain ⟨K2,hK2e⟩ : ∃ z,z = K1:=⟨_,rfl⟩
      obtain ⟨mr2,hmr2⟩ : ∃ z,z = mr:=⟨_,rfl⟩
      rw [←hK2e] at hH
      rw [←hmr2] at hS
      have hP2 : Pass6 ts K0 O K2 O1 tds mr2 (i + 1) i:=by rw [hK2e,hmr2]; exact hP.sameK (.inl hki)
      refine then_n (c_condF hS rfl rfl (wp_skip (then_n ?_)))
      exact ⟨K2,mr2,hP2,hS.live ⟨rfl,rfl,rfl,rfl,rfl,rfl,rfl,rfl,rfl,rfl,trivial⟩,hH⟩
    clear hS hH; intro a w hJ; obtain ⟨K2,mr2,hP2,hS,hH⟩:=hJ
    refine c_seq ?_
    have hK2l:=hP2.len
    obtain ⟨ki2,hki2⟩ : ∃ k,K2[i]? = some k:=⟨_,List.getElem?_eq_getElem (by omega)⟩
    obtain ⟨ka2,hka2⟩ : ∃ k,K2[ia]? = some k:=⟨_,List.getElem?_eq_getElem (by omega)⟩
    have hian : t.a.toNat = ia:=by omega
    refine reg_draw [(true,0,[]),(true,1,[]),(true,2,[]),(true,3,[]),(true,4,[]),(true,5,[]),(true,6,[]),(true,7,[]),(true,8,[]),(true,9,[]),(true,10,[]),(true,11,[]),(true,12,[]),(true,13,[]),(true,14,[]),(true,15,[]),(true,16,[]),(true,17,[]),(true,18,[]),(true,19,[]),(true,20,[]),(true,21,[]),(true,22,[]),(true,23,[]),(true,24,[]),(true,25,[]),(true,26,[]),(true,27,[]),(true,28,[])] Fc.mixed (by kernel_rfl) (by kernel_rfl) (by kernel_rfl) (by kernel_rfl) (by kernel_rfl) (by repeat (first | with_reducible exact steady_body | with_reducible apply steady_block | with_reducible apply steady_then | exact steady_body)) hH ?_
    replace hH:=hH.drew
    refine r_fieldAddr hS trivial rfl Fc.fo64_0 rfl (x_load_scS rfl (by repeat' constructor) Fc.sc3 (by rfl) rfl (x_eql trivial rfl rfl rfl ?_)); clear hS; intro a hS
    rcases hk6 : (t.kind == 6) with _ | _
    ·refine r_move hS trivial rfl rfl (Sq.xguardNo rfl rfl hk6 trivial rfl (Sq.xguardNo rfl rfl hk6 trivial rfl (Sq.xguardNo rfl rfl hk6 trivial rfl (Sq.xguardNo rfl rfl hk6 trivial rfl (Sq.xguardNo rfl rfl hk6 trivial rfl (Sq.xguardNo rfl rfl hk6 trivial rfl (Sq.xguardNo rfl rfl hk6 trivial rfl (x_pickF trivial rfl hk6 rfl rfl (x_move trivial rfl rfl (Sq.xguardNo rfl rfl rfl trivial rfl (Sq.xguardNo rfl rfl rfl trivial rfl (Sq.xguardNo rfl rfl rfl trivial rfl (Sq.xguardNo rfl rfl rfl trivial rfl (Sq.xguardNo rfl rfl rfl trivial rfl (Sq.xguardNo rfl rfl rfl trivial rfl (Sq.xguardNo rfl rfl rfl trivial rfl (Sq.xguardNo rfl rfl rfl trivial rfl (x_pickF trivial rfl rfl rfl rfl (x_move trivial rfl rfl (Sq.xguardNo rfl rfl rfl trivial rfl (Sq.xguardNo rfl rfl rfl trivial rfl (Sq.xguardNo rfl rfl rfl trivial rfl (Sq.xguardNo rfl rfl rfl trivial rfl ?_))))))))))))))))))))))); clear hS; intro a hS
     refine Sq.guardNo hS rfl rfl rfl trivial rfl (x_pickF trivial rfl rfl rfl rfl ?_); clear hS; intro a hS
     refine Sq.nil ?_
     obtain ⟨O3,hO3e⟩ : ∃ z,z = O1:=⟨_,rfl⟩
     obtain ⟨mr3,hmr3⟩ : ∃ z,z = mr2:=⟨_,rfl⟩
     obtain ⟨tds3,htds3⟩ : ∃ z,z = tds:=⟨_,rfl⟩
     rw [←hO3e] at hH
     rw [←hmr3] at hS
     have hP3 : Pass6 ts K0 O K2 O3 tds3 mr3 (i + 1) (i + 1):=by rw [hO3e,hmr3,htds3]; exact hP2.sameO (.inr (fun u hu h => by rw [ht] at hu; cases hu; have h9:=h.1; simp [h9] at hk6))
     have hln3 : tds3.length≤i + 1:=by rw [htds3]; omega
     have htd3:=Todo.nilH (B:=wB.heap.size) (e:=22) (F:=fun x => x = bk∨x = bs∨x = bo) hH
     rw [←htds0] at htd3
     obtain ⟨tdv3,htdv3⟩ : ∃ z : Value,z = .slice none 0 0:=⟨_,rfl⟩
     rw [←htdv3] at hH htd3
     rw [←htds3] at htd3
     refine then_n (c_condF hS rfl rfl (wp_skip (blk_n (then_n (reg_plain w0 (SR) ?_)))))
     refine r_add hS hH.kp0 rfl rfl rfl (by omega) (x_move hH.kp0 rfl rfl ?_); clear hS; intro a hS
     refine Sq.nil (then_n ?_)
     refine ⟨m - 1,by omega,i + 1,_,K2,O3,mr3,tdv3,tds3,by omega,?_,hP3,hln3,htd3,hS.live ⟨rfl,rfl,rfl,rfl,rfl,rfl,rfl,rfl,trivial⟩,(hHI.rebase hH (fun x hx => by rw [hSR] at hx; exact .inl hx)).sub (by repeat' constructor) hHI.nd⟩
     omega
    ·have hk6e : t.kind = 6:=by simpa using hk6
     refine r_move hS trivial rfl rfl (Sq.xguardYes rfl rfl hk6 (x_load_scS rfl (by repeat' constructor) Fc.sc67 (by rfl) rfl (Sq.xguardYes rfl rfl hk6 (x_nilCheck trivial rfl rfl (Sq.xguardYes rfl rfl hk6 (x_fieldAddr trivial rfl Fc.fo71_1 rfl (Sq.xguardYes rfl rfl hk6 (x_load_scS rfl (by repeat' constructor) Fc.sc69 (by rfl) rfl (Sq.xguardYes rfl rfl hk6 (x_move trivial rfl rfl (Sq.xguardYes rfl rfl hk6 (x_indexAddrS (j:=i) trivial rfl rfl Fc.slb69 hii (by omega) rfl (Sq.xguardYes rfl rfl hk6 ?_))))))))))))); clear hS; intro a hS
     refine r_load_scS hS rfl (by repeat' constructor) Fc.sc4 (v:=.bool ki2) (by rw [nthV_eq,Nat.zero_add,Nat.mul_one]; exact bools_get hki2) rfl ?_; clear hS; intro a hS
     refine r_pickT hS trivial rfl hk6 rfl rfl ?_; clear hS; intro a hS
     rcases ki2 with _ | _
     ·refine r_move hS trivial rfl rfl (Sq.xguardNo rfl rfl rfl trivial rfl (Sq.xguardNo rfl rfl rfl trivial rfl (Sq.xguardNo rfl rfl rfl trivial rfl (Sq.xguardNo rfl rfl rfl trivial rfl (Sq.xguardNo rfl rfl rfl trivial rfl (Sq.xguardNo rfl rfl rfl trivial rfl (Sq.xguardNo rfl rfl rfl trivial rfl (Sq.xguardNo rfl rfl rfl trivial rfl (x_pickF trivial rfl rfl rfl rfl (x_move trivial rfl rfl (Sq.xguardNo rfl rfl rfl trivial rfl (Sq.xguardNo rfl rfl rfl trivial rfl (Sq.xguardNo rfl rfl rfl trivial rfl (Sq.xguardNo rfl rfl rfl trivial rfl (Sq.xguardNo rfl rfl rfl trivial rfl (x_pickF trivial rfl rfl rfl rfl ?_)))))))))))))))); clear hS; intro a hS
      refine Sq.nil ?_
      obtain ⟨O3,hO3e⟩ : ∃ z,z = O1:=⟨_,rfl⟩
      obtain ⟨mr3,hmr3⟩ : ∃ z,z = mr2:=⟨_,rfl⟩
      obtain ⟨tds3,htds3⟩ : ∃ z,z = tds:=⟨_,rfl⟩
      rw [←hO3e] at hH
      rw [←hmr3] at hS
      have hP3 : Pass6 ts K0 O K2 O3 tds3 mr3 (i + 1) (i + 1):=by rw [hO3e,hmr3,htds3]; exact hP2.sameO (.inr (fun u hu h => by have h9:=h.2.1; unfold KT at h9; rw [hki2] at h9; cases h9))
      have hln3 : tds3.length≤i + 1:=by rw [htds3]; omega
      have htd3:=Todo.nilH (B:=wB.heap.size) (e:=22) (F:=fun x => x = bk∨x = bs∨x = bo) hH
      rw [←htds0] at htd3
      obtain ⟨tdv3,htdv3⟩ : ∃ z : Value,z = .slice none 0 0:=⟨_,rfl⟩
      rw [←htdv3] at hH htd3
      rw [←htds3] at htd3
      refine then_n (c_condF hS rfl rfl (wp_skip (blk_n (then_n (reg_plain w0 (SR) ?_)))))
      refine r_add hS hH.kp0 rfl rfl rfl (by omega) (x_move hH.kp0 rfl rfl ?_); clear hS; intro a hS
      refine Sq.nil (then_n ?_)
      refine ⟨m - 1,by omega,i + 1,_,K2,O3,mr3,tdv3,tds3,by omega,?_,hP3,hln3,htd3,hS.live ⟨rfl,rfl,rfl,rfl,rfl,rfl,rfl,rfl,trivial⟩,(hHI.rebase hH (fun x hx => by rw [hSR] at hx; exact .inl hx)).sub (by repeat' constructor) hHI.nd⟩
      omega
     ·refine r_move hS trivial rfl rfl (Sq.xguardYes rfl rfl rfl (x_load_scS rfl (by repeat' constructor) Fc.sc67 (by rfl) rfl (Sq.xguardYes rfl rfl rfl (x_nilCheck trivial rfl rfl (Sq.xguardYes rfl rfl rfl (x_fieldAddr trivial rfl Fc.fo71_1 rfl (Sq.xguardYes rfl rfl rfl (x_load_scS rfl (by repeat' constructor) Fc.sc69 (by rfl) rfl (Sq.xguardYes rfl rfl rfl (x_fieldAddr trivial rfl Fc.fo64_1 rfl (Sq.xguardYes rfl rfl rfl (x_load_scS rfl (by repeat' constructor) Fc.sc3 (by rfl) rfl (Sq.xguardYes rfl rfl rfl (x_indexAddrS (j:=ia) trivial rfl rfl Fc.slb69 hta (by omega) rfl (Sq.xguardYes rfl rfl rfl ?_))))))))))))))); clear hS; intro a hS
      refine r_load_scS hS rfl (by repeat' constructor) Fc.sc4 (v:=.bool ka2) (by rw [nthV_eq,Nat.zero_add,Nat.mul_one]; exact bools_get hka2) rfl ?_; clear hS; intro a hS
      refine r_pickT hS trivial rfl rfl rfl rfl ?_; clear hS; intro a hS
      rcases ka2 with _ | _
      ·refine r_move hS trivial rfl rfl (Sq.xguardNo rfl rfl rfl trivial rfl (Sq.xguardNo rfl rfl rfl trivial rfl (Sq.xguardNo rfl rfl rfl trivial rfl (Sq.xguardNo rfl rfl rfl trivial rfl (Sq.xguardNo rfl rfl rfl trivial rfl (x_pickF trivial rfl rfl rfl rfl ?_)))))); clear hS; intro a hS
       refine Sq.nil ?_
       obtain ⟨O3,hO3e⟩ : ∃ z,z = O1:=⟨_,rfl⟩
       obtain ⟨mr3,hmr3⟩ : ∃ z,z = mr2:=⟨_,rfl⟩
       obtain ⟨tds3,htds3⟩ : ∃ z,z = tds:=⟨_,rfl⟩
       rw [←hO3e] at hH
       rw [←hmr3] at hS
       have hP3 : Pass6 ts K0 O K2 O3 tds3 mr3 (i + 1) (i + 1):=by rw [hO3e,hmr3,htds3]; exact hP2.sameO (.inr (fun u hu h => by rw [ht] at hu; cases hu; rw [hian] at h; have h9:=h.2.2; unfold KT at h9; rw [hka2] at h9; cases h9))
       have hln3 : tds3.length≤i + 1:=by rw [htds3]; omega
       have htd3:=Todo.nilH (B:=wB.heap.size) (e:=22) (F:=fun x => x = bk∨x = bs∨x = bo) hH
       rw [←htds0] at htd3
       obtain ⟨tdv3,htdv3⟩ : ∃ z : Value,z = .slice none 0 0:=⟨_,rfl⟩
       rw [←htdv3] at hH htd3
       rw [←htds3] at htd3
       refine then_n (c_condF hS rfl rfl (wp_skip (blk_n (then_n (reg_plain w0 (SR) ?_)))))
       refine r_add hS hH.kp0 rfl rfl rfl (by omega) (x_move hH.kp0 rfl rfl ?_); clear hS; intro a hS
       refine Sq.nil (then_n ?_)
       refine ⟨m - 1,by omega,i + 1,_,K2,O3,mr3,tdv3,tds3,by omega,?_,hP3,hln3,htd3,hS.live ⟨rfl,rfl,rfl,rfl,rfl,rfl,rfl,rfl,trivial⟩,(hHI.rebase hH (fun x hx => by rw [hSR] at hx; exact .inl hx)).sub (by repeat' constructor) hHI.nd⟩
       omega
      ·refine r_move hS trivial rfl rfl (Sq.xguardYes rfl rfl rfl (x_load_scS rfl (by repeat' constructor) Fc.sc69 (by rfl) rfl (Sq.xguardYes rfl rfl rfl (x_move trivial rfl rfl (Sq.xguardYes rfl rfl rfl (x_indexAddrS (j:=i) trivial rfl rfl Fc.slb69 hii (by omega) rfl (Sq.xguardYes rfl rfl rfl ?_))))))); clear hS; intro a hS
       refine r_load_scS hS rfl (by repeat' constructor) Fc.sc4 (v:=.bool oi) (by rw [nthV_eq,Nat.zero_add,Nat.mul_one]; exact bools_get hoi) rfl ?_; clear hS; intro a hS
       rcases oi with _ | _
       ·refine Sq.guardYes hS rfl rfl rfl (r_not hS trivial rfl rfl (x_pickT trivial rfl rfl rfl rfl ?_)); clear hS; intro a hS
        refine Sq.nil (then_n (c_condT hS rfl rfl (c_seq (reg_plain w0 (SR) ?_))))
        refine r_load_sc hS hH (by repeat' constructor) rfl (by repeat' constructor) Fc.sc69 (by rfl) rfl (x_move hH.kp0 rfl rfl (x_indexAddrS (j:=i) hH.kp0 rfl rfl Fc.slb69 hii (by omega) rfl ?_)); clear hS; intro a hS
        refine r_store1 hS hH rfl rfl rfl (by repeat' constructor) (by repeat' constructor) Fc.sz4 (by rw [bools_len]; omega) (.inl (by rw [hSR]; simp)) ?_; clear hH; intro w hH
        rw [spl_bools (by omega)] at hH
        refine r_assign hS hH.kp0 rfl rfl ?_; clear hS; intro a hS
        refine Sq.nil ?_
        obtain ⟨O3,hO3e⟩ : ∃ z,z = O1.set i true:=⟨_,rfl⟩
        obtain ⟨mr3,hmr3⟩ : ∃ z,z = true:=⟨_,rfl⟩
        rw [←hmr3] at hS
        rw [←hO3e] at hH
        have hP3 : Pass6 ts K0 O K2 O3 (tds++[byt t]) mr3 (i + 1) (i + 1):=by rw [hO3e,hmr3]; exact hP2.setO hoi ht hk6e hki2 (by rw [hian]; exact hka2)
        refine then_n ?_
        refine reg_draw [(true,0,[4]),(true,1,[4]),(true,2,[4]),(true,3,[4]),(true,4,[]),(true,5,[4]),(true,6,[4]),(false,7,[]),(false,8,[]),(false,9,[]),(true,10,[4]),(true,11,[4]),(false,12,[4])] Fc.mixed (by kernel_rfl) (by kernel_rfl) (by kernel_rfl) (by kernel_rfl) (by kernel_rfl) (by repeat (first | with_reducible exact steady_body | with_reducible apply steady_block | with_reducible apply steady_then | exact steady_body)) hH ?_
        replace hH:=hH.drew
        refine r_load_scS hS rfl (by repeat' constructor) Fc.sc67 (by rfl) rfl (x_load_scS rfl (by repeat' constructor) Fc.sc67 (by rfl) rfl (x_nilCheck trivial rfl rfl (x_fieldAddr trivial rfl Fc.fo71_2 rfl (x_load_scS rfl (by repeat' constructor) Fc.sc31 (by rfl) rfl (x_fieldAddr trivial rfl Fc.fo64_6 rfl (x_load_scS rfl (by repeat' constructor) Fc.sc9 (by rfl) rfl ?_)))))); clear hS; intro a hS
        refine r_strBytesK hS hH (by repeat' constructor) rfl Fc.und9 Fc.und22 Fc.ui5 rfl ?_
        clear hS hH; intro a w b93 c93 l93 f93 hb93 hbw93 hl93 hc93 hS hH
        refine r_buildSlice (parts:=[(0,.tmp 93)]) hS hH (by repeat' constructor) rfl Fc.bsl31_1 (by rfl) rfl ?_
        clear hS hH; intro a w b94 hb94 hwb94 hS hH
        have h94:=hH.get (b:=b94) (o:=.cells ([Value.slice (some ⟨b93,0,none⟩) (byt t).length c93] : List Value).toArray 22 (0,0)) .here
        have hs94 : Sl 1 w (.slice (some ⟨b94,0,none⟩) 1 1) [Value.slice (some ⟨b93,0,none⟩) (byt t).length c93] 1 (some ⟨b94,0,none⟩) 1:=Sl.of_block (es:=1) (m:=1) (cap:=1) h94 (Nat.le_refl 1) (Nat.le_refl 1)
        refine r_append_nil hS hH (by repeat' constructor) rfl rfl Fc.el31 Fc.ni31 (hs94.src (by intro z hz; rw [List.mem_singleton.1 hz]; rfl)) (by decide) (by decide) rfl ?_
        clear hS hH; intro a w ub ucap ul hub huw hul huc hut huE hS hH
        refine r_nilCheck hS trivial rfl rfl (x_fieldAddr trivial rfl Fc.fo71_2 rfl ?_); clear hS; intro a hS
        refine r_store1 hS hH rfl rfl rfl (by repeat' constructor) (by repeat' constructor) Fc.sz31 (of_decide_eq_true rfl) (.inl (by rw [hSR]; simp)) ?_; clear hH; intro w hH
        refine Sq.nil ?_
        subst htds0
        have hnb : b93≠ub:=hH.ne (x:=b93) (y:=ub) (.cons (by repeat' constructor) (.cons (by repeat' constructor) .nil)) (by intro h; injection h with _ h2 _; revert h2; decide)
        have hub1 : wB.heap.size≤ub∧¬ ((fun x => x = bk∨x = bs∨x = bo) ub):=⟨by omega,by show ¬ (ub = bk∨ub = bs∨ub = bo); omega⟩
        have hbl3 : BL (fun x => (fun x => x = bk∨x = bs∨x = bo) x∨x = ub) w (([] : List Value)++[Value.slice (some ⟨b93,0,none⟩) (byt t).length c93]) ([]++[byt t]):=BL.snoc (.nil) (BsF.of_blk (hH.get (b:=b93) (by repeat' constructor)) (by show ¬ ((b93 = bk∨b93 = bs∨b93 = bo)∨b93 = ub); omega) hl93 hc93)
        have htk3 : ul.take ([]++[byt t]).length = ([] : List Value)++[Value.slice (some ⟨b93,0,none⟩) (byt t).length c93]:=by rw [List.length_append]; have h9:=hut; rw [Nat.mul_one] at h9; exact h9
        have htd3 : Todo wB.heap.size 22 (fun x => x = bk∨x = bs∨x = bo) w (.slice (some ⟨ub,0,none⟩) ([]++[byt t]).length ucap) ([]++[byt t]):=.inr ⟨ub,ucap,ul,rfl,hub1.1,hub1.2,hH.get (b:=ub) (by repeat' constructor),hul,by rw [List.length_append]; exact huc,by rw [htk3]; exact hbl3⟩
        obtain ⟨tdv3,htdv3⟩ : ∃ z : Value,z = .slice (some ⟨ub,0,none⟩) ([]++[byt t]).length ucap:=⟨_,rfl⟩
        obtain ⟨tds3,htds3⟩ : ∃ z,z = []++[byt t]:=⟨_,rfl⟩
        have hln3 : tds3.length≤i + 1:=by rw [htds3]; show 1≤_; omega
        rw [show Value.slice (some ⟨ub,0,none⟩) 1 ucap = tdv3 from htdv3.symm] at hH
        rw [←htdv3,←htds3] at htd3
        rw [←htds3] at hP3
        refine blk_n (then_n (reg_plain w0 (SR) ?_))
        refine r_add hS hH.kp0 rfl rfl rfl (by omega) (x_move hH.kp0 rfl rfl ?_); clear hS; intro a hS
        refine Sq.nil (then_n ?_)
        refine ⟨m - 1,by omega,i + 1,_,K2,O3,mr3,tdv3,tds3,by omega,?_,hP3,hln3,htd3,hS.live ⟨rfl,rfl,rfl,rfl,rfl,rfl,rfl,rfl,trivial⟩,(hHI.rebase hH (fun x hx => by rw [hSR] at hx; exact .inl hx)).sub (by repeat' constructor) hHI.nd⟩
        omega
       ·refine Sq.guardYes hS rfl rfl rfl (r_not hS trivial rfl rfl (x_pickT trivial rfl rfl rfl rfl ?_)); clear hS; intro a hS
        refine Sq.nil ?_
        obtain ⟨O3,hO3e⟩ : ∃ z,z = O1:=⟨_,rfl⟩
        obtain ⟨mr3,hmr3⟩ : ∃ z,z = mr2:=⟨_,rfl⟩
        obtain ⟨tds3,htds3⟩ : ∃ z,z = tds:=⟨_,rfl⟩
        rw [←hO3e] at hH
        rw [←hmr3] at hS
        have hP3 : Pass6 ts K0 O K2 O3 tds3 mr3 (i + 1) (i + 1):=by rw [hO3e,hmr3,htds3]; exact hP2.sameO (.inl hoi)
        have hln3 : tds3.length≤i + 1:=by rw [htds3]; omega
        have htd3:=Todo.nilH (B:=wB.heap.size) (e:=22) (F:=fun x => x = bk∨x = bs∨x = bo) hH
        rw [←htds0] at htd3
        obtain ⟨tdv3,htdv3⟩ : ∃ z : Value,z = .slice none 0 0:=⟨_,rfl⟩
        rw [←htdv3] at hH htd3
        rw [←htds3] at htd3
        refine then_n (c_condF hS rfl rfl (wp_skip (blk_n (then_n (reg_plain w0 (SR) ?_)))))
        refine r_add hS hH.kp0 rfl rfl rfl (by omega) (x_move hH.kp0 rfl rfl ?_); clear hS; intro a hS
        refine Sq.nil (then_n ?_)
        refine ⟨m - 1,by omega,i + 1,_,K2,O3,mr3,tdv3,tds3,by omega,?_,hP3,hln3,htd3,hS.live ⟨rfl,rfl,rfl,rfl,rfl,rfl,rfl,rfl,trivial⟩,(hHI.rebase hH (fun x hx => by rw [hSR] at hx; exact .inl hx)).sub (by repeat' constructor) hHI.nd⟩
        omega
   ·have hge:=of_decide_eq_false hc1
    have hii0 : i = ts.length:=by omega
    subst hii0
    refine wp_exit (then_e (then_e (blk_hit (then_n (c_seq (reg_plain w0 (SR) ?_))))))
    refine r_move hS hH.kp0 rfl rfl (x_assign hH.kp0 rfl rfl ?_); clear hS; intro a hS
    refine Sq.nil (then_n (wp_ret ?_))
    exact leave (.inl rfl) hS rfl (Res.tmp rfl Res.nil) ⟨mr,K1,O1,_,_,rfl,hHI.get (b:=bs) (by repeat' constructor),hHI.get (b:=bk) (by repeat' constructor),hHI.get (b:=bo) (by repeat' constructor),StepR6.of hcn hR hP,htd.slg,hln,hHI.mod⟩
  ·obtain ⟨SR,hSR⟩ : ∃ S : Nat→Prop,S = fun x => (fun x => x = bk∨x = bs∨x = bo) x∨x = tb:=⟨_,rfl⟩
   have hH : Hp w0 SR [(sp,.cells [.pointer (some ⟨bs,0,none⟩)].toArray 67 (0,0)),(vb,.cells [.pointer (some ⟨b,0,none⟩)].toArray 23 (0,0)),(ob,.cells [.slice (some ⟨bo,0,none⟩) ts.length ts.length].toArray 69 (0,0)),(bs,.cells [.pointer (some ⟨b,0,none⟩),.slice (some ⟨bk,0,none⟩) ts.length ts.length,.slice (some ⟨tb,0,none⟩) tds.length tcap].toArray 71 (0,0)),(bk,.cells (bools K1).toArray 4 (0,0)),(bo,.cells (bools O1).toArray 4 (0,0)),(b,.cells (V.top ts.length).toArray 41 (0,0)),(V.sb,.cells V.l.toArray 64 (0,0)),(V.fb,.map V.es V.c),(V.nb,.map V.es' V.c')] w0:=hHI.fresh
   have hlt9:=lt_of_block htb3
   replace hH:=hH.know htb3 (by intro p hp e; have h9:=hkeys p.1 (by simpa using List.mem_map_of_mem (f:=Prod.fst) hp); omega)
   refine c_seq (reg_plain w0 (SR) ?_)
   refine r_lss hS hH.kp0 rfl rfl rfl ?_; clear hS; intro a hS
   refine Sq.nil (then_n (c_seq ?_))
   refine c_cond hS rfl (fun hc1 => ?_) (fun hc1 => ?_)
   ·have hlt:=of_decide_eq_true hc1
    obtain ⟨t,ht⟩ : ∃ t,ts[i]? = some t:=⟨_,List.getElem?_eq_getElem (by omega)⟩
    have hrow:=hvi.ok.row ht
    obtain ⟨hwa1,hwa2⟩:=hwf.a i t ht
    obtain ⟨hwb1,hwb2⟩:=hwf.b i t ht
    obtain ⟨ia,hta⟩:=Int.eq_ofNat_of_zero_le hwa1
    obtain ⟨ib,htb_⟩:=Int.eq_ofNat_of_zero_le hwb1
    have hia : ia < ts.length:=by omega
    have hib : ib < ts.length:=by omega
    obtain ⟨ka,hka⟩ : ∃ k,K1[ia]? = some k:=⟨_,List.getElem?_eq_getElem (by omega)⟩
    obtain ⟨kb,hkb⟩ : ∃ k,K1[ib]? = some k:=⟨_,List.getElem?_eq_getElem (by omega)⟩
    obtain ⟨ki,hki⟩ : ∃ k,K1[i]? = some k:=⟨_,List.getElem?_eq_getElem (by omega)⟩
    obtain ⟨oi,hoi⟩ : ∃ k,O1[i]? = some k:=⟨_,List.getElem?_eq_getElem (by omega)⟩
    refine wp_skip (then_n (c_seq (wp_block (c_seq (reg_plain w0 (SR) ?_)))))
    refine r_move hS hH.kp0 rfl rfl (x_indexAddrS (j:=i) hH.kp0 rfl rfl Fc.slb37 hii (by omega) rfl ?_); clear hS; intro a hS
    refine r_load_at (vs:=t.cells) hS hH (by repeat' constructor) rfl (by repeat' constructor) Fc.ag64 (by rw [Nat.zero_add]; exact hrow.2) (by rw [Nat.zero_add]; exact hrow.1) rfl ?_; clear hS; intro a hS
    refine r_alloc hS hH (by repeat' constructor) Fc.zc64 rfl ?_
    clear hS hH; intro a w b8 hb8 hwb8 hS hH
    refine r_assign hS hH.kp0 rfl rfl ?_; clear hS; intro a hS
    refine r_store_row hS hH rfl rfl (by repeat' constructor) (by repeat' constructor) Fc.sz64 (one_cells t) (by rfl) (.inr (by assumption)) ?_; clear hH; intro w hH
    refine Sq.nil (then_n ?_)
    refine c_cut (fun a w => ∃ (K2 : List Bool) (mr2 : Bool),Pass6 ts K0 O K2 O1 tds mr2 (i + 1) i∧St 100 (lv [(0,.pointer (some ⟨sp,0,none⟩)),(1,.pointer (some ⟨vb,0,none⟩)),(2,.pointer (some ⟨ob,0,none⟩)),(3,.bool false),(6,.bool mr2),(7,.int .i64 ii),(8,.pointer (some ⟨b8,0,none⟩)),(28,.slice (some ⟨V.sb,0,none⟩) ts.length V.cap),(29,.int .i64 (ts.length : Int)),(30,.int .i64 ii)]) a∧Hp w0 SR [(b8,.cells t.cells.toArray 64 (0,0)),(tb,.cells tl.toArray 22 (0,0)),(sp,.cells [.pointer (some ⟨bs,0,none⟩)].toArray 67 (0,0)),(vb,.cells [.pointer (some ⟨b,0,none⟩)].toArray 23 (0,0)),(ob,.cells [.slice (some ⟨bo,0,none⟩) ts.length ts.length].toArray 69 (0,0)),(bs,.cells [.pointer (some ⟨b,0,none⟩),.slice (some ⟨bk,0,none⟩) ts.length ts.length,.slice (some ⟨tb,0,none⟩) tds.length tcap].toArray 71 (0,0)),(bk,.cells (bools K2).toArray 4 (0,0)),(bo,.cells (bools O1).toArray 4 (0,0)),(b,.cells (V.top ts.length).toArray 41 (0,0)),(V.sb,.cells V.l.toArray 64 (0,0)),(V.fb,.map V.es V.c),(V.nb,.map V.es' V.c')] w) ?_ ?_
    ·refine c_seq (reg_plain w0 (SR) ?_)
     refine r_load_sc hS hH (by repeat' constructor) rfl (by repeat' constructor) Fc.sc67 (by rfl) rfl (x_nilCheck hH.kp0 rfl rfl (x_fieldAddr hH.kp0 rfl Fc.fo71_1 rfl (x_load_sc hH (by repeat' constructor) rfl (by repeat' constructor) Fc.sc69 (by rfl) rfl (x_move hH.kp0 rfl rfl (x_indexAddrS (j:=i) hH.kp0 rfl rfl Fc.slb69 hii (by omega) rfl ?_))))); clear hS; intro a hS
     refine r_load_sc hS hH (by repeat' constructor) rfl (by repeat' constructor) Fc.sc4 (v:=.bool ki) (by rw [nthV_eq,Nat.zero_add,Nat.mul_one]; exact bools_get hki) rfl ?_; clear hS; intro a hS
     refine r_not hS hH.kp0 rfl rfl ?_; clear hS; intro a hS
     rcases ki with _ | _
     ·refine r_move hS hH.kp0 rfl rfl (Sq.xguardYes rfl rfl rfl (x_load_sc hH (by repeat' constructor) rfl (by repeat' constructor) Fc.sc67 (by rfl) rfl (Sq.xguardYes rfl rfl rfl (x_load_row hH (by repeat' constructor) rfl (by repeat' constructor) Fc.ag64 (by rfl) rfl (Sq.xguardYes rfl rfl rfl ?_))))); clear hS; intro a hS
      refine r_call (l:=[.tmp 44,.tmp 45]) hS rfl rfl Fc.fn57 rfl ?_
      refine Calls.mono (reaches_v b bs bk ts.length _ K1 t ia ib ka kb hta htb_ hia hib hka hkb _ (hH.get (b:=bs) (by repeat' constructor)) (hH.get (b:=bk) (by repeat' constructor))) ?_
      rintro e w1 ⟨r,rfl,hr,hE⟩
      replace hH:=hH.ext hE
      refine ⟨_,rfl,hH.kp0,?_⟩
      clear hS; intro a hS
      refine r_pickT hS hH.kp0 rfl rfl rfl rfl ?_; clear hS; intro a hS
      refine Sq.nil (then_n ?_)
      refine c_cond hS rfl (fun hc2 => ?_) (fun hc2 => ?_)
      ·have hreach:=hr.1 hc2
       refine reg_plain w0 (SR) ?_
       refine r_load_sc hS hH (by repeat' constructor) rfl (by repeat' constructor) Fc.sc67 (by rfl) rfl (x_nilCheck hH.kp0 rfl rfl (x_fieldAddr hH.kp0 rfl Fc.fo71_1 rfl (x_load_sc hH (by repeat' constructor) rfl (by repeat' constructor) Fc.sc69 (by rfl) rfl (x_move hH.kp0 rfl rfl (x_indexAddrS (j:=i) hH.kp0 rfl rfl Fc.slb69 hii (by omega) rfl ?_))))); clear hS; intro a hS
       refine r_store1 hS hH rfl rfl rfl (by repeat' constructor) (by repeat' constructor) Fc.sz4 (by rw [bools_len]; omega) (.inl (by rw [hSR]; simp)) ?_; clear hH; intro w hH
       rw [spl_bools (by omega)] at hH
       refine r_assign hS hH.kp0 rfl rfl ?_; clear hS; intro a hS
       refine Sq.nil ?_
       obtain ⟨K2,hK2e⟩ : ∃ z,z = K1.set i true:=⟨_,rfl⟩
       rw [←hK2e] at hH
       obtain ⟨mr2,hmr2⟩ : ∃ z,z = true:=⟨_,rfl⟩
       rw [←hmr2] at hS
       have hP2 : Pass6 ts K0 O K2 O1 tds mr2 (i + 1) i:=by rw [hK2e,hmr2]; exact hP.setK hki ht hreach
       refine then_n ?_
       exact ⟨K2,mr2,hP2,hS.live ⟨rfl,rfl,rfl,rfl,rfl,rfl,rfl,rfl,rfl,rfl,trivial⟩,hH⟩
      ·have hreach : ¬ Rch (KT K1) t:=fun h => by have:=hr.2 h; rw [this] at hc2; cases hc2
       obtain ⟨K2,hK2e⟩ : ∃ z,z = K1:=⟨_,rfl⟩
       obtain ⟨mr2,hmr2⟩ : ∃ z,z = mr:=⟨_,rfl⟩
       rw [←hK2e] at hH
       rw [←hmr2] at hS
       have hP2 : Pass6 ts K0 O K2 O1 tds mr2 (i + 1) i:=by rw [hK2e,hmr2]; exact hP.sameK (.inr (fun u hu => by rw [ht] at hu; cases hu; exact hreach))
       refine wp_skip (then_n ?_)
       exact ⟨K2,mr2,hP2,hS.live ⟨rfl,rfl,rfl,rfl,rfl,rfl,rfl,rfl,rfl,rfl,trivial⟩,hH⟩
     ·refine r_move hS hH.kp0 rfl rfl (Sq.xguardNo rfl rfl rfl hH.kp0 rfl (Sq.xguardNo rfl rfl rfl hH.kp0 rfl (Sq.xguardNo rfl rfl rfl hH.kp0 rfl (x_pickF hH.kp0 rfl rfl rfl rfl ?_)))); clear hS; intro a hS
      refine Sq.nil ?_
      obtain ⟨K2,hK2e⟩ : ∃ z,z = K1:=⟨_,rfl⟩
      obtain ⟨mr2,hmr2⟩ : ∃ z,z = mr:=⟨_,rfl⟩
      rw [←hK2e] at hH
      rw [←hmr2] at hS
      have hP2 : Pass6 ts K0 O K2 O1 tds mr2 (i + 1) i:=by rw [hK2e,hmr2]; exact hP.sameK (.inl hki)
      refine then_n (c_condF hS rfl rfl (wp_skip (then_n ?_)))
      exact ⟨K2,mr2,hP2,hS.live ⟨rfl,rfl,rfl,rfl,rfl,rfl,rfl,rfl,rfl,rfl,trivial⟩,hH⟩
    clear hS hH; intro a w hJ; obtain ⟨K2,mr2,hP2,hS,hH⟩:=hJ
    refine c_seq ?_
    have hK2l:=hP2.len
    obtain ⟨ki2,hki2⟩ : ∃ k,K2[i]? = some k:=⟨_,List.getElem?_eq_getElem (by omega)⟩
    obtain ⟨ka2,hka2⟩ : ∃ k,K2[ia]? = some k:=⟨_,List.getElem?_eq_getElem (by omega)⟩
    have hian : t.a.toNat = ia:=by omega
    refine reg_draw [(true,0,[]),(true,1,[]),(true,2,[]),(true,3,[]),(true,4,[]),(true,5,[]),(true,6,[]),(true,7,[]),(true,8,[]),(true,9,[]),(true,10,[]),(true,11,[]),(true,12,[]),(true,13,[]),(true,14,[]),(true,15,[]),(true,16,[]),(true,17,[]),(true,18,[]),(true,19,[]),(true,20,[]),(true,21,[]),(true,22,[]),(true,23,[]),(true,24,[]),(true,25,[]),(true,26,[]),(true,27,[]),(true,28,[])] Fc.mixed (by kernel_rfl) (by kernel_rfl) (by kernel_rfl) (by kernel_rfl) (by kernel_rfl) (by repeat (first | with_reducible exact steady_body | with_reducible apply steady_block | with_reducible apply steady_then | exact steady_body)) hH ?_
    replace hH:=hH.drew
    refine r_fieldAddr hS trivial rfl Fc.fo64_0 rfl (x_load_scS rfl (by repeat' constructor) Fc.sc3 (by rfl) rfl (x_eql trivial rfl rfl rfl ?_)); clear hS; intro a hS
    rcases hk6 : (t.kind == 6) with _ | _
    ·refine r_move hS trivial rfl rfl (Sq.xguardNo rfl rfl hk6 trivial rfl (Sq.xguardNo rfl rfl hk6 trivial rfl (Sq.xguardNo rfl rfl hk6 trivial rfl (Sq.xguardNo rfl rfl hk6 trivial rfl (Sq.xguardNo rfl rfl hk6 trivial rfl (Sq.xguardNo rfl rfl hk6 trivial rfl (Sq.xguardNo rfl rfl hk6 trivial rfl (x_pickF trivial rfl hk6 rfl rfl (x_move trivial rfl rfl (Sq.xguardNo rfl rfl rfl trivial rfl (Sq.xguardNo rfl rfl rfl trivial rfl (Sq.xguardNo rfl rfl rfl trivial rfl (Sq.xguardNo rfl rfl rfl trivial rfl (Sq.xguardNo rfl rfl rfl trivial rfl (Sq.xguardNo rfl rfl rfl trivial rfl (Sq.xguardNo rfl rfl rfl trivial rfl (Sq.xguardNo rfl rfl rfl trivial rfl (x_pickF trivial rfl rfl rfl rfl (x_move trivial rfl rfl (Sq.xguardNo rfl rfl rfl trivial rfl (Sq.xguardNo rfl rfl rfl trivial rfl (Sq.xguardNo rfl rfl rfl trivial rfl (Sq.xguardNo rfl rfl rfl trivial rfl ?_))))))))))))))))))))))); clear hS; intro a hS
     refine Sq.guardNo hS rfl rfl rfl trivial rfl (x_pickF trivial rfl rfl rfl rfl ?_); clear hS; intro a hS
     refine Sq.nil ?_
     obtain ⟨O3,hO3e⟩ : ∃ z,z = O1:=⟨_,rfl⟩
     obtain ⟨mr3,hmr3⟩ : ∃ z,z = mr2:=⟨_,rfl⟩
     obtain ⟨tds3,htds3⟩ : ∃ z,z = tds:=⟨_,rfl⟩
     rw [←hO3e] at hH
     rw [←hmr3] at hS
     have hP3 : Pass6 ts K0 O K2 O3 tds3 mr3 (i + 1) (i + 1):=by rw [hO3e,hmr3,htds3]; exact hP2.sameO (.inr (fun u hu h => by rw [ht] at hu; cases hu; have h9:=h.1; simp [h9] at hk6))
     have hln3 : tds3.length≤i + 1:=by rw [htds3]; omega
     have htd3:=Todo.blkH (F:=fun x => x = bk∨x = bs∨x = bo) hH (by repeat' constructor) htb1 htb2 htl1 htl2 hSR htbl
     obtain ⟨tdv3,htdv3⟩ : ∃ z : Value,z = .slice (some ⟨tb,0,none⟩) tds.length tcap:=⟨_,rfl⟩
     rw [←htdv3] at hH htd3
     rw [←htds3] at htd3
     refine then_n (c_condF hS rfl rfl (wp_skip (blk_n (then_n (reg_plain w0 (SR) ?_)))))
     refine r_add hS hH.kp0 rfl rfl rfl (by omega) (x_move hH.kp0 rfl rfl ?_); clear hS; intro a hS
     refine Sq.nil (then_n ?_)
     refine ⟨m - 1,by omega,i + 1,_,K2,O3,mr3,tdv3,tds3,by omega,?_,hP3,hln3,htd3,hS.live ⟨rfl,rfl,rfl,rfl,rfl,rfl,rfl,rfl,trivial⟩,(hHI.rebase hH (fun x hx => by rw [hSR] at hx; rcases hx with hx | hx; exact .inl hx; exact .inr (by rw [hx]; exact htb1))).sub (by repeat' constructor) hHI.nd⟩
     omega
    ·have hk6e : t.kind = 6:=by simpa using hk6
     refine r_move hS trivial rfl rfl (Sq.xguardYes rfl rfl hk6 (x_load_scS rfl (by repeat' constructor) Fc.sc67 (by rfl) rfl (Sq.xguardYes rfl rfl hk6 (x_nilCheck trivial rfl rfl (Sq.xguardYes rfl rfl hk6 (x_fieldAddr trivial rfl Fc.fo71_1 rfl (Sq.xguardYes rfl rfl hk6 (x_load_scS rfl (by repeat' constructor) Fc.sc69 (by rfl) rfl (Sq.xguardYes rfl rfl hk6 (x_move trivial rfl rfl (Sq.xguardYes rfl rfl hk6 (x_indexAddrS (j:=i) trivial rfl rfl Fc.slb69 hii (by omega) rfl (Sq.xguardYes rfl rfl hk6 ?_))))))))))))); clear hS; intro a hS
     refine r_load_scS hS rfl (by repeat' constructor) Fc.sc4 (v:=.bool ki2) (by rw [nthV_eq,Nat.zero_add,Nat.mul_one]; exact bools_get hki2) rfl ?_; clear hS; intro a hS
     refine r_pickT hS trivial rfl hk6 rfl rfl ?_; clear hS; intro a hS
     rcases ki2 with _ | _
     ·refine r_move hS trivial rfl rfl (Sq.xguardNo rfl rfl rfl trivial rfl (Sq.xguardNo rfl rfl rfl trivial rfl (Sq.xguardNo rfl rfl rfl trivial rfl (Sq.xguardNo rfl rfl rfl trivial rfl (Sq.xguardNo rfl rfl rfl trivial rfl (Sq.xguardNo rfl rfl rfl trivial rfl (Sq.xguardNo rfl rfl rfl trivial rfl (Sq.xguardNo rfl rfl rfl trivial rfl (x_pickF trivial rfl rfl rfl rfl (x_move trivial rfl rfl (Sq.xguardNo rfl rfl rfl trivial rfl (Sq.xguardNo rfl rfl rfl trivial rfl (Sq.xguardNo rfl rfl rfl trivial rfl (Sq.xguardNo rfl rfl rfl trivial rfl (Sq.xguardNo rfl rfl rfl trivial rfl (x_pickF trivial rfl rfl rfl rfl ?_)))))))))))))))); clear hS; intro a hS
      refine Sq.nil ?_
      obtain ⟨O3,hO3e⟩ : ∃ z,z = O1:=⟨_,rfl⟩
      obtain ⟨mr3,hmr3⟩ : ∃ z,z = mr2:=⟨_,rfl⟩
      obtain ⟨tds3,htds3⟩ : ∃ z,z = tds:=⟨_,rfl⟩
      rw [←hO3e] at hH
      rw [←hmr3] at hS
      have hP3 : Pass6 ts K0 O K2 O3 tds3 mr3 (i + 1) (i + 1):=by rw [hO3e,hmr3,htds3]; exact hP2.sameO (.inr (fun u hu h => by have h9:=h.2.1; unfold KT at h9; rw [hki2] at h9; cases h9))
      have hln3 : tds3.length≤i + 1:=by rw [htds3]; omega
      have htd3:=Todo.blkH (F:=fun x => x = bk∨x = bs∨x = bo) hH (by repeat' constructor) htb1 htb2 htl1 htl2 hSR htbl
      obtain ⟨tdv3,htdv3⟩ : ∃ z : Value,z = .slice (some ⟨tb,0,none⟩) tds.length tcap:=⟨_,rfl⟩
      rw [←htdv3] at hH htd3
      rw [←htds3] at htd3
      refine then_n (c_condF hS rfl rfl (wp_skip (blk_n (then_n (reg_plain w0 (SR) ?_)))))
      refine r_add hS hH.kp0 rfl rfl rfl (by omega) (x_move hH.kp0 rfl rfl ?_); clear hS; intro a hS
      refine Sq.nil (then_n ?_)
      refine ⟨m - 1,by omega,i + 1,_,K2,O3,mr3,tdv3,tds3,by omega,?_,hP3,hln3,htd3,hS.live ⟨rfl,rfl,rfl,rfl,rfl,rfl,rfl,rfl,trivial⟩,(hHI.rebase hH (fun x hx => by rw [hSR] at hx; rcases hx with hx | hx; exact .inl hx; exact .inr (by rw [hx]; exact htb1))).sub (by repeat' constructor) hHI.nd⟩
      omega
     ·refine r_move hS trivial rfl rfl (Sq.xguardYes rfl rfl rfl (x_load_scS rfl (by repeat' constructor) Fc.sc67 (by rfl) rfl (Sq.xguardYes rfl rfl rfl (x_nilCheck trivial rfl rfl (Sq.xguardYes rfl rfl rfl (x_fieldAddr trivial rfl Fc.fo71_1 rfl (Sq.xguardYes rfl rfl rfl (x_load_scS rfl (by repeat' constructor) Fc.sc69 (by rfl) rfl (Sq.xguardYes rfl rfl rfl (x_fieldAddr trivial rfl Fc.fo64_1 rfl (Sq.xguardYes rfl rfl rfl (x_load_scS rfl (by repeat' constructor) Fc.sc3 (by rfl) rfl (Sq.xguardYes rfl rfl rfl (x_indexAddrS (j:=ia) trivial rfl rfl Fc.slb69 hta (by omega) rfl (Sq.xguardYes rfl rfl rfl ?_))))))))))))))); clear hS; intro a hS
      refine r_load_scS hS rfl (by repeat' constructor) Fc.sc4 (v:=.bool ka2) (by rw [nthV_eq,Nat.zero_add,Nat.mul_one]; exact bools_get hka2) rfl ?_; clear hS; intro a hS
      refine r_pickT hS trivial rfl rfl rfl rfl ?_; clear hS; intro a hS
      rcases ka2 with _ | _
      ·refine r_move hS trivial rfl rfl (Sq.xguardNo rfl rfl rfl trivial rfl (Sq.xguardNo rfl rfl rfl trivial rfl (Sq.xguardNo rfl rfl rfl trivial rfl (Sq.xguardNo rfl rfl rfl trivial rfl (Sq.xguardNo rfl rfl rfl trivial rfl (x_pickF trivial rfl rfl rfl rfl ?_)))))); clear hS; intro a hS
       refine Sq.nil ?_
       obtain ⟨O3,hO3e⟩ : ∃ z,z = O1:=⟨_,rfl⟩
       obtain ⟨mr3,hmr3⟩ : ∃ z,z = mr2:=⟨_,rfl⟩
       obtain ⟨tds3,htds3⟩ : ∃ z,z = tds:=⟨_,rfl⟩
       rw [←hO3e] at hH
       rw [←hmr3] at hS
       have hP3 : Pass6 ts K0 O K2 O3 tds3 mr3 (i + 1) (i + 1):=by rw [hO3e,hmr3,htds3]; exact hP2.sameO (.inr (fun u hu h => by rw [ht] at hu; cases hu; rw [hian] at h; have h9:=h.2.2; unfold KT at h9; rw [hka2] at h9; cases h9))
       have hln3 : tds3.length≤i + 1:=by rw [htds3]; omega
       have htd3:=Todo.blkH (F:=fun x => x = bk∨x = bs∨x = bo) hH (by repeat' constructor) htb1 htb2 htl1 htl2 hSR htbl
       obtain ⟨tdv3,htdv3⟩ : ∃ z : Value,z = .slice (some ⟨tb,0,none⟩) tds.length tcap:=⟨_,rfl⟩
       rw [←htdv3] at hH htd3
       rw [←htds3] at htd3
       refine then_n (c_condF hS rfl rfl (wp_skip (blk_n (then_n (reg_plain w0 (SR) ?_)))))
       refine r_add hS hH.kp0 rfl rfl rfl (by omega) (x_move hH.kp0 rfl rfl ?_); clear hS; intro a hS
       refine Sq.nil (then_n ?_)
       refine ⟨m - 1,by omega,i + 1,_,K2,O3,mr3,tdv3,tds3,by omega,?_,hP3,hln3,htd3,hS.live ⟨rfl,rfl,rfl,rfl,rfl,rfl,rfl,rfl,trivial⟩,(hHI.rebase hH (fun x hx => by rw [hSR] at hx; rcases hx with hx | hx; exact .inl hx; exact .inr (by rw [hx]; exact htb1))).sub (by repeat' constructor) hHI.nd⟩
       omega
      ·refine r_move hS trivial rfl rfl (Sq.xguardYes rfl rfl rfl (x_load_scS rfl (by repeat' constructor) Fc.sc69 (by rfl) rfl (Sq.xguardYes rfl rfl rfl (x_move trivial rfl rfl (Sq.xguardYes rfl rfl rfl (x_indexAddrS (j:=i) trivial rfl rfl Fc.slb69 hii (by omega) rfl (Sq.xguardYes rfl rfl rfl ?_))))))); clear hS; intro a hS
       refine r_load_scS hS rfl (by repeat' constructor) Fc.sc4 (v:=.bool oi) (by rw [nthV_eq,Nat.zero_add,Nat.mul_one]; exact bools_get hoi) rfl ?_; clear hS; intro a hS
       rcases oi with _ | _
       ·refine Sq.guardYes hS rfl rfl rfl (r_not hS trivial rfl rfl (x_pickT trivial rfl rfl rfl rfl ?_)); clear hS; intro a hS
        refine Sq.nil (then_n (c_condT hS rfl rfl (c_seq (reg_plain w0 (SR) ?_))))
        refine r_load_sc hS hH (by repeat' constructor) rfl (by repeat' constructor) Fc.sc69 (by rfl) rfl (x_move hH.kp0 rfl rfl (x_indexAddrS (j:=i) hH.kp0 rfl rfl Fc.slb69 hii (by omega) rfl ?_)); clear hS; intro a hS
        refine r_store1 hS hH rfl rfl rfl (by repeat' constructor) (by repeat' constructor) Fc.sz4 (by rw [bools_len]; omega) (.inl (by rw [hSR]; simp)) ?_; clear hH; intro w hH
        rw [spl_bools (by omega)] at hH
        refine r_assign hS hH.kp0 rfl rfl ?_; clear hS; intro a hS
        refine Sq.nil ?_
        obtain ⟨O3,hO3e⟩ : ∃ z,z = O1.set i true:=⟨_,rfl⟩
        obtain ⟨mr3,hmr3⟩ : ∃ z,z = true:=⟨_,rfl⟩
        rw [←hmr3] at hS
        rw [←hO3e] at hH
        have hP3 : Pass6 ts K0 O K2 O3 (tds++[byt t]) mr3 (i + 1) (i + 1):=by rw [hO3e,hmr3]; exact hP2.setO hoi ht hk6e hki2 (by rw [hian]; exact hka2)
        refine then_n ?_
        refine reg_draw [(true,0,[1,5]),(true,1,[1,5]),(true,2,[1,5]),(true,3,[1,5]),(true,4,[1]),(true,5,[1,5]),(true,6,[1,5]),(false,7,[]),(false,8,[]),(false,9,[1]),(true,10,[1,5]),(true,11,[1,5]),(false,12,[1,5])] Fc.mixed (by kernel_rfl) (by kernel_rfl) (by kernel_rfl) (by kernel_rfl) (by kernel_rfl) (by repeat (first | with_reducible exact steady_body | with_reducible apply steady_block | with_reducible apply steady_then | exact steady_body)) hH ?_
        replace hH:=hH.drew
        refine r_load_scS hS rfl (by repeat' constructor) Fc.sc67 (by rfl) rfl (x_load_scS rfl (by repeat' constructor) Fc.sc67 (by rfl) rfl (x_nilCheck trivial rfl rfl (x_fieldAddr trivial rfl Fc.fo71_2 rfl (x_load_scS rfl (by repeat' constructor) Fc.sc31 (by rfl) rfl (x_fieldAddr trivial rfl Fc.fo64_6 rfl (x_load_scS rfl (by repeat' constructor) Fc.sc9 (by rfl) rfl ?_)))))); clear hS; intro a hS
        refine r_strBytesK hS hH (by repeat' constructor) rfl Fc.und9 Fc.und22 Fc.ui5 rfl ?_
        clear hS hH; intro a w b93 c93 l93 f93 hb93 hbw93 hl93 hc93 hS hH
        refine r_buildSlice (parts:=[(0,.tmp 93)]) hS hH (by repeat' constructor) rfl Fc.bsl31_1 (by rfl) rfl ?_
        clear hS hH; intro a w b94 hb94 hwb94 hS hH
        have h94:=hH.get (b:=b94) (o:=.cells ([Value.slice (some ⟨b93,0,none⟩) (byt t).length c93] : List Value).toArray 22 (0,0)) .here
        have hs94 : Sl 1 w (.slice (some ⟨b94,0,none⟩) 1 1) [Value.slice (some ⟨b93,0,none⟩) (byt t).length c93] 1 (some ⟨b94,0,none⟩) 1:=Sl.of_block (es:=1) (m:=1) (cap:=1) h94 (Nat.le_refl 1) (Nat.le_refl 1)
        refine r_append_own hS hH rfl rfl (by repeat' constructor) (by repeat' constructor) Fc.el31 Fc.ni31 htl1 htl2 (hs94.src (by intro z hz; rw [List.mem_singleton.1 hz]; rfl)) (by omega) (.inl (by rw [hSR]; simp)) rfl ?_
        clear hS hH; intro a w ub ucap ul hub hul huc hut hum hS hH
        refine r_nilCheck hS trivial rfl rfl (x_fieldAddr trivial rfl Fc.fo71_2 rfl ?_); clear hS; intro a hS
        refine r_store1 hS hH rfl rfl rfl (by repeat' constructor) (by repeat' constructor) Fc.sz31 (of_decide_eq_true rfl) (.inl (by rw [hSR]; simp)) ?_; clear hH; intro w hH
        refine Sq.nil ?_
        have hnb : b93≠ub:=hH.ne (x:=b93) (y:=ub) (.cons (by repeat' constructor) (.cons (by repeat' constructor) .nil)) (by intro h; injection h with _ h2 _; revert h2; decide)
        have hu1 : ub≠bk:=hH.ne (x:=ub) (y:=bk) (.cons (by repeat' constructor) (.cons (by repeat' constructor) .nil)) (by intro h; injection h with _ h2 _; revert h2; decide)
        have hu2 : ub≠bs:=hH.ne (x:=ub) (y:=bs) (.cons (by repeat' constructor) (.cons (by repeat' constructor) .nil)) (by intro h; injection h with _ h2 _; revert h2; decide)
        have hu3 : ub≠bo:=hH.ne (x:=ub) (y:=bo) (.cons (by repeat' constructor) (.cons (by repeat' constructor) .nil)) (by intro h; injection h with _ h2 _; revert h2; decide)
        have hub1 : wB.heap.size≤ub∧¬ ((fun x => x = bk∨x = bs∨x = bo) ub):=by
         rcases hub with h | h
         ·rw [hSR] at h
          rcases h with h | h
          ·rcases h with h | h | h; exact absurd h hu1; exact absurd h hu2; exact absurd h hu3
          ·subst h; exact ⟨htb1,htb2⟩
         ·exact ⟨by omega,by show ¬ (ub = bk∨ub = bs∨ub = bo); omega⟩
        have hbl3 : BL (fun x => (fun x => x = bk∨x = bs∨x = bo) x∨x = ub) w (tl.take tds.length++[Value.slice (some ⟨b93,0,none⟩) (byt t).length c93]) (tds++[byt t]):=BL.snoc (htbl.go (hSR ▸ hH.mod) (fun x hx => by rcases hx with hx | hx; exact .inl (.inl hx); rcases hub with h | h; (rw [hSR] at h; rcases h with h | h; exact absurd h hub1.2; exact .inl (.inr (hx.trans h))); exact .inr (by rw [hx]; exact h))) (BsF.of_blk (hH.get (b:=b93) (by repeat' constructor)) (by show ¬ ((b93 = bk∨b93 = bs∨b93 = bo)∨b93 = ub); omega) hl93 hc93)
        have htk3 : ul.take (tds++[byt t]).length = tl.take tds.length++[Value.slice (some ⟨b93,0,none⟩) (byt t).length c93]:=by rw [List.length_append]; have h9:=hut; rw [Nat.mul_one,Nat.mul_one] at h9; exact h9
        have htd3 : Todo wB.heap.size 22 (fun x => x = bk∨x = bs∨x = bo) w (.slice (some ⟨ub,0,none⟩) (tds++[byt t]).length ucap) (tds++[byt t]):=.inr ⟨ub,ucap,ul,rfl,hub1.1,hub1.2,hH.get (b:=ub) (by repeat' constructor),hul,by rw [List.length_append]; exact huc,by rw [htk3]; exact hbl3⟩
        obtain ⟨tdv3,htdv3⟩ : ∃ z : Value,z = .slice (some ⟨ub,0,none⟩) (tds++[byt t]).length ucap:=⟨_,rfl⟩
        obtain ⟨tds3,htds3⟩ : ∃ z,z = tds++[byt t]:=⟨_,rfl⟩
        have hln3 : tds3.length≤i + 1:=by rw [htds3,List.length_append]; show _ + 1≤_; omega
        rw [show (tds.length + 1 : Nat) = (tds++[byt t]).length from by rw [List.length_append]; rfl,←htdv3] at hH
        rw [←htdv3,←htds3] at htd3
        rw [←htds3] at hP3
        refine blk_n (then_n (reg_plain w0 (SR) ?_))
        refine r_add hS hH.kp0 rfl rfl rfl (by omega) (x_move hH.kp0 rfl rfl ?_); clear hS; intro a hS
        refine Sq.nil (then_n ?_)
        refine ⟨m - 1,by omega,i + 1,_,K2,O3,mr3,tdv3,tds3,by omega,?_,hP3,hln3,htd3,hS.live ⟨rfl,rfl,rfl,rfl,rfl,rfl,rfl,rfl,trivial⟩,(hHI.rebase hH (fun x hx => by rw [hSR] at hx; rcases hx with hx | hx; exact .inl hx; exact .inr (by rw [hx]; exact htb1))).sub (by repeat' constructor) hHI.nd⟩
        omega
       ·refine Sq.guardYes hS rfl rfl rfl (r_not hS trivial rfl rfl (x_pickT trivial rfl rfl rfl rfl ?_)); clear hS; intro a hS
        refine Sq.nil ?_
        obtain ⟨O3,hO3e⟩ : ∃ z,z = O1:=⟨_,rfl⟩
        obtain ⟨mr3,hmr3⟩ : ∃ z,z = mr2:=⟨_,rfl⟩
        obtain ⟨tds3,htds3⟩ : ∃ z,z = tds:=⟨_,rfl⟩
        rw [←hO3e] at hH
        rw [←hmr3] at hS
        have hP3 : Pass6 ts K0 O K2 O3 tds3 mr3 (i + 1) (i + 1):=by rw [hO3e,hmr3,htds3]; exact hP2.sameO (.inl hoi)
        have hln3 : tds3.length≤i + 1:=by rw [htds3]; omega
        have htd3:=Todo.blkH (F:=fun x => x = bk∨x = bs∨x = bo) hH (by repeat' constructor) htb1 htb2 htl1 htl2 hSR htbl
        obtain ⟨tdv3,htdv3⟩ : ∃ z : Value,z = .slice (some ⟨tb,0,none⟩) tds.length tcap:=⟨_,rfl⟩
        rw [←htdv3] at hH htd3
        rw [←htds3] at htd3
        refine then_n (c_condF hS rfl rfl (wp_skip (blk_n (then_n (reg_plain w0 (SR) ?_)))))
        refine r_add hS hH.kp0 rfl rfl rfl (by omega) (x_move hH.kp0 rfl rfl ?_); clear hS; intro a hS
        refine Sq.nil (then_n ?_)
        refine ⟨m - 1,by omega,i + 1,_,K2,O3,mr3,tdv3,tds3,by omega,?_,hP3,hln3,htd3,hS.live ⟨rfl,rfl,rfl,rfl,rfl,rfl,rfl,rfl,trivial⟩,(hHI.rebase hH (fun x hx => by rw [hSR] at hx; rcases hx with hx | hx; exact .inl hx; exact .inr (by rw [hx]; exact htb1))).sub (by repeat' constructor) hHI.nd⟩
        omega
   ·have hge:=of_decide_eq_false hc1
    have hii0 : i = ts.length:=by omega
    subst hii0
    refine wp_exit (then_e (then_e (blk_hit (then_n (c_seq (reg_plain w0 (SR) ?_))))))
    refine r_move hS hH.kp0 rfl rfl (x_assign hH.kp0 rfl rfl ?_); clear hS; intro a hS
    refine Sq.nil (then_n (wp_ret ?_))
    exact leave (.inl rfl) hS rfl (Res.tmp rfl Res.nil) ⟨mr,K1,O1,_,_,rfl,hHI.get (b:=bs) (by repeat' constructor),hHI.get (b:=bk) (by repeat' constructor),hHI.get (b:=bo) (by repeat' constructor),StepR6.of hcn hR hP,htd.slg,hln,hHI.mod⟩

end Go.Proofs.YtcjmehononbadaaDoor
