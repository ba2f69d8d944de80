/- Two vaults under any calls answer alike. Part Part4: walks and lemmas of the proof. -/
import Derived.Test.YtcjmehononbadaaDoorPart3
import Derived.Test.YtcjmehononbadaaDoorSym5
namespace Go.Proofs.YtcjmehononbadaaDoor
open Go.Sym

theorem Fc.fn25 : isFn Tryd.prog 25 = true:=by kernel_rfl
theorem Fc.fl7 : FlTy Tryd.prog 64 tbs:=flTy_mk Fc.laid (of_decide_eq_true (by kernel_rfl)) (by kernel_rfl) (by kernel_rfl) (by kernel_rfl) (by kernel_rfl) (by kernel_rfl)
theorem trim2 (q : Option Addr) (qc : Nat) (u : List UInt8) (n : Nat) (hn : n≤u.length) (hl : u.length≤1099511627776) (w0 : World) (hb : BsF Nobody w0 (.slice q u.length qc) u) : Calls Tryd.prog 25 #[.slice q n qc,.string { data := #[0] }] w0 fun e w' => ∃ (q' : Option Addr) (m c' : Nat),e = .returned (.slice q' m c')∧(m = 0↔∀ x∈u.take n,x = 0)∧Ext w0 w':=by
  have hln : (u.take n).length = n:=by rw [List.length_take]; omega
  have h:=trim_c q qc (u.take n) (by omega) w0 (hb.pre n)
  rw [hln] at h
  exact h

set_option maxRecDepth 100000 in
set_option maxHeartbeats 8000000 in
theorem Open_v (b : Nat) (V : VB) (ts : List Tm) (h : List UInt8) (hh : h.length = 16) (k : Nat) (hk : k < ts.length) (hnm : h = nm k) (nu : Int) (hnu : 0≤nu∧nu≤9223372036854775807) (va vb : Value) (la lb : List UInt8) (hla : la.length≤9223372036854775807) (hlb : lb.length≤1099511627776) (n : Nat) (hn : lb.length = n + 16) (hm : ts.length≤1000000000) (w0 : World) (hvi : VI w0 b V ts) (hba : BsF Nobody w0 va la) (hbb : BsF Nobody w0 vb lb) : Calls Tryd.prog 9 #[.pointer (some ⟨b,0,none⟩),hnd h,.int .i64 nu,va,vb] w0 fun e w' => ((∃ (s : Nat) (t : Tm) (cb cap : Nat) (cl : List Value) (fz : Nat × Nat),OpenR ts k nu la lb n s t∧e = .returned (.tuple #[.slice (some ⟨cb,0,none⟩) (byt t).length cap,.int .i64 0])∧w0.heap.size≤cb∧w'.heap[cb]? = some (.cells cl.toArray 5 fz)∧cl.take (byt t).length = (byt t).map byteV∧(byt t).length≤cap)∨((¬ ∃ s t,OpenR ts k nu la lb n s t)∧e = .returned (.tuple #[.slice none 0 0,.int .i64 20])))∧Ext w0 w':=by
 refine enter Tryd.func9 rfl rfl rfl ?_
 intro a hS
 have hH:=Hp.start w0 (Nobody)
 obtain ⟨x0,x1,x2,x3,x4,x5,x6,x7,x8,x9,xa,xb,xc,xd,xe,xf,rfl⟩:=len16 hh
 replace hH:=hH.knowV hvi (by intro p hp; simp at hp)
 obtain ⟨g2,hm2,hf2⟩:=hvi.ok.names
 obtain ⟨n0,th,e1,e2,hcase⟩:=hf2.look2 [x0,x1,x2,x3,x4,x5,x6,x7,x8,x9,xa,xb,xc,xd,xe,xf]
 rcases hcase.symm with ⟨_,_,hno⟩ | ⟨h,j9,hj9,hn0,hgj⟩
 ·exact absurd hnm (hno k hk)
 subst h
 subst hn0
 obtain rfl : k = j9:=(nm_inj (by omega) (by omega) (hgj.symm.trans hnm)).symm
 obtain ⟨qa,qca,hsla⟩:=hba.bs
 have hva:=hsla.val
 subst hva
 obtain ⟨qb,qcb,hslb⟩:=hbb.bs
 have hvb:=hslb.val
 subst hvb
 have hsle:=hslb.le
 obtain ⟨ba,bo,hq⟩:=hslb.addr (by omega)
 subst hq
 have hcl:=fun w k => hbb.cells16 n w k
 obtain ⟨g,hg⟩ : ∃ g,g = (lb.drop n).take 16:=⟨_,rfl⟩
 rw [←hg] at hcl
 have hgd : lb.drop n = g:=by rw [hg,List.take_of_length_le (by rw [List.length_drop]; omega)]
 have hg16 : g.length = 16:=by rw [←hgd,List.length_drop]; omega
 clear hg
 obtain ⟨g0,g1,g2,g3,g4,g5,g6,g7,g8,g9,ga,gb,gc,gd,ge,gf,rfl⟩:=len16 hg16
 obtain ⟨n1,th2,e3,e4,hcaseg⟩:=hf2.look2 [g0,g1,g2,g3,g4,g5,g6,g7,g8,g9,ga,gb,gc,gd,ge,gf]
 refine c_seq (reg_plain w0 (Nobody) ?_)
 refine r_box hS hH (by repeat' constructor) rfl rfl rfl ?_
 clear hS hH; intro a w b6 hb6 hwb6 hS hH
 refine r_assign hS hH.kp0 rfl rfl (x_assign hH.kp0 rfl rfl ?_); clear hS; intro a hS
 refine Sq.nil (then_n (c_seq (c_seq (reg_plain w0 (Nobody) ?_))))
 refine r_move hS hH.kp0 rfl rfl ?_; clear hS; intro a hS
 refine r_call (l:=[.tmp 18]) hS rfl rfl Fc.fn24 rfl ?_
 refine Calls.mono (none_v b V ts _ (hH.vin hvi.ok hvi.n01 hvi.n23 (by repeat' constructor) (by repeat' constructor) (by repeat' constructor) (by repeat' constructor))) ?_
 rintro e w1 ⟨rfl,hE⟩
 replace hH:=hH.ext hE
 refine ⟨_,rfl,hH.kp0,?_⟩
 clear hS; intro a hS
 refine Sq.nil (then_n (c_condF hS rfl rfl (wp_skip (then_n (c_seq ?_)))))
 refine reg_draw [(true,0,[]),(true,1,[]),(true,2,[]),(true,3,[]),(true,4,[]),(true,5,[]),(true,6,[]),(true,7,[]),(true,8,[]),(true,9,[]),(true,10,[])] Fc.mixed (by kernel_rfl) (by kernel_rfl) (by kernel_rfl) (by kernel_rfl) (by kernel_rfl) (by repeat (first | with_reducible exact steady_body | with_reducible apply steady_block | with_reducible apply steady_then | exact steady_body)) hH ?_
 replace hH:=hH.drew
 refine r_move hS trivial rfl rfl (x_nilCheck trivial rfl rfl (x_fieldAddr trivial rfl Fc.fo41_2 rfl (x_load_scS rfl (by repeat' constructor) Fc.sc39 (by rfl) rfl (x_load_rowS rfl (by repeat' constructor) Fc.ag26 (by rfl) rfl (x_lookupS2 Fc.mtN rfl rfl (by repeat' constructor) hm2 (Fc.arrH.keyOf (h:=[x0,x1,x2,x3,x4,x5,x6,x7,x8,x9,xa,xb,xc,xd,xe,xf]) rfl) e1 e2 rfl (x_move trivial rfl rfl (x_extract trivial rfl rfl rfl (x_extract trivial rfl rfl rfl (x_assign trivial rfl rfl (x_assign trivial rfl rfl ?_)))))))))); clear hS; intro a hS
 refine Sq.nil (then_n (c_seq (reg_plain w0 (Nobody) ?_)))
 refine r_move hS hH.kp0 rfl rfl (x_lenSl hH.kp0 rfl Fc.isSlice22 rfl (x_sub hH.kp0 rfl rfl rfl (by omega) (x_assign hH.kp0 rfl rfl ?_))); clear hS; intro a hS
 refine Sq.nil ?_
 rw [show ((lb.length : Int) - 16) = (n : Int) by omega] at hS
 refine then_n (c_seq (wp_block (c_seq (reg_plain w0 (Nobody) ?_))))
 refine r_move hS hH.kp0 rfl rfl (x_not hH.kp0 rfl rfl (x_assign hH.kp0 rfl rfl ?_)); clear hS; intro a hS
 refine Sq.nil (then_n (c_condF hS rfl rfl (c_seq (reg_plain w0 (Nobody) ?_))))
 refine r_move hS hH.kp0 rfl rfl (x_lss hH.kp0 rfl rfl rfl (x_assign hH.kp0 rfl rfl ?_)); clear hS; intro a hS
 refine Sq.nil (then_n ?_)
 refine c_condF hS rfl (DF (by omega)) ?_
 refine c_seq (reg_plain w0 (Nobody) ?_)
 refine r_move hS hH.kp0 rfl rfl (x_lss hH.kp0 rfl rfl rfl (x_assign hH.kp0 rfl rfl ?_)); clear hS; intro a hS
 refine Sq.nil (then_n ?_)
 refine c_condF hS rfl (DF (by omega)) ?_
 refine wp_skip (blk_n (then_n (c_seq ?_)))
 refine reg_draw [(true,0,[]),(true,1,[]),(true,2,[]),(true,3,[]),(true,4,[]),(true,5,[]),(true,6,[]),(true,7,[]),(true,8,[]),(true,9,[]),(true,10,[]),(true,11,[]),(true,12,[]),(true,13,[]),(true,14,[])] Fc.mixed (by kernel_rfl) (by kernel_rfl) (by kernel_rfl) (by kernel_rfl) (by kernel_rfl) (by repeat (first | with_reducible exact steady_body | with_reducible apply steady_block | with_reducible apply steady_then | exact steady_body)) hH ?_
 replace hH:=hH.drew
 refine r_move hS trivial rfl rfl (x_nilCheck trivial rfl rfl (x_fieldAddr trivial rfl Fc.fo41_2 rfl (x_load_scS rfl (by repeat' constructor) Fc.sc39 (by rfl) rfl (x_move trivial rfl rfl (x_move trivial rfl rfl (x_slLo (ll:=n) trivial rfl rfl Fc.slb22 rfl (by omega) rfl ?_)))))); clear hS; intro a hS
 rw [if_neg (show ¬ qcb = n by omega)] at hS
 refine r_toArr hS trivial rfl Fc.ar26 (by omega) rfl (x_load_cellsS (l:=hcells [g0,g1,g2,g3,g4,g5,g6,g7,g8,g9,ga,gb,gc,gd,ge,gf]) rfl Fc.ag26 rfl (fun w hw => hcl w hw.2) rfl (x_lookupS2 Fc.mtN rfl rfl (by repeat' constructor) hm2 (Fc.arrH.keyOf (h:=[g0,g1,g2,g3,g4,g5,g6,g7,g8,g9,ga,gb,gc,gd,ge,gf]) rfl) e3 e4 rfl (x_move trivial rfl rfl (x_extract trivial rfl rfl rfl (x_extract trivial rfl rfl rfl (x_assign trivial rfl rfl (x_assign trivial rfl rfl ?_))))))); clear hS; intro a hS
 refine Sq.nil (then_n (c_seq (c_seq (reg_plain w0 (Nobody) ?_))))
 refine r_move hS hH.kp0 rfl rfl (x_not hH.kp0 rfl rfl ?_); clear hS; intro a hS
 refine Sq.nil (then_n ?_)
 refine c_cond hS rfl (fun hc4 => ?_) (fun hc4 => ?_)
 ·rcases hcaseg with ⟨h,_⟩ | ⟨h,_,hnog⟩
  ·rw [h] at hc4; cases hc4
  refine c_seq (reg_plain w0 (Nobody) ?_)
  refine r_assign hS hH.kp0 rfl rfl (x_assign hH.kp0 rfl rfl ?_); clear hS; intro a hS
  refine Sq.nil (then_n (wp_ret (then_r ?_)))
  refine leave (.inl rfl) hS rfl (Res.tmp rfl (Res.tmp rfl Res.nil)) ⟨.inr ⟨?_,rfl⟩,hH.mod⟩
  rintro ⟨s2,t2,hR⟩
  have hs2:=at_lt hR.at_
  exact hnog s2 hs2 (hgd.symm.trans hR.name)
 ·rcases hcaseg.symm with ⟨h,_⟩ | ⟨_,s,hs,hn0,hgs⟩
  ·rw [h] at hc4; cases hc4
  subst hn0
  obtain ⟨t,ht⟩ : ∃ t,ts[s]? = some t:=⟨_,List.getElem?_eq_getElem hs⟩
  have hrow:=hvi.ok.row ht
  have htok:=hvi.ok.rng t (List.mem_of_getElem? ht)
  have hsok : (selT k nu (strOf la) t.bytes).ok:=selT_ok2 (by omega) hnu hla htok.bytes
  refine wp_skip (then_n (c_seq (reg_plain w0 (Nobody) ?_)))
  refine r_move hS hH.kp0 rfl rfl (x_nilCheck hH.kp0 rfl rfl (x_fieldAddr hH.kp0 rfl Fc.fo41_0 rfl (x_load_sc hH (by repeat' constructor) rfl (by repeat' constructor) Fc.sc37 (by rfl) rfl (x_move hH.kp0 rfl rfl (x_indexAddrS (j:=s) hH.kp0 rfl rfl Fc.slb37 rfl hs rfl ?_))))); clear hS; intro a hS
  refine r_load_at (vs:=t.cells) hS hH (by repeat' constructor) rfl (by repeat' constructor) Fc.ag64 (by rw [Nat.zero_add]; exact hrow.2) (by rw [Nat.zero_add]; exact hrow.1) rfl ?_; clear hS; intro a hS
  refine r_alloc hS hH (by repeat' constructor) Fc.zc64 rfl ?_
  clear hS hH; intro a w b16 hb16 hwb16 hS hH
  refine r_store_row hS hH rfl rfl (by repeat' constructor) (by repeat' constructor) Fc.sz64 (one_cells t) (by rfl) (.inr (by assumption)) ?_; clear hH; intro w hH
  refine Sq.nil (then_n (c_seq (reg_plain w0 (Nobody) ?_)))
  refine r_move hS hH.kp0 rfl rfl (x_move hH.kp0 rfl rfl (x_move hH.kp0 rfl rfl (x_bytesStr hH.kp0 rfl (hba _ hH.mod) Fc.u8s22 Fc.isStr9 rfl (x_fieldAddr hH.kp0 rfl Fc.fo64_6 rfl (x_load_sc hH (by repeat' constructor) rfl (by repeat' constructor) Fc.sc9 (by rfl) rfl (x_buildS (parts:=[(0,.const (.int .i64 6)),(1,.tmp 63),(3,.tmp 64),(5,.tmp 66),(6,.tmp 68)]) hH.kp0 rfl rfl Fc.zc64 Fc.pl64 (by rfl) ?_)))))); clear hS; intro a hS
  refine r_alloc hS hH (by repeat' constructor) Fc.zc64 rfl ?_
  clear hS hH; intro a w b17 hb17 hwb17 hS hH
  refine r_store_row (vs:=(selT k nu (strOf la) t.bytes).cells) hS hH rfl rfl (by repeat' constructor) (by repeat' constructor) Fc.sz64 (one_cells (selT k nu (strOf la) t.bytes)) (by rfl) (.inr (by assumption)) ?_; clear hH; intro w hH
  refine Sq.nil (then_n (c_seq (c_seq (reg_plain w0 (Nobody) ?_))))
  refine r_load_row hS hH (by repeat' constructor) rfl (by repeat' constructor) Fc.ag64 (by rfl) rfl (x_load_row hH (by repeat' constructor) rfl (by repeat' constructor) Fc.ag64 (by rfl) rfl ?_); clear hS; intro a hS
  refine r_flNeq (us:=t.cells) (vs:=(selT k nu (strOf la) t.bytes).cells) Fc.fl7 hS hH.kp0 rfl rfl (tcells_ok htok) (tcells_ok hsok) rfl ?_; clear hS; intro a rr hrr hS
  rcases rr with _ | _
  ·have heq : t = selT k nu (strOf la) t.bytes:=Tm.cells_inj (Classical.byContradiction fun h => by have:=hrr.2 h; cases this)
   refine r_move hS hH.kp0 rfl rfl (Sq.xguardYes rfl rfl rfl (x_fieldAddr hH.kp0 rfl Fc.fo64_6 rfl (Sq.xguardYes rfl rfl rfl (x_load_sc hH (by repeat' constructor) rfl (by repeat' constructor) Fc.sc9 (by rfl) rfl (Sq.xguardYes rfl rfl rfl (x_lenStr hH.kp0 rfl Fc.isStr9 rfl (Sq.xguardYes rfl rfl rfl (x_move hH.kp0 rfl rfl (Sq.xguardYes rfl rfl rfl (x_neq hH.kp0 rfl rfl rfl ?_)))))))))); clear hS; intro a hS
   rcases Nat.decEq t.bytes.size n with hsz | hsz
   ·rw [show ((t.bytes.size : Int) != (n : Int)) = true from bne_iff_ne.2 (by omega)] at hS
    refine r_pickF hS hH.kp0 rfl rfl rfl rfl (x_move hH.kp0 rfl rfl (Sq.xguardNo rfl rfl rfl hH.kp0 rfl (Sq.xguardNo rfl rfl rfl hH.kp0 rfl (Sq.xguardNo rfl rfl rfl hH.kp0 rfl (Sq.xguardNo rfl rfl rfl hH.kp0 rfl (Sq.xguardNo rfl rfl rfl hH.kp0 rfl (Sq.xguardNo rfl rfl rfl hH.kp0 rfl (x_pickT hH.kp0 rfl rfl rfl rfl ?_)))))))); clear hS; intro a hS
    refine Sq.nil (then_n (c_condT hS rfl rfl (c_seq (reg_plain w0 (Nobody) ?_))))
    refine r_assign hS hH.kp0 rfl rfl (x_assign hH.kp0 rfl rfl ?_); clear hS; intro a hS
    refine Sq.nil (then_n (wp_ret (then_r ?_)))
    refine leave (.inl rfl) hS rfl (Res.tmp rfl (Res.tmp rfl Res.nil)) ⟨.inr ⟨?_,rfl⟩,hH.mod⟩
    rintro ⟨s2,t2,hR⟩
    have hs2:=at_lt hR.at_
    obtain rfl : s2 = s:=nm_inj (by omega) (by omega) ((hR.name.symm.trans hgd).trans hgs)
    obtain rfl : t2 = t:=Option.some.inj (hR.at_.symm.trans ht)
    exact hsz hR.size
   ·rw [show ((t.bytes.size : Int) != (n : Int)) = false from bne_eq_false_iff_eq.2 (by omega)] at hS
    refine r_pickF hS hH.kp0 rfl rfl rfl rfl (x_move hH.kp0 rfl rfl (Sq.xguardYes rfl rfl rfl (x_move hH.kp0 rfl rfl (Sq.xguardYes rfl rfl rfl (x_move hH.kp0 rfl rfl (Sq.xguardYes rfl rfl rfl ?_)))))); clear hS; intro a hS
    refine r_slHi (hh:=n) hS hH.kp0 rfl rfl Fc.slb22 rfl (by omega) (fun q hq => by cases hq; rfl) rfl ?_; clear hS; intro a hS
    refine Sq.guardYes hS rfl rfl rfl ?_
    refine r_call (l:=[.tmp 83,.const (.string { data := #[0] })]) hS rfl rfl Fc.fn25 rfl ?_
    refine Calls.mono (trim2 (some ⟨ba,bo,none⟩) qcb lb n (by omega) (by omega) _ (hbb.go hH.mod (fun _ h => h.elim))) ?_
    rintro e w1 ⟨q',m',c',rfl,hm',hE⟩
    replace hH:=hH.ext hE
    refine ⟨_,rfl,hH.kp0,?_⟩
    clear hS; intro a hS
    refine Sq.guardYes hS rfl rfl rfl (r_lenSl hS hH.kp0 rfl Fc.isSlice22 rfl ?_); clear hS; intro a hS
    rcases (by omega : m' = 0∨1≤m') with hm0 | hm0
    ·refine Sq.guardYes hS rfl rfl rfl (r_gtr hS hH.kp0 rfl rfl rfl (x_pickF hH.kp0 rfl rfl rfl rfl ?_)); clear hS; intro a hS
     refine Sq.nil (then_n ?_)
     refine c_condF hS rfl (DF (by omega)) ?_
     refine wp_skip (then_n (c_seq (reg_plain w0 (Nobody) ?_)))
     refine r_fieldAddr hS hH.kp0 rfl Fc.fo64_6 rfl (x_load_sc hH (by repeat' constructor) rfl (by repeat' constructor) Fc.sc9 (by rfl) rfl ?_); clear hS; intro a hS
     refine r_strBytesK hS hH (by repeat' constructor) rfl Fc.und9 Fc.und22 Fc.ui5 rfl ?_
     clear hS hH; intro a w b90 c90 l90 f90 hb90 hbw90 hl90 hc90 hS hH
     refine r_assign hS hH.kp0 rfl rfl (x_assign hH.kp0 rfl rfl ?_); clear hS; intro a hS
     refine Sq.nil (then_n (wp_ret ?_))
     exact leave (.inl rfl) hS rfl (Res.tmp rfl (Res.tmp rfl Res.nil)) ⟨.inl ⟨s,t,b90,c90,l90,f90,⟨ht,hgd.trans hgs,heq,hsz,hm'.1 hm0⟩,rfl,hb90,hH.get (b:=b90) (by repeat' constructor),hl90,hc90⟩,hH.mod⟩
    ·refine Sq.guardYes hS rfl rfl rfl (r_gtr hS hH.kp0 rfl rfl rfl (x_pickF hH.kp0 rfl rfl rfl rfl ?_)); clear hS; intro a hS
     refine Sq.nil (then_n ?_)
     refine c_condT hS rfl (DT (by omega)) ?_
     refine c_seq (reg_plain w0 (Nobody) ?_)
     refine r_assign hS hH.kp0 rfl rfl (x_assign hH.kp0 rfl rfl ?_); clear hS; intro a hS
     refine Sq.nil (then_n (wp_ret (then_r ?_)))
     refine leave (.inl rfl) hS rfl (Res.tmp rfl (Res.tmp rfl Res.nil)) ⟨.inr ⟨?_,rfl⟩,hH.mod⟩
     rintro ⟨s2,t2,hR⟩
     have hs2:=at_lt hR.at_
     obtain rfl : s2 = s:=nm_inj (by omega) (by omega) ((hR.name.symm.trans hgd).trans hgs)
     obtain rfl : t2 = t:=Option.some.inj (hR.at_.symm.trans ht)
     have:=hm'.2 hR.zero
     omega
  ·refine r_move hS hH.kp0 rfl rfl (Sq.xguardNo rfl rfl rfl hH.kp0 rfl (Sq.xguardNo rfl rfl rfl hH.kp0 rfl (Sq.xguardNo rfl rfl rfl hH.kp0 rfl (Sq.xguardNo rfl rfl rfl hH.kp0 rfl (Sq.xguardNo rfl rfl rfl hH.kp0 rfl (x_pickT hH.kp0 rfl rfl rfl rfl (x_move hH.kp0 rfl rfl (Sq.xguardNo rfl rfl rfl hH.kp0 rfl (Sq.xguardNo rfl rfl rfl hH.kp0 rfl (Sq.xguardNo rfl rfl rfl hH.kp0 rfl (Sq.xguardNo rfl rfl rfl hH.kp0 rfl (Sq.xguardNo rfl rfl rfl hH.kp0 rfl (Sq.xguardNo rfl rfl rfl hH.kp0 rfl (x_pickT hH.kp0 rfl rfl rfl rfl ?_)))))))))))))); clear hS; intro a hS
   refine Sq.nil (then_n (c_condT hS rfl rfl (c_seq (reg_plain w0 (Nobody) ?_))))
   refine r_assign hS hH.kp0 rfl rfl (x_assign hH.kp0 rfl rfl ?_); clear hS; intro a hS
   refine Sq.nil (then_n (wp_ret (then_r ?_)))
   refine leave (.inl rfl) hS rfl (Res.tmp rfl (Res.tmp rfl Res.nil)) ⟨.inr ⟨?_,rfl⟩,hH.mod⟩
   rintro ⟨s2,t2,hR⟩
   have hs2:=at_lt hR.at_
   obtain rfl : s2 = s:=nm_inj (by omega) (by omega) ((hR.name.symm.trans hgd).trans hgs)
   obtain rfl : t2 = t:=Option.some.inj (hR.at_.symm.trans ht)
   exact hrr.1 rfl (congrArg Tm.cells hR.term)

end Go.Proofs.YtcjmehononbadaaDoor
namespace Go.Proofs.YtcjmehononbadaaDoor
open Go.Sym


set_option maxRecDepth 100000 in
set_option maxHeartbeats 400000 in
theorem unmix_c (x : Nat) (hx : x < 18446744073709551616) (w0 : World) : Calls Tryd.prog 58 #[.int .u64 (x : Int)] w0 fun e w' => e = .returned (.int .u64 (unmixN x : Int))∧Ext w0 w':=by
  refine enter Tryd.func58 rfl rfl rfl ?_
  intro a hS
  have hH:=Hp.start w0 (Nobody)
  refine c_seq (reg_plain w0 (Nobody) ?_)
  refine r_assign hS hH.kp0 rfl rfl ?_; clear hS; intro a hS
  refine Sq.nil (then_n (c_seq (reg_plain w0 (Nobody) ?_)))
  refine r_move hS hH.kp0 rfl rfl (x_move hH.kp0 rfl rfl (x_shrN (m:=x) 31 (x >>> 31) hH.kp0 rfl rfl rfl rfl (by decide) rfl (x_xorN (m:=x) (m':=x >>> 31) (x ^^^ x >>> 31) hH.kp0 rfl rfl rfl hx (shr_lt hx) rfl (x_move hH.kp0 rfl rfl (x_shrN (m:=x) 62 (x >>> 62) hH.kp0 rfl rfl rfl rfl (by decide) rfl (x_xorN (m:=x ^^^ x >>> 31) (m':=x >>> 62) ((x ^^^ x >>> 31) ^^^ x >>> 62) hH.kp0 rfl rfl rfl (xs_lt hx) (shr_lt hx) rfl ?_)))))); clear hS; intro a hS
  obtain ⟨z1,hz1⟩ : ∃ z,((x ^^^ x >>> 31) ^^^ x >>> 62) * 3573116690164977347 % 18446744073709551616 = z:=⟨_,rfl⟩
  refine r_mulN (m:=(x ^^^ x >>> 31) ^^^ x >>> 62) (m':=3573116690164977347) z1 hS hH.kp0 rfl rfl rfl hz1 (x_assign hH.kp0 rfl rfl ?_); clear hS; intro a hS
  refine Sq.nil (then_n (c_seq (reg_plain w0 (Nobody) ?_)))
  refine r_move hS hH.kp0 rfl rfl (x_move hH.kp0 rfl rfl (x_shrN (m:=z1) 27 (z1 >>> 27) hH.kp0 rfl rfl rfl rfl (by decide) rfl ?_)); clear hS; intro a hS
  refine r_xorN (m:=z1) (m':=z1 >>> 27) (z1 ^^^ z1 >>> 27) hS hH.kp0 rfl rfl rfl (by rw [←hz1]; exact Nat.mod_lt _ (by decide)) (shr_lt (by rw [←hz1]; exact Nat.mod_lt _ (by decide))) rfl ?_; clear hS; intro a hS
  refine r_move hS hH.kp0 rfl rfl (x_shrN (m:=z1) 54 (z1 >>> 54) hH.kp0 rfl rfl rfl rfl (by decide) rfl ?_); clear hS; intro a hS
  refine r_xorN (m:=z1 ^^^ z1 >>> 27) (m':=z1 >>> 54) ((z1 ^^^ z1 >>> 27) ^^^ z1 >>> 54) hS hH.kp0 rfl rfl rfl (xs_lt (by rw [←hz1]; exact Nat.mod_lt _ (by decide))) (shr_lt (by rw [←hz1]; exact Nat.mod_lt _ (by decide))) rfl ?_; clear hS; intro a hS
  obtain ⟨z2,hz2⟩ : ∃ z,((z1 ^^^ z1 >>> 27) ^^^ z1 >>> 54) * 10871156337175269513 % 18446744073709551616 = z:=⟨_,rfl⟩
  refine r_mulN (m:=(z1 ^^^ z1 >>> 27) ^^^ z1 >>> 54) (m':=10871156337175269513) z2 hS hH.kp0 rfl rfl rfl hz2 (x_assign hH.kp0 rfl rfl ?_); clear hS; intro a hS
  refine Sq.nil (then_n (c_seq (reg_plain w0 (Nobody) ?_)))
  refine r_move hS hH.kp0 rfl rfl (x_move hH.kp0 rfl rfl (x_shrN (m:=z2) 30 (z2 >>> 30) hH.kp0 rfl rfl rfl rfl (by decide) rfl ?_)); clear hS; intro a hS
  refine r_xorN (m:=z2) (m':=z2 >>> 30) (z2 ^^^ z2 >>> 30) hS hH.kp0 rfl rfl rfl (by rw [←hz2]; exact Nat.mod_lt _ (by decide)) (shr_lt (by rw [←hz2]; exact Nat.mod_lt _ (by decide))) rfl ?_; clear hS; intro a hS
  refine r_move hS hH.kp0 rfl rfl (x_shrN (m:=z2) 60 (z2 >>> 60) hH.kp0 rfl rfl rfl rfl (by decide) rfl ?_); clear hS; intro a hS
  refine r_xorN (m:=z2 ^^^ z2 >>> 30) (m':=z2 >>> 60) ((z2 ^^^ z2 >>> 30) ^^^ z2 >>> 60) hS hH.kp0 rfl rfl rfl (xs_lt (by rw [←hz2]; exact Nat.mod_lt _ (by decide))) (shr_lt (by rw [←hz2]; exact Nat.mod_lt _ (by decide))) rfl ?_; clear hS; intro a hS
  obtain ⟨z3,hz3⟩ : ∃ z,((z2 ^^^ z2 >>> 30) ^^^ z2 >>> 60) * 17428512612931826493 % 18446744073709551616 = z:=⟨_,rfl⟩
  refine r_mulN (m:=(z2 ^^^ z2 >>> 30) ^^^ z2 >>> 60) (m':=17428512612931826493) z3 hS hH.kp0 rfl rfl rfl hz3 (x_subN (m:=z3) (m':=1) ((z3 + (18446744073709551616 - 1)) % 18446744073709551616) hH.kp0 rfl rfl rfl (by decide) rfl (x_assign hH.kp0 rfl rfl ?_)); clear hS; intro a hS
  refine Sq.nil (then_n (wp_ret ?_))
  subst hz3 hz2 hz1
  exact leave (.inl rfl) hS rfl (Res.tmp rfl Res.nil) ⟨rfl,hH.mod⟩

set_option maxRecDepth 100000 in
set_option maxHeartbeats 8000000 in
theorem isName_c (h : List UInt8) (hh : h.length = 16) (w0 : World) : Calls Tryd.prog 27 #[hnd h] w0 fun e w' => ∃ r,e = .returned (.bool r)∧r = isNameF h∧Ext w0 w':=by
 refine enter Tryd.func27 rfl rfl rfl ?_
 intro a hS
 have hH:=Hp.start w0 (Nobody)
 obtain ⟨x0,x1,x2,x3,x4,x5,x6,x7,x8,x9,xa,xb,xc,xd,xe,xf,rfl⟩:=len16 hh
 refine c_seq (reg_plain w0 (Nobody) ?_)
 refine r_box hS hH (by repeat' constructor) rfl rfl rfl ?_
 clear hS hH; intro a w b1 hb1 hwb1 hS hH
 refine r_assign hS hH.kp0 rfl rfl ?_; clear hS; intro a hS
 refine Sq.nil (then_n (c_seq (reg_plain w0 (Nobody) ?_)))
 refine r_alloc hS hH (by repeat' constructor) Fc.zc106 rfl ?_
 clear hS hH; intro a w b3 hb3 hwb3 hS hH
 refine Sq.nil (then_n (c_seq (c_seq (reg_plain w0 (Nobody) ?_))))
 refine r_load_row hS hH (by repeat' constructor) rfl (by repeat' constructor) Fc.ag26 (by rfl) rfl (x_move hH.kp0 rfl rfl ?_); clear hS; intro a hS
 refine Sq.nil (then_n (wp_block ?_))
 refine wp_loop_rounds 17 ?_
 refine rnd ?_
 refine c_seq (reg_plain w0 (Nobody) ?_)
 refine r_lss hS hH.kp0 rfl rfl rfl ?_; clear hS; intro a hS
 refine Sq.nil (then_n (c_seq (c_condT hS rfl rfl (wp_skip (then_n (c_seq (wp_block (c_seq (reg_plain w0 (Nobody) ?_)))))))))
 refine r_move hS hH.kp0 rfl rfl (x_indexB (h:=[x0,x1,x2,x3,x4,x5,x6,x7,x8,x9,xa,xb,xc,xd,xe,xf]) (u:=x0) (i:=0) hH.kp0 rfl rfl Fc.uh26 Fc.sc5 Fc.sz1_5 rfl (by decide) rfl rfl (x_assign hH.kp0 rfl rfl (x_assign hH.kp0 rfl rfl ?_))); clear hS; intro a hS
 refine Sq.nil (then_n (reg_plain w0 (Nobody) ?_))
 refine r_move hS hH.kp0 rfl rfl (x_quo hH.kp0 rfl rfl rfl (by decide) (x_move hH.kp0 rfl rfl (x_quo hH.kp0 rfl rfl rfl (by decide) (x_indexAddrA (j:=0) hH.kp0 rfl rfl Fc.ar106 (by rfl) (by decide) rfl (x_load_sc hH (by repeat' constructor) rfl (by repeat' constructor) Fc.sc81 (v:=.int .u64 0) rfl rfl ?_))))); clear hS; intro a hS
 obtain ⟨q0_,hq0_⟩ : ∃ z,0 * 2 ^ 8 % 18446744073709551616 = z:=⟨_,rfl⟩
 refine r_shlN (m:=0) 8 q0_ hS hH.kp0 rfl rfl rfl rfl (by decide) hq0_ (x_move hH.kp0 rfl rfl ?_); clear hS; intro a hS
 refine r_toU64 x0.toNat hS hH.kp0 rfl Fc.ui81 Fc.us5 rfl rfl (by have:=x0.toNat_lt; omega) ?_; clear hS; intro a hS
 obtain ⟨E1,hE1⟩ : ∃ z,q0_ ||| x0.toNat = z:=⟨_,rfl⟩
 refine r_orN (m:=q0_) (m':=x0.toNat) E1 hS hH.kp0 rfl rfl rfl (by rw [←hq0_]; exact Nat.mod_lt _ (by decide)) (by have:=x0.toNat_lt; omega) hE1 ?_; clear hS; intro a hS
 have hsE1 : E1 = stp 0 x0:=by rw [←hE1,←hq0_]; rfl
 refine r_indexAddrA (j:=0) hS hH.kp0 rfl rfl Fc.ar106 (by rfl) (by decide) rfl ?_; clear hS; intro a hS
 refine r_store1 hS hH rfl rfl rfl (by repeat' constructor) (by repeat' constructor) Fc.sz81 (of_decide_eq_true rfl) (.inr (by assumption)) ?_; clear hH; intro w hH
 refine Sq.nil (blk_n (then_n (reg_plain w0 (Nobody) ?_)))
 refine r_add hS hH.kp0 rfl rfl rfl (by omega) (x_move hH.kp0 rfl rfl ?_); clear hS; intro a hS
 refine Sq.nil (then_n ?_)
 refine rnd ?_
 refine c_seq (reg_plain w0 (Nobody) ?_)
 refine r_lss hS hH.kp0 rfl rfl rfl ?_; clear hS; intro a hS
 refine Sq.nil (then_n (c_seq (c_condT hS rfl rfl (wp_skip (then_n (c_seq (wp_block (c_seq (reg_plain w0 (Nobody) ?_)))))))))
 refine r_move hS hH.kp0 rfl rfl (x_indexB (h:=[x0,x1,x2,x3,x4,x5,x6,x7,x8,x9,xa,xb,xc,xd,xe,xf]) (u:=x1) (i:=1) hH.kp0 rfl rfl Fc.uh26 Fc.sc5 Fc.sz1_5 rfl (by decide) rfl rfl (x_assign hH.kp0 rfl rfl (x_assign hH.kp0 rfl rfl ?_))); clear hS; intro a hS
 refine Sq.nil (then_n (reg_plain w0 (Nobody) ?_))
 refine r_move hS hH.kp0 rfl rfl (x_quo hH.kp0 rfl rfl rfl (by decide) (x_move hH.kp0 rfl rfl (x_quo hH.kp0 rfl rfl rfl (by decide) (x_indexAddrA (j:=0) hH.kp0 rfl rfl Fc.ar106 (by rfl) (by decide) rfl (x_load_sc hH (by repeat' constructor) rfl (by repeat' constructor) Fc.sc81 (v:=.int .u64 ((E1 : Nat) : Int)) rfl rfl ?_))))); clear hS; intro a hS
 obtain ⟨q1_,hq1_⟩ : ∃ z,E1 * 2 ^ 8 % 18446744073709551616 = z:=⟨_,rfl⟩
 refine r_shlN (m:=E1) 8 q1_ hS hH.kp0 rfl rfl rfl rfl (by decide) hq1_ (x_move hH.kp0 rfl rfl ?_); clear hS; intro a hS
 refine r_toU64 x1.toNat hS hH.kp0 rfl Fc.ui81 Fc.us5 rfl rfl (by have:=x1.toNat_lt; omega) ?_; clear hS; intro a hS
 obtain ⟨E2,hE2⟩ : ∃ z,q1_ ||| x1.toNat = z:=⟨_,rfl⟩
 refine r_orN (m:=q1_) (m':=x1.toNat) E2 hS hH.kp0 rfl rfl rfl (by rw [←hq1_]; exact Nat.mod_lt _ (by decide)) (by have:=x1.toNat_lt; omega) hE2 ?_; clear hS; intro a hS
 have hsE2 : E2 = stp E1 x1:=by rw [←hE2,←hq1_]; rfl
 refine r_indexAddrA (j:=0) hS hH.kp0 rfl rfl Fc.ar106 (by rfl) (by decide) rfl ?_; clear hS; intro a hS
 refine r_store1 hS hH rfl rfl rfl (by repeat' constructor) (by repeat' constructor) Fc.sz81 (of_decide_eq_true rfl) (.inr (by assumption)) ?_; clear hH; intro w hH
 refine Sq.nil (blk_n (then_n (reg_plain w0 (Nobody) ?_)))
 refine r_add hS hH.kp0 rfl rfl rfl (by omega) (x_move hH.kp0 rfl rfl ?_); clear hS; intro a hS
 refine Sq.nil (then_n ?_)
 refine rnd ?_
 refine c_seq (reg_plain w0 (Nobody) ?_)
 refine r_lss hS hH.kp0 rfl rfl rfl ?_; clear hS; intro a hS
 refine Sq.nil (then_n (c_seq (c_condT hS rfl rfl (wp_skip (then_n (c_seq (wp_block (c_seq (reg_plain w0 (Nobody) ?_)))))))))
 refine r_move hS hH.kp0 rfl rfl (x_indexB (h:=[x0,x1,x2,x3,x4,x5,x6,x7,x8,x9,xa,xb,xc,xd,xe,xf]) (u:=x2) (i:=2) hH.kp0 rfl rfl Fc.uh26 Fc.sc5 Fc.sz1_5 rfl (by decide) rfl rfl (x_assign hH.kp0 rfl rfl (x_assign hH.kp0 rfl rfl ?_))); clear hS; intro a hS
 refine Sq.nil (then_n (reg_plain w0 (Nobody) ?_))
 refine r_move hS hH.kp0 rfl rfl (x_quo hH.kp0 rfl rfl rfl (by decide) (x_move hH.kp0 rfl rfl (x_quo hH.kp0 rfl rfl rfl (by decide) (x_indexAddrA (j:=0) hH.kp0 rfl rfl Fc.ar106 (by rfl) (by decide) rfl (x_load_sc hH (by repeat' constructor) rfl (by repeat' constructor) Fc.sc81 (v:=.int .u64 ((E2 : Nat) : Int)) rfl rfl ?_))))); clear hS; intro a hS
 obtain ⟨q2_,hq2_⟩ : ∃ z,E2 * 2 ^ 8 % 18446744073709551616 = z:=⟨_,rfl⟩
 refine r_shlN (m:=E2) 8 q2_ hS hH.kp0 rfl rfl rfl rfl (by decide) hq2_ (x_move hH.kp0 rfl rfl ?_); clear hS; intro a hS
 refine r_toU64 x2.toNat hS hH.kp0 rfl Fc.ui81 Fc.us5 rfl rfl (by have:=x2.toNat_lt; omega) ?_; clear hS; intro a hS
 obtain ⟨E3,hE3⟩ : ∃ z,q2_ ||| x2.toNat = z:=⟨_,rfl⟩
 refine r_orN (m:=q2_) (m':=x2.toNat) E3 hS hH.kp0 rfl rfl rfl (by rw [←hq2_]; exact Nat.mod_lt _ (by decide)) (by have:=x2.toNat_lt; omega) hE3 ?_; clear hS; intro a hS
 have hsE3 : E3 = stp E2 x2:=by rw [←hE3,←hq2_]; rfl
 refine r_indexAddrA (j:=0) hS hH.kp0 rfl rfl Fc.ar106 (by rfl) (by decide) rfl ?_; clear hS; intro a hS
 refine r_store1 hS hH rfl rfl rfl (by repeat' constructor) (by repeat' constructor) Fc.sz81 (of_decide_eq_true rfl) (.inr (by assumption)) ?_; clear hH; intro w hH
 refine Sq.nil (blk_n (then_n (reg_plain w0 (Nobody) ?_)))
 refine r_add hS hH.kp0 rfl rfl rfl (by omega) (x_move hH.kp0 rfl rfl ?_); clear hS; intro a hS
 refine Sq.nil (then_n ?_)
 refine rnd ?_
 refine c_seq (reg_plain w0 (Nobody) ?_)
 refine r_lss hS hH.kp0 rfl rfl rfl ?_; clear hS; intro a hS
 refine Sq.nil (then_n (c_seq (c_condT hS rfl rfl (wp_skip (then_n (c_seq (wp_block (c_seq (reg_plain w0 (Nobody) ?_)))))))))
 refine r_move hS hH.kp0 rfl rfl (x_indexB (h:=[x0,x1,x2,x3,x4,x5,x6,x7,x8,x9,xa,xb,xc,xd,xe,xf]) (u:=x3) (i:=3) hH.kp0 rfl rfl Fc.uh26 Fc.sc5 Fc.sz1_5 rfl (by decide) rfl rfl (x_assign hH.kp0 rfl rfl (x_assign hH.kp0 rfl rfl ?_))); clear hS; intro a hS
 refine Sq.nil (then_n (reg_plain w0 (Nobody) ?_))
 refine r_move hS hH.kp0 rfl rfl (x_quo hH.kp0 rfl rfl rfl (by decide) (x_move hH.kp0 rfl rfl (x_quo hH.kp0 rfl rfl rfl (by decide) (x_indexAddrA (j:=0) hH.kp0 rfl rfl Fc.ar106 (by rfl) (by decide) rfl (x_load_sc hH (by repeat' constructor) rfl (by repeat' constructor) Fc.sc81 (v:=.int .u64 ((E3 : Nat) : Int)) rfl rfl ?_))))); clear hS; intro a hS
 obtain ⟨q3_,hq3_⟩ : ∃ z,E3 * 2 ^ 8 % 18446744073709551616 = z:=⟨_,rfl⟩
 refine r_shlN (m:=E3) 8 q3_ hS hH.kp0 rfl rfl rfl rfl (by decide) hq3_ (x_move hH.kp0 rfl rfl ?_); clear hS; intro a hS
 refine r_toU64 x3.toNat hS hH.kp0 rfl Fc.ui81 Fc.us5 rfl rfl (by have:=x3.toNat_lt; omega) ?_; clear hS; intro a hS
 obtain ⟨E4,hE4⟩ : ∃ z,q3_ ||| x3.toNat = z:=⟨_,rfl⟩
 refine r_orN (m:=q3_) (m':=x3.toNat) E4 hS hH.kp0 rfl rfl rfl (by rw [←hq3_]; exact Nat.mod_lt _ (by decide)) (by have:=x3.toNat_lt; omega) hE4 ?_; clear hS; intro a hS
 have hsE4 : E4 = stp E3 x3:=by rw [←hE4,←hq3_]; rfl
 refine r_indexAddrA (j:=0) hS hH.kp0 rfl rfl Fc.ar106 (by rfl) (by decide) rfl ?_; clear hS; intro a hS
 refine r_store1 hS hH rfl rfl rfl (by repeat' constructor) (by repeat' constructor) Fc.sz81 (of_decide_eq_true rfl) (.inr (by assumption)) ?_; clear hH; intro w hH
 refine Sq.nil (blk_n (then_n (reg_plain w0 (Nobody) ?_)))
 refine r_add hS hH.kp0 rfl rfl rfl (by omega) (x_move hH.kp0 rfl rfl ?_); clear hS; intro a hS
 refine Sq.nil (then_n ?_)
 refine rnd ?_
 refine c_seq (reg_plain w0 (Nobody) ?_)
 refine r_lss hS hH.kp0 rfl rfl rfl ?_; clear hS; intro a hS
 refine Sq.nil (then_n (c_seq (c_condT hS rfl rfl (wp_skip (then_n (c_seq (wp_block (c_seq (reg_plain w0 (Nobody) ?_)))))))))
 refine r_move hS hH.kp0 rfl rfl (x_indexB (h:=[x0,x1,x2,x3,x4,x5,x6,x7,x8,x9,xa,xb,xc,xd,xe,xf]) (u:=x4) (i:=4) hH.kp0 rfl rfl Fc.uh26 Fc.sc5 Fc.sz1_5 rfl (by decide) rfl rfl (x_assign hH.kp0 rfl rfl (x_assign hH.kp0 rfl rfl ?_))); clear hS; intro a hS
 refine Sq.nil (then_n (reg_plain w0 (Nobody) ?_))
 refine r_move hS hH.kp0 rfl rfl (x_quo hH.kp0 rfl rfl rfl (by decide) (x_move hH.kp0 rfl rfl (x_quo hH.kp0 rfl rfl rfl (by decide) (x_indexAddrA (j:=0) hH.kp0 rfl rfl Fc.ar106 (by rfl) (by decide) rfl (x_load_sc hH (by repeat' constructor) rfl (by repeat' constructor) Fc.sc81 (v:=.int .u64 ((E4 : Nat) : Int)) rfl rfl ?_))))); clear hS; intro a hS
 obtain ⟨q4_,hq4_⟩ : ∃ z,E4 * 2 ^ 8 % 18446744073709551616 = z:=⟨_,rfl⟩
 refine r_shlN (m:=E4) 8 q4_ hS hH.kp0 rfl rfl rfl rfl (by decide) hq4_ (x_move hH.kp0 rfl rfl ?_); clear hS; intro a hS
 refine r_toU64 x4.toNat hS hH.kp0 rfl Fc.ui81 Fc.us5 rfl rfl (by have:=x4.toNat_lt; omega) ?_; clear hS; intro a hS
 obtain ⟨E5,hE5⟩ : ∃ z,q4_ ||| x4.toNat = z:=⟨_,rfl⟩
 refine r_orN (m:=q4_) (m':=x4.toNat) E5 hS hH.kp0 rfl rfl rfl (by rw [←hq4_]; exact Nat.mod_lt _ (by decide)) (by have:=x4.toNat_lt; omega) hE5 ?_; clear hS; intro a hS
 have hsE5 : E5 = stp E4 x4:=by rw [←hE5,←hq4_]; rfl
 refine r_indexAddrA (j:=0) hS hH.kp0 rfl rfl Fc.ar106 (by rfl) (by decide) rfl ?_; clear hS; intro a hS
 refine r_store1 hS hH rfl rfl rfl (by repeat' constructor) (by repeat' constructor) Fc.sz81 (of_decide_eq_true rfl) (.inr (by assumption)) ?_; clear hH; intro w hH
 refine Sq.nil (blk_n (then_n (reg_plain w0 (Nobody) ?_)))
 refine r_add hS hH.kp0 rfl rfl rfl (by omega) (x_move hH.kp0 rfl rfl ?_); clear hS; intro a hS
 refine Sq.nil (then_n ?_)
 refine rnd ?_
 refine c_seq (reg_plain w0 (Nobody) ?_)
 refine r_lss hS hH.kp0 rfl rfl rfl ?_; clear hS; intro a hS
 refine Sq.nil (then_n (c_seq (c_condT hS rfl rfl (wp_skip (then_n (c_seq (wp_block (c_seq (reg_plain w0 (Nobody) ?_)))))))))
 refine r_move hS hH.kp0 rfl rfl (x_indexB (h:=[x0,x1,x2,x3,x4,x5,x6,x7,x8,x9,xa,xb,xc,xd,xe,xf]) (u:=x5) (i:=5) hH.kp0 rfl rfl Fc.uh26 Fc.sc5 Fc.sz1_5 rfl (by decide) rfl rfl (x_assign hH.kp0 rfl rfl (x_assign hH.kp0 rfl rfl ?_))); clear hS; intro a hS
 refine Sq.nil (then_n (reg_plain w0 (Nobody) ?_))
 refine r_move hS hH.kp0 rfl rfl (x_quo hH.kp0 rfl rfl rfl (by decide) (x_move hH.kp0 rfl rfl (x_quo hH.kp0 rfl rfl rfl (by decide) (x_indexAddrA (j:=0) hH.kp0 rfl rfl Fc.ar106 (by rfl) (by decide) rfl (x_load_sc hH (by repeat' constructor) rfl (by repeat' constructor) Fc.sc81 (v:=.int .u64 ((E5 : Nat) : Int)) rfl rfl ?_))))); clear hS; intro a hS
 obtain ⟨q5_,hq5_⟩ : ∃ z,E5 * 2 ^ 8 % 18446744073709551616 = z:=⟨_,rfl⟩
 refine r_shlN (m:=E5) 8 q5_ hS hH.kp0 rfl rfl rfl rfl (by decide) hq5_ (x_move hH.kp0 rfl rfl ?_); clear hS; intro a hS
 refine r_toU64 x5.toNat hS hH.kp0 rfl Fc.ui81 Fc.us5 rfl rfl (by have:=x5.toNat_lt; omega) ?_; clear hS; intro a hS
 obtain ⟨E6,hE6⟩ : ∃ z,q5_ ||| x5.toNat = z:=⟨_,rfl⟩
 refine r_orN (m:=q5_) (m':=x5.toNat) E6 hS hH.kp0 rfl rfl rfl (by rw [←hq5_]; exact Nat.mod_lt _ (by decide)) (by have:=x5.toNat_lt; omega) hE6 ?_; clear hS; intro a hS
 have hsE6 : E6 = stp E5 x5:=by rw [←hE6,←hq5_]; rfl
 refine r_indexAddrA (j:=0) hS hH.kp0 rfl rfl Fc.ar106 (by rfl) (by decide) rfl ?_; clear hS; intro a hS
 refine r_store1 hS hH rfl rfl rfl (by repeat' constructor) (by repeat' constructor) Fc.sz81 (of_decide_eq_true rfl) (.inr (by assumption)) ?_; clear hH; intro w hH
 refine Sq.nil (blk_n (then_n (reg_plain w0 (Nobody) ?_)))
 refine r_add hS hH.kp0 rfl rfl rfl (by omega) (x_move hH.kp0 rfl rfl ?_); clear hS; intro a hS
 refine Sq.nil (then_n ?_)
 refine rnd ?_
 refine c_seq (reg_plain w0 (Nobody) ?_)
 refine r_lss hS hH.kp0 rfl rfl rfl ?_; clear hS; intro a hS
 refine Sq.nil (then_n (c_seq (c_condT hS rfl rfl (wp_skip (then_n (c_seq (wp_block (c_seq (reg_plain w0 (Nobody) ?_)))))))))
 refine r_move hS hH.kp0 rfl rfl (x_indexB (h:=[x0,x1,x2,x3,x4,x5,x6,x7,x8,x9,xa,xb,xc,xd,xe,xf]) (u:=x6) (i:=6) hH.kp0 rfl rfl Fc.uh26 Fc.sc5 Fc.sz1_5 rfl (by decide) rfl rfl (x_assign hH.kp0 rfl rfl (x_assign hH.kp0 rfl rfl ?_))); clear hS; intro a hS
 refine Sq.nil (then_n (reg_plain w0 (Nobody) ?_))
 refine r_move hS hH.kp0 rfl rfl (x_quo hH.kp0 rfl rfl rfl (by decide) (x_move hH.kp0 rfl rfl (x_quo hH.kp0 rfl rfl rfl (by decide) (x_indexAddrA (j:=0) hH.kp0 rfl rfl Fc.ar106 (by rfl) (by decide) rfl (x_load_sc hH (by repeat' constructor) rfl (by repeat' constructor) Fc.sc81 (v:=.int .u64 ((E6 : Nat) : Int)) rfl rfl ?_))))); clear hS; intro a hS
 obtain ⟨q6_,hq6_⟩ : ∃ z,E6 * 2 ^ 8 % 18446744073709551616 = z:=⟨_,rfl⟩
 refine r_shlN (m:=E6) 8 q6_ hS hH.kp0 rfl rfl rfl rfl (by decide) hq6_ (x_move hH.kp0 rfl rfl ?_); clear hS; intro a hS
 refine r_toU64 x6.toNat hS hH.kp0 rfl Fc.ui81 Fc.us5 rfl rfl (by have:=x6.toNat_lt; omega) ?_; clear hS; intro a hS
 obtain ⟨E7,hE7⟩ : ∃ z,q6_ ||| x6.toNat = z:=⟨_,rfl⟩
 refine r_orN (m:=q6_) (m':=x6.toNat) E7 hS hH.kp0 rfl rfl rfl (by rw [←hq6_]; exact Nat.mod_lt _ (by decide)) (by have:=x6.toNat_lt; omega) hE7 ?_; clear hS; intro a hS
 have hsE7 : E7 = stp E6 x6:=by rw [←hE7,←hq6_]; rfl
 refine r_indexAddrA (j:=0) hS hH.kp0 rfl rfl Fc.ar106 (by rfl) (by decide) rfl ?_; clear hS; intro a hS
 refine r_store1 hS hH rfl rfl rfl (by repeat' constructor) (by repeat' constructor) Fc.sz81 (of_decide_eq_true rfl) (.inr (by assumption)) ?_; clear hH; intro w hH
 refine Sq.nil (blk_n (then_n (reg_plain w0 (Nobody) ?_)))
 refine r_add hS hH.kp0 rfl rfl rfl (by omega) (x_move hH.kp0 rfl rfl ?_); clear hS; intro a hS
 refine Sq.nil (then_n ?_)
 refine rnd ?_
 refine c_seq (reg_plain w0 (Nobody) ?_)
 refine r_lss hS hH.kp0 rfl rfl rfl ?_; clear hS; intro a hS
 refine Sq.nil (then_n (c_seq (c_condT hS rfl rfl (wp_skip (then_n (c_seq (wp_block (c_seq (reg_plain w0 (Nobody) ?_)))))))))
 refine r_move hS hH.kp0 rfl rfl (x_indexB (h:=[x0,x1,x2,x3,x4,x5,x6,x7,x8,x9,xa,xb,xc,xd,xe,xf]) (u:=x7) (i:=7) hH.kp0 rfl rfl Fc.uh26 Fc.sc5 Fc.sz1_5 rfl (by decide) rfl rfl (x_assign hH.kp0 rfl rfl (x_assign hH.kp0 rfl rfl ?_))); clear hS; intro a hS
 refine Sq.nil (then_n (reg_plain w0 (Nobody) ?_))
 refine r_move hS hH.kp0 rfl rfl (x_quo hH.kp0 rfl rfl rfl (by decide) (x_move hH.kp0 rfl rfl (x_quo hH.kp0 rfl rfl rfl (by decide) (x_indexAddrA (j:=0) hH.kp0 rfl rfl Fc.ar106 (by rfl) (by decide) rfl (x_load_sc hH (by repeat' constructor) rfl (by repeat' constructor) Fc.sc81 (v:=.int .u64 ((E7 : Nat) : Int)) rfl rfl ?_))))); clear hS; intro a hS
 obtain ⟨q7_,hq7_⟩ : ∃ z,E7 * 2 ^ 8 % 18446744073709551616 = z:=⟨_,rfl⟩
 refine r_shlN (m:=E7) 8 q7_ hS hH.kp0 rfl rfl rfl rfl (by decide) hq7_ (x_move hH.kp0 rfl rfl ?_); clear hS; intro a hS
 refine r_toU64 x7.toNat hS hH.kp0 rfl Fc.ui81 Fc.us5 rfl rfl (by have:=x7.toNat_lt; omega) ?_; clear hS; intro a hS
 obtain ⟨E8,hE8⟩ : ∃ z,q7_ ||| x7.toNat = z:=⟨_,rfl⟩
 refine r_orN (m:=q7_) (m':=x7.toNat) E8 hS hH.kp0 rfl rfl rfl (by rw [←hq7_]; exact Nat.mod_lt _ (by decide)) (by have:=x7.toNat_lt; omega) hE8 ?_; clear hS; intro a hS
 have hsE8 : E8 = stp E7 x7:=by rw [←hE8,←hq7_]; rfl
 refine r_indexAddrA (j:=0) hS hH.kp0 rfl rfl Fc.ar106 (by rfl) (by decide) rfl ?_; clear hS; intro a hS
 refine r_store1 hS hH rfl rfl rfl (by repeat' constructor) (by repeat' constructor) Fc.sz81 (of_decide_eq_true rfl) (.inr (by assumption)) ?_; clear hH; intro w hH
 refine Sq.nil (blk_n (then_n (reg_plain w0 (Nobody) ?_)))
 refine r_add hS hH.kp0 rfl rfl rfl (by omega) (x_move hH.kp0 rfl rfl ?_); clear hS; intro a hS
 refine Sq.nil (then_n ?_)
 refine rnd ?_
 refine c_seq (reg_plain w0 (Nobody) ?_)
 refine r_lss hS hH.kp0 rfl rfl rfl ?_; clear hS; intro a hS
 refine Sq.nil (then_n (c_seq (c_condT hS rfl rfl (wp_skip (then_n (c_seq (wp_block (c_seq (reg_plain w0 (Nobody) ?_)))))))))
 refine r_move hS hH.kp0 rfl rfl (x_indexB (h:=[x0,x1,x2,x3,x4,x5,x6,x7,x8,x9,xa,xb,xc,xd,xe,xf]) (u:=x8) (i:=8) hH.kp0 rfl rfl Fc.uh26 Fc.sc5 Fc.sz1_5 rfl (by decide) rfl rfl (x_assign hH.kp0 rfl rfl (x_assign hH.kp0 rfl rfl ?_))); clear hS; intro a hS
 refine Sq.nil (then_n (reg_plain w0 (Nobody) ?_))
 refine r_move hS hH.kp0 rfl rfl (x_quo hH.kp0 rfl rfl rfl (by decide) (x_move hH.kp0 rfl rfl (x_quo hH.kp0 rfl rfl rfl (by decide) (x_indexAddrA (j:=1) hH.kp0 rfl rfl Fc.ar106 (by rfl) (by decide) rfl (x_load_sc hH (by repeat' constructor) rfl (by repeat' constructor) Fc.sc81 (v:=.int .u64 0) rfl rfl ?_))))); clear hS; intro a hS
 obtain ⟨q8_,hq8_⟩ : ∃ z,0 * 2 ^ 8 % 18446744073709551616 = z:=⟨_,rfl⟩
 refine r_shlN (m:=0) 8 q8_ hS hH.kp0 rfl rfl rfl rfl (by decide) hq8_ (x_move hH.kp0 rfl rfl ?_); clear hS; intro a hS
 refine r_toU64 x8.toNat hS hH.kp0 rfl Fc.ui81 Fc.us5 rfl rfl (by have:=x8.toNat_lt; omega) ?_; clear hS; intro a hS
 obtain ⟨F1,hF1⟩ : ∃ z,q8_ ||| x8.toNat = z:=⟨_,rfl⟩
 refine r_orN (m:=q8_) (m':=x8.toNat) F1 hS hH.kp0 rfl rfl rfl (by rw [←hq8_]; exact Nat.mod_lt _ (by decide)) (by have:=x8.toNat_lt; omega) hF1 ?_; clear hS; intro a hS
 have hsF1 : F1 = stp 0 x8:=by rw [←hF1,←hq8_]; rfl
 refine r_indexAddrA (j:=1) hS hH.kp0 rfl rfl Fc.ar106 (by rfl) (by decide) rfl ?_; clear hS; intro a hS
 refine r_store1 hS hH rfl rfl rfl (by repeat' constructor) (by repeat' constructor) Fc.sz81 (of_decide_eq_true rfl) (.inr (by assumption)) ?_; clear hH; intro w hH
 refine Sq.nil (blk_n (then_n (reg_plain w0 (Nobody) ?_)))
 refine r_add hS hH.kp0 rfl rfl rfl (by omega) (x_move hH.kp0 rfl rfl ?_); clear hS; intro a hS
 refine Sq.nil (then_n ?_)
 refine rnd ?_
 refine c_seq (reg_plain w0 (Nobody) ?_)
 refine r_lss hS hH.kp0 rfl rfl rfl ?_; clear hS; intro a hS
 refine Sq.nil (then_n (c_seq (c_condT hS rfl rfl (wp_skip (then_n (c_seq (wp_block (c_seq (reg_plain w0 (Nobody) ?_)))))))))
 refine r_move hS hH.kp0 rfl rfl (x_indexB (h:=[x0,x1,x2,x3,x4,x5,x6,x7,x8,x9,xa,xb,xc,xd,xe,xf]) (u:=x9) (i:=9) hH.kp0 rfl rfl Fc.uh26 Fc.sc5 Fc.sz1_5 rfl (by decide) rfl rfl (x_assign hH.kp0 rfl rfl (x_assign hH.kp0 rfl rfl ?_))); clear hS; intro a hS
 refine Sq.nil (then_n (reg_plain w0 (Nobody) ?_))
 refine r_move hS hH.kp0 rfl rfl (x_quo hH.kp0 rfl rfl rfl (by decide) (x_move hH.kp0 rfl rfl (x_quo hH.kp0 rfl rfl rfl (by decide) (x_indexAddrA (j:=1) hH.kp0 rfl rfl Fc.ar106 (by rfl) (by decide) rfl (x_load_sc hH (by repeat' constructor) rfl (by repeat' constructor) Fc.sc81 (v:=.int .u64 ((F1 : Nat) : Int)) rfl rfl ?_))))); clear hS; intro a hS
 obtain ⟨q9_,hq9_⟩ : ∃ z,F1 * 2 ^ 8 % 18446744073709551616 = z:=⟨_,rfl⟩
 refine r_shlN (m:=F1) 8 q9_ hS hH.kp0 rfl rfl rfl rfl (by decide) hq9_ (x_move hH.kp0 rfl rfl ?_); clear hS; intro a hS
 refine r_toU64 x9.toNat hS hH.kp0 rfl Fc.ui81 Fc.us5 rfl rfl (by have:=x9.toNat_lt; omega) ?_; clear hS; intro a hS
 obtain ⟨F2,hF2⟩ : ∃ z,q9_ ||| x9.toNat = z:=⟨_,rfl⟩
 refine r_orN (m:=q9_) (m':=x9.toNat) F2 hS hH.kp0 rfl rfl rfl (by rw [←hq9_]; exact Nat.mod_lt _ (by decide)) (by have:=x9.toNat_lt; omega) hF2 ?_; clear hS; intro a hS
 have hsF2 : F2 = stp F1 x9:=by rw [←hF2,←hq9_]; rfl
 refine r_indexAddrA (j:=1) hS hH.kp0 rfl rfl Fc.ar106 (by rfl) (by decide) rfl ?_; clear hS; intro a hS
 refine r_store1 hS hH rfl rfl rfl (by repeat' constructor) (by repeat' constructor) Fc.sz81 (of_decide_eq_true rfl) (.inr (by assumption)) ?_; clear hH; intro w hH
 refine Sq.nil (blk_n (then_n (reg_plain w0 (Nobody) ?_)))
 refine r_add hS hH.kp0 rfl rfl rfl (by omega) (x_move hH.kp0 rfl rfl ?_); clear hS; intro a hS
 refine Sq.nil (then_n ?_)
 refine rnd ?_
 refine c_seq (reg_plain w0 (Nobody) ?_)
 refine r_lss hS hH.kp0 rfl rfl rfl ?_; clear hS; intro a hS
 refine Sq.nil (then_n (c_seq (c_condT hS rfl rfl (wp_skip (then_n (c_seq (wp_block (c_seq (reg_plain w0 (Nobody) ?_)))))))))
 refine r_move hS hH.kp0 rfl rfl (x_indexB (h:=[x0,x1,x2,x3,x4,x5,x6,x7,x8,x9,xa,xb,xc,xd,xe,xf]) (u:=xa) (i:=10) hH.kp0 rfl rfl Fc.uh26 Fc.sc5 Fc.sz1_5 rfl (by decide) rfl rfl (x_assign hH.kp0 rfl rfl (x_assign hH.kp0 rfl rfl ?_))); clear hS; intro a hS
 refine Sq.nil (then_n (reg_plain w0 (Nobody) ?_))
 refine r_move hS hH.kp0 rfl rfl (x_quo hH.kp0 rfl rfl rfl (by decide) (x_move hH.kp0 rfl rfl (x_quo hH.kp0 rfl rfl rfl (by decide) (x_indexAddrA (j:=1) hH.kp0 rfl rfl Fc.ar106 (by rfl) (by decide) rfl (x_load_sc hH (by repeat' constructor) rfl (by repeat' constructor) Fc.sc81 (v:=.int .u64 ((F2 : Nat) : Int)) rfl rfl ?_))))); clear hS; intro a hS
 obtain ⟨q10_,hq10_⟩ : ∃ z,F2 * 2 ^ 8 % 18446744073709551616 = z:=⟨_,rfl⟩
 refine r_shlN (m:=F2) 8 q10_ hS hH.kp0 rfl rfl rfl rfl (by decide) hq10_ (x_move hH.kp0 rfl rfl ?_); clear hS; intro a hS
 refine r_toU64 xa.toNat hS hH.kp0 rfl Fc.ui81 Fc.us5 rfl rfl (by have:=xa.toNat_lt; omega) ?_; clear hS; intro a hS
 obtain ⟨F3,hF3⟩ : ∃ z,q10_ ||| xa.toNat = z:=⟨_,rfl⟩
 refine r_orN (m:=q10_) (m':=xa.toNat) F3 hS hH.kp0 rfl rfl rfl (by rw [←hq10_]; exact Nat.mod_lt _ (by decide)) (by have:=xa.toNat_lt; omega) hF3 ?_; clear hS; intro a hS
 have hsF3 : F3 = stp F2 xa:=by rw [←hF3,←hq10_]; rfl
 refine r_indexAddrA (j:=1) hS hH.kp0 rfl rfl Fc.ar106 (by rfl) (by decide) rfl ?_; clear hS; intro a hS
 refine r_store1 hS hH rfl rfl rfl (by repeat' constructor) (by repeat' constructor) Fc.sz81 (of_decide_eq_true rfl) (.inr (by assumption)) ?_; clear hH; intro w hH
 refine Sq.nil (blk_n (then_n (reg_plain w0 (Nobody) ?_)))
 refine r_add hS hH.kp0 rfl rfl rfl (by omega) (x_move hH.kp0 rfl rfl ?_); clear hS; intro a hS
 refine Sq.nil (then_n ?_)
 refine rnd ?_
 refine c_seq (reg_plain w0 (Nobody) ?_)
 refine r_lss hS hH.kp0 rfl rfl rfl ?_; clear hS; intro a hS
 refine Sq.nil (then_n (c_seq (c_condT hS rfl rfl (wp_skip (then_n (c_seq (wp_block (c_seq (reg_plain w0 (Nobody) ?_)))))))))
 refine r_move hS hH.kp0 rfl rfl (x_indexB (h:=[x0,x1,x2,x3,x4,x5,x6,x7,x8,x9,xa,xb,xc,xd,xe,xf]) (u:=xb) (i:=11) hH.kp0 rfl rfl Fc.uh26 Fc.sc5 Fc.sz1_5 rfl (by decide) rfl rfl (x_assign hH.kp0 rfl rfl (x_assign hH.kp0 rfl rfl ?_))); clear hS; intro a hS
 refine Sq.nil (then_n (reg_plain w0 (Nobody) ?_))
 refine r_move hS hH.kp0 rfl rfl (x_quo hH.kp0 rfl rfl rfl (by decide) (x_move hH.kp0 rfl rfl (x_quo hH.kp0 rfl rfl rfl (by decide) (x_indexAddrA (j:=1) hH.kp0 rfl rfl Fc.ar106 (by rfl) (by decide) rfl (x_load_sc hH (by repeat' constructor) rfl (by repeat' constructor) Fc.sc81 (v:=.int .u64 ((F3 : Nat) : Int)) rfl rfl ?_))))); clear hS; intro a hS
 obtain ⟨q11_,hq11_⟩ : ∃ z,F3 * 2 ^ 8 % 18446744073709551616 = z:=⟨_,rfl⟩
 refine r_shlN (m:=F3) 8 q11_ hS hH.kp0 rfl rfl rfl rfl (by decide) hq11_ (x_move hH.kp0 rfl rfl ?_); clear hS; intro a hS
 refine r_toU64 xb.toNat hS hH.kp0 rfl Fc.ui81 Fc.us5 rfl rfl (by have:=xb.toNat_lt; omega) ?_; clear hS; intro a hS
 obtain ⟨F4,hF4⟩ : ∃ z,q11_ ||| xb.toNat = z:=⟨_,rfl⟩
 refine r_orN (m:=q11_) (m':=xb.toNat) F4 hS hH.kp0 rfl rfl rfl (by rw [←hq11_]; exact Nat.mod_lt _ (by decide)) (by have:=xb.toNat_lt; omega) hF4 ?_; clear hS; intro a hS
 have hsF4 : F4 = stp F3 xb:=by rw [←hF4,←hq11_]; rfl
 refine r_indexAddrA (j:=1) hS hH.kp0 rfl rfl Fc.ar106 (by rfl) (by decide) rfl ?_; clear hS; intro a hS
 refine r_store1 hS hH rfl rfl rfl (by repeat' constructor) (by repeat' constructor) Fc.sz81 (of_decide_eq_true rfl) (.inr (by assumption)) ?_; clear hH; intro w hH
 refine Sq.nil (blk_n (then_n (reg_plain w0 (Nobody) ?_)))
 refine r_add hS hH.kp0 rfl rfl rfl (by omega) (x_move hH.kp0 rfl rfl ?_); clear hS; intro a hS
 refine Sq.nil (then_n ?_)
 refine rnd ?_
 refine c_seq (reg_plain w0 (Nobody) ?_)
 refine r_lss hS hH.kp0 rfl rfl rfl ?_; clear hS; intro a hS
 refine Sq.nil (then_n (c_seq (c_condT hS rfl rfl (wp_skip (then_n (c_seq (wp_block (c_seq (reg_plain w0 (Nobody) ?_)))))))))
 refine r_move hS hH.kp0 rfl rfl (x_indexB (h:=[x0,x1,x2,x3,x4,x5,x6,x7,x8,x9,xa,xb,xc,xd,xe,xf]) (u:=xc) (i:=12) hH.kp0 rfl rfl Fc.uh26 Fc.sc5 Fc.sz1_5 rfl (by decide) rfl rfl (x_assign hH.kp0 rfl rfl (x_assign hH.kp0 rfl rfl ?_))); clear hS; intro a hS
 refine Sq.nil (then_n (reg_plain w0 (Nobody) ?_))
 refine r_move hS hH.kp0 rfl rfl (x_quo hH.kp0 rfl rfl rfl (by decide) (x_move hH.kp0 rfl rfl (x_quo hH.kp0 rfl rfl rfl (by decide) (x_indexAddrA (j:=1) hH.kp0 rfl rfl Fc.ar106 (by rfl) (by decide) rfl (x_load_sc hH (by repeat' constructor) rfl (by repeat' constructor) Fc.sc81 (v:=.int .u64 ((F4 : Nat) : Int)) rfl rfl ?_))))); clear hS; intro a hS
 obtain ⟨q12_,hq12_⟩ : ∃ z,F4 * 2 ^ 8 % 18446744073709551616 = z:=⟨_,rfl⟩
 refine r_shlN (m:=F4) 8 q12_ hS hH.kp0 rfl rfl rfl rfl (by decide) hq12_ (x_move hH.kp0 rfl rfl ?_); clear hS; intro a hS
 refine r_toU64 xc.toNat hS hH.kp0 rfl Fc.ui81 Fc.us5 rfl rfl (by have:=xc.toNat_lt; omega) ?_; clear hS; intro a hS
 obtain ⟨F5,hF5⟩ : ∃ z,q12_ ||| xc.toNat = z:=⟨_,rfl⟩
 refine r_orN (m:=q12_) (m':=xc.toNat) F5 hS hH.kp0 rfl rfl rfl (by rw [←hq12_]; exact Nat.mod_lt _ (by decide)) (by have:=xc.toNat_lt; omega) hF5 ?_; clear hS; intro a hS
 have hsF5 : F5 = stp F4 xc:=by rw [←hF5,←hq12_]; rfl
 refine r_indexAddrA (j:=1) hS hH.kp0 rfl rfl Fc.ar106 (by rfl) (by decide) rfl ?_; clear hS; intro a hS
 refine r_store1 hS hH rfl rfl rfl (by repeat' constructor) (by repeat' constructor) Fc.sz81 (of_decide_eq_true rfl) (.inr (by assumption)) ?_; clear hH; intro w hH
 refine Sq.nil (blk_n (then_n (reg_plain w0 (Nobody) ?_)))
 refine r_add hS hH.kp0 rfl rfl rfl (by omega) (x_move hH.kp0 rfl rfl ?_); clear hS; intro a hS
 refine Sq.nil (then_n ?_)
 refine rnd ?_
 refine c_seq (reg_plain w0 (Nobody) ?_)
 refine r_lss hS hH.kp0 rfl rfl rfl ?_; clear hS; intro a hS
 refine Sq.nil (then_n (c_seq (c_condT hS rfl rfl (wp_skip (then_n (c_seq (wp_block (c_seq (reg_plain w0 (Nobody) ?_)))))))))
 refine r_move hS hH.kp0 rfl rfl (x_indexB (h:=[x0,x1,x2,x3,x4,x5,x6,x7,x8,x9,xa,xb,xc,xd,xe,xf]) (u:=xd) (i:=13) hH.kp0 rfl rfl Fc.uh26 Fc.sc5 Fc.sz1_5 rfl (by decide) rfl rfl (x_assign hH.kp0 rfl rfl (x_assign hH.kp0 rfl rfl ?_))); clear hS; intro a hS
 refine Sq.nil (then_n (reg_plain w0 (Nobody) ?_))
 refine r_move hS hH.kp0 rfl rfl (x_quo hH.kp0 rfl rfl rfl (by decide) (x_move hH.kp0 rfl rfl (x_quo hH.kp0 rfl rfl rfl (by decide) (x_indexAddrA (j:=1) hH.kp0 rfl rfl Fc.ar106 (by rfl) (by decide) rfl (x_load_sc hH (by repeat' constructor) rfl (by repeat' constructor) Fc.sc81 (v:=.int .u64 ((F5 : Nat) : Int)) rfl rfl ?_))))); clear hS; intro a hS
 obtain ⟨q13_,hq13_⟩ : ∃ z,F5 * 2 ^ 8 % 18446744073709551616 = z:=⟨_,rfl⟩
 refine r_shlN (m:=F5) 8 q13_ hS hH.kp0 rfl rfl rfl rfl (by decide) hq13_ (x_move hH.kp0 rfl rfl ?_); clear hS; intro a hS
 refine r_toU64 xd.toNat hS hH.kp0 rfl Fc.ui81 Fc.us5 rfl rfl (by have:=xd.toNat_lt; omega) ?_; clear hS; intro a hS
 obtain ⟨F6,hF6⟩ : ∃ z,q13_ ||| xd.toNat = z:=⟨_,rfl⟩
 refine r_orN (m:=q13_) (m':=xd.toNat) F6 hS hH.kp0 rfl rfl rfl (by rw [←hq13_]; exact Nat.mod_lt _ (by decide)) (by have:=xd.toNat_lt; omega) hF6 ?_; clear hS; intro a hS
 have hsF6 : F6 = stp F5 xd:=by rw [←hF6,←hq13_]; rfl
 refine r_indexAddrA (j:=1) hS hH.kp0 rfl rfl Fc.ar106 (by rfl) (by decide) rfl ?_; clear hS; intro a hS
 refine r_store1 hS hH rfl rfl rfl (by repeat' constructor) (by repeat' constructor) Fc.sz81 (of_decide_eq_true rfl) (.inr (by assumption)) ?_; clear hH; intro w hH
 refine Sq.nil (blk_n (then_n (reg_plain w0 (Nobody) ?_)))
 refine r_add hS hH.kp0 rfl rfl rfl (by omega) (x_move hH.kp0 rfl rfl ?_); clear hS; intro a hS
 refine Sq.nil (then_n ?_)
 refine rnd ?_
 refine c_seq (reg_plain w0 (Nobody) ?_)
 refine r_lss hS hH.kp0 rfl rfl rfl ?_; clear hS; intro a hS
 refine Sq.nil (then_n (c_seq (c_condT hS rfl rfl (wp_skip (then_n (c_seq (wp_block (c_seq (reg_plain w0 (Nobody) ?_)))))))))
 refine r_move hS hH.kp0 rfl rfl (x_indexB (h:=[x0,x1,x2,x3,x4,x5,x6,x7,x8,x9,xa,xb,xc,xd,xe,xf]) (u:=xe) (i:=14) hH.kp0 rfl rfl Fc.uh26 Fc.sc5 Fc.sz1_5 rfl (by decide) rfl rfl (x_assign hH.kp0 rfl rfl (x_assign hH.kp0 rfl rfl ?_))); clear hS; intro a hS
 refine Sq.nil (then_n (reg_plain w0 (Nobody) ?_))
 refine r_move hS hH.kp0 rfl rfl (x_quo hH.kp0 rfl rfl rfl (by decide) (x_move hH.kp0 rfl rfl (x_quo hH.kp0 rfl rfl rfl (by decide) (x_indexAddrA (j:=1) hH.kp0 rfl rfl Fc.ar106 (by rfl) (by decide) rfl (x_load_sc hH (by repeat' constructor) rfl (by repeat' constructor) Fc.sc81 (v:=.int .u64 ((F6 : Nat) : Int)) rfl rfl ?_))))); clear hS; intro a hS
 obtain ⟨q14_,hq14_⟩ : ∃ z,F6 * 2 ^ 8 % 18446744073709551616 = z:=⟨_,rfl⟩
 refine r_shlN (m:=F6) 8 q14_ hS hH.kp0 rfl rfl rfl rfl (by decide) hq14_ (x_move hH.kp0 rfl rfl ?_); clear hS; intro a hS
 refine r_toU64 xe.toNat hS hH.kp0 rfl Fc.ui81 Fc.us5 rfl rfl (by have:=xe.toNat_lt; omega) ?_; clear hS; intro a hS
 obtain ⟨F7,hF7⟩ : ∃ z,q14_ ||| xe.toNat = z:=⟨_,rfl⟩
 refine r_orN (m:=q14_) (m':=xe.toNat) F7 hS hH.kp0 rfl rfl rfl (by rw [←hq14_]; exact Nat.mod_lt _ (by decide)) (by have:=xe.toNat_lt; omega) hF7 ?_; clear hS; intro a hS
 have hsF7 : F7 = stp F6 xe:=by rw [←hF7,←hq14_]; rfl
 refine r_indexAddrA (j:=1) hS hH.kp0 rfl rfl Fc.ar106 (by rfl) (by decide) rfl ?_; clear hS; intro a hS
 refine r_store1 hS hH rfl rfl rfl (by repeat' constructor) (by repeat' constructor) Fc.sz81 (of_decide_eq_true rfl) (.inr (by assumption)) ?_; clear hH; intro w hH
 refine Sq.nil (blk_n (then_n (reg_plain w0 (Nobody) ?_)))
 refine r_add hS hH.kp0 rfl rfl rfl (by omega) (x_move hH.kp0 rfl rfl ?_); clear hS; intro a hS
 refine Sq.nil (then_n ?_)
 refine rnd ?_
 refine c_seq (reg_plain w0 (Nobody) ?_)
 refine r_lss hS hH.kp0 rfl rfl rfl ?_; clear hS; intro a hS
 refine Sq.nil (then_n (c_seq (c_condT hS rfl rfl (wp_skip (then_n (c_seq (wp_block (c_seq (reg_plain w0 (Nobody) ?_)))))))))
 refine r_move hS hH.kp0 rfl rfl (x_indexB (h:=[x0,x1,x2,x3,x4,x5,x6,x7,x8,x9,xa,xb,xc,xd,xe,xf]) (u:=xf) (i:=15) hH.kp0 rfl rfl Fc.uh26 Fc.sc5 Fc.sz1_5 rfl (by decide) rfl rfl (x_assign hH.kp0 rfl rfl (x_assign hH.kp0 rfl rfl ?_))); clear hS; intro a hS
 refine Sq.nil (then_n (reg_plain w0 (Nobody) ?_))
 refine r_move hS hH.kp0 rfl rfl (x_quo hH.kp0 rfl rfl rfl (by decide) (x_move hH.kp0 rfl rfl (x_quo hH.kp0 rfl rfl rfl (by decide) (x_indexAddrA (j:=1) hH.kp0 rfl rfl Fc.ar106 (by rfl) (by decide) rfl (x_load_sc hH (by repeat' constructor) rfl (by repeat' constructor) Fc.sc81 (v:=.int .u64 ((F7 : Nat) : Int)) rfl rfl ?_))))); clear hS; intro a hS
 obtain ⟨q15_,hq15_⟩ : ∃ z,F7 * 2 ^ 8 % 18446744073709551616 = z:=⟨_,rfl⟩
 refine r_shlN (m:=F7) 8 q15_ hS hH.kp0 rfl rfl rfl rfl (by decide) hq15_ (x_move hH.kp0 rfl rfl ?_); clear hS; intro a hS
 refine r_toU64 xf.toNat hS hH.kp0 rfl Fc.ui81 Fc.us5 rfl rfl (by have:=xf.toNat_lt; omega) ?_; clear hS; intro a hS
 obtain ⟨F8,hF8⟩ : ∃ z,q15_ ||| xf.toNat = z:=⟨_,rfl⟩
 refine r_orN (m:=q15_) (m':=xf.toNat) F8 hS hH.kp0 rfl rfl rfl (by rw [←hq15_]; exact Nat.mod_lt _ (by decide)) (by have:=xf.toNat_lt; omega) hF8 ?_; clear hS; intro a hS
 have hsF8 : F8 = stp F7 xf:=by rw [←hF8,←hq15_]; rfl
 refine r_indexAddrA (j:=1) hS hH.kp0 rfl rfl Fc.ar106 (by rfl) (by decide) rfl ?_; clear hS; intro a hS
 refine r_store1 hS hH rfl rfl rfl (by repeat' constructor) (by repeat' constructor) Fc.sz81 (of_decide_eq_true rfl) (.inr (by assumption)) ?_; clear hH; intro w hH
 refine Sq.nil (blk_n (then_n (reg_plain w0 (Nobody) ?_)))
 refine r_add hS hH.kp0 rfl rfl rfl (by omega) (x_move hH.kp0 rfl rfl ?_); clear hS; intro a hS
 refine Sq.nil (then_n ?_)
 refine rnd ?_
 refine c_seq (reg_plain w0 (Nobody) ?_)
 refine r_lss hS hH.kp0 rfl rfl rfl ?_; clear hS; intro a hS
 refine Sq.nil (then_n (c_seq (c_condF hS rfl rfl (wp_exit (then_e (then_e (blk_hit (then_n (c_seq (reg_plain w0 (Nobody) ?_))))))))))
 refine r_indexAddrA hS hH.kp0 rfl rfl Fc.ar106 rfl (by decide) rfl (x_load_sc hH (by repeat' constructor) rfl (by repeat' constructor) Fc.sc81 (v:=.int .u64 ((E8 : Nat) : Int)) rfl rfl ?_); clear hS; intro a hS
 refine r_call (l:=[.tmp 25]) hS rfl rfl Fc.fn58 rfl ?_
 refine Calls.mono (unmix_c E8 (by rw [hsE8]; exact stp_lt _ _) _) ?_
 rintro e w1 ⟨rfl,hE⟩
 obtain ⟨U,hU⟩ : ∃ z,z = unmixN E8:=⟨_,rfl⟩
 rw [←hU]
 replace hH:=hH.ext hE
 refine ⟨_,rfl,hH.kp0,?_⟩
 clear hS; intro a hS
 refine r_assign hS hH.kp0 rfl rfl ?_; clear hS; intro a hS
 refine Sq.nil (then_n (c_seq ?_))
 refine reg_draw [(true,0,[]),(true,1,[]),(true,2,[]),(true,3,[]),(true,4,[]),(true,5,[]),(true,7,[]),(true,8,[]),(false,6,[]),(true,9,[]),(true,10,[]),(true,11,[])] Fc.mixed (by kernel_rfl) (by kernel_rfl) (by kernel_rfl) (by kernel_rfl) (by kernel_rfl) (by repeat (first | with_reducible exact steady_body | with_reducible apply steady_block | with_reducible apply steady_then | exact steady_body)) hH ?_
 replace hH:=hH.drew
 refine r_move hS trivial rfl rfl (x_rem trivial rfl rfl rfl (by first | decide | omega) (x_eql trivial rfl rfl rfl ?_)); clear hS; intro a hS
 rcases hb : (U % 2 == 0) with _ | _
 ·have hb2 : (Int.tmod ((U : Nat) : Int) 2 == 0) = false:=by rw [show Int.tmod ((U : Nat) : Int) 2 = ((U % 2 : Nat) : Int) from rfl]; exact (int_beq _ 0).trans hb
  refine r_move hS trivial rfl rfl (Sq.xguardNo rfl rfl hb2 trivial rfl (Sq.xguardNo rfl rfl hb2 trivial rfl (Sq.xguardNo rfl rfl hb2 trivial rfl (Sq.xguardNo rfl rfl hb2 trivial rfl (Sq.xguardNo rfl rfl hb2 (hH.kp (by repeat' constructor)) rfl (Sq.xguardNo rfl rfl hb2 trivial rfl (x_pickF trivial rfl hb2 rfl rfl (x_assign trivial rfl rfl ?_)))))))); clear hS; intro a hS
  refine Sq.nil (then_n (wp_ret ?_))
  have hf0 : hv ([x0,x1,x2,x3,x4,x5,x6,x7,x8,x9,xa,xb,xc,xd,xe,xf].take 8) = E8:=by rw [hsE8,hsE7,hsE6,hsE5,hsE4,hsE3,hsE2,hsE1]; rfl
  have hf1 : hv ([x0,x1,x2,x3,x4,x5,x6,x7,x8,x9,xa,xb,xc,xd,xe,xf].drop 8) = F8:=by rw [hsF8,hsF7,hsF6,hsF5,hsF4,hsF3,hsF2,hsF1]; rfl
  exact leave (.inl rfl) hS rfl (Res.tmp rfl Res.nil) ⟨_,rfl,by unfold isNameF; rw [hf0,hf1,←hU,hb]; rfl,hH.mod⟩
 ·have hb2 : (Int.tmod ((U : Nat) : Int) 2 == 0) = true:=by rw [show Int.tmod ((U : Nat) : Int) 2 = ((U % 2 : Nat) : Int) from rfl]; exact (int_beq _ 0).trans hb
  refine r_move hS trivial rfl rfl (Sq.xguardYes rfl rfl hb2 (x_move trivial rfl rfl (Sq.xguardYes rfl rfl hb2 ?_))); clear hS; intro a hS
  obtain ⟨U1,hU1⟩ : ∃ z,(U + 1) % 18446744073709551616 = z:=⟨_,rfl⟩
  refine r_addN (m:=U) (m':=1) U1 hS trivial rfl rfl rfl hU1 (Sq.xguardYes rfl rfl hb2 (x_indexAddrA trivial rfl rfl Fc.ar106 rfl (by decide) rfl (Sq.xguardYes rfl rfl hb2 (x_load_scS rfl (by repeat' constructor) Fc.sc81 (v:=.int .u64 ((F8 : Nat) : Int)) rfl rfl (Sq.xguardYes rfl rfl hb2 ?_))))); clear hS; intro a hS
  refine r_call (l:=[.tmp 32]) hS rfl rfl Fc.fn59 rfl ?_
  refine Calls.mono (mix_c U1 _) ?_
  rintro e w1 ⟨rfl,hE⟩
  obtain ⟨Wm,hWm⟩ : ∃ z,z = mixN U1:=⟨_,rfl⟩
  rw [←hWm]
  replace hH:=hH.ext hE
  refine ⟨_,rfl,hH.kp (by repeat' constructor),?_⟩
  clear hS; intro a hS
  refine Sq.guardYes hS rfl rfl hb2 (r_eql hS trivial rfl rfl rfl (x_pickT trivial rfl hb2 rfl rfl (x_assign trivial rfl rfl ?_))); clear hS; intro a hS
  refine Sq.nil (then_n (wp_ret ?_))
  have hf0 : hv ([x0,x1,x2,x3,x4,x5,x6,x7,x8,x9,xa,xb,xc,xd,xe,xf].take 8) = E8:=by rw [hsE8,hsE7,hsE6,hsE5,hsE4,hsE3,hsE2,hsE1]; rfl
  have hf1 : hv ([x0,x1,x2,x3,x4,x5,x6,x7,x8,x9,xa,xb,xc,xd,xe,xf].drop 8) = F8:=by rw [hsF8,hsF7,hsF6,hsF5,hsF4,hsF3,hsF2,hsF1]; rfl
  exact leave (.inl rfl) hS rfl (Res.tmp rfl Res.nil) ⟨_,rfl,by unfold isNameF; rw [hf0,hf1,←hU,hb,hU1,←hWm]; exact int_beq _ _,hH.mod⟩

end Go.Proofs.YtcjmehononbadaaDoor
namespace Go.Proofs.YtcjmehononbadaaDoor
open Go.Sym


set_option maxRecDepth 100000 in
set_option maxHeartbeats 4000000 in
theorem Hidden7_v (b : Nat) (V : VB) (ts : List Tm) (hm : ts.length≤1000000000) (hwf : Wf6 ts) (hpos : 0 < ts.length) (v sv : Value) (l : List UInt8) (hl : l.length≤1099511627776) (ls : List (List UInt8)) (hll : ∀ l∈ls,l.length≤1099511627776) (hls2 : ls.length≤1048576) (w0 : World) (hvi : VI w0 b V ts) (hb : Bs w0 v l) (hss : SlG Nobody w0 sv ls) : Calls Tryd.prog 11 #[.pointer (some ⟨b,0,none⟩),v,sv] w0 fun e w' => ∃ r K,e = .returned (.bool r)∧Knows6 ts ls K∧HidR7 ts K l r∧Ext w0 w':=by
 refine enter Tryd.func11 rfl rfl rfl ?_
 intro a hS
 have hH:=Hp.start w0 (Nobody)
 obtain ⟨q,qc,hsl⟩:=hb
 have hb : Bs w0 v l:=⟨q,qc,hsl⟩
 have hv9:=hsl.val
 subst hv9
 obtain ⟨g2,hm2,hf2⟩:=hvi.ok.names
 replace hH:=hH.knowV hvi (by intro p hp; simp at hp)
 refine c_seq (reg_plain w0 (Nobody) ?_)
 refine r_assign hS hH.kp0 rfl rfl ?_; clear hS; intro a hS
 refine Sq.nil (then_n (c_seq (c_seq (reg_plain w0 (Nobody) ?_))))
 refine r_move hS hH.kp0 rfl rfl ?_; clear hS; intro a hS
 refine r_call (l:=[.tmp 12]) hS rfl rfl Fc.fn24 rfl ?_
 refine Calls.mono (none_v b V ts _ (hH.vin hvi.ok hvi.n01 hvi.n23 (by repeat' constructor) (by repeat' constructor) (by repeat' constructor) (by repeat' constructor))) ?_
 rintro e w1 ⟨rfl,hE⟩
 replace hH:=hH.ext hE
 refine ⟨_,rfl,hH.kp0,?_⟩
 clear hS; intro a hS
 refine Sq.nil (then_n (c_condF hS rfl rfl (wp_skip (then_n (c_seq (reg_plain w0 (Nobody) ?_))))))
 refine r_move hS hH.kp0 rfl rfl (x_move hH.kp0 rfl rfl ?_); clear hS; intro a hS
 refine r_call (l:=[.tmp 14,.tmp 15]) hS rfl rfl Fc.fn26 rfl ?_
 refine Calls.mono (knows6_v b V ts hm hwf hpos sv ls hll hls2 _ (hH.vin hvi.ok hvi.n01 hvi.n23 (by repeat' constructor) (by repeat' constructor) (by repeat' constructor) (by repeat' constructor)) (hss.go hH.mod (fun _ h => h.elim))) ?_
 rintro e w1 ⟨bs,bk,K,tdv,rfl,hbs1,hbk1,hKN,hE,hbs,hbk⟩
 have hlt:=fun (p : Nat × Obj) hp => lt_of_block (hH.blk p hp)
 have hsz:=hH.mod.size
 have hbs0:=Nat.le_trans hsz hbs
 have hbk0:=Nat.le_trans hsz hbk
 have nbk : bs≠bk:=by intro e; rw [e,hbk1] at hbs1; simp at hbs1
 replace hH:=((hH.ext hE).know hbk1 (fun p hp e => by have h1:=hlt p hp; omega)).know hbs1 (by intro p hp; rcases List.mem_cons.1 hp with rfl | hp; exact Ne.symm nbk; exact fun e => by have h1:=hlt p hp; omega)
 refine ⟨_,rfl,hH.kp0,?_⟩
 clear hS; intro a hS
 refine r_assign hS hH.kp0 rfl rfl ?_; clear hS; intro a hS
 refine Sq.nil (then_n (c_seq (c_seq (reg_plain w0 (Nobody) ?_))))
 refine r_assign hS hH.kp0 rfl rfl ?_; clear hS; intro a hS
 refine Sq.nil (then_n (wp_block ?_))
 refine c_loop (fun m a w => ∃ (i : Nat) (ii : Int),m + i = l.length∧ii = i∧Bare7 ts K l i∧St 59 (lv [(0,.pointer (some ⟨b,0,none⟩)),(1,.slice q l.length qc),(7,.pointer (some ⟨bs,0,none⟩)),(8,.int .i64 ii)]) a∧Hp w0 Nobody [(bs,.cells [.pointer (some ⟨b,0,none⟩),.slice (some ⟨bk,0,none⟩) ts.length ts.length,tdv].toArray 71 (0,0)),(bk,.cells (bools K).toArray 4 (0,0)),(b,.cells (V.top ts.length).toArray 41 (0,0)),(V.sb,.cells V.l.toArray 64 (0,0)),(V.fb,.map V.es V.c),(V.nb,.map V.es' V.c')] w) (l.length) ?_ ?_
 ·exact ⟨0,_,by omega,rfl,fun z hz => by omega,hS.live ⟨rfl,rfl,rfl,rfl,trivial⟩,hH⟩
 clear hS hH; intro m a w hI; obtain ⟨i,ii,hmi,hii,hB,hS,hH⟩:=hI
 refine c_seq (c_seq (reg_plain w0 (Nobody) ?_))
 refine r_move hS hH.kp0 rfl rfl (x_add hH.kp0 rfl rfl rfl (by omega) (x_move hH.kp0 rfl rfl (x_lenSl hH.kp0 rfl Fc.isSlice22 rfl (x_leq hH.kp0 rfl rfl rfl ?_)))); clear hS; intro a hS
 refine Sq.nil (then_n ?_)
 refine c_cond hS rfl (fun hc1 => ?_) (fun hc1 => ?_)
 ·have hlt:=of_decide_eq_true hc1
  obtain ⟨ba,bo,hq⟩:=hsl.addr (by omega)
  subst hq
  have hcl:=fun w k => hb.f.cells16 i w k
  have hsle:=hsl.le
  obtain ⟨g,hg⟩ : ∃ g,g = (l.drop i).take 16:=⟨_,rfl⟩
  rw [←hg] at hcl
  have hg16 : g.length = 16:=by rw [hg]; simp; omega
  obtain ⟨g0,g1,g2,g3,g4,g5,g6,g7,g8,g9,ga,gb,gc,gd,ge,gf,rfl⟩:=len16 hg16
  obtain ⟨n0,th,e1,e2,hcase⟩:=hf2.look2 [g0,g1,g2,g3,g4,g5,g6,g7,g8,g9,ga,gb,gc,gd,ge,gf]
  refine wp_skip (then_n (c_seq (wp_block (c_seq (reg_plain w0 (Nobody) ?_)))))
  refine r_move hS hH.kp0 rfl rfl (x_move hH.kp0 rfl rfl (x_move hH.kp0 rfl rfl (x_add hH.kp0 rfl rfl rfl (by omega) (x_slLoHi (ll:=i) (hh:=i + 16) hH.kp0 rfl rfl rfl Fc.slb22 hii (by omega) (by omega) (by omega) rfl ?_)))); clear hS; intro a hS
  rw [if_neg (show ¬ qc = i by omega)] at hS
  refine r_toArr hS hH.kp0 rfl Fc.ar26 (by omega) rfl (x_load_cells (l:=hcells [g0,g1,g2,g3,g4,g5,g6,g7,g8,g9,ga,gb,gc,gd,ge,gf]) hH.kp0 rfl Fc.ag26 rfl (hcl _ hH.mod) rfl ?_); clear hS; intro a hS
  refine r_alloc hS hH (by repeat' constructor) Fc.zc26 rfl ?_
  clear hS hH; intro a w b9 hb9 hwb9 hS hH
  refine r_store_row hS hH rfl rfl (by repeat' constructor) (by repeat' constructor) Fc.sz26 (by first | exact hcells_one _ | exact of_decide_eq_true rfl) (by rfl) (by first | exact .inr (by assumption) | exact .inl (by first | assumption | rfl)) ?_
  clear hH; intro w hH
  refine Sq.nil (then_n (c_seq ?_))
  refine reg_draw [(true,0,[]),(true,1,[]),(true,2,[]),(true,3,[]),(true,4,[]),(true,5,[]),(true,6,[]),(true,7,[]),(true,8,[]),(true,9,[]),(true,10,[])] Fc.mixed (by kernel_rfl) (by kernel_rfl) (by kernel_rfl) (by kernel_rfl) (by kernel_rfl) (by repeat (first | with_reducible exact steady_body | with_reducible apply steady_block | with_reducible apply steady_then | exact steady_body)) hH ?_
  replace hH:=hH.drew
  refine r_move hS trivial rfl rfl (x_nilCheck trivial rfl rfl (x_fieldAddr trivial rfl Fc.fo41_2 rfl (x_load_scS rfl (by repeat' constructor) Fc.sc39 (by rfl) rfl (x_load_rowS rfl (by repeat' constructor) Fc.ag26 (by rfl) rfl (x_lookupS2 Fc.mtN rfl rfl (by repeat' constructor) hm2 (Fc.arrH.keyOf (h:=[g0,g1,g2,g3,g4,g5,g6,g7,g8,g9,ga,gb,gc,gd,ge,gf]) rfl) e1 e2 rfl (x_move trivial rfl rfl (x_extract trivial rfl rfl rfl (x_extract trivial rfl rfl rfl (x_assign trivial rfl rfl (x_assign trivial rfl rfl ?_)))))))))); clear hS; intro a hS
  refine Sq.nil (then_n (c_seq (reg_plain w0 (Nobody) ?_)))
  refine r_move hS hH.kp0 rfl rfl ?_; clear hS; intro a hS
  rcases th with _ | _
  ·rcases hcase with ⟨h,_⟩ | ⟨_,_,hno⟩
   ·cases h
   refine r_move hS hH.kp0 rfl rfl (Sq.xguardNo rfl rfl rfl hH.kp0 rfl (Sq.xguardNo rfl rfl rfl hH.kp0 rfl (Sq.xguardNo rfl rfl rfl hH.kp0 rfl (Sq.xguardNo rfl rfl rfl hH.kp0 rfl (Sq.xguardNo rfl rfl rfl hH.kp0 rfl (Sq.xguardNo rfl rfl rfl hH.kp0 rfl (Sq.xguardNo rfl rfl rfl hH.kp0 rfl (Sq.xguardNo rfl rfl rfl hH.kp0 rfl (x_pickF hH.kp0 rfl rfl rfl rfl (x_move hH.kp0 rfl rfl (Sq.xguardYes rfl rfl rfl (x_move hH.kp0 rfl rfl (Sq.xguardYes rfl rfl rfl (x_not hH.kp0 rfl rfl (Sq.xguardYes rfl rfl rfl (x_move hH.kp0 rfl rfl (Sq.xguardYes rfl rfl rfl (x_load_row hH (by repeat' constructor) rfl (by repeat' constructor) Fc.ag26 (by rfl) rfl (Sq.xguardYes rfl rfl rfl ?_))))))))))))))))))); clear hS; intro a hS
   refine r_call (l:=[.tmp 55]) hS rfl rfl Fc.fn27 rfl ?_
   refine Calls.mono (isName_c [g0,g1,g2,g3,g4,g5,g6,g7,g8,g9,ga,gb,gc,gd,ge,gf] rfl _) ?_
   rintro e w1 ⟨r0,rfl,hr0,hE⟩
   replace hH:=hH.ext hE
   refine ⟨_,rfl,hH.kp0,?_⟩
   clear hS; intro a hS
   refine Sq.guardYes hS rfl rfl rfl (r_pickT hS hH.kp0 rfl rfl rfl rfl (x_pickF hH.kp0 rfl rfl rfl rfl ?_)); clear hS; intro a hS
   refine Sq.nil (then_n ?_)
   refine c_cond hS rfl (fun hc2 => ?_) (fun hc2 => ?_)
   ·have hR : HidR7 ts K l true:=HidR7.mk1 (i:=i) (by omega) (fun h => by rcases h with ⟨j,hj,e,_⟩ | ⟨_,e⟩; exact hno j hj (hg.trans e); rw [←hg,←hr0,hc2] at e; cases e)
    refine c_seq (reg_plain w0 (Nobody) ?_)
    refine r_assign hS hH.kp0 rfl rfl ?_; clear hS; intro a hS
    refine Sq.nil (then_n (wp_ret (blk_r (then_r (then_r (blk_r (then_r ?_)))))))
    refine leave (.inl rfl) hS rfl (Res.tmp rfl Res.nil) ⟨_,K,rfl,hKN,?_,hH.mod⟩
    first | exact hR | exact HidR7.mk0 hB (by omega)
   ·have hnx : Good7 ts K ((l.drop i).take 16):=.inr ⟨fun j hj e => hno j hj (hg.trans e),by rw [←hg,←hr0]; exact hc2⟩
    refine wp_skip (blk_n (then_n (reg_plain w0 (Nobody) ?_)))
    refine r_move hS hH.kp0 rfl rfl (x_add hH.kp0 rfl rfl rfl (by omega) (x_assign hH.kp0 rfl rfl ?_)); clear hS; intro a hS
    refine Sq.nil (then_n ?_)
    refine ⟨m - 1,by omega,i + 1,_,by omega,by omega,hB.next ?_,hS.live ⟨rfl,rfl,rfl,rfl,trivial⟩,hH.drop [0]⟩
    exact hnx
  ·rcases hcase.symm with ⟨h,_⟩ | ⟨_,j,hj,hn0,hgj⟩
   ·cases h
   subst hn0
   obtain ⟨kj,hkj⟩ : ∃ k,K[j]? = some k:=⟨_,List.getElem?_eq_getElem (by rw [hKN.len]; exact hj)⟩
   refine r_move hS hH.kp0 rfl rfl (Sq.xguardYes rfl rfl rfl (x_move hH.kp0 rfl rfl (Sq.xguardYes rfl rfl rfl (x_nilCheck hH.kp0 rfl rfl (Sq.xguardYes rfl rfl rfl (x_fieldAddr hH.kp0 rfl Fc.fo71_1 rfl (Sq.xguardYes rfl rfl rfl (x_load_sc hH (by repeat' constructor) rfl (by repeat' constructor) Fc.sc69 (by rfl) rfl (Sq.xguardYes rfl rfl rfl (x_move hH.kp0 rfl rfl (Sq.xguardYes rfl rfl rfl (x_indexAddrS (j:=j) hH.kp0 rfl rfl Fc.slb69 rfl hj rfl (Sq.xguardYes rfl rfl rfl ?_))))))))))))); clear hS; intro a hS
   refine r_load_sc hS hH (by repeat' constructor) rfl (by repeat' constructor) Fc.sc4 (v:=.bool kj) (by rw [nthV_eq,Nat.zero_add,Nat.mul_one]; exact bools_get hkj) rfl ?_; clear hS; intro a hS
   rcases kj with _ | _
   ·have hR : HidR7 ts K l true:=HidR7.mk1 (i:=i) (by omega) (fun h => by rcases h with ⟨j2,hj2,e,hk2⟩ | ⟨hn2,_⟩; (have e3 : j2 = j:=nm_inj (by omega) (by omega) ((hg.trans e).symm.trans hgj); subst e3; unfold KT at hk2; rw [hkj] at hk2; cases hk2); exact hn2 j hj (hg.symm.trans hgj))
    refine Sq.guardYes hS rfl rfl rfl (r_not hS hH.kp0 rfl rfl (x_pickT hH.kp0 rfl rfl rfl rfl (x_move hH.kp0 rfl rfl (Sq.xguardNo rfl rfl rfl hH.kp0 rfl (Sq.xguardNo rfl rfl rfl hH.kp0 rfl (Sq.xguardNo rfl rfl rfl hH.kp0 rfl (Sq.xguardOff rfl rfl hH.kp0 rfl (Sq.xguardOff rfl rfl hH.kp0 rfl (Sq.xguardNo rfl rfl rfl hH.kp0 rfl (x_pickT hH.kp0 rfl rfl rfl rfl ?_)))))))))); clear hS; intro a hS
    refine Sq.nil (then_n (c_condT hS rfl rfl (c_seq (reg_plain w0 (Nobody) ?_))))
    refine r_assign hS hH.kp0 rfl rfl ?_; clear hS; intro a hS
    refine Sq.nil (then_n (wp_ret (blk_r (then_r (then_r (blk_r (then_r ?_)))))))
    refine leave (.inl rfl) hS rfl (Res.tmp rfl Res.nil) ⟨_,K,rfl,hKN,?_,hH.mod⟩
    first | exact hR | exact HidR7.mk0 hB (by omega)
   ·have hnx : Good7 ts K ((l.drop i).take 16):=.inl ⟨j,hj,hg.symm.trans hgj,hkj⟩
    refine Sq.guardYes hS rfl rfl rfl (r_not hS hH.kp0 rfl rfl (x_pickT hH.kp0 rfl rfl rfl rfl (x_move hH.kp0 rfl rfl (Sq.xguardYes rfl rfl rfl (x_move hH.kp0 rfl rfl (Sq.xguardYes rfl rfl rfl (x_not hH.kp0 rfl rfl (Sq.xguardYes rfl rfl rfl (x_move hH.kp0 rfl rfl (Sq.xguardNo rfl rfl rfl hH.kp0 rfl (Sq.xguardNo rfl rfl rfl hH.kp0 rfl (Sq.xguardYes rfl rfl rfl (x_pickF hH.kp0 rfl rfl rfl rfl (x_pickF hH.kp0 rfl rfl rfl rfl ?_)))))))))))))); clear hS; intro a hS
    refine Sq.nil (then_n (c_condF hS rfl rfl (wp_skip (blk_n (then_n (reg_plain w0 (Nobody) ?_))))))
    refine r_move hS hH.kp0 rfl rfl (x_add hH.kp0 rfl rfl rfl (by omega) (x_assign hH.kp0 rfl rfl ?_)); clear hS; intro a hS
    refine Sq.nil (then_n ?_)
    refine ⟨m - 1,by omega,i + 1,_,by omega,by omega,hB.next ?_,hS.live ⟨rfl,rfl,rfl,rfl,trivial⟩,hH.drop [0]⟩
    exact hnx
 ·have hge:=of_decide_eq_false hc1
  refine wp_exit (then_e (then_e (blk_hit (then_n (c_seq (reg_plain w0 (Nobody) ?_))))))
  refine r_assign hS hH.kp0 rfl rfl ?_; clear hS; intro a hS
  refine Sq.nil (then_n (wp_ret ?_))
  refine leave (.inl rfl) hS rfl (Res.tmp rfl Res.nil) ⟨_,K,rfl,hKN,?_,hH.mod⟩
  first | exact hR | exact HidR7.mk0 hB (by omega)

end Go.Proofs.YtcjmehononbadaaDoor
namespace Go.Proofs.YtcjmehononbadaaDoor
open Go.Sym


set_option maxRecDepth 100000 in
set_option maxHeartbeats 8000000 in
theorem Spied6_v (b : Nat) (V : VB) (ts : List Tm) (hm : ts.length≤1000000000) (hwf : Wf6 ts) (hpos : 0 < ts.length) (sv : Value) (ls : List (List UInt8)) (hll : ∀ l∈ls,l.length≤1099511627776) (hls2 : ls.length≤1048576) (w0 : World) (hvi : VI w0 b V ts) (hss : SlG Nobody w0 sv ls) :
  Calls Tryd.prog 10 #[.pointer (some ⟨b,0,none⟩),sv] w0 fun e w' => ∃ K v,e = .returned v∧Knows6 ts ls K∧Todo w0.heap.size 22 Nobody w' v (spL ts K ts.length)∧Ext w0 w':=by
 refine enter Tryd.func10 rfl rfl rfl ?_
 intro a hS
 have hH:=Hp.start w0 (Nobody)
 replace hH:=hH.knowV hvi (by intro p hp; simp at hp)
 refine c_seq (reg_plain w0 (Nobody) ?_)
 refine r_assign hS hH.kp0 rfl rfl ?_; clear hS; intro a hS
 refine Sq.nil (then_n (c_seq (c_seq (reg_plain w0 (Nobody) ?_))))
 refine r_move hS hH.kp0 rfl rfl ?_; clear hS; intro a hS
 refine r_call (l:=[.tmp 9]) hS rfl rfl Fc.fn24 rfl ?_
 refine Calls.mono (none_v b V ts _ (hH.vin hvi.ok hvi.n01 hvi.n23 (by repeat' constructor) (by repeat' constructor) (by repeat' constructor) (by repeat' constructor))) ?_
 rintro e w1 ⟨rfl,hE⟩
 replace hH:=hH.ext hE
 refine ⟨_,rfl,hH.kp0,?_⟩
 clear hS; intro a hS
 refine Sq.nil (then_n (c_condF hS rfl rfl (wp_skip (then_n (c_seq (reg_plain w0 (Nobody) ?_))))))
 refine r_move hS hH.kp0 rfl rfl (x_move hH.kp0 rfl rfl ?_); clear hS; intro a hS
 refine r_call (l:=[.tmp 11,.tmp 12]) hS rfl rfl Fc.fn26 rfl ?_
 refine Calls.mono (knows6_v b V ts hm hwf hpos sv ls hll hls2 _ (hH.vin hvi.ok hvi.n01 hvi.n23 (by repeat' constructor) (by repeat' constructor) (by repeat' constructor) (by repeat' constructor)) (hss.go hH.mod (fun _ h => h.elim))) ?_
 rintro e w1 ⟨bs,bk,K,tdv,rfl,hbs1,hbk1,hKN,hE,hbs,hbk⟩
 have hlt:=fun (p : Nat × Obj) hp => lt_of_block (hH.blk p hp)
 have hsz:=hH.mod.size
 have hbs0:=Nat.le_trans hsz hbs
 have hbk0:=Nat.le_trans hsz hbk
 have nbk : bs≠bk:=by intro e; rw [e,hbk1] at hbs1; simp at hbs1
 replace hH:=((hH.ext hE).know hbk1 (fun p hp e => by have h1:=hlt p hp; omega)).know hbs1 (by intro p hp; rcases List.mem_cons.1 hp with rfl | hp; exact Ne.symm nbk; exact fun e => by have h1:=hlt p hp; omega)
 clear hlt
 refine ⟨_,rfl,hH.kp0,?_⟩
 clear hS; intro a hS
 refine r_assign hS hH.kp0 rfl rfl ?_; clear hS; intro a hS
 refine Sq.nil (then_n (c_seq (reg_plain w0 (Nobody) ?_)))
 refine r_assign hS hH.kp0 rfl rfl ?_; clear hS; intro a hS
 refine Sq.nil (then_n (c_seq (c_seq (reg_plain w0 (Nobody) ?_))))
 refine r_move hS hH.kp0 rfl rfl (x_nilCheck hH.kp0 rfl rfl (x_fieldAddr hH.kp0 rfl Fc.fo41_0 rfl (x_load_sc hH (by repeat' constructor) rfl (by repeat' constructor) Fc.sc37 (by rfl) rfl (x_lenSl hH.kp0 rfl Fc.isSlice37 rfl (x_move hH.kp0 rfl rfl ?_))))); clear hS; intro a hS
 refine Sq.nil ?_
 obtain ⟨wB,hwBe⟩ : ∃ z,z = w0:=⟨_,rfl⟩
 subst hwBe
 refine then_n (wp_block ?_)
 refine c_loop (fun m a w => ∃ (i : Nat) (ii : Int) (tdv1 : Value) (tds : List (List UInt8)),m + i = ts.length∧ii = i∧tds = spL ts K i∧tds.length≤i∧Todo wB.heap.size 22 Nobody w tdv1 tds∧St 54 (lv [(5,.pointer (some ⟨bs,0,none⟩)),(6,tdv1),(17,.slice (some ⟨V.sb,0,none⟩) ts.length V.cap),(18,.int .i64 (ts.length : Int)),(19,.int .i64 ii)]) a∧Hp wB Nobody [(bs,.cells [.pointer (some ⟨b,0,none⟩),.slice (some ⟨bk,0,none⟩) ts.length ts.length,tdv].toArray 71 (0,0)),(bk,.cells (bools K).toArray 4 (0,0)),(b,.cells (V.top ts.length).toArray 41 (0,0)),(V.sb,.cells V.l.toArray 64 (0,0)),(V.fb,.map V.es V.c),(V.nb,.map V.es' V.c')] w) (ts.length) ?_ ?_
 ·exact ⟨0,_,_,[],by omega,rfl,rfl,Nat.zero_le _,Todo.nil _ _ _ _,hS.live ⟨rfl,rfl,rfl,rfl,rfl,trivial⟩,hH⟩
 clear hS hH; intro m a w0 hI; obtain ⟨i,ii,tdv1,tds,hmi,hii,hsp,hln,htd,hS,hHI⟩:=hI
 have hK1:=hKN.len
 have hwB:=hHI.mod.size
 rcases id htd with ⟨rfl,rfl⟩ | ⟨tb,tcap,tl,rfl,htb1,htb2,htb3,htl1,htl2,htbl⟩
 ·obtain ⟨tds,htds0⟩ : ∃ z : List (List UInt8),z = []:=⟨_,rfl⟩
  rw [←htds0] at hsp hln htd
  obtain ⟨SR,hSR⟩ : ∃ S : Nat→Prop,S = Nobody:=⟨_,rfl⟩
  have hH : Hp w0 SR [(bs,.cells [.pointer (some ⟨b,0,none⟩),.slice (some ⟨bk,0,none⟩) ts.length ts.length,tdv].toArray 71 (0,0)),(bk,.cells (bools K).toArray 4 (0,0)),(b,.cells (V.top ts.length).toArray 41 (0,0)),(V.sb,.cells V.l.toArray 64 (0,0)),(V.fb,.map V.es V.c),(V.nb,.map V.es' V.c')] w0:=hHI.fresh
  refine c_seq (reg_plain w0 (SR) ?_)
  refine r_lss hS hH.kp0 rfl rfl rfl ?_; clear hS; intro a hS
  refine Sq.nil (then_n (c_seq ?_))
  refine c_cond hS rfl (fun hc1 => ?_) (fun hc1 => ?_)
  ·have hlt:=of_decide_eq_true hc1
   obtain ⟨t,ht⟩ : ∃ t,ts[i]? = some t:=⟨_,List.getElem?_eq_getElem (by omega)⟩
   have hrow:=hvi.ok.row ht
   obtain ⟨hwa1,hwa2⟩:=hwf.a i t ht
   obtain ⟨ia,hta⟩:=Int.eq_ofNat_of_zero_le hwa1
   have hia : ia < ts.length:=by omega
   have hian : t.a.toNat = ia:=by omega
   obtain ⟨ka,hka⟩ : ∃ k,K[ia]? = some k:=⟨_,List.getElem?_eq_getElem (by omega)⟩
   obtain ⟨ki,hki⟩ : ∃ k,K[i]? = some k:=⟨_,List.getElem?_eq_getElem (by omega)⟩
   refine wp_skip (then_n (c_seq (wp_block (c_seq (reg_plain w0 (SR) ?_)))))
   refine r_move hS hH.kp0 rfl rfl (x_indexAddrS (j:=i) hH.kp0 rfl rfl Fc.slb37 hii (by omega) rfl ?_); clear hS; intro a hS
   refine r_load_at (vs:=t.cells) hS hH (by repeat' constructor) rfl (by repeat' constructor) Fc.ag64 (by rw [Nat.zero_add]; exact hrow.2) (by rw [Nat.zero_add]; exact hrow.1) rfl ?_; clear hS; intro a hS
   refine r_alloc hS hH (by repeat' constructor) Fc.zc64 rfl ?_
   clear hS hH; intro a w b8 hb8 hwb8 hS hH
   refine r_assign hS hH.kp0 rfl rfl ?_; clear hS; intro a hS
   refine r_store_row hS hH rfl rfl (by repeat' constructor) (by repeat' constructor) Fc.sz64 (one_cells t) (by rfl) (.inr (by assumption)) ?_; clear hH; intro w hH
   refine Sq.nil (then_n (c_seq ?_))
   refine reg_draw [(true,0,[]),(true,1,[]),(true,2,[]),(true,3,[]),(true,4,[]),(true,5,[]),(true,6,[]),(true,7,[]),(true,8,[]),(true,9,[]),(true,10,[]),(true,11,[]),(true,12,[]),(true,13,[]),(true,14,[]),(true,15,[]),(true,16,[]),(true,17,[]),(true,18,[]),(true,19,[]),(true,20,[]),(true,21,[])] Fc.mixed (by kernel_rfl) (by kernel_rfl) (by kernel_rfl) (by kernel_rfl) (by kernel_rfl) (by repeat (first | with_reducible exact steady_body | with_reducible apply steady_block | with_reducible apply steady_then | exact steady_body)) hH ?_
   replace hH:=hH.drew
   refine r_fieldAddr hS trivial rfl Fc.fo64_0 rfl (x_load_scS rfl (by repeat' constructor) Fc.sc3 (by rfl) rfl (x_eql trivial rfl rfl rfl ?_)); clear hS; intro a hS
   rcases hk6 : (t.kind == 6) with _ | _
   ·refine r_move hS trivial rfl rfl (Sq.xguardNo rfl rfl hk6 trivial rfl (Sq.xguardNo rfl rfl hk6 trivial rfl (Sq.xguardNo rfl rfl hk6 trivial rfl (Sq.xguardNo rfl rfl hk6 trivial rfl (Sq.xguardNo rfl rfl hk6 trivial rfl (Sq.xguardNo rfl rfl hk6 trivial rfl (Sq.xguardNo rfl rfl hk6 trivial rfl (x_pickF trivial rfl hk6 rfl rfl (x_move trivial rfl rfl (Sq.xguardNo rfl rfl rfl trivial rfl (Sq.xguardNo rfl rfl rfl trivial rfl (Sq.xguardNo rfl rfl rfl trivial rfl (Sq.xguardNo rfl rfl rfl trivial rfl (Sq.xguardNo rfl rfl rfl trivial rfl (Sq.xguardNo rfl rfl rfl trivial rfl (Sq.xguardNo rfl rfl rfl trivial rfl (Sq.xguardNo rfl rfl rfl trivial rfl (x_pickF trivial rfl rfl rfl rfl ?_)))))))))))))))))); clear hS; intro a hS
    refine Sq.nil ?_
    obtain ⟨tds3,htds3⟩ : ∃ z,z = tds:=⟨_,rfl⟩
    have hsp3 : tds3 = spL ts K (i + 1):=by rw [htds3,hsp]; exact (spL_no ht (fun h => by have h9:=h.1; simp [h9] at hk6)).symm
    have hln3 : tds3.length≤i + 1:=by rw [htds3]; omega
    have htd3:=Todo.nilH (B:=wB.heap.size) (e:=22) (F:=Nobody) hH
    rw [←htds0] at htd3
    obtain ⟨tdv3,htdv3⟩ : ∃ z : Value,z = .slice none 0 0:=⟨_,rfl⟩
    rw [←htdv3] at hS htd3
    rw [←htds3] at htd3
    refine then_n (c_condF hS rfl rfl (wp_skip (blk_n (then_n (reg_plain w0 (SR) ?_)))))
    refine r_add hS hH.kp0 rfl rfl rfl (by omega) (x_move hH.kp0 rfl rfl ?_); clear hS; intro a hS
    refine Sq.nil (then_n ?_)
    refine ⟨m - 1,by omega,i + 1,_,tdv3,tds3,by omega,?_,hsp3,hln3,htd3,hS.live ⟨rfl,rfl,rfl,rfl,rfl,trivial⟩,(hHI.rebase hH (fun x hx => by rw [hSR] at hx; exact .inl hx)).sub (by repeat' constructor) hHI.nd⟩
    omega
   ·have hk6e : t.kind = 6:=by simpa using hk6
    refine r_move hS trivial rfl rfl (Sq.xguardYes rfl rfl hk6 (x_move trivial rfl rfl (Sq.xguardYes rfl rfl hk6 (x_nilCheck trivial rfl rfl (Sq.xguardYes rfl rfl hk6 (x_fieldAddr trivial rfl Fc.fo71_1 rfl (Sq.xguardYes rfl rfl hk6 (x_load_scS rfl (by repeat' constructor) Fc.sc69 (by rfl) rfl (Sq.xguardYes rfl rfl hk6 (x_move trivial rfl rfl (Sq.xguardYes rfl rfl hk6 (x_indexAddrS (j:=i) trivial rfl rfl Fc.slb69 hii (by omega) rfl (Sq.xguardYes rfl rfl hk6 ?_))))))))))))); clear hS; intro a hS
    refine r_load_scS hS rfl (by repeat' constructor) Fc.sc4 (v:=.bool ki) (by rw [nthV_eq,Nat.zero_add,Nat.mul_one]; exact bools_get hki) rfl ?_; clear hS; intro a hS
    refine r_pickT hS trivial rfl hk6 rfl rfl ?_; clear hS; intro a hS
    rcases ki with _ | _
    ·refine r_move hS trivial rfl rfl (Sq.xguardNo rfl rfl rfl trivial rfl (Sq.xguardNo rfl rfl rfl trivial rfl (Sq.xguardNo rfl rfl rfl trivial rfl (Sq.xguardNo rfl rfl rfl trivial rfl (Sq.xguardNo rfl rfl rfl trivial rfl (Sq.xguardNo rfl rfl rfl trivial rfl (Sq.xguardNo rfl rfl rfl trivial rfl (Sq.xguardNo rfl rfl rfl trivial rfl (x_pickF trivial rfl rfl rfl rfl ?_))))))))); clear hS; intro a hS
     refine Sq.nil ?_
     obtain ⟨tds3,htds3⟩ : ∃ z,z = tds:=⟨_,rfl⟩
     have hsp3 : tds3 = spL ts K (i + 1):=by rw [htds3,hsp]; exact (spL_no ht (fun h => by have h9:=h.2.1; unfold KT at h9; rw [hki] at h9; cases h9)).symm
     have hln3 : tds3.length≤i + 1:=by rw [htds3]; omega
     have htd3:=Todo.nilH (B:=wB.heap.size) (e:=22) (F:=Nobody) hH
     rw [←htds0] at htd3
     obtain ⟨tdv3,htdv3⟩ : ∃ z : Value,z = .slice none 0 0:=⟨_,rfl⟩
     rw [←htdv3] at hS htd3
     rw [←htds3] at htd3
     refine then_n (c_condF hS rfl rfl (wp_skip (blk_n (then_n (reg_plain w0 (SR) ?_)))))
     refine r_add hS hH.kp0 rfl rfl rfl (by omega) (x_move hH.kp0 rfl rfl ?_); clear hS; intro a hS
     refine Sq.nil (then_n ?_)
     refine ⟨m - 1,by omega,i + 1,_,tdv3,tds3,by omega,?_,hsp3,hln3,htd3,hS.live ⟨rfl,rfl,rfl,rfl,rfl,trivial⟩,(hHI.rebase hH (fun x hx => by rw [hSR] at hx; exact .inl hx)).sub (by repeat' constructor) hHI.nd⟩
     omega
    ·refine r_move hS trivial rfl rfl (Sq.xguardYes rfl rfl rfl (x_move trivial rfl rfl (Sq.xguardYes rfl rfl rfl (x_nilCheck trivial rfl rfl (Sq.xguardYes rfl rfl rfl (x_fieldAddr trivial rfl Fc.fo71_1 rfl (Sq.xguardYes rfl rfl rfl (x_load_scS rfl (by repeat' constructor) Fc.sc69 (by rfl) rfl (Sq.xguardYes rfl rfl rfl (x_fieldAddr trivial rfl Fc.fo64_1 rfl (Sq.xguardYes rfl rfl rfl (x_load_scS rfl (by repeat' constructor) Fc.sc3 (by rfl) rfl (Sq.xguardYes rfl rfl rfl (x_indexAddrS (j:=ia) trivial rfl rfl Fc.slb69 hta (by omega) rfl (Sq.xguardYes rfl rfl rfl ?_))))))))))))))); clear hS; intro a hS
     refine r_load_scS hS rfl (by repeat' constructor) Fc.sc4 (v:=.bool ka) (by rw [nthV_eq,Nat.zero_add,Nat.mul_one]; exact bools_get hka) rfl ?_; clear hS; intro a hS
     rcases ka with _ | _
     ·refine r_pickT hS trivial rfl rfl rfl rfl ?_; clear hS; intro a hS
      refine Sq.nil ?_
      obtain ⟨tds3,htds3⟩ : ∃ z,z = tds:=⟨_,rfl⟩
      have hsp3 : tds3 = spL ts K (i + 1):=by rw [htds3,hsp]; exact (spL_no ht (fun h => by rw [hian] at h; have h9:=h.2.2; unfold KT at h9; rw [hka] at h9; cases h9)).symm
      have hln3 : tds3.length≤i + 1:=by rw [htds3]; omega
      have htd3:=Todo.nilH (B:=wB.heap.size) (e:=22) (F:=Nobody) hH
      rw [←htds0] at htd3
      obtain ⟨tdv3,htdv3⟩ : ∃ z : Value,z = .slice none 0 0:=⟨_,rfl⟩
      rw [←htdv3] at hS htd3
      rw [←htds3] at htd3
      refine then_n (c_condF hS rfl rfl (wp_skip (blk_n (then_n (reg_plain w0 (SR) ?_)))))
      refine r_add hS hH.kp0 rfl rfl rfl (by omega) (x_move hH.kp0 rfl rfl ?_); clear hS; intro a hS
      refine Sq.nil (then_n ?_)
      refine ⟨m - 1,by omega,i + 1,_,tdv3,tds3,by omega,?_,hsp3,hln3,htd3,hS.live ⟨rfl,rfl,rfl,rfl,rfl,trivial⟩,(hHI.rebase hH (fun x hx => by rw [hSR] at hx; exact .inl hx)).sub (by repeat' constructor) hHI.nd⟩
      omega
     ·refine r_pickT hS trivial rfl rfl rfl rfl ?_; clear hS; intro a hS
      refine Sq.nil (then_n (c_condT hS rfl rfl (reg_plain w0 (SR) ?_)))
      refine r_move hS hH.kp0 rfl rfl (x_fieldAddr hH.kp0 rfl Fc.fo64_6 rfl (x_load_sc hH (by repeat' constructor) rfl (by repeat' constructor) Fc.sc9 (by rfl) rfl ?_)); clear hS; intro a hS
      refine r_strBytesK hS hH (by repeat' constructor) rfl Fc.und9 Fc.und22 Fc.ui5 rfl ?_
      clear hS hH; intro a w b93 c93 l93 f93 hb93 hbw93 hl93 hc93 hS hH
      refine r_buildSlice (parts:=[(0,.tmp 49)]) hS hH (by repeat' constructor) rfl Fc.bsl31_1 (by rfl) rfl ?_
      clear hS hH; intro a w b94 hb94 hwb94 hS hH
      have h94:=hH.get (b:=b94) (o:=.cells ([Value.slice (some ⟨b93,0,none⟩) (byt t).length c93] : List Value).toArray 22 (0,0)) .here
      have hs94 : Sl 1 w (.slice (some ⟨b94,0,none⟩) 1 1) [Value.slice (some ⟨b93,0,none⟩) (byt t).length c93] 1 (some ⟨b94,0,none⟩) 1:=Sl.of_block (es:=1) (m:=1) (cap:=1) h94 (Nat.le_refl 1) (Nat.le_refl 1)
      refine r_append_nil hS hH (by repeat' constructor) rfl rfl Fc.el31 Fc.ni31 (hs94.src (by intro z hz; rw [List.mem_singleton.1 hz]; rfl)) (by decide) (by decide) rfl ?_
      clear hS hH; intro a w ub ucap ul hub huw hul huc hut huE hS hH
      refine r_assign hS hH.kp0 rfl rfl ?_; clear hS; intro a hS
      refine Sq.nil ?_
      subst htds0
      have hnb : b93≠ub:=hH.ne (x:=b93) (y:=ub) (.cons (by repeat' constructor) (.cons (by repeat' constructor) .nil)) (by intro h; injection h with _ h2 _; revert h2; decide)
      have hub1 : wB.heap.size≤ub:=by omega
      have hbl3 : BL (fun x => Nobody x∨x = ub) w (([] : List Value)++[Value.slice (some ⟨b93,0,none⟩) (byt t).length c93]) ([]++[byt t]):=BL.snoc (.nil) (BsF.of_blk (hH.get (b:=b93) (by repeat' constructor)) (fun h => h.elim (fun h => h) hnb) hl93 hc93)
      have htk3 : ul.take ([]++[byt t]).length = ([] : List Value)++[Value.slice (some ⟨b93,0,none⟩) (byt t).length c93]:=by rw [List.length_append]; have h9:=hut; rw [Nat.mul_one] at h9; exact h9
      have htd3 : Todo wB.heap.size 22 Nobody w (.slice (some ⟨ub,0,none⟩) ([]++[byt t]).length ucap) ([]++[byt t]):=.inr ⟨ub,ucap,ul,rfl,hub1,fun h => h,hH.get (b:=ub) (by repeat' constructor),hul,by rw [List.length_append]; exact huc,by rw [htk3]; exact hbl3⟩
      obtain ⟨tdv3,htdv3⟩ : ∃ z : Value,z = .slice (some ⟨ub,0,none⟩) ([]++[byt t]).length ucap:=⟨_,rfl⟩
      obtain ⟨tds3,htds3⟩ : ∃ z,z = []++[byt t]:=⟨_,rfl⟩
      have hln3 : tds3.length≤i + 1:=by rw [htds3]; show 1≤_; omega
      rw [show Value.slice (some ⟨ub,0,none⟩) 1 ucap = tdv3 from htdv3.symm] at hS
      rw [←htdv3,←htds3] at htd3
      have hsp3 : tds3 = spL ts K (i + 1):=by rw [htds3]; exact (congrArg (· ++ [byt t]) hsp).trans (spL_yes ht ⟨hk6e,hki,by rw [hian]; exact hka⟩).symm
      refine blk_n (then_n (reg_plain w0 (SR) ?_))
      refine r_add hS hH.kp0 rfl rfl rfl (by omega) (x_move hH.kp0 rfl rfl ?_); clear hS; intro a hS
      refine Sq.nil (then_n ?_)
      refine ⟨m - 1,by omega,i + 1,_,tdv3,tds3,by omega,?_,hsp3,hln3,htd3,hS.live ⟨rfl,rfl,rfl,rfl,rfl,trivial⟩,(hHI.rebase hH (fun x hx => by rw [hSR] at hx; exact .inl hx)).sub (by repeat' constructor) hHI.nd⟩
      omega
  ·have hge:=of_decide_eq_false hc1
   have hii0 : i = ts.length:=by omega
   subst hii0
   refine wp_exit (then_e (then_e (blk_hit (then_n (c_seq (reg_plain w0 (SR) ?_))))))
   refine r_move hS hH.kp0 rfl rfl (x_assign hH.kp0 rfl rfl ?_); clear hS; intro a hS
   refine Sq.nil (then_n (wp_ret ?_))
   subst hsp
   exact leave (.inl rfl) hS rfl (Res.tmp rfl Res.nil) ⟨K,_,rfl,hKN,htd,hHI.mod⟩
 ·have htb0 : ∀ p∈([(bs,.cells [.pointer (some ⟨b,0,none⟩),.slice (some ⟨bk,0,none⟩) ts.length ts.length,tdv].toArray 71 (0,0)),(bk,.cells (bools K).toArray 4 (0,0)),(b,.cells (V.top ts.length).toArray 41 (0,0)),(V.sb,.cells V.l.toArray 64 (0,0)),(V.fb,.map V.es V.c),(V.nb,.map V.es' V.c')] : Blocks),p.1≠tb:=by intro p hp e; have h8:=hHI.blk p hp; rw [e,htb3] at h8; simp only [List.mem_cons,List.not_mem_nil,or_false] at hp; rcases hp with rfl | rfl | rfl | rfl | rfl | rfl <;> simp at h8
  obtain ⟨SR,hSR⟩ : ∃ S : Nat→Prop,S = fun x => Nobody x∨x = tb:=⟨_,rfl⟩
  have hH : Hp w0 SR [(bs,.cells [.pointer (some ⟨b,0,none⟩),.slice (some ⟨bk,0,none⟩) ts.length ts.length,tdv].toArray 71 (0,0)),(bk,.cells (bools K).toArray 4 (0,0)),(b,.cells (V.top ts.length).toArray 41 (0,0)),(V.sb,.cells V.l.toArray 64 (0,0)),(V.fb,.map V.es V.c),(V.nb,.map V.es' V.c')] w0:=hHI.fresh
  have htbn:=htb0
  replace hH:=hH.know htb3 htbn
  refine c_seq (reg_plain w0 (SR) ?_)
  refine r_lss hS hH.kp0 rfl rfl rfl ?_; clear hS; intro a hS
  refine Sq.nil (then_n (c_seq ?_))
  refine c_cond hS rfl (fun hc1 => ?_) (fun hc1 => ?_)
  ·have hlt:=of_decide_eq_true hc1
   obtain ⟨t,ht⟩ : ∃ t,ts[i]? = some t:=⟨_,List.getElem?_eq_getElem (by omega)⟩
   have hrow:=hvi.ok.row ht
   obtain ⟨hwa1,hwa2⟩:=hwf.a i t ht
   obtain ⟨ia,hta⟩:=Int.eq_ofNat_of_zero_le hwa1
   have hia : ia < ts.length:=by omega
   have hian : t.a.toNat = ia:=by omega
   obtain ⟨ka,hka⟩ : ∃ k,K[ia]? = some k:=⟨_,List.getElem?_eq_getElem (by omega)⟩
   obtain ⟨ki,hki⟩ : ∃ k,K[i]? = some k:=⟨_,List.getElem?_eq_getElem (by omega)⟩
   refine wp_skip (then_n (c_seq (wp_block (c_seq (reg_plain w0 (SR) ?_)))))
   refine r_move hS hH.kp0 rfl rfl (x_indexAddrS (j:=i) hH.kp0 rfl rfl Fc.slb37 hii (by omega) rfl ?_); clear hS; intro a hS
   refine r_load_at (vs:=t.cells) hS hH (by repeat' constructor) rfl (by repeat' constructor) Fc.ag64 (by rw [Nat.zero_add]; exact hrow.2) (by rw [Nat.zero_add]; exact hrow.1) rfl ?_; clear hS; intro a hS
   refine r_alloc hS hH (by repeat' constructor) Fc.zc64 rfl ?_
   clear hS hH; intro a w b8 hb8 hwb8 hS hH
   refine r_assign hS hH.kp0 rfl rfl ?_; clear hS; intro a hS
   refine r_store_row hS hH rfl rfl (by repeat' constructor) (by repeat' constructor) Fc.sz64 (one_cells t) (by rfl) (.inr (by assumption)) ?_; clear hH; intro w hH
   refine Sq.nil (then_n (c_seq ?_))
   refine reg_draw [(true,0,[]),(true,1,[]),(true,2,[]),(true,3,[]),(true,4,[]),(true,5,[]),(true,6,[]),(true,7,[]),(true,8,[]),(true,9,[]),(true,10,[]),(true,11,[]),(true,12,[]),(true,13,[]),(true,14,[]),(true,15,[]),(true,16,[]),(true,17,[]),(true,18,[]),(true,19,[]),(true,20,[]),(true,21,[])] Fc.mixed (by kernel_rfl) (by kernel_rfl) (by kernel_rfl) (by kernel_rfl) (by kernel_rfl) (by repeat (first | with_reducible exact steady_body | with_reducible apply steady_block | with_reducible apply steady_then | exact steady_body)) hH ?_
   replace hH:=hH.drew
   refine r_fieldAddr hS trivial rfl Fc.fo64_0 rfl (x_load_scS rfl (by repeat' constructor) Fc.sc3 (by rfl) rfl (x_eql trivial rfl rfl rfl ?_)); clear hS; intro a hS
   rcases hk6 : (t.kind == 6) with _ | _
   ·refine r_move hS trivial rfl rfl (Sq.xguardNo rfl rfl hk6 trivial rfl (Sq.xguardNo rfl rfl hk6 trivial rfl (Sq.xguardNo rfl rfl hk6 trivial rfl (Sq.xguardNo rfl rfl hk6 trivial rfl (Sq.xguardNo rfl rfl hk6 trivial rfl (Sq.xguardNo rfl rfl hk6 trivial rfl (Sq.xguardNo rfl rfl hk6 trivial rfl (x_pickF trivial rfl hk6 rfl rfl (x_move trivial rfl rfl (Sq.xguardNo rfl rfl rfl trivial rfl (Sq.xguardNo rfl rfl rfl trivial rfl (Sq.xguardNo rfl rfl rfl trivial rfl (Sq.xguardNo rfl rfl rfl trivial rfl (Sq.xguardNo rfl rfl rfl trivial rfl (Sq.xguardNo rfl rfl rfl trivial rfl (Sq.xguardNo rfl rfl rfl trivial rfl (Sq.xguardNo rfl rfl rfl trivial rfl (x_pickF trivial rfl rfl rfl rfl ?_)))))))))))))))))); clear hS; intro a hS
    refine Sq.nil ?_
    obtain ⟨tds3,htds3⟩ : ∃ z,z = tds:=⟨_,rfl⟩
    have hsp3 : tds3 = spL ts K (i + 1):=by rw [htds3,hsp]; exact (spL_no ht (fun h => by have h9:=h.1; simp [h9] at hk6)).symm
    have hln3 : tds3.length≤i + 1:=by rw [htds3]; omega
    have htd3:=Todo.blkH (F:=Nobody) hH (by repeat' constructor) htb1 htb2 htl1 htl2 hSR htbl
    obtain ⟨tdv3,htdv3⟩ : ∃ z : Value,z = .slice (some ⟨tb,0,none⟩) tds.length tcap:=⟨_,rfl⟩
    rw [←htdv3] at hS htd3
    rw [←htds3] at htd3
    refine then_n (c_condF hS rfl rfl (wp_skip (blk_n (then_n (reg_plain w0 (SR) ?_)))))
    refine r_add hS hH.kp0 rfl rfl rfl (by omega) (x_move hH.kp0 rfl rfl ?_); clear hS; intro a hS
    refine Sq.nil (then_n ?_)
    refine ⟨m - 1,by omega,i + 1,_,tdv3,tds3,by omega,?_,hsp3,hln3,htd3,hS.live ⟨rfl,rfl,rfl,rfl,rfl,trivial⟩,(hHI.rebase hH (fun x hx => by rw [hSR] at hx; rcases hx with hx | hx; exact .inl hx; exact .inr (by rw [hx]; exact htb1))).sub (by repeat' constructor) hHI.nd⟩
    omega
   ·have hk6e : t.kind = 6:=by simpa using hk6
    refine r_move hS trivial rfl rfl (Sq.xguardYes rfl rfl hk6 (x_move trivial rfl rfl (Sq.xguardYes rfl rfl hk6 (x_nilCheck trivial rfl rfl (Sq.xguardYes rfl rfl hk6 (x_fieldAddr trivial rfl Fc.fo71_1 rfl (Sq.xguardYes rfl rfl hk6 (x_load_scS rfl (by repeat' constructor) Fc.sc69 (by rfl) rfl (Sq.xguardYes rfl rfl hk6 (x_move trivial rfl rfl (Sq.xguardYes rfl rfl hk6 (x_indexAddrS (j:=i) trivial rfl rfl Fc.slb69 hii (by omega) rfl (Sq.xguardYes rfl rfl hk6 ?_))))))))))))); clear hS; intro a hS
    refine r_load_scS hS rfl (by repeat' constructor) Fc.sc4 (v:=.bool ki) (by rw [nthV_eq,Nat.zero_add,Nat.mul_one]; exact bools_get hki) rfl ?_; clear hS; intro a hS
    refine r_pickT hS trivial rfl hk6 rfl rfl ?_; clear hS; intro a hS
    rcases ki with _ | _
    ·refine r_move hS trivial rfl rfl (Sq.xguardNo rfl rfl rfl trivial rfl (Sq.xguardNo rfl rfl rfl trivial rfl (Sq.xguardNo rfl rfl rfl trivial rfl (Sq.xguardNo rfl rfl rfl trivial rfl (Sq.xguardNo rfl rfl rfl trivial rfl (Sq.xguardNo rfl rfl rfl trivial rfl (Sq.xguardNo rfl rfl rfl trivial rfl (Sq.xguardNo rfl rfl rfl trivial rfl (x_pickF trivial rfl rfl rfl rfl ?_))))))))); clear hS; intro a hS
     refine Sq.nil ?_
     obtain ⟨tds3,htds3⟩ : ∃ z,z = tds:=⟨_,rfl⟩
     have hsp3 : tds3 = spL ts K (i + 1):=by rw [htds3,hsp]; exact (spL_no ht (fun h => by have h9:=h.2.1; unfold KT at h9; rw [hki] at h9; cases h9)).symm
     have hln3 : tds3.length≤i + 1:=by rw [htds3]; omega
     have htd3:=Todo.blkH (F:=Nobody) hH (by repeat' constructor) htb1 htb2 htl1 htl2 hSR htbl
     obtain ⟨tdv3,htdv3⟩ : ∃ z : Value,z = .slice (some ⟨tb,0,none⟩) tds.length tcap:=⟨_,rfl⟩
     rw [←htdv3] at hS htd3
     rw [←htds3] at htd3
     refine then_n (c_condF hS rfl rfl (wp_skip (blk_n (then_n (reg_plain w0 (SR) ?_)))))
     refine r_add hS hH.kp0 rfl rfl rfl (by omega) (x_move hH.kp0 rfl rfl ?_); clear hS; intro a hS
     refine Sq.nil (then_n ?_)
     refine ⟨m - 1,by omega,i + 1,_,tdv3,tds3,by omega,?_,hsp3,hln3,htd3,hS.live ⟨rfl,rfl,rfl,rfl,rfl,trivial⟩,(hHI.rebase hH (fun x hx => by rw [hSR] at hx; rcases hx with hx | hx; exact .inl hx; exact .inr (by rw [hx]; exact htb1))).sub (by repeat' constructor) hHI.nd⟩
     omega
    ·refine r_move hS trivial rfl rfl (Sq.xguardYes rfl rfl rfl (x_move trivial rfl rfl (Sq.xguardYes rfl rfl rfl (x_nilCheck trivial rfl rfl (Sq.xguardYes rfl rfl rfl (x_fieldAddr trivial rfl Fc.fo71_1 rfl (Sq.xguardYes rfl rfl rfl (x_load_scS rfl (by repeat' constructor) Fc.sc69 (by rfl) rfl (Sq.xguardYes rfl rfl rfl (x_fieldAddr trivial rfl Fc.fo64_1 rfl (Sq.xguardYes rfl rfl rfl (x_load_scS rfl (by repeat' constructor) Fc.sc3 (by rfl) rfl (Sq.xguardYes rfl rfl rfl (x_indexAddrS (j:=ia) trivial rfl rfl Fc.slb69 hta (by omega) rfl (Sq.xguardYes rfl rfl rfl ?_))))))))))))))); clear hS; intro a hS
     refine r_load_scS hS rfl (by repeat' constructor) Fc.sc4 (v:=.bool ka) (by rw [nthV_eq,Nat.zero_add,Nat.mul_one]; exact bools_get hka) rfl ?_; clear hS; intro a hS
     rcases ka with _ | _
     ·refine r_pickT hS trivial rfl rfl rfl rfl ?_; clear hS; intro a hS
      refine Sq.nil ?_
      obtain ⟨tds3,htds3⟩ : ∃ z,z = tds:=⟨_,rfl⟩
      have hsp3 : tds3 = spL ts K (i + 1):=by rw [htds3,hsp]; exact (spL_no ht (fun h => by rw [hian] at h; have h9:=h.2.2; unfold KT at h9; rw [hka] at h9; cases h9)).symm
      have hln3 : tds3.length≤i + 1:=by rw [htds3]; omega
      have htd3:=Todo.blkH (F:=Nobody) hH (by repeat' constructor) htb1 htb2 htl1 htl2 hSR htbl
      obtain ⟨tdv3,htdv3⟩ : ∃ z : Value,z = .slice (some ⟨tb,0,none⟩) tds.length tcap:=⟨_,rfl⟩
      rw [←htdv3] at hS htd3
      rw [←htds3] at htd3
      refine then_n (c_condF hS rfl rfl (wp_skip (blk_n (then_n (reg_plain w0 (SR) ?_)))))
      refine r_add hS hH.kp0 rfl rfl rfl (by omega) (x_move hH.kp0 rfl rfl ?_); clear hS; intro a hS
      refine Sq.nil (then_n ?_)
      refine ⟨m - 1,by omega,i + 1,_,tdv3,tds3,by omega,?_,hsp3,hln3,htd3,hS.live ⟨rfl,rfl,rfl,rfl,rfl,trivial⟩,(hHI.rebase hH (fun x hx => by rw [hSR] at hx; rcases hx with hx | hx; exact .inl hx; exact .inr (by rw [hx]; exact htb1))).sub (by repeat' constructor) hHI.nd⟩
      omega
     ·refine r_pickT hS trivial rfl rfl rfl rfl ?_; clear hS; intro a hS
      refine Sq.nil (then_n (c_condT hS rfl rfl (reg_plain w0 (SR) ?_)))
      refine r_move hS hH.kp0 rfl rfl (x_fieldAddr hH.kp0 rfl Fc.fo64_6 rfl (x_load_sc hH (by repeat' constructor) rfl (by repeat' constructor) Fc.sc9 (by rfl) rfl ?_)); clear hS; intro a hS
      refine r_strBytesK hS hH (by repeat' constructor) rfl Fc.und9 Fc.und22 Fc.ui5 rfl ?_
      clear hS hH; intro a w b93 c93 l93 f93 hb93 hbw93 hl93 hc93 hS hH
      refine r_buildSlice (parts:=[(0,.tmp 49)]) hS hH (by repeat' constructor) rfl Fc.bsl31_1 (by rfl) rfl ?_
      clear hS hH; intro a w b94 hb94 hwb94 hS hH
      have h94:=hH.get (b:=b94) (o:=.cells ([Value.slice (some ⟨b93,0,none⟩) (byt t).length c93] : List Value).toArray 22 (0,0)) .here
      have hs94 : Sl 1 w (.slice (some ⟨b94,0,none⟩) 1 1) [Value.slice (some ⟨b93,0,none⟩) (byt t).length c93] 1 (some ⟨b94,0,none⟩) 1:=Sl.of_block (es:=1) (m:=1) (cap:=1) h94 (Nat.le_refl 1) (Nat.le_refl 1)
      refine r_append_own hS hH rfl rfl (by repeat' constructor) (by repeat' constructor) Fc.el31 Fc.ni31 htl1 htl2 (hs94.src (by intro z hz; rw [List.mem_singleton.1 hz]; rfl)) (by omega) (.inl (by rw [hSR]; exact .inr rfl)) rfl ?_
      clear hS hH; intro a w ub ucap ul hub hul huc hut hum hS hH
      refine r_assign hS hH.kp0 rfl rfl ?_; clear hS; intro a hS
      refine Sq.nil ?_
      have hnb : b93≠ub:=hH.ne (x:=b93) (y:=ub) (.cons (by repeat' constructor) (.cons (by repeat' constructor) .nil)) (by intro h; injection h with _ h2 _; revert h2; decide)
      have hub1 : wB.heap.size≤ub:=by rcases hub with h | h; (rw [hSR] at h; rcases h with h | h; exact h.elim; rw [h]; exact htb1); omega
      have hbl3 : BL (fun x => Nobody x∨x = ub) w (tl.take tds.length++[Value.slice (some ⟨b93,0,none⟩) (byt t).length c93]) (tds++[byt t]):=BL.snoc (htbl.go (hSR ▸ hH.mod) (fun x hx => by rcases hx with hx | hx; exact hx.elim; rcases hub with h | h; (rw [hSR] at h; exact .inl (.inr (by rw [hx]; exact h.elim (fun h => h.elim) (fun h => h)))); exact .inr (by rw [hx]; exact h))) (BsF.of_blk (hH.get (b:=b93) (by repeat' constructor)) (fun h => h.elim (fun h => h) hnb) hl93 hc93)
      have htk3 : ul.take (tds++[byt t]).length = tl.take tds.length++[Value.slice (some ⟨b93,0,none⟩) (byt t).length c93]:=by rw [List.length_append]; have h9:=hut; rw [Nat.mul_one,Nat.mul_one] at h9; exact h9
      have htd3 : Todo wB.heap.size 22 Nobody w (.slice (some ⟨ub,0,none⟩) (tds++[byt t]).length ucap) (tds++[byt t]):=.inr ⟨ub,ucap,ul,rfl,hub1,fun h => h,hH.get (b:=ub) (by repeat' constructor),hul,by rw [List.length_append]; exact huc,by rw [htk3]; exact hbl3⟩
      obtain ⟨tdv3,htdv3⟩ : ∃ z : Value,z = .slice (some ⟨ub,0,none⟩) (tds++[byt t]).length ucap:=⟨_,rfl⟩
      obtain ⟨tds3,htds3⟩ : ∃ z,z = tds++[byt t]:=⟨_,rfl⟩
      have hln3 : tds3.length≤i + 1:=by rw [htds3,List.length_append]; show _ + 1≤_; omega
      rw [show (tds.length + 1 : Nat) = (tds++[byt t]).length from by rw [List.length_append]; rfl,←htdv3] at hS
      rw [←htdv3,←htds3] at htd3
      have hsp3 : tds3 = spL ts K (i + 1):=by rw [htds3]; exact (congrArg (· ++ [byt t]) hsp).trans (spL_yes ht ⟨hk6e,hki,by rw [hian]; exact hka⟩).symm
      refine blk_n (then_n (reg_plain w0 (SR) ?_))
      refine r_add hS hH.kp0 rfl rfl rfl (by omega) (x_move hH.kp0 rfl rfl ?_); clear hS; intro a hS
      refine Sq.nil (then_n ?_)
      refine ⟨m - 1,by omega,i + 1,_,tdv3,tds3,by omega,?_,hsp3,hln3,htd3,hS.live ⟨rfl,rfl,rfl,rfl,rfl,trivial⟩,(hHI.rebase hH (fun x hx => by rw [hSR] at hx; rcases hx with hx | hx; exact .inl hx; exact .inr (by rw [hx]; exact htb1))).sub (by repeat' constructor) hHI.nd⟩
      omega
  ·have hge:=of_decide_eq_false hc1
   have hii0 : i = ts.length:=by omega
   subst hii0
   refine wp_exit (then_e (then_e (blk_hit (then_n (c_seq (reg_plain w0 (SR) ?_))))))
   refine r_move hS hH.kp0 rfl rfl (x_assign hH.kp0 rfl rfl ?_); clear hS; intro a hS
   refine Sq.nil (then_n (wp_ret ?_))
   subst hsp
   exact leave (.inl rfl) hS rfl (Res.tmp rfl Res.nil) ⟨K,_,rfl,hKN,htd,hHI.mod⟩

end Go.Proofs.YtcjmehononbadaaDoor
