/- Two vaults under any calls answer alike. Part Part14: walks and lemmas of the proof. -/
import Derived.Test.YtcjmehononbadaaDoorPart12
import Derived.Test.YtcjmehononbadaaDoorPart13
import Derived.Test.YtcjmehononbadaaDoorSym6
namespace Go.Proofs.YtcjmehononbadaaDoor
open Go.Sym

theorem Fc.fn16 : isFn Tryd.prog 16 = true:=by kernel_rfl
theorem Fc.fn19 : isFn Tryd.prog 19 = true:=by kernel_rfl
theorem Fc.fn21 : isFn Tryd.prog 21 = true:=by kernel_rfl
theorem Fc.fn22 : isFn Tryd.prog 22 = true:=by kernel_rfl
theorem Fc.fn6 : isFn Tryd.prog 6 = true:=by kernel_rfl
theorem Fc.isSlice51 : isSlice Tryd.prog 51 = true:=by kernel_rfl
theorem Fc.pl59 : placesB Tryd.prog 59 = some [(0,1),(1,1)]:=by kernel_rfl
theorem Fc.slb51 : slB Tryd.prog 51 = some 9:=by kernel_rfl
theorem Fc.zc59 : zcB Tryd.prog 59 = some [.slice none 0 0,.slice none 0 0]:=by kernel_rfl
theorem does_c (x : Ac9) (b : Nat) (V : VB) (r : Nat) (R : RB) (ts : List Tm) (sh hb hcap : Nat) (hl : List Value) (hs : List (List UInt8)) (sv : Value) (ss : List (List UInt8)) (hnu : -9223372036854775808≤x.nu∧x.nu≤9223372036854775807) (hs9 : x.s.size≤9223372036854775807) (hla : x.la.length≤1099511627776) (hlq : x.lq.length≤1099511627776) (hts : ts.length≤1000000) (hhs : hs.length≤1000000) (hss : ss.length≤1000000) (w0 : World) (hpl : PL w0 b V r R ts sh hb hcap hl hs sv ss) (hva : BsF (FT b V r R sh hb sv) w0 x.va x.la) (hvq : BsF (FT b V r R sh hb sv) w0 x.vq x.lq) : Calls Tryd.prog 22 #[.pointer (some ⟨sh,0,none⟩),.pointer (some ⟨b,0,none⟩),.pointer (some ⟨r,0,none⟩),.agg x.cells.toArray] w0 fun e w' => e = .returned (.bool true)∧Next w0 b V r R ts sh hb hs sv ss w':=by
 obtain ⟨k9,a9,b9,c9,s,nu,va,vq,la,lq,o⟩:=x
 have hk9 : k9 = 0∨k9 = 1∨k9 = 2∨k9 = 3∨k9 = 4∨k9 = 5∨k9 = 6∨k9 = 7∨k9 = 8∨k9 = 9∨(k9 < 0∨9 < k9):=by omega
 rcases hk9 with rfl | rfl | rfl | rfl | rfl | rfl | rfl | rfl | rfl | rfl | hk
 ·exact does0 a9 b9 c9 nu s va vq la lq o b V r R ts sh hb hcap hl hs sv ss hnu hs9 hla hlq hts hhs hss w0 hpl hva hvq
 ·exact does1 a9 b9 c9 nu s va vq la lq o b V r R ts sh hb hcap hl hs sv ss hnu hs9 hla hlq hts hhs hss w0 hpl hva hvq
 ·exact does2 a9 b9 c9 nu s va vq la lq o b V r R ts sh hb hcap hl hs sv ss hnu hs9 hla hlq hts hhs hss w0 hpl hva hvq
 ·exact does3 a9 b9 c9 nu s va vq la lq o b V r R ts sh hb hcap hl hs sv ss hnu hs9 hla hlq hts hhs hss w0 hpl hva hvq
 ·exact does4 a9 b9 c9 nu s va vq la lq o b V r R ts sh hb hcap hl hs sv ss hnu hs9 hla hlq hts hhs hss w0 hpl hva hvq
 ·exact does5 a9 b9 c9 nu s va vq la lq o b V r R ts sh hb hcap hl hs sv ss hnu hs9 hla hlq hts hhs hss w0 hpl hva hvq
 ·exact does6 a9 b9 c9 nu s va vq la lq o b V r R ts sh hb hcap hl hs sv ss hnu hs9 hla hlq hts hhs hss w0 hpl hva hvq
 ·exact does7 a9 b9 c9 nu s va vq la lq o b V r R ts sh hb hcap hl hs sv ss hnu hs9 hla hlq hts hhs hss w0 hpl hva hvq
 ·exact does8 a9 b9 c9 nu s va vq la lq o b V r R ts sh hb hcap hl hs sv ss hnu hs9 hla hlq hts hhs hss w0 hpl hva hvq
 ·exact does9 a9 b9 c9 nu s va vq la lq o b V r R ts sh hb hcap hl hs sv ss hnu hs9 hla hlq hts hhs hss w0 hpl hva hvq
 ·exact doesOther a9 b9 c9 nu k9 s va vq la lq o b V r R ts sh hb hcap hl hs sv ss hnu hs9 hla hlq hts hhs hss hk w0 hpl hva hvq
set_option maxRecDepth 100000 in
set_option maxHeartbeats 8000000 in
theorem plays_law (q : Option Addr) (qc : Nat) (acs : List Ac9) (w0 : World) (hac : Acs9 w0 q acs) : Calls Tryd.prog 5 #[.slice q acs.length qc] w0 fun e w' => e = .returned (.bool true)∧Ext w0 w':=by
 refine enter Tryd.func5 rfl rfl rfl ?_
 intro a hS
 have hH:=Hp.start w0 (Nobody)
 refine c_seq (reg_plain w0 (Nobody) ?_)
 refine r_assign hS hH.kp0 rfl rfl ?_; clear hS; intro a hS
 refine Sq.nil (then_n (c_seq (reg_plain w0 (Nobody) ?_)))
 refine r_call (l:=[]) hS rfl rfl Fc.fn6 rfl ?_
 refine Calls.mono (New_c _) ?_
 rintro e w1 ⟨b,V,rfl,hvi,hE,hVF⟩
 have hsz:=hH.mod.size
 replace hH:=hH.ext hE
 refine ⟨_,rfl,hH.kp0,?_⟩
 clear hS; intro a hS
 refine r_call (l:=[]) hS rfl rfl Fc.fn19 rfl ?_
 refine Calls.mono (rNew_c _) ?_
 rintro e w1 ⟨r,R,rfl,hri,hE,hRF⟩
 have hsz2:=hH.mod.size
 replace hvi:=hvi.ext hE
 replace hH:=hH.ext hE
 obtain ⟨ts,hts⟩ : ∃ ts,ts = [rootT]:=⟨_,rfl⟩
 rw [←hts] at hvi hri
 have htl : ts.length = 1:=by rw [hts]; rfl
 have hbv : BW w1 b V ts r R ts:=⟨hvi,hri,by decide⟩
 clear hvi hri
 refine ⟨_,rfl,hH.kp0,?_⟩
 clear hS; intro a hS
 refine r_assign hS hH.kp0 rfl rfl (x_assign hH.kp0 rfl rfl ?_); clear hS; intro a hS
 refine Sq.nil (then_n (c_seq (c_seq (reg_plain w0 (Nobody) ?_))))
 refine r_move hS hH.kp0 rfl rfl (x_ptrNil hH.kp0 rfl Fc.isPtr23 rfl (x_move hH.kp0 rfl rfl (Sq.xguardYes rfl rfl rfl (x_move hH.kp0 rfl rfl (Sq.xguardYes rfl rfl rfl ?_))))); clear hS; intro a hS
 refine r_call (l:=[.tmp 12]) hS rfl rfl Fc.fn16 rfl ?_
 refine Calls.mono (Root_v b V ts _ hbv.v) ?_
 rintro e w1 ⟨h,rfl,hqn,hE⟩
 obtain ⟨p0,p1,p2,p3,p4,p5,p6,p7,p8,p9,pa,pb,pc,pd,pe,pf,rfl⟩:=len16 (h:=h) (by rw [hqn]; rfl)
 replace hH:=hH.ext hE
 replace hbv:=hbv.ext hE
 refine ⟨_,rfl,hH.kp0,?_⟩
 clear hS; intro a hS
 refine Sq.guardYes hS rfl rfl rfl ?_
 refine r_call (l:=[.const (.int .i64 0)]) hS rfl rfl Fc.fn20 rfl ?_
 refine Calls.mono (rname_c 0 (by omega) _) ?_
 rintro e w1 ⟨h,rfl,hqm,hE⟩
 have hq:=hqm.trans hqn.symm
 subst hq
 replace hH:=hH.ext hE
 replace hbv:=hbv.ext hE
 refine ⟨_,rfl,hH.kp0,?_⟩
 clear hS; intro a hS
 refine Sq.guardYes hS rfl rfl rfl (r_arrNeq (h:=[p0,p1,p2,p3,p4,p5,p6,p7,p8,p9,pa,pb,pc,pd,pe,pf]) (g:=[p0,p1,p2,p3,p4,p5,p6,p7,p8,p9,pa,pb,pc,pd,pe,pf]) Fc.arrH hS hH.kp0 rfl rfl rfl rfl rfl (x_pickF hH.kp0 rfl rfl rfl rfl (x_move hH.kp0 rfl rfl ?_))); clear hS; intro a hS
 refine Sq.guardYes hS rfl rfl (by rw [decide_eq_true rfl]; rfl) ?_
 refine r_call (l:=[]) hS rfl rfl Fc.fn21 rfl ?_
 refine Calls.mono (names_c _) ?_
 rintro e w1 ⟨rfl,hE⟩
 replace hH:=hH.ext hE
 replace hbv:=hbv.ext hE
 refine ⟨_,rfl,hH.kp0,?_⟩
 clear hS; intro a hS
 refine Sq.guardYes hS rfl rfl (by rw [decide_eq_true rfl]; rfl) ?_
 refine r_not hS hH.kp0 rfl rfl ?_; clear hS; intro a hS
 refine r_pickF hS hH.kp0 rfl (by rw [decide_eq_true rfl]; rfl) rfl rfl ?_; clear hS; intro a hS
 refine Sq.nil (then_n (c_condF hS rfl rfl (wp_skip (then_n (c_seq (c_seq (reg_plain w0 (Nobody) ?_)))))))
 refine r_move hS hH.kp0 rfl rfl (x_lenSl hH.kp0 rfl Fc.isSlice51 rfl (x_gtr hH.kp0 rfl rfl rfl ?_)); clear hS; intro a hS
 refine Sq.nil (then_n ?_)
 refine c_cond hS rfl (fun hc1 => ?_) (fun hc1 => ?_)
 ·have hgt:=of_decide_eq_true hc1
  refine c_seq (reg_plain w0 (Nobody) ?_)
  refine r_assign hS hH.kp0 rfl rfl ?_; clear hS; intro a hS
  refine Sq.nil (then_n (wp_ret (then_r ?_)))
  exact leave (.inl rfl) hS rfl (Res.tmp rfl Res.nil) ⟨rfl,hH.mod⟩
 ·have hle:=of_decide_eq_false hc1
  refine wp_skip (then_n (c_seq (reg_plain w0 (Nobody) ?_)))
  refine r_move hS hH.kp0 rfl rfl ?_; clear hS; intro a hS
  refine r_call (l:=[.tmp 24]) hS rfl rfl Fc.fn16 rfl ?_
  refine Calls.mono (Root_v b V ts _ hbv.v) ?_
  rintro e w1 ⟨h,rfl,hqm,hE⟩
  have hq:=hqm.trans hqn.symm
  subst hq
  replace hH:=hH.ext hE
  replace hbv:=hbv.ext hE
  refine ⟨_,rfl,hH.kp0,?_⟩
  clear hS; intro a hS
  refine r_buildSliceW (parts:=[(0,.tmp 25)]) hS hH (by repeat' constructor) rfl Fc.bsl57_1 (by rfl) rfl ?_
  clear hS hH; intro a w hb hhb hwhb hE2 hS hH
  replace hbv:=hbv.ext hE2
  refine r_buildS (parts:=[(0,.tmp 26)]) hS hH.kp0 rfl rfl Fc.zc59 Fc.pl59 (by rfl) ?_; clear hS; intro a hS
  refine r_boxE hS hH (by repeat' constructor) rfl rfl rfl ?_
  clear hS hH; intro a w sh hsh hwsh hE4 hS hH
  replace hbv:=hbv.ext hE4
  refine r_assign hS hH.kp0 rfl rfl ?_; clear hS; intro a hS
  refine Sq.nil ?_
  have hVF0 : ∀ x,V.F b x→w0.heap.size≤x:=fun x hx => Nat.le_trans hsz (hVF x hx)
  have hRF0 : ∀ x,R.F r x→w0.heap.size≤x:=fun x hx => Nat.le_trans hsz2 (hRF x hx)
  have hpl : PL w b V r R ts sh hb 1 (hcells [p0,p1,p2,p3,p4,p5,p6,p7,p8,p9,pa,pb,pc,pd,pe,pf]) [[p0,p1,p2,p3,p4,p5,p6,p7,p8,p9,pa,pb,pc,pd,pe,pf]] (.slice none 0 0) []:=⟨hbv,by omega,by rw [hts]; exact Wf6.root,by rw [hts]; exact Sel6.root,hH.get (b:=sh) (by repeat' constructor),hH.get (b:=hb) (by repeat' constructor),rfl,Nat.le_refl _,rfl,(by intro h hh; rw [List.mem_singleton.1 hh]; rfl),Nat.succ_pos _,Todo.nil _ _ _ _,(by intro s hs; cases hs)⟩
  have hFT0 : ∀ x,FT b V r R sh hb (.slice none 0 0) x→w0.heap.size≤x:=by rintro x ((hx | hx | rfl | rfl) | ⟨_,_,hx⟩); exact hVF0 x hx; exact hRF0 x hx; assumption; assumption; cases hx
  refine then_n (c_seq (c_seq (reg_plain w0 (Nobody) ?_)))
  refine r_assign hS hH.kp0 rfl rfl ?_; clear hS; intro a hS
  refine Sq.nil (then_n (wp_block ?_))
  refine c_loop (fun m a w => ∃ (i : Nat) (V : VB) (R : RB) (ts : List Tm) (hb hcap : Nat) (hl : List Value) (hs : List (List UInt8)) (sv : Value) (ss : List (List UInt8)),m + i = acs.length∧PL w b V r R ts sh hb hcap hl hs sv ss∧(∀ x,FT b V r R sh hb sv x→w0.heap.size≤x)∧ts.length≤1 + i∧hs.length≤1 + i∧ss.length≤i∧St 44 (lv [(0,.slice q acs.length qc),(3,.pointer (some ⟨b,0,none⟩)),(4,.pointer (some ⟨r,0,none⟩)),(5,.pointer (some ⟨sh,0,none⟩)),(6,.int .i64 (i : Int))]) a∧Hp w0 Nobody [] w) (acs.length) ?_ ?_
  ·exact ⟨0,V,R,ts,hb,1,hcells [p0,p1,p2,p3,p4,p5,p6,p7,p8,p9,pa,pb,pc,pd,pe,pf],[[p0,p1,p2,p3,p4,p5,p6,p7,p8,p9,pa,pb,pc,pd,pe,pf]],.slice none 0 0,[],by omega,hpl,hFT0,by omega,Nat.le_refl _,Nat.le_refl _,hS.live ⟨rfl,rfl,rfl,rfl,rfl,trivial⟩,hH.drop [0,1]⟩
  clear hS hH hpl hFT0; clear hbv hsz hsz2 hVF hRF hVF0 hRF0; intro m a w hI; obtain ⟨i,V,R,ts,hb,hcap,hl,hs,sv,ss,hmi,hpl,hFT,hn,hn0,hn00,hS,hH⟩:=hI
  refine c_seq (c_seq (reg_plain w0 (Nobody) ?_))
  refine r_move hS hH.kp0 rfl rfl (x_move hH.kp0 rfl rfl (x_lenSl hH.kp0 rfl Fc.isSlice51 rfl (x_lss hH.kp0 rfl rfl rfl ?_))); clear hS; intro a hS
  refine Sq.nil (then_n ?_)
  refine c_cond hS rfl (fun hc2 => ?_) (fun hc2 => ?_)
  ·have hlt : i < acs.length:=by have:=of_decide_eq_true hc2; omega
   obtain ⟨act,hact⟩ : ∃ x,acs[i]? = some x:=⟨_,List.getElem?_eq_getElem hlt⟩
   obtain ⟨hfi,ba,bo,hq,hcl0⟩:=hac i act hact
   subst hq
   refine wp_skip (then_n (c_seq (wp_block (c_seq (reg_plain w0 (Nobody) ?_)))))
   refine r_move hS hH.kp0 rfl rfl (x_move hH.kp0 rfl rfl (x_move hH.kp0 rfl rfl (x_move hH.kp0 rfl rfl (x_move hH.kp0 rfl rfl (x_indexAddrS (j:=i) hH.kp0 rfl rfl Fc.slb51 rfl hlt rfl (x_load_cells (l:=act.cells) hH.kp0 rfl Fc.ag36 rfl (fun j u hu => Ext.cell_some hH.mod (hcl0 j u hu)) rfl ?_)))))); clear hS; intro a hS
   refine r_call (l:=[.tmp 35,.tmp 36,.tmp 37,.tmp 41]) hS rfl rfl Fc.fn22 rfl ?_
   refine Calls.mono (does_c act b V r R ts sh hb hcap hl hs sv ss hfi.nu hfi.s (by have:=hfi.la; omega) (by have:=hfi.lq; omega) (by omega) (by omega) (by omega) _ hpl (hfi.va.f.go hH.mod (fun x hx => .inr (hFT x hx))) (hfi.vq.f.go hH.mod (fun x hx => .inr (hFT x hx)))) ?_
   rintro e w1 ⟨rfl,V1,R1,ts1,hb1,hcap1,hl1,hs1,sv1,ss1,hpl1,hn1,hn2,hn3,hM1,hF1⟩
   have hsq:=hH.mod.size
   have hFT1 : ∀ x,FT b V1 r R1 sh hb1 sv1 x→w0.heap.size≤x:=fun x hx => (hF1 x hx).elim (hFT x) (fun h => Nat.le_trans hsq h)
   replace hH:=hH.own hM1 (fun p hp => by cases hp) (fun x hx => .inr (hFT x hx))
   refine ⟨_,rfl,hH.kp0,?_⟩
   clear hS; intro a hS
   refine r_not hS hH.kp0 rfl rfl ?_; clear hS; intro a hS
   refine Sq.nil (then_n (c_condF hS rfl rfl (wp_skip (blk_n (then_n (reg_plain w0 (Nobody) ?_))))))
   refine r_move hS hH.kp0 rfl rfl (x_add hH.kp0 rfl rfl rfl (by omega) (x_assign hH.kp0 rfl rfl ?_)); clear hS; intro a hS
   refine Sq.nil (then_n ?_)
   exact ⟨m - 1,by omega,i + 1,V1,R1,ts1,hb1,hcap1,hl1,hs1,sv1,ss1,by omega,hpl1,hFT1,by omega,by omega,by omega,hS.live ⟨rfl,rfl,rfl,rfl,rfl,trivial⟩,hH⟩
  ·have hge : i = acs.length:=by have:=of_decide_eq_false hc2; omega
   refine wp_exit (then_e (then_e (blk_hit (then_n (c_seq (reg_plain w0 (Nobody) ?_))))))
   refine r_assign hS hH.kp0 rfl rfl ?_; clear hS; intro a hS
   refine Sq.nil (then_n (wp_ret ?_))
   exact leave (.inl rfl) hS rfl (Res.tmp rfl Res.nil) ⟨rfl,hH.mod⟩

end Go.Proofs.YtcjmehononbadaaDoor
