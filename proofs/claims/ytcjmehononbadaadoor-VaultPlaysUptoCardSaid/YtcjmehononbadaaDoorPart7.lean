/- Two vaults under any calls answer alike. Part Part7: walks and lemmas of the proof. -/
import Derived.Test.YtcjmehononbadaaDoorPart6
import Derived.Test.YtcjmehononbadaaDoorSym5
namespace Go.Proofs.YtcjmehononbadaaDoor
open Go.Sym

theorem Fc.fo77_1 : foff Tryd.prog 77 1 = some 1:=by kernel_rfl
set_option maxRecDepth 100000 in
set_option maxHeartbeats 1000000 in
theorem rPublic_c (b : Nat) (V : RB) (ts : List Tm) (h : List UInt8) (hh : h.length = 16) (hm : ts.length≤1000000000) (w0 : World) (hri : RI w0 b V ts) : Calls Tryd.prog 35 #[.pointer (some ⟨b,0,none⟩),hnd h] w0 fun e w' => ∃ h' x V' ts',e = .returned (.tuple #[hnd h',.int .i64 x])∧RI w' b V' ts'∧RStep w0 w' b V V'∧OfT ts h pubT h' x ts':=by
 refine enter Tryd.func35 rfl rfl rfl ?_
 intro a hS
 have hH:=Hp.start w0 (V.F b)
 obtain ⟨x0,x1,x2,x3,x4,x5,x6,x7,x8,x9,xa,xb,xc,xd,xe,xf,rfl⟩:=len16 hh
 replace hH:=hH.knowR hri (by intro p hp; simp at hp)
 have hRS:=RS.start w0 b V
 refine c_seq (reg_plain w0 (V.F b) ?_)
 refine r_box hS hH (by repeat' constructor) rfl rfl rfl ?_
 clear hS hH; intro a w b3 hb3 hwb3 hS hH
 refine r_alloc hS hH (by repeat' constructor) Fc.zc25 rfl ?_
 clear hS hH; intro a w b4 hb4 hwb4 hS hH
 refine r_assign hS hH.kp0 rfl rfl ?_; clear hS; intro a hS
 refine Sq.nil (then_n (c_seq (reg_plain w0 (V.F b) ?_)))
 refine r_move hS hH.kp0 rfl rfl (x_load_row hH (by repeat' constructor) rfl (by repeat' constructor) Fc.ag25 (by rfl) rfl ?_); clear hS; intro a hS
 refine r_call (l:=[.tmp 7,.tmp 8]) hS rfl rfl Fc.fn46 rfl ?_
 refine Calls.mono (rOf_c b V ts [x0,x1,x2,x3,x4,x5,x6,x7,x8,x9,xa,xb,xc,xd,xe,xf] rfl hm _ (hH.rin (TV:=80) (TT:=77) hri.ok rfl hri.n01 (by repeat' constructor) (by repeat' constructor))) ?_
 rintro e w1 ⟨k,rfl,hcase,hE⟩
 replace hH:=hH.ext hE
 refine ⟨_,rfl,hH.kp0,?_⟩
 clear hS; intro a hS
 refine r_assign hS hH.kp0 rfl rfl ?_; clear hS; intro a hS
 refine Sq.nil (then_n (c_seq (c_seq (reg_plain w0 (V.F b) ?_))))
 refine r_move hS hH.kp0 rfl rfl (x_lss hH.kp0 rfl rfl rfl ?_); clear hS; intro a hS
 refine Sq.nil (then_n ?_)
 refine c_cond hS rfl (fun hc0 => ?_) (fun hc0 => ?_)
 ·have hlt:=of_decide_eq_true hc0
  rcases hcase with ⟨i,hi,hn,hk⟩ | ⟨hno,hk⟩
  ·omega
  refine c_seq (reg_plain w0 (V.F b) ?_)
  refine r_buildA (parts:=[]) hS hH.kp0 rfl rfl Fc.zc25 Fc.ar25 (by rfl) ?_; clear hS; intro a hS
  refine r_store_row hS hH rfl rfl (by repeat' constructor) (by repeat' constructor) Fc.sz25 (by first | exact hcells_one _ | exact of_decide_eq_true rfl) (by rfl) (by first | exact .inr (by assumption) | exact .inl (by first | assumption | rfl)) ?_
  clear hH; intro w hH
  refine r_assign hS hH.kp0 rfl rfl ?_; clear hS; intro a hS
  refine Sq.nil (then_n (wp_ret (then_r ?_)))
  exact leave (.inl rfl) hS rfl (Res.cell rfl (hH.get (by repeat' constructor)) Fc.ag25 (by rfl) rfl (Res.tmp rfl Res.nil)) ⟨zH,_,V,ts,rfl,(hH.rin (TV:=80) (TT:=77) hri.ok rfl hri.n01 (by repeat' constructor) (by repeat' constructor)),⟨hRS,hH.mod⟩,.inr ⟨hno,rfl,rfl,rfl⟩⟩
 ·have hge:=of_decide_eq_false hc0
  rcases hcase.symm with ⟨hno,hk⟩ | ⟨i,hi,hn,hk⟩
  ·omega
  subst hk
  refine wp_skip (then_n (c_seq (reg_plain w0 (V.F b) ?_)))
  refine r_move hS hH.kp0 rfl rfl (x_move hH.kp0 rfl rfl (x_buildS (parts:=[(0,.const (.int .i64 3)),(1,.tmp 14)]) hH.kp0 rfl rfl Fc.zc77 Fc.pl77 (by rfl) ?_)); clear hS; intro a hS
  refine r_call (l:=[.tmp 13,.tmp 15]) hS rfl rfl Fc.fn60 rfl ?_
  refine Calls.mono (rmake_c b V ts { pubT with a:=(i : Int) } (ok_a pubT_ok (by omega)) hm _ (hH.rin (TV:=80) (TT:=77) hri.ok rfl hri.n01 (by repeat' constructor) (by repeat' constructor))) ?_
  rintro e w1 ⟨h,j9,V1,ts1,rfl,hqy,hri1,hst,hmd⟩
  obtain ⟨y0,y1,y2,y3,y4,y5,y6,y7,y8,y9,ya,yb,yc,yd,ye,yf,rfl⟩:=len16 (h:=h) (by rw [hqy]; rfl)
  have hRS1:=hRS.step hst hH.mod.size
  replace hH:=hH.rvault hRS hst hri1 (by first | exact .two | exact .there .two | exact .there (.there .two) | exact .there (.there (.there .two)) | exact .there (.there (.there (.there .two))) | exact .there (.there (.there (.there (.there .two)))) | exact .there (.there (.there (.there (.there (.there .two))))) | exact .there (.there (.there (.there (.there (.there (.there .two)))))) | exact .there (.there (.there (.there (.there (.there (.there (.there .two))))))) | exact .there (.there (.there (.there (.there (.there (.there (.there (.there .two)))))))) | exact .there (.there (.there (.there (.there (.there (.there (.there (.there (.there .two))))))))) | exact .there (.there (.there (.there (.there (.there (.there (.there (.there (.there (.there .two)))))))))) | exact .there (.there (.there (.there (.there (.there (.there (.there (.there (.there (.there (.there .two))))))))))) | exact .there (.there (.there (.there (.there (.there (.there (.there (.there (.there (.there (.there (.there .two)))))))))))) | exact .there (.there (.there (.there (.there (.there (.there (.there (.there (.there (.there (.there (.there (.there .two))))))))))))) | exact .there (.there (.there (.there (.there (.there (.there (.there (.there (.there (.there (.there (.there (.there (.there .two)))))))))))))))
  refine ⟨_,rfl,hH.kp0,?_⟩
  clear hS; intro a hS
  refine r_store_row hS hH rfl rfl (by repeat' constructor) (by repeat' constructor) Fc.sz25 (by first | exact hcells_one _ | exact of_decide_eq_true rfl) (by rfl) (by first | exact .inr (by assumption) | exact .inl (by first | assumption | rfl)) ?_
  clear hH; intro w hH
  refine r_assign hS hH.kp0 rfl rfl ?_; clear hS; intro a hS
  refine Sq.nil (then_n (wp_ret ?_))
  exact leave (.inl rfl) hS rfl (Res.cell rfl (hH.get (by repeat' constructor)) Fc.ag25 (by rfl) rfl (Res.tmp rfl Res.nil)) ⟨_,_,V1,ts1,rfl,(hH.rin (TV:=80) (TT:=77) hri1.ok rfl hri1.n01 (by repeat' constructor) (by repeat' constructor)),⟨hRS1,hH.mod⟩,.inl ⟨i,j9,hi,hn,rfl,hqy,hmd⟩⟩

set_option maxRecDepth 100000 in
set_option maxHeartbeats 1000000 in
theorem rSign_c (b : Nat) (V : RB) (ts : List Tm) (h : List UInt8) (hh : h.length = 16) (v : Value) (l : List UInt8) (hl : l.length≤9223372036854775807) (hm : ts.length≤1000000000) (w0 : World) (hri : RI w0 b V ts) (hb : BsF (V.F b) w0 v l) : Calls Tryd.prog 37 #[.pointer (some ⟨b,0,none⟩),hnd h,v] w0 fun e w' => ∃ h' x V' ts',e = .returned (.tuple #[hnd h',.int .i64 x])∧RI w' b V' ts'∧RStep w0 w' b V V'∧OfT ts h (sgnT (strOf l)) h' x ts':=by
 refine enter Tryd.func37 rfl rfl rfl ?_
 intro a hS
 have hH:=Hp.start w0 (V.F b)
 obtain ⟨x0,x1,x2,x3,x4,x5,x6,x7,x8,x9,xa,xb,xc,xd,xe,xf,rfl⟩:=len16 hh
 replace hH:=hH.knowR hri (by intro p hp; simp at hp)
 have hRS:=RS.start w0 b V
 refine c_seq (reg_plain w0 (V.F b) ?_)
 refine r_box hS hH (by repeat' constructor) rfl rfl rfl ?_
 clear hS hH; intro a w b4 hb4 hwb4 hS hH
 refine r_alloc hS hH (by repeat' constructor) Fc.zc25 rfl ?_
 clear hS hH; intro a w b6 hb6 hwb6 hS hH
 refine r_assign hS hH.kp0 rfl rfl ?_; clear hS; intro a hS
 refine Sq.nil (then_n (c_seq (reg_plain w0 (V.F b) ?_)))
 refine r_move hS hH.kp0 rfl rfl (x_load_row hH (by repeat' constructor) rfl (by repeat' constructor) Fc.ag25 (by rfl) rfl ?_); clear hS; intro a hS
 refine r_call (l:=[.tmp 9,.tmp 10]) hS rfl rfl Fc.fn46 rfl ?_
 refine Calls.mono (rOf_c b V ts [x0,x1,x2,x3,x4,x5,x6,x7,x8,x9,xa,xb,xc,xd,xe,xf] rfl hm _ (hH.rin (TV:=80) (TT:=77) hri.ok rfl hri.n01 (by repeat' constructor) (by repeat' constructor))) ?_
 rintro e w1 ⟨k,rfl,hcase,hE⟩
 replace hH:=hH.ext hE
 refine ⟨_,rfl,hH.kp0,?_⟩
 clear hS; intro a hS
 refine r_assign hS hH.kp0 rfl rfl ?_; clear hS; intro a hS
 refine Sq.nil (then_n (c_seq (c_seq (reg_plain w0 (V.F b) ?_))))
 refine r_move hS hH.kp0 rfl rfl (x_lss hH.kp0 rfl rfl rfl ?_); clear hS; intro a hS
 refine Sq.nil (then_n ?_)
 refine c_cond hS rfl (fun hc0 => ?_) (fun hc0 => ?_)
 ·have hlt:=of_decide_eq_true hc0
  rcases hcase with ⟨i,hi,hn,hk⟩ | ⟨hno,hk⟩
  ·omega
  refine c_seq (reg_plain w0 (V.F b) ?_)
  refine r_buildA (parts:=[]) hS hH.kp0 rfl rfl Fc.zc25 Fc.ar25 (by rfl) ?_; clear hS; intro a hS
  refine r_store_row hS hH rfl rfl (by repeat' constructor) (by repeat' constructor) Fc.sz25 (by first | exact hcells_one _ | exact of_decide_eq_true rfl) (by rfl) (by first | exact .inr (by assumption) | exact .inl (by first | assumption | rfl)) ?_
  clear hH; intro w hH
  refine r_assign hS hH.kp0 rfl rfl ?_; clear hS; intro a hS
  refine Sq.nil (then_n (wp_ret (then_r ?_)))
  exact leave (.inl rfl) hS rfl (Res.cell rfl (hH.get (by repeat' constructor)) Fc.ag25 (by rfl) rfl (Res.tmp rfl Res.nil)) ⟨zH,_,V,ts,rfl,(hH.rin (TV:=80) (TT:=77) hri.ok rfl hri.n01 (by repeat' constructor) (by repeat' constructor)),⟨hRS,hH.mod⟩,.inr ⟨hno,rfl,rfl,rfl⟩⟩
 ·have hge:=of_decide_eq_false hc0
  rcases hcase.symm with ⟨hno,hk⟩ | ⟨i,hi,hn,hk⟩
  ·omega
  subst hk
  refine wp_skip (then_n (c_seq (reg_plain w0 (V.F b) ?_)))
  refine r_move hS hH.kp0 rfl rfl (x_move hH.kp0 rfl rfl (x_move hH.kp0 rfl rfl (x_bytesStr hH.kp0 rfl (hb _ hH.mod) Fc.u8s22 Fc.isStr9 rfl (x_buildS (parts:=[(0,.const (.int .i64 5)),(1,.tmp 16),(6,.tmp 18)]) hH.kp0 rfl rfl Fc.zc77 Fc.pl77 (by rfl) ?_)))); clear hS; intro a hS
  refine r_call (l:=[.tmp 15,.tmp 19]) hS rfl rfl Fc.fn60 rfl ?_
  refine Calls.mono (rmake_c b V ts { sgnT (strOf l) with a:=(i : Int) } (ok_a (show (sgnT (strOf l)).ok from sgnT_ok hl) (by omega)) hm _ (hH.rin (TV:=80) (TT:=77) hri.ok rfl hri.n01 (by repeat' constructor) (by repeat' constructor))) ?_
  rintro e w1 ⟨h,j9,V1,ts1,rfl,hqy,hri1,hst,hmd⟩
  obtain ⟨y0,y1,y2,y3,y4,y5,y6,y7,y8,y9,ya,yb,yc,yd,ye,yf,rfl⟩:=len16 (h:=h) (by rw [hqy]; rfl)
  have hRS1:=hRS.step hst hH.mod.size
  replace hH:=hH.rvault hRS hst hri1 (by first | exact .two | exact .there .two | exact .there (.there .two) | exact .there (.there (.there .two)) | exact .there (.there (.there (.there .two))) | exact .there (.there (.there (.there (.there .two)))) | exact .there (.there (.there (.there (.there (.there .two))))) | exact .there (.there (.there (.there (.there (.there (.there .two)))))) | exact .there (.there (.there (.there (.there (.there (.there (.there .two))))))) | exact .there (.there (.there (.there (.there (.there (.there (.there (.there .two)))))))) | exact .there (.there (.there (.there (.there (.there (.there (.there (.there (.there .two))))))))) | exact .there (.there (.there (.there (.there (.there (.there (.there (.there (.there (.there .two)))))))))) | exact .there (.there (.there (.there (.there (.there (.there (.there (.there (.there (.there (.there .two))))))))))) | exact .there (.there (.there (.there (.there (.there (.there (.there (.there (.there (.there (.there (.there .two)))))))))))) | exact .there (.there (.there (.there (.there (.there (.there (.there (.there (.there (.there (.there (.there (.there .two))))))))))))) | exact .there (.there (.there (.there (.there (.there (.there (.there (.there (.there (.there (.there (.there (.there (.there .two)))))))))))))))
  refine ⟨_,rfl,hH.kp0,?_⟩
  clear hS; intro a hS
  refine r_store_row hS hH rfl rfl (by repeat' constructor) (by repeat' constructor) Fc.sz25 (by first | exact hcells_one _ | exact of_decide_eq_true rfl) (by rfl) (by first | exact .inr (by assumption) | exact .inl (by first | assumption | rfl)) ?_
  clear hH; intro w hH
  refine r_assign hS hH.kp0 rfl rfl ?_; clear hS; intro a hS
  refine Sq.nil (then_n (wp_ret ?_))
  exact leave (.inl rfl) hS rfl (Res.cell rfl (hH.get (by repeat' constructor)) Fc.ag25 (by rfl) rfl (Res.tmp rfl Res.nil)) ⟨_,_,V1,ts1,rfl,(hH.rin (TV:=80) (TT:=77) hri1.ok rfl hri1.n01 (by repeat' constructor) (by repeat' constructor)),⟨hRS1,hH.mod⟩,.inl ⟨i,j9,hi,hn,rfl,hqy,hmd⟩⟩

set_option maxRecDepth 100000 in
set_option maxHeartbeats 2000000 in
theorem rAgree_c (b : Nat) (V : RB) (ts : List Tm) (h : List UInt8) (hh : h.length = 16) (g : List UInt8) (hg : g.length = 16) (hwf : Wf6 ts) (hm : ts.length≤1000000000) (w0 : World) (hri : RI w0 b V ts) : Calls Tryd.prog 36 #[.pointer (some ⟨b,0,none⟩),hnd h,hnd g] w0 fun e w' => ∃ h' x V' ts',e = .returned (.tuple #[hnd h',.int .i64 x])∧RI w' b V' ts'∧RStep w0 w' b V V'∧AgT ts h g h' x ts':=by
 refine enter Tryd.func36 rfl rfl rfl ?_
 intro a hS
 have hH:=Hp.start w0 (V.F b)
 obtain ⟨x0,x1,x2,x3,x4,x5,x6,x7,x8,x9,xa,xb,xc,xd,xe,xf,rfl⟩:=len16 hh
 obtain ⟨y0,y1,y2,y3,y4,y5,y6,y7,y8,y9,ya,yb,yc,yd,ye,yf,rfl⟩:=len16 hg
 replace hH:=hH.knowR hri (by intro p hp; simp at hp)
 have hRS:=RS.start w0 b V
 refine c_seq (reg_plain w0 (V.F b) ?_)
 refine r_box hS hH (by repeat' constructor) rfl rfl rfl ?_
 clear hS hH; intro a w b4 hb4 hwb4 hS hH
 refine r_box hS hH (by repeat' constructor) rfl rfl rfl ?_
 clear hS hH; intro a w b5 hb5 hwb5 hS hH
 refine r_alloc hS hH (by repeat' constructor) Fc.zc25 rfl ?_
 clear hS hH; intro a w b6 hb6 hwb6 hS hH
 refine r_assign hS hH.kp0 rfl rfl ?_; clear hS; intro a hS
 refine Sq.nil (then_n (c_seq (reg_plain w0 (V.F b) ?_)))
 refine r_move hS hH.kp0 rfl rfl (x_load_row hH (by repeat' constructor) rfl (by repeat' constructor) Fc.ag25 (by rfl) rfl ?_); clear hS; intro a hS
 refine r_call (l:=[.tmp 11,.tmp 12]) hS rfl rfl Fc.fn46 rfl ?_
 refine Calls.mono (rOf_c b V ts [x0,x1,x2,x3,x4,x5,x6,x7,x8,x9,xa,xb,xc,xd,xe,xf] rfl hm _ (hH.rin (TV:=80) (TT:=77) hri.ok rfl hri.n01 (by repeat' constructor) (by repeat' constructor))) ?_
 rintro e w1 ⟨k,rfl,hcase,hE⟩
 replace hH:=hH.ext hE
 refine ⟨_,rfl,hH.kp0,?_⟩
 clear hS; intro a hS
 refine r_assign hS hH.kp0 rfl rfl ?_; clear hS; intro a hS
 refine Sq.nil (then_n (c_seq (reg_plain w0 (V.F b) ?_)))
 refine r_move hS hH.kp0 rfl rfl (x_load_row hH (by repeat' constructor) rfl (by repeat' constructor) Fc.ag25 (by rfl) rfl ?_); clear hS; intro a hS
 refine r_call (l:=[.tmp 14,.tmp 15]) hS rfl rfl Fc.fn46 rfl ?_
 refine Calls.mono (rOf_c b V ts [y0,y1,y2,y3,y4,y5,y6,y7,y8,y9,ya,yb,yc,yd,ye,yf] rfl hm _ (hH.rin (TV:=80) (TT:=77) hri.ok rfl hri.n01 (by repeat' constructor) (by repeat' constructor))) ?_
 rintro e w1 ⟨k2,rfl,hcase2,hE⟩
 replace hH:=hH.ext hE
 refine ⟨_,rfl,hH.kp0,?_⟩
 clear hS; intro a hS
 refine r_assign hS hH.kp0 rfl rfl ?_; clear hS; intro a hS
 refine Sq.nil (then_n (c_seq (c_seq (reg_plain w0 (V.F b) ?_))))
 rcases hcase with ⟨i,hi,hn,hk⟩ | ⟨hno,hk⟩ <;> rcases hcase2 with ⟨j,hj,hn2,hk2⟩ | ⟨hno2,hk2⟩ <;> subst hk hk2
 ·obtain ⟨t,ht⟩ : ∃ t,ts[j]? = some t:=⟨_,List.getElem?_eq_getElem hj⟩
  obtain ⟨ha1,ha2⟩:=hwf.a j t ht
  obtain ⟨o,hto⟩:=Int.eq_ofNat_of_zero_le ha1
  have hol : o < ts.length:=by omega
  refine r_move hS hH.kp0 rfl rfl (x_lss hH.kp0 rfl rfl rfl (x_move hH.kp0 rfl rfl (Sq.xguardYes rfl rfl (DF (by omega)) (x_move hH.kp0 rfl rfl (Sq.xguardYes rfl rfl (DF (by omega)) (x_lss hH.kp0 rfl rfl rfl (x_pickF hH.kp0 rfl (DF (by omega)) rfl rfl (x_move hH.kp0 rfl rfl (Sq.xguardYes rfl rfl (DF (by omega)) (x_move hH.kp0 rfl rfl (Sq.xguardYes rfl rfl (DF (by omega)) (x_nilCheck hH.kp0 rfl rfl (Sq.xguardYes rfl rfl (DF (by omega)) (x_fieldAddr hH.kp0 rfl Fc.fo80_0 rfl (Sq.xguardYes rfl rfl (DF (by omega)) (x_load_sc hH (by repeat' constructor) rfl (by repeat' constructor) Fc.sc78 (by rfl) rfl (Sq.xguardYes rfl rfl (DF (by omega)) (x_move hH.kp0 rfl rfl (Sq.xguardYes rfl rfl (DF (by omega)) (x_indexAddrS (j:=j) hH.kp0 rfl rfl Fc.slb78 rfl (by omega) rfl (Sq.xguardYes rfl rfl (DF (by omega)) (x_fieldAddr hH.kp0 rfl Fc.fo77_0 rfl (Sq.xguardYes rfl rfl (DF (by omega)) ?_))))))))))))))))))))))); clear hS; intro a hS
  refine r_load_sc hS hH (by repeat' constructor) rfl (by repeat' constructor) Fc.sc3 (v:=.int .i64 t.kind) (hri.ok.fld ht (q:=0) rfl) rfl (Sq.xguardYes rfl rfl (DF (by omega)) (x_neq hH.kp0 rfl rfl rfl (x_pickF hH.kp0 rfl (DF (by omega)) rfl rfl ?_))); clear hS; intro a hS
  refine Sq.nil (then_n ?_)
  refine c_cond hS rfl (fun hc0 => ?_) (fun hc0 => ?_)
  ·have hnone : ¬ ∃ (i j : Nat) (t : Tm),i < ts.length∧[x0,x1,x2,x3,x4,x5,x6,x7,x8,x9,xa,xb,xc,xd,xe,xf] = nm i∧[y0,y1,y2,y3,y4,y5,y6,y7,y8,y9,ya,yb,yc,yd,ye,yf] = nm j∧ts[j]? = some t∧t.kind = 3:=by
    rintro ⟨i9,j9,t9,p1,p2,p3,p4,p5⟩
    have q1:=(List.getElem?_eq_some_iff.1 p4).1; obtain rfl : j = j9:=nm_inj (by omega) (by omega) (hn2.symm.trans p3); obtain rfl : t = t9:=Option.some.inj (ht.symm.trans p4); rw [p5] at hc0; cases hc0
   refine c_seq (reg_plain w0 (V.F b) ?_)
   refine r_buildA (parts:=[]) hS hH.kp0 rfl rfl Fc.zc25 Fc.ar25 (by rfl) ?_; clear hS; intro a hS
   refine r_store_row hS hH rfl rfl (by repeat' constructor) (by repeat' constructor) Fc.sz25 (by first | exact hcells_one _ | exact of_decide_eq_true rfl) (by rfl) (by first | exact .inr (by assumption) | exact .inl (by first | assumption | rfl)) ?_
   clear hH; intro w hH
   refine r_assign hS hH.kp0 rfl rfl ?_; clear hS; intro a hS
   refine Sq.nil (then_n (wp_ret (then_r ?_)))
   first
    | exact leave (.inl rfl) hS rfl (Res.cell rfl (hH.get (by repeat' constructor)) Fc.ag25 (by rfl) rfl (Res.tmp rfl Res.nil)) ⟨zH,_,V,ts,rfl,(hH.rin (TV:=80) (TT:=77) hri.ok rfl hri.n01 (by repeat' constructor) (by repeat' constructor)),⟨hRS,hH.mod⟩,.inr ⟨hnone,rfl,rfl,rfl⟩⟩
    | (refine leave (.inl rfl) hS rfl (Res.cell rfl (hH.get (by repeat' constructor)) Fc.ag25 (by rfl) rfl (Res.tmp rfl Res.nil)) ⟨_,_,V1,ts1,rfl,(hH.rin (TV:=80) (TT:=77) hri1.ok rfl hri1.n01 (by repeat' constructor) (by repeat' constructor)),⟨hRS1,hH.mod⟩,.inl ⟨i,j,o,j9,t,hi,hn,hn2,ht,hk3,hto,hol,rfl,hqz,?_⟩⟩; first | (rw [show min i o = o from by omega,show max i o = i from by omega]; exact hmd) | (rw [show min i o = i from by omega,show max i o = o from by omega]; exact hmd))
  ·have hk3 : t.kind = 3:=Decidable.byContradiction fun h => by rw [bne_iff_ne.2 h] at hc0; cases hc0
   refine wp_skip (then_n (c_seq (reg_plain w0 (V.F b) ?_)))
   refine r_move hS hH.kp0 rfl rfl (x_nilCheck hH.kp0 rfl rfl (x_fieldAddr hH.kp0 rfl Fc.fo80_0 rfl (x_load_sc hH (by repeat' constructor) rfl (by repeat' constructor) Fc.sc78 (by rfl) rfl (x_move hH.kp0 rfl rfl (x_indexAddrS (j:=j) hH.kp0 rfl rfl Fc.slb78 rfl (by omega) rfl (x_fieldAddr hH.kp0 rfl Fc.fo77_1 rfl (x_load_sc hH (by repeat' constructor) rfl (by repeat' constructor) Fc.sc3 (v:=.int .i64 t.a) (hri.ok.fld ht (q:=1) rfl) rfl ?_))))))); clear hS; intro a hS
   rw [hto] at hS
   refine r_assign hS hH.kp0 rfl rfl ?_; clear hS; intro a hS
   refine Sq.nil (then_n (c_seq (c_seq (reg_plain w0 (V.F b) ?_))))
   refine r_move hS hH.kp0 rfl rfl (x_move hH.kp0 rfl rfl (x_lss hH.kp0 rfl rfl rfl ?_)); clear hS; intro a hS
   refine Sq.nil (then_n ?_)
   refine c_cond hS rfl (fun hc1 => ?_) (fun hc1 => ?_)
   ·have hlt9 : o < i:=by have:=of_decide_eq_true hc1; omega
    refine c_seq (reg_plain w0 (V.F b) ?_)
    refine r_move hS hH.kp0 rfl rfl (x_assign hH.kp0 rfl rfl ?_); clear hS; intro a hS
    refine Sq.nil (then_n (reg_plain w0 (V.F b) ?_))
    refine r_move hS hH.kp0 rfl rfl (x_nilCheck hH.kp0 rfl rfl (x_fieldAddr hH.kp0 rfl Fc.fo80_0 rfl (x_load_sc hH (by repeat' constructor) rfl (by repeat' constructor) Fc.sc78 (by rfl) rfl (x_move hH.kp0 rfl rfl (x_indexAddrS (j:=j) hH.kp0 rfl rfl Fc.slb78 rfl (by omega) rfl (x_fieldAddr hH.kp0 rfl Fc.fo77_1 rfl (x_load_sc hH (by repeat' constructor) rfl (by repeat' constructor) Fc.sc3 (v:=.int .i64 t.a) (hri.ok.fld ht (q:=1) rfl) rfl ?_))))))); clear hS; intro a hS
    rw [hto] at hS
    refine r_assign hS hH.kp0 rfl rfl ?_; clear hS; intro a hS
    refine Sq.nil (then_n (c_seq (reg_plain w0 (V.F b) ?_)))
    refine r_move hS hH.kp0 rfl rfl (x_move hH.kp0 rfl rfl (x_move hH.kp0 rfl rfl (x_buildS (parts:=[(0,.const (.int .i64 4)),(1,.tmp 56),(2,.tmp 57)]) hH.kp0 rfl rfl Fc.zc77 Fc.pl77 (by rfl) ?_))); clear hS; intro a hS
    refine r_call (l:=[.tmp 55,.tmp 58]) hS rfl rfl Fc.fn60 rfl ?_
    refine Calls.mono (rmake_c b V ts (agrT _ _) (agrT_ok (by omega) (by omega)) hm _ (hH.rin (TV:=80) (TT:=77) hri.ok rfl hri.n01 (by repeat' constructor) (by repeat' constructor))) ?_
    rintro e w1 ⟨h,j9,V1,ts1,rfl,hqz,hri1,hst,hmd⟩
    obtain ⟨z0,z1,z2,z3,z4,z5,z6,z7,z8,z9,za,zb,zc,zd,ze,zf,rfl⟩:=len16 (h:=h) (by rw [hqz]; rfl)
    have hRS1:=hRS.step hst hH.mod.size
    replace hH:=hH.rvault hRS hst hri1 (by first | exact .two | exact .there .two | exact .there (.there .two) | exact .there (.there (.there .two)) | exact .there (.there (.there (.there .two))) | exact .there (.there (.there (.there (.there .two)))) | exact .there (.there (.there (.there (.there (.there .two))))) | exact .there (.there (.there (.there (.there (.there (.there .two)))))) | exact .there (.there (.there (.there (.there (.there (.there (.there .two))))))) | exact .there (.there (.there (.there (.there (.there (.there (.there (.there .two)))))))) | exact .there (.there (.there (.there (.there (.there (.there (.there (.there (.there .two))))))))) | exact .there (.there (.there (.there (.there (.there (.there (.there (.there (.there (.there .two)))))))))) | exact .there (.there (.there (.there (.there (.there (.there (.there (.there (.there (.there (.there .two))))))))))) | exact .there (.there (.there (.there (.there (.there (.there (.there (.there (.there (.there (.there (.there .two)))))))))))) | exact .there (.there (.there (.there (.there (.there (.there (.there (.there (.there (.there (.there (.there (.there .two))))))))))))) | exact .there (.there (.there (.there (.there (.there (.there (.there (.there (.there (.there (.there (.there (.there (.there .two)))))))))))))))
    refine ⟨_,rfl,hH.kp0,?_⟩
    clear hS; intro a hS
    refine r_store_row hS hH rfl rfl (by repeat' constructor) (by repeat' constructor) Fc.sz25 (by first | exact hcells_one _ | exact of_decide_eq_true rfl) (by rfl) (by first | exact .inr (by assumption) | exact .inl (by first | assumption | rfl)) ?_
    clear hH; intro w hH
    refine r_assign hS hH.kp0 rfl rfl ?_; clear hS; intro a hS
    refine Sq.nil (then_n (wp_ret ?_))
    first
     | exact leave (.inl rfl) hS rfl (Res.cell rfl (hH.get (by repeat' constructor)) Fc.ag25 (by rfl) rfl (Res.tmp rfl Res.nil)) ⟨zH,_,V,ts,rfl,(hH.rin (TV:=80) (TT:=77) hri.ok rfl hri.n01 (by repeat' constructor) (by repeat' constructor)),⟨hRS,hH.mod⟩,.inr ⟨hnone,rfl,rfl,rfl⟩⟩
     | (refine leave (.inl rfl) hS rfl (Res.cell rfl (hH.get (by repeat' constructor)) Fc.ag25 (by rfl) rfl (Res.tmp rfl Res.nil)) ⟨_,_,V1,ts1,rfl,(hH.rin (TV:=80) (TT:=77) hri1.ok rfl hri1.n01 (by repeat' constructor) (by repeat' constructor)),⟨hRS1,hH.mod⟩,.inl ⟨i,j,o,j9,t,hi,hn,hn2,ht,hk3,hto,hol,rfl,hqz,?_⟩⟩; first | (rw [show min i o = o from by omega,show max i o = i from by omega]; exact hmd) | (rw [show min i o = i from by omega,show max i o = o from by omega]; exact hmd))
   ·have hge9 : ¬ o < i:=by have:=of_decide_eq_false hc1; omega
    refine wp_skip (then_n (c_seq (reg_plain w0 (V.F b) ?_)))
    refine r_move hS hH.kp0 rfl rfl (x_move hH.kp0 rfl rfl (x_move hH.kp0 rfl rfl (x_buildS (parts:=[(0,.const (.int .i64 4)),(1,.tmp 56),(2,.tmp 57)]) hH.kp0 rfl rfl Fc.zc77 Fc.pl77 (by rfl) ?_))); clear hS; intro a hS
    refine r_call (l:=[.tmp 55,.tmp 58]) hS rfl rfl Fc.fn60 rfl ?_
    refine Calls.mono (rmake_c b V ts (agrT _ _) (agrT_ok (by omega) (by omega)) hm _ (hH.rin (TV:=80) (TT:=77) hri.ok rfl hri.n01 (by repeat' constructor) (by repeat' constructor))) ?_
    rintro e w1 ⟨h,j9,V1,ts1,rfl,hqz,hri1,hst,hmd⟩
    obtain ⟨z0,z1,z2,z3,z4,z5,z6,z7,z8,z9,za,zb,zc,zd,ze,zf,rfl⟩:=len16 (h:=h) (by rw [hqz]; rfl)
    have hRS1:=hRS.step hst hH.mod.size
    replace hH:=hH.rvault hRS hst hri1 (by first | exact .two | exact .there .two | exact .there (.there .two) | exact .there (.there (.there .two)) | exact .there (.there (.there (.there .two))) | exact .there (.there (.there (.there (.there .two)))) | exact .there (.there (.there (.there (.there (.there .two))))) | exact .there (.there (.there (.there (.there (.there (.there .two)))))) | exact .there (.there (.there (.there (.there (.there (.there (.there .two))))))) | exact .there (.there (.there (.there (.there (.there (.there (.there (.there .two)))))))) | exact .there (.there (.there (.there (.there (.there (.there (.there (.there (.there .two))))))))) | exact .there (.there (.there (.there (.there (.there (.there (.there (.there (.there (.there .two)))))))))) | exact .there (.there (.there (.there (.there (.there (.there (.there (.there (.there (.there (.there .two))))))))))) | exact .there (.there (.there (.there (.there (.there (.there (.there (.there (.there (.there (.there (.there .two)))))))))))) | exact .there (.there (.there (.there (.there (.there (.there (.there (.there (.there (.there (.there (.there (.there .two))))))))))))) | exact .there (.there (.there (.there (.there (.there (.there (.there (.there (.there (.there (.there (.there (.there (.there .two)))))))))))))))
    refine ⟨_,rfl,hH.kp0,?_⟩
    clear hS; intro a hS
    refine r_store_row hS hH rfl rfl (by repeat' constructor) (by repeat' constructor) Fc.sz25 (by first | exact hcells_one _ | exact of_decide_eq_true rfl) (by rfl) (by first | exact .inr (by assumption) | exact .inl (by first | assumption | rfl)) ?_
    clear hH; intro w hH
    refine r_assign hS hH.kp0 rfl rfl ?_; clear hS; intro a hS
    refine Sq.nil (then_n (wp_ret ?_))
    first
     | exact leave (.inl rfl) hS rfl (Res.cell rfl (hH.get (by repeat' constructor)) Fc.ag25 (by rfl) rfl (Res.tmp rfl Res.nil)) ⟨zH,_,V,ts,rfl,(hH.rin (TV:=80) (TT:=77) hri.ok rfl hri.n01 (by repeat' constructor) (by repeat' constructor)),⟨hRS,hH.mod⟩,.inr ⟨hnone,rfl,rfl,rfl⟩⟩
     | (refine leave (.inl rfl) hS rfl (Res.cell rfl (hH.get (by repeat' constructor)) Fc.ag25 (by rfl) rfl (Res.tmp rfl Res.nil)) ⟨_,_,V1,ts1,rfl,(hH.rin (TV:=80) (TT:=77) hri1.ok rfl hri1.n01 (by repeat' constructor) (by repeat' constructor)),⟨hRS1,hH.mod⟩,.inl ⟨i,j,o,j9,t,hi,hn,hn2,ht,hk3,hto,hol,rfl,hqz,?_⟩⟩; first | (rw [show min i o = o from by omega,show max i o = i from by omega]; exact hmd) | (rw [show min i o = i from by omega,show max i o = o from by omega]; exact hmd))
 ·have hnone : ¬ ∃ (i j : Nat) (t : Tm),i < ts.length∧[x0,x1,x2,x3,x4,x5,x6,x7,x8,x9,xa,xb,xc,xd,xe,xf] = nm i∧[y0,y1,y2,y3,y4,y5,y6,y7,y8,y9,ya,yb,yc,yd,ye,yf] = nm j∧ts[j]? = some t∧t.kind = 3:=by
   rintro ⟨i9,j9,t9,p1,p2,p3,p4,p5⟩
   have q1:=(List.getElem?_eq_some_iff.1 p4).1; exact hno2 _ q1 p3
  refine r_move hS hH.kp0 rfl rfl (x_lss hH.kp0 rfl rfl rfl (x_move hH.kp0 rfl rfl (Sq.xguardYes rfl rfl (DF (by omega)) (x_move hH.kp0 rfl rfl (Sq.xguardYes rfl rfl (DF (by omega)) (x_lss hH.kp0 rfl rfl rfl (x_pickF hH.kp0 rfl (DF (by omega)) rfl rfl (x_move hH.kp0 rfl rfl (Sq.xguardNo rfl rfl rfl hH.kp0 rfl (Sq.xguardNo rfl rfl rfl hH.kp0 rfl (Sq.xguardNo rfl rfl rfl hH.kp0 rfl (Sq.xguardNo rfl rfl rfl hH.kp0 rfl (Sq.xguardNo rfl rfl rfl hH.kp0 rfl (Sq.xguardNo rfl rfl rfl hH.kp0 rfl (Sq.xguardNo rfl rfl rfl hH.kp0 rfl (Sq.xguardNo rfl rfl rfl hH.kp0 rfl (Sq.xguardNo rfl rfl rfl hH.kp0 rfl (x_pickT hH.kp0 rfl rfl rfl rfl ?_)))))))))))))))))); clear hS; intro a hS
  refine Sq.nil (then_n (c_condT hS rfl rfl (c_seq (reg_plain w0 (V.F b) ?_))))
  refine r_buildA (parts:=[]) hS hH.kp0 rfl rfl Fc.zc25 Fc.ar25 (by rfl) ?_; clear hS; intro a hS
  refine r_store_row hS hH rfl rfl (by repeat' constructor) (by repeat' constructor) Fc.sz25 (by first | exact hcells_one _ | exact of_decide_eq_true rfl) (by rfl) (by first | exact .inr (by assumption) | exact .inl (by first | assumption | rfl)) ?_
  clear hH; intro w hH
  refine r_assign hS hH.kp0 rfl rfl ?_; clear hS; intro a hS
  refine Sq.nil (then_n (wp_ret (then_r ?_)))
  first
   | exact leave (.inl rfl) hS rfl (Res.cell rfl (hH.get (by repeat' constructor)) Fc.ag25 (by rfl) rfl (Res.tmp rfl Res.nil)) ⟨zH,_,V,ts,rfl,(hH.rin (TV:=80) (TT:=77) hri.ok rfl hri.n01 (by repeat' constructor) (by repeat' constructor)),⟨hRS,hH.mod⟩,.inr ⟨hnone,rfl,rfl,rfl⟩⟩
   | (refine leave (.inl rfl) hS rfl (Res.cell rfl (hH.get (by repeat' constructor)) Fc.ag25 (by rfl) rfl (Res.tmp rfl Res.nil)) ⟨_,_,V1,ts1,rfl,(hH.rin (TV:=80) (TT:=77) hri1.ok rfl hri1.n01 (by repeat' constructor) (by repeat' constructor)),⟨hRS1,hH.mod⟩,.inl ⟨i,j,o,j9,t,hi,hn,hn2,ht,hk3,hto,hol,rfl,hqz,?_⟩⟩; first | (rw [show min i o = o from by omega,show max i o = i from by omega]; exact hmd) | (rw [show min i o = i from by omega,show max i o = o from by omega]; exact hmd))
 ·have hnone : ¬ ∃ (i j : Nat) (t : Tm),i < ts.length∧[x0,x1,x2,x3,x4,x5,x6,x7,x8,x9,xa,xb,xc,xd,xe,xf] = nm i∧[y0,y1,y2,y3,y4,y5,y6,y7,y8,y9,ya,yb,yc,yd,ye,yf] = nm j∧ts[j]? = some t∧t.kind = 3:=by
   rintro ⟨i9,j9,t9,p1,p2,p3,p4,p5⟩
   exact hno _ p1 p2
  refine r_move hS hH.kp0 rfl rfl (x_lss hH.kp0 rfl rfl rfl (x_move hH.kp0 rfl rfl (Sq.xguardNo rfl rfl rfl hH.kp0 rfl (Sq.xguardNo rfl rfl rfl hH.kp0 rfl (x_pickT hH.kp0 rfl rfl rfl rfl (x_move hH.kp0 rfl rfl (Sq.xguardNo rfl rfl rfl hH.kp0 rfl (Sq.xguardNo rfl rfl rfl hH.kp0 rfl (Sq.xguardNo rfl rfl rfl hH.kp0 rfl (Sq.xguardNo rfl rfl rfl hH.kp0 rfl (Sq.xguardNo rfl rfl rfl hH.kp0 rfl (Sq.xguardNo rfl rfl rfl hH.kp0 rfl (Sq.xguardNo rfl rfl rfl hH.kp0 rfl (Sq.xguardNo rfl rfl rfl hH.kp0 rfl (Sq.xguardNo rfl rfl rfl hH.kp0 rfl (x_pickT hH.kp0 rfl rfl rfl rfl ?_)))))))))))))))); clear hS; intro a hS
  refine Sq.nil (then_n (c_condT hS rfl rfl (c_seq (reg_plain w0 (V.F b) ?_))))
  refine r_buildA (parts:=[]) hS hH.kp0 rfl rfl Fc.zc25 Fc.ar25 (by rfl) ?_; clear hS; intro a hS
  refine r_store_row hS hH rfl rfl (by repeat' constructor) (by repeat' constructor) Fc.sz25 (by first | exact hcells_one _ | exact of_decide_eq_true rfl) (by rfl) (by first | exact .inr (by assumption) | exact .inl (by first | assumption | rfl)) ?_
  clear hH; intro w hH
  refine r_assign hS hH.kp0 rfl rfl ?_; clear hS; intro a hS
  refine Sq.nil (then_n (wp_ret (then_r ?_)))
  first
   | exact leave (.inl rfl) hS rfl (Res.cell rfl (hH.get (by repeat' constructor)) Fc.ag25 (by rfl) rfl (Res.tmp rfl Res.nil)) ⟨zH,_,V,ts,rfl,(hH.rin (TV:=80) (TT:=77) hri.ok rfl hri.n01 (by repeat' constructor) (by repeat' constructor)),⟨hRS,hH.mod⟩,.inr ⟨hnone,rfl,rfl,rfl⟩⟩
   | (refine leave (.inl rfl) hS rfl (Res.cell rfl (hH.get (by repeat' constructor)) Fc.ag25 (by rfl) rfl (Res.tmp rfl Res.nil)) ⟨_,_,V1,ts1,rfl,(hH.rin (TV:=80) (TT:=77) hri1.ok rfl hri1.n01 (by repeat' constructor) (by repeat' constructor)),⟨hRS1,hH.mod⟩,.inl ⟨i,j,o,j9,t,hi,hn,hn2,ht,hk3,hto,hol,rfl,hqz,?_⟩⟩; first | (rw [show min i o = o from by omega,show max i o = i from by omega]; exact hmd) | (rw [show min i o = i from by omega,show max i o = o from by omega]; exact hmd))
 ·have hnone : ¬ ∃ (i j : Nat) (t : Tm),i < ts.length∧[x0,x1,x2,x3,x4,x5,x6,x7,x8,x9,xa,xb,xc,xd,xe,xf] = nm i∧[y0,y1,y2,y3,y4,y5,y6,y7,y8,y9,ya,yb,yc,yd,ye,yf] = nm j∧ts[j]? = some t∧t.kind = 3:=by
   rintro ⟨i9,j9,t9,p1,p2,p3,p4,p5⟩
   exact hno _ p1 p2
  refine r_move hS hH.kp0 rfl rfl (x_lss hH.kp0 rfl rfl rfl (x_move hH.kp0 rfl rfl (Sq.xguardNo rfl rfl rfl hH.kp0 rfl (Sq.xguardNo rfl rfl rfl hH.kp0 rfl (x_pickT hH.kp0 rfl rfl rfl rfl (x_move hH.kp0 rfl rfl (Sq.xguardNo rfl rfl rfl hH.kp0 rfl (Sq.xguardNo rfl rfl rfl hH.kp0 rfl (Sq.xguardNo rfl rfl rfl hH.kp0 rfl (Sq.xguardNo rfl rfl rfl hH.kp0 rfl (Sq.xguardNo rfl rfl rfl hH.kp0 rfl (Sq.xguardNo rfl rfl rfl hH.kp0 rfl (Sq.xguardNo rfl rfl rfl hH.kp0 rfl (Sq.xguardNo rfl rfl rfl hH.kp0 rfl (Sq.xguardNo rfl rfl rfl hH.kp0 rfl (x_pickT hH.kp0 rfl rfl rfl rfl ?_)))))))))))))))); clear hS; intro a hS
  refine Sq.nil (then_n (c_condT hS rfl rfl (c_seq (reg_plain w0 (V.F b) ?_))))
  refine r_buildA (parts:=[]) hS hH.kp0 rfl rfl Fc.zc25 Fc.ar25 (by rfl) ?_; clear hS; intro a hS
  refine r_store_row hS hH rfl rfl (by repeat' constructor) (by repeat' constructor) Fc.sz25 (by first | exact hcells_one _ | exact of_decide_eq_true rfl) (by rfl) (by first | exact .inr (by assumption) | exact .inl (by first | assumption | rfl)) ?_
  clear hH; intro w hH
  refine r_assign hS hH.kp0 rfl rfl ?_; clear hS; intro a hS
  refine Sq.nil (then_n (wp_ret (then_r ?_)))
  first
   | exact leave (.inl rfl) hS rfl (Res.cell rfl (hH.get (by repeat' constructor)) Fc.ag25 (by rfl) rfl (Res.tmp rfl Res.nil)) ⟨zH,_,V,ts,rfl,(hH.rin (TV:=80) (TT:=77) hri.ok rfl hri.n01 (by repeat' constructor) (by repeat' constructor)),⟨hRS,hH.mod⟩,.inr ⟨hnone,rfl,rfl,rfl⟩⟩
   | (refine leave (.inl rfl) hS rfl (Res.cell rfl (hH.get (by repeat' constructor)) Fc.ag25 (by rfl) rfl (Res.tmp rfl Res.nil)) ⟨_,_,V1,ts1,rfl,(hH.rin (TV:=80) (TT:=77) hri1.ok rfl hri1.n01 (by repeat' constructor) (by repeat' constructor)),⟨hRS1,hH.mod⟩,.inl ⟨i,j,o,j9,t,hi,hn,hn2,ht,hk3,hto,hol,rfl,hqz,?_⟩⟩; first | (rw [show min i o = o from by omega,show max i o = i from by omega]; exact hmd) | (rw [show min i o = i from by omega,show max i o = o from by omega]; exact hmd))

set_option maxRecDepth 100000 in
set_option maxHeartbeats 2000000 in
theorem rVerify_c (b : Nat) (V : RB) (ts : List Tm) (h : List UInt8) (hh : h.length = 16) (g : List UInt8) (hg : g.length = 16) (v : Value) (l : List UInt8) (hl : l.length≤9223372036854775807) (hm : ts.length≤1000000000) (w0 : World) (hri : RI w0 b V ts) (hb : Bs w0 v l) : Calls Tryd.prog 38 #[.pointer (some ⟨b,0,none⟩),hnd h,v,hnd g] w0 fun e w' => ∃ x : Int,e = .returned (.int .i64 x)∧VerT ts h l g x∧Ext w0 w':=by
 refine enter Tryd.func38 rfl rfl rfl ?_
 intro a hS
 have hH:=Hp.start w0 (Nobody)
 obtain ⟨x0,x1,x2,x3,x4,x5,x6,x7,x8,x9,xa,xb,xc,xd,xe,xf,rfl⟩:=len16 hh
 obtain ⟨y0,y1,y2,y3,y4,y5,y6,y7,y8,y9,ya,yb,yc,yd,ye,yf,rfl⟩:=len16 hg
 replace hH:=hH.knowR hri (by intro p hp; simp at hp)
 refine c_seq (reg_plain w0 (Nobody) ?_)
 refine r_box hS hH (by repeat' constructor) rfl rfl rfl ?_
 clear hS hH; intro a w b5 hb5 hwb5 hS hH
 refine r_box hS hH (by repeat' constructor) rfl rfl rfl ?_
 clear hS hH; intro a w b7 hb7 hwb7 hS hH
 refine r_assign hS hH.kp0 rfl rfl ?_; clear hS; intro a hS
 refine Sq.nil (then_n (c_seq (reg_plain w0 (Nobody) ?_)))
 refine r_move hS hH.kp0 rfl rfl (x_load_row hH (by repeat' constructor) rfl (by repeat' constructor) Fc.ag25 (by rfl) rfl ?_); clear hS; intro a hS
 refine r_call (l:=[.tmp 11,.tmp 12]) hS rfl rfl Fc.fn46 rfl ?_
 refine Calls.mono (rOf_c b V ts [x0,x1,x2,x3,x4,x5,x6,x7,x8,x9,xa,xb,xc,xd,xe,xf] rfl hm _ (hH.rin (TV:=80) (TT:=77) hri.ok rfl hri.n01 (by repeat' constructor) (by repeat' constructor))) ?_
 rintro e w1 ⟨k,rfl,hcase,hE⟩
 replace hH:=hH.ext hE
 refine ⟨_,rfl,hH.kp0,?_⟩
 clear hS; intro a hS
 refine r_assign hS hH.kp0 rfl rfl ?_; clear hS; intro a hS
 refine Sq.nil (then_n (c_seq (c_seq (reg_plain w0 (Nobody) ?_))))
 rcases hcase with ⟨i,hi,hn,hk⟩ | ⟨hno,hk⟩ <;> subst hk
 ·obtain ⟨t,ht⟩ : ∃ t,ts[i]? = some t:=⟨_,List.getElem?_eq_getElem hi⟩
  have hok5 : (sgnT (strOf l)).ok:=sgnT_ok hl
  have hft:=(hri.ok.rng t (List.mem_of_getElem? ht)).a
  refine r_move hS hH.kp0 rfl rfl (x_lss hH.kp0 rfl rfl rfl (x_move hH.kp0 rfl rfl (Sq.xguardYes rfl rfl (DF (by omega)) (x_move hH.kp0 rfl rfl (Sq.xguardYes rfl rfl (DF (by omega)) (x_nilCheck hH.kp0 rfl rfl (Sq.xguardYes rfl rfl (DF (by omega)) (x_fieldAddr hH.kp0 rfl Fc.fo80_0 rfl (Sq.xguardYes rfl rfl (DF (by omega)) (x_load_sc hH (by repeat' constructor) rfl (by repeat' constructor) Fc.sc78 (by rfl) rfl (Sq.xguardYes rfl rfl (DF (by omega)) (x_move hH.kp0 rfl rfl (Sq.xguardYes rfl rfl (DF (by omega)) (x_indexAddrS (j:=i) hH.kp0 rfl rfl Fc.slb78 rfl (by omega) rfl (Sq.xguardYes rfl rfl (DF (by omega)) (x_fieldAddr hH.kp0 rfl Fc.fo77_0 rfl (Sq.xguardYes rfl rfl (DF (by omega)) (x_load_sc hH (by repeat' constructor) rfl (by repeat' constructor) Fc.sc3 (v:=.int .i64 t.kind) (hri.ok.fld ht (q:=0) rfl) rfl (Sq.xguardYes rfl rfl (DF (by omega)) (x_neq hH.kp0 rfl rfl rfl (x_pickF hH.kp0 rfl (DF (by omega)) rfl rfl ?_))))))))))))))))))))); clear hS; intro a hS
  refine Sq.nil (then_n ?_)
  refine c_cond hS rfl (fun hc0 => ?_) (fun hc0 => ?_)
  ·have hk3 : t.kind≠3:=fun h => by rw [h] at hc0; cases hc0
   refine c_seq (reg_plain w0 (Nobody) ?_)
   refine r_assign hS hH.kp0 rfl rfl ?_; clear hS; intro a hS
   refine Sq.nil (then_n (wp_ret (then_r ?_)))
   first
    | exact leave (.inl rfl) hS rfl (Res.tmp rfl Res.nil) ⟨15,rfl,.inl ⟨rfl,fun ⟨j8,t8,p1,p2,p3⟩ => hno j8 (List.getElem?_eq_some_iff.1 p2).1 p1⟩,hH.mod⟩
    | exact leave (.inl rfl) hS rfl (Res.tmp rfl Res.nil) ⟨15,rfl,.inl ⟨rfl,fun ⟨j8,t8,p1,p2,p3⟩ => by have q1:=(List.getElem?_eq_some_iff.1 p2).1; obtain rfl : i = j8:=nm_inj (by omega) (by omega) (hn.symm.trans p1); obtain rfl : t = t8:=Option.some.inj (ht.symm.trans p2); exact hk3 p3⟩,hH.mod⟩
    | exact leave (.inl rfl) hS rfl (Res.tmp rfl Res.nil) ⟨21,rfl,.inr ⟨i,t,hn,ht,hk3,.inr ⟨rfl,fun ⟨s,p1,p2⟩ => hno2 s (List.getElem?_eq_some_iff.1 p2).1 p1⟩⟩,hH.mod⟩
    | exact leave (.inl rfl) hS rfl (Res.tmp rfl Res.nil) ⟨21,rfl,.inr ⟨i,t,hn,ht,hk3,.inr ⟨rfl,fun ⟨s,p1,p2⟩ => by have q1:=(List.getElem?_eq_some_iff.1 p2).1; obtain rfl : j = s:=nm_inj (by omega) (by omega) (hn2.symm.trans p1); exact hne (Option.some.inj (hu.symm.trans p2))⟩⟩,hH.mod⟩
    | exact leave (.inl rfl) hS rfl (Res.tmp rfl Res.nil) ⟨0,rfl,.inr ⟨i,t,hn,ht,hk3,.inl ⟨rfl,j,hn2,by rw [hu,heq]⟩⟩,hH.mod⟩
  ·have hk3 : t.kind = 3:=Decidable.byContradiction fun h => by rw [bne_iff_ne.2 h] at hc0; cases hc0
   refine wp_skip (then_n (c_seq (reg_plain w0 (Nobody) ?_)))
   refine r_move hS hH.kp0 rfl rfl (x_load_row hH (by repeat' constructor) rfl (by repeat' constructor) Fc.ag25 (by rfl) rfl ?_); clear hS; intro a hS
   refine r_call (l:=[.tmp 27,.tmp 28]) hS rfl rfl Fc.fn46 rfl ?_
   refine Calls.mono (rOf_c b V ts [y0,y1,y2,y3,y4,y5,y6,y7,y8,y9,ya,yb,yc,yd,ye,yf] rfl hm _ (hH.rin (TV:=80) (TT:=77) hri.ok rfl hri.n01 (by repeat' constructor) (by repeat' constructor))) ?_
   rintro e w1 ⟨k2,rfl,hcase2,hE⟩
   replace hH:=hH.ext hE
   refine ⟨_,rfl,hH.kp0,?_⟩
   clear hS; intro a hS
   refine r_assign hS hH.kp0 rfl rfl ?_; clear hS; intro a hS
   refine Sq.nil (then_n (c_seq (c_seq ?_)))
   refine reg_draw [(true,0,[]),(true,1,[]),(true,2,[]),(true,3,[]),(true,4,[]),(true,5,[]),(true,6,[]),(true,7,[]),(true,8,[]),(true,9,[]),(true,10,[]),(true,11,[]),(true,12,[]),(true,13,[]),(true,14,[]),(true,15,[]),(true,16,[]),(true,17,[]),(true,18,[]),(true,19,[]),(true,20,[]),(true,21,[]),(true,22,[])] Fc.mixed (by kernel_rfl) (by kernel_rfl) (by kernel_rfl) (by kernel_rfl) (by kernel_rfl) (by repeat (first | with_reducible exact steady_body | with_reducible apply steady_block | with_reducible apply steady_then | with_reducible apply steady_scope | exact steady_body)) hH ?_
   replace hH:=hH.drew
   rcases hcase2 with ⟨j,hj,hn2,hk2⟩ | ⟨hno2,hk2⟩ <;> subst hk2
   ·obtain ⟨u,hu⟩ : ∃ u,ts[j]? = some u:=⟨_,List.getElem?_eq_getElem hj⟩
    have hrow:=hri.ok.row hu
    have huo:=hri.ok.rng u (List.mem_of_getElem? hu)
    refine r_move hS trivial rfl rfl (x_lss trivial rfl rfl rfl (x_move trivial rfl rfl (Sq.xguardYes rfl rfl (DF (by omega)) (x_move trivial rfl rfl (Sq.xguardYes rfl rfl (DF (by omega)) (x_nilCheck trivial rfl rfl (Sq.xguardYes rfl rfl (DF (by omega)) (x_fieldAddr trivial rfl Fc.fo80_0 rfl (Sq.xguardYes rfl rfl (DF (by omega)) (x_load_scS rfl (by repeat' constructor) Fc.sc78 (by rfl) rfl (Sq.xguardYes rfl rfl (DF (by omega)) (x_move trivial rfl rfl (Sq.xguardYes rfl rfl (DF (by omega)) (x_indexAddrS (j:=j) trivial rfl rfl Fc.slb78 rfl (by omega) rfl (Sq.xguardYes rfl rfl (DF (by omega)) ?_))))))))))))))); clear hS; intro a hS
    refine r_load_atS (vs:=rcells u) hS rfl (by repeat' constructor) Fc.ag77 (by rw [Nat.zero_add]; exact hrow.2) (by rw [Nat.zero_add]; exact hrow.1) rfl ?_; clear hS; intro a hS
    refine Sq.guardYes hS rfl rfl (DF (by omega)) (r_move hS trivial rfl rfl (Sq.xguardYes rfl rfl (DF (by omega)) (x_nilCheck trivial rfl rfl (Sq.xguardYes rfl rfl (DF (by omega)) (x_fieldAddr trivial rfl Fc.fo80_0 rfl (Sq.xguardYes rfl rfl (DF (by omega)) (x_load_scS rfl (by repeat' constructor) Fc.sc78 (by rfl) rfl (Sq.xguardYes rfl rfl (DF (by omega)) (x_move trivial rfl rfl (Sq.xguardYes rfl rfl (DF (by omega)) (x_indexAddrS (j:=i) trivial rfl rfl Fc.slb78 rfl (by omega) rfl (Sq.xguardYes rfl rfl (DF (by omega)) (x_fieldAddr trivial rfl Fc.fo77_1 rfl (Sq.xguardYes rfl rfl (DF (by omega)) (x_load_scS rfl (by repeat' constructor) Fc.sc3 (v:=.int .i64 t.a) (hri.ok.fld ht (q:=1) rfl) rfl (Sq.xguardYes rfl rfl (DF (by omega)) (x_move trivial rfl rfl (Sq.xguardYes rfl rfl (DF (by omega)) (x_bytesStrS rfl (fun w hw => hb.ext hw.2) Fc.u8s22 Fc.isStr9 rfl (Sq.xguardYes rfl rfl (DF (by omega)) (x_buildS (parts:=[(0,.const (.int .i64 5)),(1,.tmp 47),(6,.tmp 49)]) trivial rfl rfl Fc.zc77 Fc.pl77 (by rfl) (Sq.xguardYes rfl rfl (DF (by omega)) ?_)))))))))))))))))))))); clear hS; intro a hS
    refine r_flNeq (us:=rcells u) (vs:=rcells { sgnT (strOf l) with a:=t.a }) Fc.rfl7 hS trivial rfl rfl (rcells_ok huo) (rcells_ok (t := { sgnT (strOf l) with a:=t.a }) ⟨hok5.kind,hft,hok5.b,hok5.number,hok5.label,hok5.also,hok5.bytes⟩) rfl ?_; clear hS; intro a rr hrr hS
    refine r_pickF hS trivial rfl (DF (by omega)) rfl rfl ?_; clear hS; intro a hS
    refine Sq.nil (then_n ?_)
    refine c_cond hS rfl (fun hc1 => ?_) (fun hc1 => ?_)
    ·have hne : u ≠ { sgnT (strOf l) with a:=t.a } := fun e => by have:=hrr.1 hc1; exact this (by rw [e])
     refine c_seq (reg_plain w0 (Nobody) ?_)
     refine r_assign hS hH.kp0 rfl rfl ?_; clear hS; intro a hS
     refine Sq.nil (then_n (wp_ret (then_r ?_)))
     first
      | exact leave (.inl rfl) hS rfl (Res.tmp rfl Res.nil) ⟨15,rfl,.inl ⟨rfl,fun ⟨j8,t8,p1,p2,p3⟩ => hno j8 (List.getElem?_eq_some_iff.1 p2).1 p1⟩,hH.mod⟩
      | exact leave (.inl rfl) hS rfl (Res.tmp rfl Res.nil) ⟨15,rfl,.inl ⟨rfl,fun ⟨j8,t8,p1,p2,p3⟩ => by have q1:=(List.getElem?_eq_some_iff.1 p2).1; obtain rfl : i = j8:=nm_inj (by omega) (by omega) (hn.symm.trans p1); obtain rfl : t = t8:=Option.some.inj (ht.symm.trans p2); exact hk3 p3⟩,hH.mod⟩
      | exact leave (.inl rfl) hS rfl (Res.tmp rfl Res.nil) ⟨21,rfl,.inr ⟨i,t,hn,ht,hk3,.inr ⟨rfl,fun ⟨s,p1,p2⟩ => hno2 s (List.getElem?_eq_some_iff.1 p2).1 p1⟩⟩,hH.mod⟩
      | exact leave (.inl rfl) hS rfl (Res.tmp rfl Res.nil) ⟨21,rfl,.inr ⟨i,t,hn,ht,hk3,.inr ⟨rfl,fun ⟨s,p1,p2⟩ => by have q1:=(List.getElem?_eq_some_iff.1 p2).1; obtain rfl : j = s:=nm_inj (by omega) (by omega) (hn2.symm.trans p1); exact hne (Option.some.inj (hu.symm.trans p2))⟩⟩,hH.mod⟩
      | exact leave (.inl rfl) hS rfl (Res.tmp rfl Res.nil) ⟨0,rfl,.inr ⟨i,t,hn,ht,hk3,.inl ⟨rfl,j,hn2,by rw [hu,heq]⟩⟩,hH.mod⟩
    ·have heq : u = { sgnT (strOf l) with a:=t.a } := rcells_inj (Classical.byContradiction fun h => by have:=hrr.2 h; rw [this] at hc1; cases hc1)
     refine wp_skip (then_n (c_seq (reg_plain w0 (Nobody) ?_)))
     refine r_assign hS hH.kp0 rfl rfl ?_; clear hS; intro a hS
     refine Sq.nil (then_n (wp_ret ?_))
     first
      | exact leave (.inl rfl) hS rfl (Res.tmp rfl Res.nil) ⟨15,rfl,.inl ⟨rfl,fun ⟨j8,t8,p1,p2,p3⟩ => hno j8 (List.getElem?_eq_some_iff.1 p2).1 p1⟩,hH.mod⟩
      | exact leave (.inl rfl) hS rfl (Res.tmp rfl Res.nil) ⟨15,rfl,.inl ⟨rfl,fun ⟨j8,t8,p1,p2,p3⟩ => by have q1:=(List.getElem?_eq_some_iff.1 p2).1; obtain rfl : i = j8:=nm_inj (by omega) (by omega) (hn.symm.trans p1); obtain rfl : t = t8:=Option.some.inj (ht.symm.trans p2); exact hk3 p3⟩,hH.mod⟩
      | exact leave (.inl rfl) hS rfl (Res.tmp rfl Res.nil) ⟨21,rfl,.inr ⟨i,t,hn,ht,hk3,.inr ⟨rfl,fun ⟨s,p1,p2⟩ => hno2 s (List.getElem?_eq_some_iff.1 p2).1 p1⟩⟩,hH.mod⟩
      | exact leave (.inl rfl) hS rfl (Res.tmp rfl Res.nil) ⟨21,rfl,.inr ⟨i,t,hn,ht,hk3,.inr ⟨rfl,fun ⟨s,p1,p2⟩ => by have q1:=(List.getElem?_eq_some_iff.1 p2).1; obtain rfl : j = s:=nm_inj (by omega) (by omega) (hn2.symm.trans p1); exact hne (Option.some.inj (hu.symm.trans p2))⟩⟩,hH.mod⟩
      | exact leave (.inl rfl) hS rfl (Res.tmp rfl Res.nil) ⟨0,rfl,.inr ⟨i,t,hn,ht,hk3,.inl ⟨rfl,j,hn2,by rw [hu,heq]⟩⟩,hH.mod⟩
   ·refine r_move hS trivial rfl rfl (x_lss trivial rfl rfl rfl (x_move trivial rfl rfl (Sq.xguardNo rfl rfl rfl trivial rfl (Sq.xguardNo rfl rfl rfl trivial rfl (Sq.xguardNo rfl rfl rfl trivial rfl (Sq.xguardNo rfl rfl rfl trivial rfl (Sq.xguardNo rfl rfl rfl trivial rfl (Sq.xguardNo rfl rfl rfl trivial rfl (Sq.xguardNo rfl rfl rfl trivial rfl (Sq.xguardNo rfl rfl rfl trivial rfl (Sq.xguardNo rfl rfl rfl trivial rfl (Sq.xguardNo rfl rfl rfl trivial rfl (Sq.xguardNo rfl rfl rfl trivial rfl (Sq.xguardNo rfl rfl rfl trivial rfl (Sq.xguardNo rfl rfl rfl trivial rfl (Sq.xguardNo rfl rfl rfl trivial rfl (Sq.xguardNo rfl rfl rfl trivial rfl (Sq.xguardNo rfl rfl rfl trivial rfl (Sq.xguardNo rfl rfl rfl trivial rfl (Sq.xguardNo rfl rfl rfl trivial rfl (Sq.xguardNo rfl rfl rfl trivial rfl (x_pickT trivial rfl rfl rfl rfl ?_)))))))))))))))))))))); clear hS; intro a hS
    refine Sq.nil (then_n (c_condT hS rfl rfl (c_seq (reg_plain w0 (Nobody) ?_))))
    refine r_assign hS hH.kp0 rfl rfl ?_; clear hS; intro a hS
    refine Sq.nil (then_n (wp_ret (then_r ?_)))
    first
     | exact leave (.inl rfl) hS rfl (Res.tmp rfl Res.nil) ⟨15,rfl,.inl ⟨rfl,fun ⟨j8,t8,p1,p2,p3⟩ => hno j8 (List.getElem?_eq_some_iff.1 p2).1 p1⟩,hH.mod⟩
     | exact leave (.inl rfl) hS rfl (Res.tmp rfl Res.nil) ⟨15,rfl,.inl ⟨rfl,fun ⟨j8,t8,p1,p2,p3⟩ => by have q1:=(List.getElem?_eq_some_iff.1 p2).1; obtain rfl : i = j8:=nm_inj (by omega) (by omega) (hn.symm.trans p1); obtain rfl : t = t8:=Option.some.inj (ht.symm.trans p2); exact hk3 p3⟩,hH.mod⟩
     | exact leave (.inl rfl) hS rfl (Res.tmp rfl Res.nil) ⟨21,rfl,.inr ⟨i,t,hn,ht,hk3,.inr ⟨rfl,fun ⟨s,p1,p2⟩ => hno2 s (List.getElem?_eq_some_iff.1 p2).1 p1⟩⟩,hH.mod⟩
     | exact leave (.inl rfl) hS rfl (Res.tmp rfl Res.nil) ⟨21,rfl,.inr ⟨i,t,hn,ht,hk3,.inr ⟨rfl,fun ⟨s,p1,p2⟩ => by have q1:=(List.getElem?_eq_some_iff.1 p2).1; obtain rfl : j = s:=nm_inj (by omega) (by omega) (hn2.symm.trans p1); exact hne (Option.some.inj (hu.symm.trans p2))⟩⟩,hH.mod⟩
     | exact leave (.inl rfl) hS rfl (Res.tmp rfl Res.nil) ⟨0,rfl,.inr ⟨i,t,hn,ht,hk3,.inl ⟨rfl,j,hn2,by rw [hu,heq]⟩⟩,hH.mod⟩
 ·refine r_move hS hH.kp0 rfl rfl (x_lss hH.kp0 rfl rfl rfl (x_move hH.kp0 rfl rfl (Sq.xguardNo rfl rfl rfl hH.kp0 rfl (Sq.xguardNo rfl rfl rfl hH.kp0 rfl (Sq.xguardNo rfl rfl rfl hH.kp0 rfl (Sq.xguardNo rfl rfl rfl hH.kp0 rfl (Sq.xguardNo rfl rfl rfl hH.kp0 rfl (Sq.xguardNo rfl rfl rfl hH.kp0 rfl (Sq.xguardNo rfl rfl rfl hH.kp0 rfl (Sq.xguardNo rfl rfl rfl hH.kp0 rfl (Sq.xguardNo rfl rfl rfl hH.kp0 rfl (x_pickT hH.kp0 rfl rfl rfl rfl ?_)))))))))))); clear hS; intro a hS
  refine Sq.nil (then_n (c_condT hS rfl rfl (c_seq (reg_plain w0 (Nobody) ?_))))
  refine r_assign hS hH.kp0 rfl rfl ?_; clear hS; intro a hS
  refine Sq.nil (then_n (wp_ret (then_r ?_)))
  first
   | exact leave (.inl rfl) hS rfl (Res.tmp rfl Res.nil) ⟨15,rfl,.inl ⟨rfl,fun ⟨j8,t8,p1,p2,p3⟩ => hno j8 (List.getElem?_eq_some_iff.1 p2).1 p1⟩,hH.mod⟩
   | exact leave (.inl rfl) hS rfl (Res.tmp rfl Res.nil) ⟨15,rfl,.inl ⟨rfl,fun ⟨j8,t8,p1,p2,p3⟩ => by have q1:=(List.getElem?_eq_some_iff.1 p2).1; obtain rfl : i = j8:=nm_inj (by omega) (by omega) (hn.symm.trans p1); obtain rfl : t = t8:=Option.some.inj (ht.symm.trans p2); exact hk3 p3⟩,hH.mod⟩
   | exact leave (.inl rfl) hS rfl (Res.tmp rfl Res.nil) ⟨21,rfl,.inr ⟨i,t,hn,ht,hk3,.inr ⟨rfl,fun ⟨s,p1,p2⟩ => hno2 s (List.getElem?_eq_some_iff.1 p2).1 p1⟩⟩,hH.mod⟩
   | exact leave (.inl rfl) hS rfl (Res.tmp rfl Res.nil) ⟨21,rfl,.inr ⟨i,t,hn,ht,hk3,.inr ⟨rfl,fun ⟨s,p1,p2⟩ => by have q1:=(List.getElem?_eq_some_iff.1 p2).1; obtain rfl : j = s:=nm_inj (by omega) (by omega) (hn2.symm.trans p1); exact hne (Option.some.inj (hu.symm.trans p2))⟩⟩,hH.mod⟩
   | exact leave (.inl rfl) hS rfl (Res.tmp rfl Res.nil) ⟨0,rfl,.inr ⟨i,t,hn,ht,hk3,.inl ⟨rfl,j,hn2,by rw [hu,heq]⟩⟩,hH.mod⟩

set_option maxRecDepth 100000 in
set_option maxHeartbeats 4000000 in
theorem rSeal_c (b : Nat) (V : RB) (ts : List Tm) (h : List UInt8) (hh : h.length = 16) (nu : Int) (hnu : nu≤9223372036854775807) (va vp : Value) (la lp : List UInt8) (hla : la.length≤9223372036854775807) (hm : ts.length≤1000000000) (w0 : World) (hri : RI w0 b V ts) (hba : BsF (V.F b) w0 va la) (hbp : BsF (V.F b) w0 vp lp) : Calls Tryd.prog 39 #[.pointer (some ⟨b,0,none⟩),hnd h,.int .i64 nu,va,vp] w0 fun e w' => ∃ (sv : Value) (o : List UInt8) (x : Int) (V' : RB) (ts' : List Tm),e = .returned (.tuple #[sv,.int .i64 x])∧BsF (fun z => z < w0.heap.size∨V'.F b z) w' sv o∧RI w' b V' ts'∧RStep w0 w' b V V'∧SealT ts h nu la lp o x ts':=by
 refine enter Tryd.func39 rfl rfl rfl ?_
 intro a hS
 have hH:=Hp.start w0 (V.F b)
 obtain ⟨x0,x1,x2,x3,x4,x5,x6,x7,x8,x9,xa,xb,xc,xd,xe,xf,rfl⟩:=len16 hh
 replace hH:=hH.knowR hri (by intro p hp; simp at hp)
 have hRS:=RS.start w0 b V
 obtain ⟨qp,qcp,hsp⟩:=hbp.bs
 have hvp:=hsp.val
 subst hvp
 have hspl:=hsp.le
 refine c_seq (reg_plain w0 (V.F b) ?_)
 refine r_box hS hH (by repeat' constructor) rfl rfl rfl ?_
 clear hS hH; intro a w b6 hb6 hwb6 hS hH
 refine r_assign hS hH.kp0 rfl rfl (x_assign hH.kp0 rfl rfl ?_); clear hS; intro a hS
 refine Sq.nil (then_n (c_seq (reg_plain w0 (V.F b) ?_)))
 refine r_move hS hH.kp0 rfl rfl (x_load_row hH (by repeat' constructor) rfl (by repeat' constructor) Fc.ag25 (by rfl) rfl ?_); clear hS; intro a hS
 refine r_call (l:=[.tmp 14,.tmp 15]) hS rfl rfl Fc.fn46 rfl ?_
 refine Calls.mono (rOf_c b V ts [x0,x1,x2,x3,x4,x5,x6,x7,x8,x9,xa,xb,xc,xd,xe,xf] rfl hm _ (hH.rin (TV:=80) (TT:=77) hri.ok rfl hri.n01 (by repeat' constructor) (by repeat' constructor))) ?_
 rintro e w1 ⟨k,rfl,hcase,hE⟩
 replace hH:=hH.ext hE
 refine ⟨_,rfl,hH.kp0,?_⟩
 clear hS; intro a hS
 refine r_assign hS hH.kp0 rfl rfl ?_; clear hS; intro a hS
 refine Sq.nil (then_n (c_seq (c_seq (reg_plain w0 (V.F b) ?_))))
 refine r_move hS hH.kp0 rfl rfl (x_lss hH.kp0 rfl rfl rfl ?_); clear hS; intro a hS
 refine Sq.nil (then_n ?_)
 refine c_cond hS rfl (fun hc0 => ?_) (fun hc0 => ?_)
 ·have hlt:=of_decide_eq_true hc0
  rcases hcase with ⟨i,hi,hn,hk⟩ | ⟨hno,hk⟩
  ·omega
  refine c_seq (reg_plain w0 (V.F b) ?_)
  refine r_assign hS hH.kp0 rfl rfl (x_assign hH.kp0 rfl rfl ?_); clear hS; intro a hS
  refine Sq.nil (then_n (wp_ret (then_r ?_)))
  exact leave (.inl rfl) hS rfl (Res.tmp rfl (Res.tmp rfl Res.nil)) ⟨_,[],_,V,ts,rfl,BsF.nil _ _,(hH.rin (TV:=80) (TT:=77) hri.ok rfl hri.n01 (by repeat' constructor) (by repeat' constructor)),⟨hRS,hH.mod⟩,.inl ⟨rfl,hno,rfl,rfl⟩⟩
 ·have hge:=of_decide_eq_false hc0
  rcases hcase.symm with ⟨hno,hk⟩ | ⟨i,hi,hn,hk⟩
  ·omega
  subst hk
  refine wp_skip (then_n (c_seq (c_seq (reg_plain w0 (V.F b) ?_))))
  refine r_move hS hH.kp0 rfl rfl (x_lss hH.kp0 rfl rfl rfl ?_); clear hS; intro a hS
  refine Sq.nil (then_n ?_)
  refine c_cond hS rfl (fun hc1 => ?_) (fun hc1 => ?_)
  ·have hng:=of_decide_eq_true hc1
   refine c_seq (reg_plain w0 (V.F b) ?_)
   refine r_assign hS hH.kp0 rfl rfl (x_assign hH.kp0 rfl rfl ?_); clear hS; intro a hS
   refine Sq.nil (then_n (wp_ret (then_r ?_)))
   exact leave (.inl rfl) hS rfl (Res.tmp rfl (Res.tmp rfl Res.nil)) ⟨_,[],_,V,ts,rfl,BsF.nil _ _,(hH.rin (TV:=80) (TT:=77) hri.ok rfl hri.n01 (by repeat' constructor) (by repeat' constructor)),⟨hRS,hH.mod⟩,.inr ⟨i,hi,hn,.inl ⟨rfl,hng,rfl,rfl⟩⟩⟩
  ·have hng:=of_decide_eq_false hc1
   refine wp_skip (then_n (c_seq (c_seq (reg_plain w0 (V.F b) ?_))))
   refine r_move hS hH.kp0 rfl rfl (x_lenSl hH.kp0 rfl Fc.isSlice22 rfl (x_gtr hH.kp0 rfl rfl rfl ?_)); clear hS; intro a hS
   refine Sq.nil (then_n ?_)
   refine c_cond hS rfl (fun hc2 => ?_) (fun hc2 => ?_)
   ·have hbg:=of_decide_eq_true hc2
    refine c_seq (reg_plain w0 (V.F b) ?_)
    refine r_assign hS hH.kp0 rfl rfl (x_assign hH.kp0 rfl rfl ?_); clear hS; intro a hS
    refine Sq.nil (then_n (wp_ret (then_r ?_)))
    exact leave (.inl rfl) hS rfl (Res.tmp rfl (Res.tmp rfl Res.nil)) ⟨_,[],_,V,ts,rfl,BsF.nil _ _,(hH.rin (TV:=80) (TT:=77) hri.ok rfl hri.n01 (by repeat' constructor) (by repeat' constructor)),⟨hRS,hH.mod⟩,.inr ⟨i,hi,hn,.inr (.inl ⟨rfl,by omega,by omega,rfl,rfl⟩)⟩⟩
   ·have hbg:=of_decide_eq_false hc2
    refine wp_skip (then_n (c_seq (reg_plain w0 (V.F b) ?_)))
    refine r_move hS hH.kp0 rfl rfl (x_move hH.kp0 rfl rfl (x_move hH.kp0 rfl rfl (x_move hH.kp0 rfl rfl (x_bytesStr hH.kp0 rfl (hba _ hH.mod) Fc.u8s22 Fc.isStr9 rfl (x_move hH.kp0 rfl rfl (x_bytesStr hH.kp0 rfl (hbp _ hH.mod) Fc.u8s22 Fc.isStr9 rfl (x_buildS (parts:=[(0,.const (.int .i64 6)),(1,.tmp 25),(4,.tmp 26),(5,.tmp 28),(6,.tmp 30)]) hH.kp0 rfl rfl Fc.zc77 Fc.pl77 (by rfl) ?_))))))); clear hS; intro a hS
    refine r_call (l:=[.tmp 24,.tmp 31]) hS rfl rfl Fc.fn60 rfl ?_
    refine Calls.mono (rmake_c b V ts (selT i nu (strOf la) (strOf lp)) (selT_ok2 (by omega) ⟨by omega,hnu⟩ hla (by show lp.length≤_; omega)) hm _ (hH.rin (TV:=80) (TT:=77) hri.ok rfl hri.n01 (by repeat' constructor) (by repeat' constructor))) ?_
    rintro e w1 ⟨h,j9,V1,ts1,rfl,hqz,hri1,hst,hmd⟩
    obtain ⟨z0,z1,z2,z3,z4,z5,z6,z7,z8,z9,za,zb,zc,zd,ze,zf,rfl⟩:=len16 (h:=h) (by rw [hqz]; rfl)
    have hRS1:=hRS.step hst hH.mod.size
    replace hH:=hH.rvault hRS hst hri1 (by first | exact .two | exact .there .two | exact .there (.there .two) | exact .there (.there (.there .two)) | exact .there (.there (.there (.there .two))) | exact .there (.there (.there (.there (.there .two)))) | exact .there (.there (.there (.there (.there (.there .two))))) | exact .there (.there (.there (.there (.there (.there (.there .two)))))) | exact .there (.there (.there (.there (.there (.there (.there (.there .two))))))) | exact .there (.there (.there (.there (.there (.there (.there (.there (.there .two)))))))) | exact .there (.there (.there (.there (.there (.there (.there (.there (.there (.there .two))))))))) | exact .there (.there (.there (.there (.there (.there (.there (.there (.there (.there (.there .two)))))))))) | exact .there (.there (.there (.there (.there (.there (.there (.there (.there (.there (.there (.there .two))))))))))) | exact .there (.there (.there (.there (.there (.there (.there (.there (.there (.there (.there (.there (.there .two)))))))))))) | exact .there (.there (.there (.there (.there (.there (.there (.there (.there (.there (.there (.there (.there (.there .two))))))))))))) | exact .there (.there (.there (.there (.there (.there (.there (.there (.there (.there (.there (.there (.there (.there (.there .two)))))))))))))))
    refine ⟨_,rfl,hH.kp0,?_⟩
    clear hS; intro a hS
    refine r_alloc hS hH (by repeat' constructor) Fc.zc25 rfl ?_
    clear hS hH; intro a w b13 hb13 hwb13 hS hH
    refine r_store_row hS hH rfl rfl (by repeat' constructor) (by repeat' constructor) Fc.sz25 (by first | exact hcells_one _ | exact of_decide_eq_true rfl) (by rfl) (by first | exact .inr (by assumption) | exact .inl (by first | assumption | rfl)) ?_
    clear hH; intro w hH
    refine Sq.nil (then_n (c_seq ?_))
    refine reg_draw [(true,0,[]),(true,1,[]),(true,3,[]),(false,2,[]),(false,4,[]),(true,5,[]),(true,6,[])] Fc.mixed (by kernel_rfl) (by kernel_rfl) (by kernel_rfl) (by kernel_rfl) (by kernel_rfl) (by repeat (first | with_reducible exact steady_body | with_reducible apply steady_block | with_reducible apply steady_then | with_reducible apply steady_scope | exact steady_body)) hH ?_
    replace hH:=hH.drew
    refine r_move hS trivial rfl rfl (x_lenSl trivial rfl Fc.isSlice22 rfl (x_slArr trivial rfl Fc.ar25 rfl ?_)); clear hS; intro a hS
    refine r_makeSl (m:=lp.length) (v0:=.int .u8 0) hS hH (by repeat' constructor) rfl rfl rfl rfl Fc.el22 Fc.zc5 (by omega) (by omega) rfl ?_
    clear hS hH; intro a w b47 hb47 hwb47 hS hH
    refine r_append_own2 (m:=lp.length) (cap:=lp.length) hS hH rfl rfl (by repeat' constructor) (by repeat' constructor) Fc.el22 Fc.ni22 (by rw [List.length_replicate,Nat.mul_one]) (Nat.le_refl _) (Bs.handle (h:=[z0,z1,z2,z3,z4,z5,z6,z7,z8,z9,za,zb,zc,zd,ze,zf]) (hH.get (b:=b13) (by repeat' constructor)) rfl).src (by show (lp.length + 16) * 1≤_; omega) hb47 rfl ?_
    clear hS hH; intro a w bz cz kz hbz1 hlz hcz htz hmz hS hH
    have hBz : BB cz kz (List.replicate lp.length 0++[z0,z1,z2,z3,z4,z5,z6,z7,z8,z9,za,zb,zc,zd,ze,zf]):=⟨by rw [hlz,Nat.mul_one],by rw [List.length_append,List.length_replicate]; exact hcz,by rw [List.length_append,List.length_replicate]; rw [Nat.mul_one,Nat.mul_one] at htz; rw [show ([z0,z1,z2,z3,z4,z5,z6,z7,z8,z9,za,zb,zc,zd,ze,zf] : List UInt8).length = 16 from rfl]; rw [show lp.length + ([z0,z1,z2,z3,z4,z5,z6,z7,z8,z9,za,zb,zc,zd,ze,zf] : List UInt8).length = lp.length + 16 from rfl] at htz; rw [htz,List.map_append,rep_byte,List.take_of_length_le (by simp)]⟩
    refine r_assign hS trivial rfl rfl (x_assign trivial rfl rfl ?_); clear hS; intro a hS
    refine Sq.nil (then_n (wp_ret ?_))
    rw [hqz] at hBz
    have hri9:=(hH.rin (TV:=80) (TT:=77) hri1.ok rfl hri1.n01 (by repeat' constructor) (by repeat' constructor))
    have hB:=BsF.of_blk (F:=fun z => z < w0.heap.size∨V1.F b z) (hH.get (b:=bz) (by repeat' constructor)) (by intro h9; rcases h9 with h9 | h9; omega; exact hri9.notF (hH.get (b:=bz) (by repeat' constructor)) (by decide) (by decide) h9) hBz.take hBz.le
    rw [List.length_append,List.length_replicate,nm_len] at hB
    exact leave (.inl rfl) hS rfl (Res.tmp rfl (Res.tmp rfl Res.nil)) ⟨_,_,0,V1,ts1,rfl,hB,(hH.rin (TV:=80) (TT:=77) hri1.ok rfl hri1.n01 (by repeat' constructor) (by repeat' constructor)),⟨hRS1,hH.mod⟩,.inr ⟨i,hi,hn,.inr (.inr ⟨rfl,by omega,by omega,j9,hmd,rfl⟩)⟩⟩

end Go.Proofs.YtcjmehononbadaaDoor
