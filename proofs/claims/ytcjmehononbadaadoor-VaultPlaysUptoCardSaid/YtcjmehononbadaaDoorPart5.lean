/- Two vaults under any calls answer alike. Part Part5: walks and lemmas of the proof. -/
import Derived.Test.YtcjmehononbadaaDoorPart4
import Derived.Test.YtcjmehononbadaaDoorSym5
namespace Go.Proofs.YtcjmehononbadaaDoor
open Go.Sym

theorem Fc.fn28 : isFn Tryd.prog 28 = true:=by kernel_rfl
theorem Fc.sz3 : sizeB Tryd.prog 3 1 = true:=by kernel_rfl
set_option maxRecDepth 100000 in
set_option maxHeartbeats 400000 in
theorem Known_v (b : Nat) (V : VB) (ts : List Tm) (h : List UInt8) (hh : h.length = 16) (w0 : World) (hvi : VI w0 b V ts) : Calls Tryd.prog 18 #[.pointer (some ⟨b,0,none⟩),hnd h] w0 fun e w' => ∃ kb,e = .returned (.bool kb)∧(kb = true↔∃ i,i < ts.length∧h = nm i)∧Ext w0 w':=by
 refine enter Tryd.func18 rfl rfl rfl ?_
 intro a hS
 have hH:=Hp.start w0 (Nobody)
 obtain ⟨x0,x1,x2,x3,x4,x5,x6,x7,x8,x9,xa,xb,xc,xd,xe,xf,rfl⟩:=len16 hh
 replace hH:=hH.knowV hvi (by intro p hp; simp at hp)
 obtain ⟨g2,hm2,hf2⟩:=hvi.ok.names
 obtain ⟨n0,th,e1,e2,hcase⟩:=hf2.look2 [x0,x1,x2,x3,x4,x5,x6,x7,x8,x9,xa,xb,xc,xd,xe,xf]
 refine c_seq (reg_plain w0 (Nobody) ?_)
 refine r_box hS hH (by repeat' constructor) rfl rfl rfl ?_
 clear hS hH; intro a w b3 hb3 hwb3 hS hH
 refine r_assign hS hH.kp0 rfl rfl ?_; clear hS; intro a hS
 refine Sq.nil (then_n (c_seq (c_seq (reg_plain w0 (Nobody) ?_))))
 refine r_move hS hH.kp0 rfl rfl ?_; clear hS; intro a hS
 refine r_call (l:=[.tmp 7]) hS rfl rfl Fc.fn24 rfl ?_
 refine Calls.mono (none_v b V ts _ (hH.vin hvi.ok hvi.n01 hvi.n23 (by repeat' constructor) (by repeat' constructor) (by repeat' constructor) (by repeat' constructor))) ?_
 rintro e w1 ⟨rfl,hE⟩
 replace hH:=hH.ext hE
 refine ⟨_,rfl,hH.kp0,?_⟩
 clear hS; intro a hS
 refine Sq.nil (then_n (c_condF hS rfl rfl (wp_skip (then_n (c_seq ?_)))))
 refine reg_draw [(true,0,[]),(true,1,[]),(true,2,[]),(true,3,[]),(true,4,[]),(true,5,[]),(true,6,[]),(true,7,[]),(true,8,[]),(true,9,[]),(true,10,[])] Fc.mixed (by kernel_rfl) (by kernel_rfl) (by kernel_rfl) (by kernel_rfl) (by kernel_rfl) (by repeat (first | with_reducible exact steady_body | with_reducible apply steady_block | with_reducible apply steady_then | with_reducible apply steady_scope | exact steady_body)) hH ?_
 replace hH:=hH.drew
 refine r_move hS trivial rfl rfl (x_nilCheck trivial rfl rfl (x_fieldAddr trivial rfl Fc.fo41_2 rfl (x_load_scS rfl (by repeat' constructor) Fc.sc39 (by rfl) rfl (x_load_rowS rfl (by repeat' constructor) Fc.ag26 (by rfl) rfl (x_lookupS2 Fc.mtN rfl rfl (by repeat' constructor) hm2 (Fc.arrH.keyOf (h:=[x0,x1,x2,x3,x4,x5,x6,x7,x8,x9,xa,xb,xc,xd,xe,xf]) rfl) e1 e2 rfl (x_move trivial rfl rfl (x_extract trivial rfl rfl rfl (x_extract trivial rfl rfl rfl (x_assign trivial rfl rfl (x_assign trivial rfl rfl ?_)))))))))); clear hS; intro a hS
 refine Sq.nil (then_n (c_seq (reg_plain w0 (Nobody) ?_)))
 refine r_move hS hH.kp0 rfl rfl (x_assign hH.kp0 rfl rfl ?_); clear hS; intro a hS
 refine Sq.nil (then_n (wp_ret ?_))
 refine leave (.inl rfl) hS rfl (Res.tmp rfl Res.nil) ⟨_,rfl,?_,hH.mod⟩
 rcases hcase with ⟨h1,i,hi,_,hn⟩ | ⟨h1,_,hno⟩
 ·exact ⟨fun _ => ⟨i,hi,hn⟩,fun _ => h1⟩
 ·rw [h1]; exact ⟨(fun h => by cases h),fun ⟨i,hi,hn⟩ => absurd hn (hno i hi)⟩

set_option maxRecDepth 100000 in
set_option maxHeartbeats 1000000 in
theorem of_v (b : Nat) (V : VB) (ts : List Tm) (h : List UInt8) (hh : h.length = 16) (t : Tm) (ht : t.ok) (hm : ts.length≤1000000000) (w0 : World) (hvi : VI w0 b V ts) : Calls Tryd.prog 28 #[.pointer (some ⟨b,0,none⟩),hnd h,tv t] w0 fun e w' => ∃ h' x V' ts',e = .returned (.tuple #[hnd h',.int .i64 x])∧VI w' b V' ts'∧VStep w0 w' b V V'∧OfT ts h t h' x ts':=by
 refine enter Tryd.func28 rfl rfl rfl ?_
 intro a hS
 have hH:=Hp.start w0 (V.F b)
 obtain ⟨x0,x1,x2,x3,x4,x5,x6,x7,x8,x9,xa,xb,xc,xd,xe,xf,rfl⟩:=len16 hh
 replace hH:=hH.knowV hvi (by intro p hp; simp at hp)
 have hVS:=VS.start w0 b V
 obtain ⟨g2,hm2,hf2⟩:=hvi.ok.names
 obtain ⟨n0,th,e1,e2,hcase⟩:=hf2.look2 [x0,x1,x2,x3,x4,x5,x6,x7,x8,x9,xa,xb,xc,xd,xe,xf]
 refine c_seq (reg_plain w0 (V.F b) ?_)
 refine r_box hS hH (by repeat' constructor) rfl rfl rfl ?_
 clear hS hH; intro a w b4 hb4 hwb4 hS hH
 refine r_box hS hH (by repeat' constructor) rfl rfl rfl ?_
 clear hS hH; intro a w b5 hb5 hwb5 hS hH
 refine r_alloc hS hH (by repeat' constructor) Fc.zc26 rfl ?_
 clear hS hH; intro a w b6 hb6 hwb6 hS hH
 refine r_assign hS hH.kp0 rfl rfl ?_; clear hS; intro a hS
 refine Sq.nil (then_n (c_seq (c_seq (reg_plain w0 (V.F b) ?_))))
 refine r_move hS hH.kp0 rfl rfl ?_; clear hS; intro a hS
 refine r_call (l:=[.tmp 10]) hS rfl rfl Fc.fn24 rfl ?_
 refine Calls.mono (none_v b V ts _ (hH.vin hvi.ok hvi.n01 hvi.n23 (by repeat' constructor) (by repeat' constructor) (by repeat' constructor) (by repeat' constructor))) ?_
 rintro e w1 ⟨rfl,hE⟩
 replace hH:=hH.ext hE
 refine ⟨_,rfl,hH.kp0,?_⟩
 clear hS; intro a hS
 refine Sq.nil (then_n (c_condF hS rfl rfl (wp_skip (then_n (c_seq ?_)))))
 refine reg_draw [(true,0,[]),(true,1,[]),(true,2,[]),(true,3,[]),(true,4,[]),(true,5,[]),(true,6,[]),(true,7,[]),(true,8,[]),(true,9,[]),(true,10,[])] Fc.mixed (by kernel_rfl) (by kernel_rfl) (by kernel_rfl) (by kernel_rfl) (by kernel_rfl) (by repeat (first | with_reducible exact steady_body | with_reducible apply steady_block | with_reducible apply steady_then | with_reducible apply steady_scope | exact steady_body)) hH ?_
 replace hH:=hH.drew
 refine r_move hS trivial rfl rfl (x_nilCheck trivial rfl rfl (x_fieldAddr trivial rfl Fc.fo41_2 rfl (x_load_scS rfl (by repeat' constructor) Fc.sc39 (by rfl) rfl (x_load_rowS rfl (by repeat' constructor) Fc.ag26 (by rfl) rfl (x_lookupS2 Fc.mtN rfl rfl (by repeat' constructor) hm2 (Fc.arrH.keyOf (h:=[x0,x1,x2,x3,x4,x5,x6,x7,x8,x9,xa,xb,xc,xd,xe,xf]) rfl) e1 e2 rfl (x_move trivial rfl rfl (x_extract trivial rfl rfl rfl (x_extract trivial rfl rfl rfl (x_assign trivial rfl rfl (x_assign trivial rfl rfl ?_)))))))))); clear hS; intro a hS
 refine Sq.nil (then_n (c_seq (c_seq (reg_plain w0 (V.F b) ?_))))
 refine r_move hS hH.kp0 rfl rfl (x_not hH.kp0 rfl rfl ?_); clear hS; intro a hS
 refine Sq.nil (then_n ?_)
 refine c_cond hS rfl (fun hc1 => ?_) (fun hc1 => ?_)
 ·rcases hcase with ⟨h1,_⟩ | ⟨_,hn0,hno⟩
  ·rw [h1] at hc1; cases hc1
  refine c_seq (reg_plain w0 (V.F b) ?_)
  refine r_buildA (parts:=[]) hS hH.kp0 rfl rfl Fc.zc26 Fc.ar26 (by rfl) ?_; clear hS; intro a hS
  refine r_store_row hS hH rfl rfl (by repeat' constructor) (by repeat' constructor) Fc.sz26 (by first | exact hcells_one _ | exact of_decide_eq_true rfl) (by rfl) (by first | exact .inr (by assumption) | exact .inl (by first | assumption | rfl)) ?_
  clear hH; intro w hH
  refine r_assign hS hH.kp0 rfl rfl ?_; clear hS; intro a hS
  refine Sq.nil (then_n (wp_ret (then_r ?_)))
  exact leave (.inl rfl) hS rfl (Res.cell rfl (hH.get (by repeat' constructor)) Fc.ag26 (by rfl) rfl (Res.tmp rfl Res.nil)) ⟨zH,_,V,ts,rfl,(hH.vin hvi.ok hvi.n01 hvi.n23 (by repeat' constructor) (by repeat' constructor) (by repeat' constructor) (by repeat' constructor)),⟨hVS,hH.mod⟩,.inr ⟨hno,rfl,rfl,rfl⟩⟩
 ·rcases hcase.symm with ⟨h1,_⟩ | ⟨_,i,hi,hn0,hn⟩
  ·rw [h1] at hc1; cases hc1
  subst hn0
  refine wp_skip (then_n (c_seq (reg_plain w0 (V.F b) ?_)))
  refine r_move hS hH.kp0 rfl rfl (x_fieldAddr hH.kp0 rfl Fc.fo64_1 rfl ?_); clear hS; intro a hS
  refine r_store1 hS hH rfl rfl rfl (by repeat' constructor) (by repeat' constructor) Fc.sz3 (of_decide_eq_true rfl) (by first | exact .inr (by assumption) | exact .inl (by first | assumption | rfl)) ?_
  clear hH; intro w hH
  refine Sq.nil (then_n (c_seq (reg_plain w0 (V.F b) ?_)))
  refine r_move hS hH.kp0 rfl rfl (x_load_row hH (by repeat' constructor) rfl (by repeat' constructor) Fc.ag64 (by rfl) rfl ?_); clear hS; intro a hS
  refine r_call (l:=[.tmp 27,.tmp 28]) hS rfl rfl Fc.fn23 rfl ?_
  refine Calls.mono (make_c b V ts { t with a:=(i : Int) } (ok_a ht (by omega)) hm _ (hH.vin hvi.ok hvi.n01 hvi.n23 (by repeat' constructor) (by repeat' constructor) (by repeat' constructor) (by repeat' constructor))) ?_
  rintro e w1 ⟨h,j,V1,ts1,rfl,hqy,hvi1,hst,hmd⟩
  obtain ⟨y0,y1,y2,y3,y4,y5,y6,y7,y8,y9,ya,yb,yc,yd,ye,yf,rfl⟩:=len16 (h:=h) (by rw [hqy]; rfl)
  have hVS1:=hVS.step hst hH.mod.size
  replace hH:=hH.vault hVS hst hvi1 (by repeat' constructor)
  refine ⟨_,rfl,hH.kp0,?_⟩
  clear hS; intro a hS
  refine r_store_row hS hH rfl rfl (by repeat' constructor) (by repeat' constructor) Fc.sz26 (by first | exact hcells_one _ | exact of_decide_eq_true rfl) (by rfl) (by first | exact .inr (by assumption) | exact .inl (by first | assumption | rfl)) ?_
  clear hH; intro w hH
  refine r_assign hS hH.kp0 rfl rfl ?_; clear hS; intro a hS
  refine Sq.nil (then_n (wp_ret ?_))
  exact leave (.inl rfl) hS rfl (Res.cell rfl (hH.get (by repeat' constructor)) Fc.ag26 (by rfl) rfl (Res.tmp rfl Res.nil)) ⟨_,_,V1,ts1,rfl,(hH.vin hvi1.ok hvi1.n01 hvi1.n23 (by repeat' constructor) (by repeat' constructor) (by repeat' constructor) (by repeat' constructor)),⟨hVS1,hH.mod⟩,.inl ⟨i,j,hi,hn,rfl,hqy,hmd⟩⟩

set_option maxRecDepth 100000 in
set_option maxHeartbeats 400000 in
theorem Derive_v (b : Nat) (V : VB) (ts : List Tm) (h : List UInt8) (hh : h.length = 16) (s : ByteArray) (v : Value) (l : List UInt8) (hs : s.size≤9223372036854775807) (hl : l.length≤9223372036854775807) (hm : ts.length≤1000000000) (w0 : World) (hvi : VI w0 b V ts) (hb : BsF (V.F b) w0 v l) : Calls Tryd.prog 12 #[.pointer (some ⟨b,0,none⟩),hnd h,.string s,v] w0 fun e w' => ∃ h' x V' ts',e = .returned (.tuple #[hnd h',.int .i64 x])∧VI w' b V' ts'∧VStep w0 w' b V V'∧OfT ts h (drv s (strOf l)) h' x ts':=by
  refine enter Tryd.func12 rfl rfl rfl ?_
  intro a hS
  have hH:=Hp.start w0 (V.F b)
  obtain ⟨x0,x1,x2,x3,x4,x5,x6,x7,x8,x9,xa,xb,xc,xd,xe,xf,rfl⟩:=len16 hh
  replace hH:=hH.knowV hvi (by intro p hp; simp at hp)
  have hVS:=VS.start w0 b V
  refine c_seq (reg_plain w0 (V.F b) ?_)
  refine r_box hS hH (by repeat' constructor) rfl rfl rfl ?_
  clear hS hH; intro a w b5 hb5 hwb5 hS hH
  refine r_alloc hS hH (by repeat' constructor) Fc.zc26 rfl ?_
  clear hS hH; intro a w b8 hb8 hwb8 hS hH
  refine r_assign hS hH.kp0 rfl rfl ?_; clear hS; intro a hS
  refine Sq.nil (then_n (c_seq (reg_plain w0 (V.F b) ?_)))
  refine r_move hS hH.kp0 rfl rfl (x_load_row hH (by repeat' constructor) rfl (by repeat' constructor) Fc.ag26 (by rfl) rfl (x_move hH.kp0 rfl rfl (x_move hH.kp0 rfl rfl (x_bytesStr hH.kp0 rfl (hb _ hH.mod) Fc.u8s22 Fc.isStr9 rfl (x_buildS (parts:=[(0,.const (.int .i64 2)),(4,.tmp 12),(6,.tmp 14)]) hH.kp0 rfl rfl Fc.zc64 Fc.pl64 (by rfl) ?_))))); clear hS; intro a hS
  refine r_call (l:=[.tmp 10,.tmp 11,.tmp 15]) hS rfl rfl Fc.fn28 rfl ?_
  refine Calls.mono (of_v b V ts [x0,x1,x2,x3,x4,x5,x6,x7,x8,x9,xa,xb,xc,xd,xe,xf] rfl (drv s (strOf l)) (drv_ok hs hl) hm _ (hH.vin hvi.ok hvi.n01 hvi.n23 (by repeat' constructor) (by repeat' constructor) (by repeat' constructor) (by repeat' constructor))) ?_
  rintro e w1 ⟨h,x,V1,ts1,rfl,hvi1,hst,hof⟩
  have hly:=hof.len
  obtain ⟨y0,y1,y2,y3,y4,y5,y6,y7,y8,y9,ya,yb,yc,yd,ye,yf,rfl⟩:=len16 hly
  have hVS1:=hVS.step hst hH.mod.size
  replace hH:=hH.vault hVS hst hvi1 (by repeat' constructor)
  refine ⟨_,rfl,hH.kp0,?_⟩
  clear hS; intro a hS
  refine r_extract hS hH.kp0 rfl rfl rfl (x_extract hH.kp0 rfl rfl rfl ?_); clear hS; intro a hS
  refine r_store_row hS hH rfl rfl (by repeat' constructor) (by repeat' constructor) Fc.sz26 (by first | exact hcells_one _ | exact of_decide_eq_true rfl) (by rfl) (by first | exact .inr (by assumption) | exact .inl (by first | assumption | rfl)) ?_
  clear hH; intro w hH
  refine r_assign hS hH.kp0 rfl rfl ?_; clear hS; intro a hS
  refine Sq.nil (then_n (wp_ret ?_))
  exact leave (.inl rfl) hS rfl (Res.cell rfl (hH.get (by repeat' constructor)) Fc.ag26 (by rfl) rfl (Res.tmp rfl Res.nil)) ⟨_,_,V1,ts1,rfl,(hH.vin hvi1.ok hvi1.n01 hvi1.n23 (by repeat' constructor) (by repeat' constructor) (by repeat' constructor) (by repeat' constructor)),⟨hVS1,hH.mod⟩,hof⟩

end Go.Proofs.YtcjmehononbadaaDoor
namespace Go.Proofs.YtcjmehononbadaaDoor
open Go.Sym

theorem Fc.fn29 : isFn Tryd.prog 29 = true:=by kernel_rfl
set_option maxRecDepth 100000 in
set_option maxHeartbeats 1000000 in
theorem Public_v (b : Nat) (V : VB) (ts : List Tm) (h : List UInt8) (hh : h.length = 16) (hm : ts.length≤1000000000) (w0 : World) (hvi : VI w0 b V ts) : Calls Tryd.prog 13 #[.pointer (some ⟨b,0,none⟩),hnd h] w0 fun e w' => ∃ h' x V' ts',e = .returned (.tuple #[hnd h',.int .i64 x])∧VI w' b V' ts'∧VStep w0 w' b V V'∧OfT ts h pubT h' x ts':=by
  refine enter Tryd.func13 rfl rfl rfl ?_
  intro a hS
  have hH:=Hp.start w0 (V.F b)
  obtain ⟨x0,x1,x2,x3,x4,x5,x6,x7,x8,x9,xa,xb,xc,xd,xe,xf,rfl⟩:=len16 hh
  replace hH:=hH.knowV hvi (by intro p hp; simp at hp)
  have hVS:=VS.start w0 b V
  refine c_seq (reg_plain w0 (V.F b) ?_)
  refine r_box hS hH (by repeat' constructor) rfl rfl rfl ?_
  clear hS hH; intro a w b3 hb3 hwb3 hS hH
  refine r_alloc hS hH (by repeat' constructor) Fc.zc26 rfl ?_
  clear hS hH; intro a w b4 hb4 hwb4 hS hH
  refine r_assign hS hH.kp0 rfl rfl ?_; clear hS; intro a hS
  refine Sq.nil (then_n (c_seq (reg_plain w0 (V.F b) ?_)))
  refine r_move hS hH.kp0 rfl rfl (x_load_row hH (by repeat' constructor) rfl (by repeat' constructor) Fc.ag26 (by rfl) rfl (x_buildS (parts:=[(0,.const (.int .i64 3))]) hH.kp0 rfl rfl Fc.zc64 Fc.pl64 (by rfl) ?_)); clear hS; intro a hS
  refine r_call (l:=[.tmp 6,.tmp 7,.tmp 8]) hS rfl rfl Fc.fn28 rfl ?_
  refine Calls.mono (of_v b V ts [x0,x1,x2,x3,x4,x5,x6,x7,x8,x9,xa,xb,xc,xd,xe,xf] rfl pubT pubT_ok hm _ (hH.vin hvi.ok hvi.n01 hvi.n23 (by repeat' constructor) (by repeat' constructor) (by repeat' constructor) (by repeat' constructor))) ?_
  rintro e w1 ⟨h,x,V1,ts1,rfl,hvi1,hst,hof⟩
  have hly:=hof.len
  obtain ⟨y0,y1,y2,y3,y4,y5,y6,y7,y8,y9,ya,yb,yc,yd,ye,yf,rfl⟩:=len16 hly
  have hVS1:=hVS.step hst hH.mod.size
  replace hH:=hH.vault hVS hst hvi1 (by repeat' constructor)
  refine ⟨_,rfl,hH.kp0,?_⟩
  clear hS; intro a hS
  refine r_extract hS hH.kp0 rfl rfl rfl (x_extract hH.kp0 rfl rfl rfl ?_); clear hS; intro a hS
  refine r_store_row hS hH rfl rfl (by repeat' constructor) (by repeat' constructor) Fc.sz26 (by first | exact hcells_one _ | exact of_decide_eq_true rfl) (by rfl) (by first | exact .inr (by assumption) | exact .inl (by first | assumption | rfl)) ?_
  clear hH; intro w hH
  refine r_assign hS hH.kp0 rfl rfl ?_; clear hS; intro a hS
  refine Sq.nil (then_n (wp_ret ?_))
  exact leave (.inl rfl) hS rfl (Res.cell rfl (hH.get (by repeat' constructor)) Fc.ag26 (by rfl) rfl (Res.tmp rfl Res.nil)) ⟨_,_,V1,ts1,rfl,(hH.vin hvi1.ok hvi1.n01 hvi1.n23 (by repeat' constructor) (by repeat' constructor) (by repeat' constructor) (by repeat' constructor)),⟨hVS1,hH.mod⟩,hof⟩

set_option maxRecDepth 100000 in
set_option maxHeartbeats 1000000 in
theorem Sign_v (b : Nat) (V : VB) (ts : List Tm) (h : List UInt8) (hh : h.length = 16) (v : Value) (l : List UInt8) (hl : l.length≤9223372036854775807) (hm : ts.length≤1000000000) (w0 : World) (hvi : VI w0 b V ts) (hb : BsF (V.F b) w0 v l) : Calls Tryd.prog 15 #[.pointer (some ⟨b,0,none⟩),hnd h,v] w0 fun e w' => ∃ h' x V' ts',e = .returned (.tuple #[hnd h',.int .i64 x])∧VI w' b V' ts'∧VStep w0 w' b V V'∧OfT ts h (sgnT (strOf l)) h' x ts':=by
  refine enter Tryd.func15 rfl rfl rfl ?_
  intro a hS
  have hH:=Hp.start w0 (V.F b)
  obtain ⟨x0,x1,x2,x3,x4,x5,x6,x7,x8,x9,xa,xb,xc,xd,xe,xf,rfl⟩:=len16 hh
  replace hH:=hH.knowV hvi (by intro p hp; simp at hp)
  have hVS:=VS.start w0 b V
  refine c_seq (reg_plain w0 (V.F b) ?_)
  refine r_box hS hH (by repeat' constructor) rfl rfl rfl ?_
  clear hS hH; intro a w b4 hb4 hwb4 hS hH
  refine r_alloc hS hH (by repeat' constructor) Fc.zc26 rfl ?_
  clear hS hH; intro a w b6 hb6 hwb6 hS hH
  refine r_assign hS hH.kp0 rfl rfl ?_; clear hS; intro a hS
  refine Sq.nil (then_n (c_seq (reg_plain w0 (V.F b) ?_)))
  refine r_move hS hH.kp0 rfl rfl (x_load_row hH (by repeat' constructor) rfl (by repeat' constructor) Fc.ag26 (by rfl) rfl (x_move hH.kp0 rfl rfl (x_bytesStr hH.kp0 rfl (hb _ hH.mod) Fc.u8s22 Fc.isStr9 rfl (x_buildS (parts:=[(0,.const (.int .i64 5)),(6,.tmp 11)]) hH.kp0 rfl rfl Fc.zc64 Fc.pl64 (by rfl) ?_)))); clear hS; intro a hS
  refine r_call (l:=[.tmp 8,.tmp 9,.tmp 12]) hS rfl rfl Fc.fn28 rfl ?_
  refine Calls.mono (of_v b V ts [x0,x1,x2,x3,x4,x5,x6,x7,x8,x9,xa,xb,xc,xd,xe,xf] rfl (sgnT (strOf l)) (sgnT_ok hl) hm _ (hH.vin hvi.ok hvi.n01 hvi.n23 (by repeat' constructor) (by repeat' constructor) (by repeat' constructor) (by repeat' constructor))) ?_
  rintro e w1 ⟨h,x,V1,ts1,rfl,hvi1,hst,hof⟩
  have hly:=hof.len
  obtain ⟨y0,y1,y2,y3,y4,y5,y6,y7,y8,y9,ya,yb,yc,yd,ye,yf,rfl⟩:=len16 hly
  have hVS1:=hVS.step hst hH.mod.size
  replace hH:=hH.vault hVS hst hvi1 (by repeat' constructor)
  refine ⟨_,rfl,hH.kp0,?_⟩
  clear hS; intro a hS
  refine r_extract hS hH.kp0 rfl rfl rfl (x_extract hH.kp0 rfl rfl rfl ?_); clear hS; intro a hS
  refine r_store_row hS hH rfl rfl (by repeat' constructor) (by repeat' constructor) Fc.sz26 (by first | exact hcells_one _ | exact of_decide_eq_true rfl) (by rfl) (by first | exact .inr (by assumption) | exact .inl (by first | assumption | rfl)) ?_
  clear hH; intro w hH
  refine r_assign hS hH.kp0 rfl rfl ?_; clear hS; intro a hS
  refine Sq.nil (then_n (wp_ret ?_))
  exact leave (.inl rfl) hS rfl (Res.cell rfl (hH.get (by repeat' constructor)) Fc.ag26 (by rfl) rfl (Res.tmp rfl Res.nil)) ⟨_,_,V1,ts1,rfl,(hH.vin hvi1.ok hvi1.n01 hvi1.n23 (by repeat' constructor) (by repeat' constructor) (by repeat' constructor) (by repeat' constructor)),⟨hVS1,hH.mod⟩,hof⟩

set_option maxRecDepth 100000 in
set_option maxHeartbeats 1000000 in
theorem secret_v (b : Nat) (V : VB) (ts : List Tm) (h : List UInt8) (hh : h.length = 16) (j : Nat) (t : Tm) (hnm : h = nm j) (ht : ts[j]? = some t) (hk : t.kind = 3) (hm : ts.length≤1000000000) (w0 : World) (hvi : VI w0 b V ts) : Calls Tryd.prog 29 #[.pointer (some ⟨b,0,none⟩),hnd h] w0 fun e w' => e = .returned (.tuple #[.int .i64 t.a,.int .i64 0])∧Ext w0 w':=by
 refine enter Tryd.func29 rfl rfl rfl ?_
 intro a hS
 have hH:=Hp.start w0 (Nobody)
 obtain ⟨x0,x1,x2,x3,x4,x5,x6,x7,x8,x9,xa,xb,xc,xd,xe,xf,rfl⟩:=len16 hh
 replace hH:=hH.knowV hvi (by intro p hp; simp at hp)
 obtain ⟨g2,hm2,hf2⟩:=hvi.ok.names
 obtain ⟨n0,th,e1,e2,hcase⟩:=hf2.look2 [x0,x1,x2,x3,x4,x5,x6,x7,x8,x9,xa,xb,xc,xd,xe,xf]
 rcases hcase.symm with ⟨_,_,hno⟩ | ⟨h,j9,hj9,hn0,hgj⟩
 ·exact absurd hnm (hno j (at_lt ht))
 subst h
 subst hn0
 obtain rfl : j9 = j:=nm_inj (by have:=at_lt ht; omega) (by have:=at_lt ht; omega) (hgj.symm.trans hnm)
 refine c_seq (reg_plain w0 (Nobody) ?_)
 refine r_box hS hH (by repeat' constructor) rfl rfl rfl ?_
 clear hS hH; intro a w b3 hb3 hwb3 hS hH
 refine r_assign hS hH.kp0 rfl rfl (x_assign hH.kp0 rfl rfl ?_); clear hS; intro a hS
 refine Sq.nil (then_n (c_seq (c_seq (reg_plain w0 (Nobody) ?_))))
 refine r_move hS hH.kp0 rfl rfl ?_; clear hS; intro a hS
 refine r_call (l:=[.tmp 8]) hS rfl rfl Fc.fn24 rfl ?_
 refine Calls.mono (none_v b V ts _ (hH.vin hvi.ok hvi.n01 hvi.n23 (by repeat' constructor) (by repeat' constructor) (by repeat' constructor) (by repeat' constructor))) ?_
 rintro e w1 ⟨rfl,hE⟩
 replace hH:=hH.ext hE
 refine ⟨_,rfl,hH.kp0,?_⟩
 clear hS; intro a hS
 refine Sq.nil (then_n (c_condF hS rfl rfl (wp_skip (then_n (c_seq ?_)))))
 refine reg_draw [(true,0,[]),(true,1,[]),(true,2,[]),(true,3,[]),(true,4,[]),(true,5,[]),(true,6,[]),(true,7,[]),(true,8,[]),(true,9,[]),(true,10,[])] Fc.mixed (by kernel_rfl) (by kernel_rfl) (by kernel_rfl) (by kernel_rfl) (by kernel_rfl) (by repeat (first | with_reducible exact steady_body | with_reducible apply steady_block | with_reducible apply steady_then | with_reducible apply steady_scope | exact steady_body)) hH ?_
 replace hH:=hH.drew
 refine r_move hS trivial rfl rfl (x_nilCheck trivial rfl rfl (x_fieldAddr trivial rfl Fc.fo41_2 rfl (x_load_scS rfl (by repeat' constructor) Fc.sc39 (by rfl) rfl (x_load_rowS rfl (by repeat' constructor) Fc.ag26 (by rfl) rfl (x_lookupS2 Fc.mtN rfl rfl (by repeat' constructor) hm2 (Fc.arrH.keyOf (h:=[x0,x1,x2,x3,x4,x5,x6,x7,x8,x9,xa,xb,xc,xd,xe,xf]) rfl) e1 e2 rfl (x_move trivial rfl rfl (x_extract trivial rfl rfl rfl (x_extract trivial rfl rfl rfl (x_assign trivial rfl rfl (x_assign trivial rfl rfl ?_)))))))))); clear hS; intro a hS
 refine Sq.nil (then_n (c_seq (c_seq (reg_plain w0 (Nobody) ?_))))
 refine r_move hS hH.kp0 rfl rfl (x_not hH.kp0 rfl rfl (x_move hH.kp0 rfl rfl (Sq.xguardYes rfl rfl rfl (x_move hH.kp0 rfl rfl (Sq.xguardYes rfl rfl rfl (x_nilCheck hH.kp0 rfl rfl (Sq.xguardYes rfl rfl rfl (x_fieldAddr hH.kp0 rfl Fc.fo41_0 rfl (Sq.xguardYes rfl rfl rfl (x_load_sc hH (by repeat' constructor) rfl (by repeat' constructor) Fc.sc37 (by rfl) rfl (Sq.xguardYes rfl rfl rfl (x_move hH.kp0 rfl rfl (Sq.xguardYes rfl rfl rfl (x_indexAddrS (j:=j9) hH.kp0 rfl rfl Fc.slb37 rfl hj9 rfl (Sq.xguardYes rfl rfl rfl (x_fieldAddr hH.kp0 rfl Fc.fo64_0 rfl (Sq.xguardYes rfl rfl rfl (x_load_sc hH (by repeat' constructor) rfl (by repeat' constructor) Fc.sc3 (v:=.int .i64 t.kind) (hvi.ok.fld ht (q:=0) rfl) rfl (Sq.xguardYes rfl rfl rfl (x_neq hH.kp0 rfl rfl rfl (x_pickF hH.kp0 rfl rfl rfl rfl ?_))))))))))))))))))))); clear hS; intro a hS
 refine Sq.nil (then_n ?_)
 refine c_condF hS rfl (by simp [hk]) ?_
 refine wp_skip (then_n (c_seq (reg_plain w0 (Nobody) ?_)))
 refine r_move hS hH.kp0 rfl rfl (x_nilCheck hH.kp0 rfl rfl (x_fieldAddr hH.kp0 rfl Fc.fo41_0 rfl (x_load_sc hH (by repeat' constructor) rfl (by repeat' constructor) Fc.sc37 (by rfl) rfl (x_move hH.kp0 rfl rfl (x_indexAddrS (j:=j9) hH.kp0 rfl rfl Fc.slb37 rfl hj9 rfl (x_fieldAddr hH.kp0 rfl Fc.fo64_1 rfl (x_load_sc hH (by repeat' constructor) rfl (by repeat' constructor) Fc.sc3 (v:=.int .i64 t.a) (hvi.ok.fld ht (q:=1) rfl) rfl (x_assign hH.kp0 rfl rfl (x_assign hH.kp0 rfl rfl ?_))))))))); clear hS; intro a hS
 refine Sq.nil (then_n (wp_ret ?_))
 exact leave (.inl rfl) hS rfl (Res.tmp rfl (Res.tmp rfl Res.nil)) ⟨rfl,hH.mod⟩

set_option maxRecDepth 100000 in
set_option maxHeartbeats 1000000 in
theorem Agree_v (b : Nat) (V : VB) (ts : List Tm) (h : List UInt8) (hh : h.length = 16) (g : List UInt8) (hg : g.length = 16) (i j o : Nat) (t : Tm) (hi : i < ts.length) (hnm : h = nm i) (hnm2 : g = nm j) (ht : ts[j]? = some t) (hk : t.kind = 3) (hto : t.a = o) (hol : o < ts.length) (hm : ts.length≤1000000000) (w0 : World) (hvi : VI w0 b V ts) : Calls Tryd.prog 14 #[.pointer (some ⟨b,0,none⟩),hnd h,hnd g] w0 fun e w' => ∃ h' k V' ts',e = .returned (.tuple #[hnd h',.int .i64 0])∧h' = nm k∧VI w' b V' ts'∧VStep w0 w' b V V'∧Made ts (agrT (min i o) (max i o)) k ts':=by
 refine enter Tryd.func14 rfl rfl rfl ?_
 intro a hS
 have hH:=Hp.start w0 (V.F b)
 obtain ⟨x0,x1,x2,x3,x4,x5,x6,x7,x8,x9,xa,xb,xc,xd,xe,xf,rfl⟩:=len16 hh
 obtain ⟨y0,y1,y2,y3,y4,y5,y6,y7,y8,y9,ya,yb,yc,yd,ye,yf,rfl⟩:=len16 hg
 replace hH:=hH.knowV hvi (by intro p hp; simp at hp)
 have hVS:=VS.start w0 b V
 obtain ⟨g2,hm2,hf2⟩:=hvi.ok.names
 obtain ⟨n0,th,e1,e2,hcase⟩:=hf2.look2 [x0,x1,x2,x3,x4,x5,x6,x7,x8,x9,xa,xb,xc,xd,xe,xf]
 rcases hcase.symm with ⟨_,_,hno⟩ | ⟨h,j9,hj9,hn0,hgj⟩
 ·exact absurd hnm (hno i hi)
 subst h
 subst hn0
 obtain rfl : j9 = i:=nm_inj (by omega) (by omega) (hgj.symm.trans hnm)
 refine c_seq (reg_plain w0 (V.F b) ?_)
 refine r_box hS hH (by repeat' constructor) rfl rfl rfl ?_
 clear hS hH; intro a w b4 hb4 hwb4 hS hH
 refine r_box hS hH (by repeat' constructor) rfl rfl rfl ?_
 clear hS hH; intro a w b5 hb5 hwb5 hS hH
 refine r_alloc hS hH (by repeat' constructor) Fc.zc26 rfl ?_
 clear hS hH; intro a w b6 hb6 hwb6 hS hH
 refine r_assign hS hH.kp0 rfl rfl ?_; clear hS; intro a hS
 refine Sq.nil (then_n (c_seq (reg_plain w0 (V.F b) ?_)))
 refine r_move hS hH.kp0 rfl rfl (x_load_row hH (by repeat' constructor) rfl (by repeat' constructor) Fc.ag26 (by rfl) rfl ?_); clear hS; intro a hS
 refine r_call (l:=[.tmp 13,.tmp 14]) hS rfl rfl Fc.fn29 rfl ?_
 refine Calls.mono (secret_v b V ts [y0,y1,y2,y3,y4,y5,y6,y7,y8,y9,ya,yb,yc,yd,ye,yf] rfl j t hnm2 ht hk hm _ (hH.vin hvi.ok hvi.n01 hvi.n23 (by repeat' constructor) (by repeat' constructor) (by repeat' constructor) (by repeat' constructor))) ?_
 rintro e w1 ⟨rfl,hE⟩
 replace hH:=hH.ext hE
 refine ⟨_,rfl,hH.kp0,?_⟩
 clear hS; intro a hS
 refine r_move hS hH.kp0 rfl rfl (x_extract hH.kp0 rfl rfl rfl (x_extract hH.kp0 rfl rfl rfl (x_assign hH.kp0 rfl rfl (x_assign hH.kp0 rfl rfl ?_)))); clear hS; intro a hS
 refine Sq.nil (then_n (c_seq (c_seq (reg_plain w0 (V.F b) ?_))))
 refine r_move hS hH.kp0 rfl rfl (x_neq hH.kp0 rfl rfl rfl ?_); clear hS; intro a hS
 refine Sq.nil (then_n (c_condF hS rfl rfl (wp_skip (then_n (c_seq ?_)))))
 refine reg_draw [(true,0,[]),(true,1,[]),(true,2,[]),(true,3,[]),(true,4,[]),(true,5,[]),(true,6,[]),(true,7,[]),(true,8,[]),(true,9,[]),(true,10,[])] Fc.mixed (by kernel_rfl) (by kernel_rfl) (by kernel_rfl) (by kernel_rfl) (by kernel_rfl) (by repeat (first | with_reducible exact steady_body | with_reducible apply steady_block | with_reducible apply steady_then | with_reducible apply steady_scope | exact steady_body)) hH ?_
 replace hH:=hH.drew
 refine r_move hS trivial rfl rfl (x_nilCheck trivial rfl rfl (x_fieldAddr trivial rfl Fc.fo41_2 rfl (x_load_scS rfl (by repeat' constructor) Fc.sc39 (by rfl) rfl (x_load_rowS rfl (by repeat' constructor) Fc.ag26 (by rfl) rfl (x_lookupS2 Fc.mtN rfl rfl (by repeat' constructor) hm2 (Fc.arrH.keyOf (h:=[x0,x1,x2,x3,x4,x5,x6,x7,x8,x9,xa,xb,xc,xd,xe,xf]) rfl) e1 e2 rfl (x_move trivial rfl rfl (x_extract trivial rfl rfl rfl (x_extract trivial rfl rfl rfl (x_assign trivial rfl rfl (x_assign trivial rfl rfl ?_)))))))))); clear hS; intro a hS
 refine Sq.nil (then_n (c_seq (c_seq (reg_plain w0 (V.F b) ?_))))
 refine r_move hS hH.kp0 rfl rfl (x_not hH.kp0 rfl rfl ?_); clear hS; intro a hS
 refine Sq.nil (then_n (c_condF hS rfl rfl (wp_skip (then_n (c_seq ?_)))))
 rw [hto] at hS
 refine reg_plain w0 (V.F b) ?_
 refine r_move hS hH.kp0 rfl rfl (x_move hH.kp0 rfl rfl (x_move hH.kp0 rfl rfl ?_)); clear hS; intro a hS
 refine r_minN (m:=j9) (k:=o) hS hH.kp0 rfl rfl rfl ?_; clear hS; intro a hS
 refine r_move hS hH.kp0 rfl rfl (x_move hH.kp0 rfl rfl ?_); clear hS; intro a hS
 refine r_maxN (m:=j9) (k:=o) hS hH.kp0 rfl rfl rfl ?_; clear hS; intro a hS
 refine r_buildS (parts:=[(0,.const (.int .i64 4)),(1,.tmp 37),(2,.tmp 40)]) hS hH.kp0 rfl rfl Fc.zc64 Fc.pl64 (by rfl) ?_; clear hS; intro a hS
 refine r_call (l:=[.tmp 34,.tmp 41]) hS rfl rfl Fc.fn23 rfl ?_
 refine Calls.mono (make_c b V ts (agrT (min j9 o) (max j9 o)) (agrT_ok (by omega) (by omega)) hm _ (hH.vin hvi.ok hvi.n01 hvi.n23 (by repeat' constructor) (by repeat' constructor) (by repeat' constructor) (by repeat' constructor))) ?_
 rintro e w1 ⟨h,k,V1,ts1,rfl,hqz,hvi1,hst,hmd⟩
 obtain ⟨z0,z1,z2,z3,z4,z5,z6,z7,z8,z9,za,zb,zc,zd,ze,zf,rfl⟩:=len16 (h:=h) (by rw [hqz]; rfl)
 have hVS1:=hVS.step hst hH.mod.size
 replace hH:=hH.vault hVS hst hvi1 (by repeat' constructor)
 refine ⟨_,rfl,hH.kp0,?_⟩
 clear hS; intro a hS
 refine r_store_row hS hH rfl rfl (by repeat' constructor) (by repeat' constructor) Fc.sz26 (by first | exact hcells_one _ | exact of_decide_eq_true rfl) (by rfl) (by first | exact .inr (by assumption) | exact .inl (by first | assumption | rfl)) ?_
 clear hH; intro w hH
 refine r_assign hS hH.kp0 rfl rfl ?_; clear hS; intro a hS
 refine Sq.nil (then_n (wp_ret ?_))
 exact leave (.inl rfl) hS rfl (Res.cell rfl (hH.get (by repeat' constructor)) Fc.ag26 (by rfl) rfl (Res.tmp rfl Res.nil)) ⟨_,k,V1,ts1,rfl,hqz,(hH.vin hvi1.ok hvi1.n01 hvi1.n23 (by repeat' constructor) (by repeat' constructor) (by repeat' constructor) (by repeat' constructor)),⟨hVS1,hH.mod⟩,hmd⟩

end Go.Proofs.YtcjmehononbadaaDoor
namespace Go.Proofs.YtcjmehononbadaaDoor
open Go.Sym


set_option maxRecDepth 100000 in
set_option maxHeartbeats 1000000 in
theorem secret_no (b : Nat) (V : VB) (ts : List Tm) (h : List UInt8) (hh : h.length = 16) (hno : ¬ ∃ (j : Nat) (t : Tm),h = nm j∧ts[j]? = some t∧t.kind = 3) (hm : ts.length≤1000000000) (w0 : World) (hvi : VI w0 b V ts) : Calls Tryd.prog 29 #[.pointer (some ⟨b,0,none⟩),hnd h] w0 fun e w' => e = .returned (.tuple #[.int .i64 0,.int .i64 15])∧Ext w0 w':=by
 refine enter Tryd.func29 rfl rfl rfl ?_
 intro a hS
 have hH:=Hp.start w0 (Nobody)
 obtain ⟨x0,x1,x2,x3,x4,x5,x6,x7,x8,x9,xa,xb,xc,xd,xe,xf,rfl⟩:=len16 hh
 replace hH:=hH.knowV hvi (by intro p hp; simp at hp)
 obtain ⟨g2,hm2,hf2⟩:=hvi.ok.names
 obtain ⟨n0,th,e1,e2,hcase⟩:=hf2.look2 [x0,x1,x2,x3,x4,x5,x6,x7,x8,x9,xa,xb,xc,xd,xe,xf]
 refine c_seq (reg_plain w0 (Nobody) ?_)
 refine r_box hS hH (by repeat' constructor) rfl rfl rfl ?_
 clear hS hH; intro a w b3 hb3 hwb3 hS hH
 refine r_assign hS hH.kp0 rfl rfl (x_assign hH.kp0 rfl rfl ?_); clear hS; intro a hS
 refine Sq.nil (then_n (c_seq (c_seq (reg_plain w0 (Nobody) ?_))))
 refine r_move hS hH.kp0 rfl rfl ?_; clear hS; intro a hS
 refine r_call (l:=[.tmp 8]) hS rfl rfl Fc.fn24 rfl ?_
 refine Calls.mono (none_v b V ts _ (hH.vin hvi.ok hvi.n01 hvi.n23 (by repeat' constructor) (by repeat' constructor) (by repeat' constructor) (by repeat' constructor))) ?_
 rintro e w1 ⟨rfl,hE⟩
 replace hH:=hH.ext hE
 refine ⟨_,rfl,hH.kp0,?_⟩
 clear hS; intro a hS
 refine Sq.nil (then_n (c_condF hS rfl rfl (wp_skip (then_n (c_seq ?_)))))
 refine reg_draw [(true,0,[]),(true,1,[]),(true,2,[]),(true,3,[]),(true,4,[]),(true,5,[]),(true,6,[]),(true,7,[]),(true,8,[]),(true,9,[]),(true,10,[])] Fc.mixed (by kernel_rfl) (by kernel_rfl) (by kernel_rfl) (by kernel_rfl) (by kernel_rfl) (by repeat (first | with_reducible exact steady_body | with_reducible apply steady_block | with_reducible apply steady_then | with_reducible apply steady_scope | exact steady_body)) hH ?_
 replace hH:=hH.drew
 refine r_move hS trivial rfl rfl (x_nilCheck trivial rfl rfl (x_fieldAddr trivial rfl Fc.fo41_2 rfl (x_load_scS rfl (by repeat' constructor) Fc.sc39 (by rfl) rfl (x_load_rowS rfl (by repeat' constructor) Fc.ag26 (by rfl) rfl (x_lookupS2 Fc.mtN rfl rfl (by repeat' constructor) hm2 (Fc.arrH.keyOf (h:=[x0,x1,x2,x3,x4,x5,x6,x7,x8,x9,xa,xb,xc,xd,xe,xf]) rfl) e1 e2 rfl (x_move trivial rfl rfl (x_extract trivial rfl rfl rfl (x_extract trivial rfl rfl rfl (x_assign trivial rfl rfl (x_assign trivial rfl rfl ?_)))))))))); clear hS; intro a hS
 refine Sq.nil (then_n (c_seq (c_seq (reg_plain w0 (Nobody) ?_))))
 rcases hcase.symm with ⟨hth,hn0,hnn⟩ | ⟨hth,j9,hj9,hn0,hgj⟩ <;> subst hth hn0
 ·refine r_move hS hH.kp0 rfl rfl (x_not hH.kp0 rfl rfl (x_move hH.kp0 rfl rfl (Sq.xguardNo rfl rfl rfl hH.kp0 rfl (Sq.xguardNo rfl rfl rfl hH.kp0 rfl (Sq.xguardNo rfl rfl rfl hH.kp0 rfl (Sq.xguardNo rfl rfl rfl hH.kp0 rfl (Sq.xguardNo rfl rfl rfl hH.kp0 rfl (Sq.xguardNo rfl rfl rfl hH.kp0 rfl (Sq.xguardNo rfl rfl rfl hH.kp0 rfl (Sq.xguardNo rfl rfl rfl hH.kp0 rfl (Sq.xguardNo rfl rfl rfl hH.kp0 rfl (x_pickT hH.kp0 rfl rfl rfl rfl ?_)))))))))))); clear hS; intro a hS
  refine Sq.nil (then_n (c_condT hS rfl rfl (c_seq (reg_plain w0 (Nobody) ?_))))
  refine r_assign hS hH.kp0 rfl rfl (x_assign hH.kp0 rfl rfl ?_); clear hS; intro a hS
  refine Sq.nil (then_n (wp_ret (then_r ?_)))
  exact leave (.inl rfl) hS rfl (Res.tmp rfl (Res.tmp rfl Res.nil)) ⟨rfl,hH.mod⟩
 ·obtain ⟨t,ht⟩ : ∃ t,ts[j9]? = some t:=⟨_,List.getElem?_eq_getElem hj9⟩
  have hk : t.kind≠3:=fun hk => hno ⟨j9,t,hgj,ht,hk⟩
  refine r_move hS hH.kp0 rfl rfl (x_not hH.kp0 rfl rfl (x_move hH.kp0 rfl rfl (Sq.xguardYes rfl rfl rfl (x_move hH.kp0 rfl rfl (Sq.xguardYes rfl rfl rfl (x_nilCheck hH.kp0 rfl rfl (Sq.xguardYes rfl rfl rfl (x_fieldAddr hH.kp0 rfl Fc.fo41_0 rfl (Sq.xguardYes rfl rfl rfl (x_load_sc hH (by repeat' constructor) rfl (by repeat' constructor) Fc.sc37 (by rfl) rfl (Sq.xguardYes rfl rfl rfl (x_move hH.kp0 rfl rfl (Sq.xguardYes rfl rfl rfl (x_indexAddrS (j:=j9) hH.kp0 rfl rfl Fc.slb37 rfl hj9 rfl (Sq.xguardYes rfl rfl rfl (x_fieldAddr hH.kp0 rfl Fc.fo64_0 rfl (Sq.xguardYes rfl rfl rfl (x_load_sc hH (by repeat' constructor) rfl (by repeat' constructor) Fc.sc3 (v:=.int .i64 t.kind) (hvi.ok.fld ht (q:=0) rfl) rfl (Sq.xguardYes rfl rfl rfl (x_neq hH.kp0 rfl rfl rfl (x_pickF hH.kp0 rfl rfl rfl rfl ?_))))))))))))))))))))); clear hS; intro a hS
  refine Sq.nil (then_n ?_)
  refine c_condT hS rfl (bne_iff_ne.2 hk) ?_
  refine c_seq (reg_plain w0 (Nobody) ?_)
  refine r_assign hS hH.kp0 rfl rfl (x_assign hH.kp0 rfl rfl ?_); clear hS; intro a hS
  refine Sq.nil (then_n (wp_ret (then_r ?_)))
  exact leave (.inl rfl) hS rfl (Res.tmp rfl (Res.tmp rfl Res.nil)) ⟨rfl,hH.mod⟩

set_option maxRecDepth 100000 in
set_option maxHeartbeats 1000000 in
theorem Agree_n1 (b : Nat) (V : VB) (ts : List Tm) (h : List UInt8) (hh : h.length = 16) (g : List UInt8) (hg : g.length = 16) (hno : ¬ ∃ (j : Nat) (t : Tm),g = nm j∧ts[j]? = some t∧t.kind = 3) (hm : ts.length≤1000000000) (w0 : World) (hvi : VI w0 b V ts) : Calls Tryd.prog 14 #[.pointer (some ⟨b,0,none⟩),hnd h,hnd g] w0 fun e w' => e = .returned (.tuple #[hnd zH,.int .i64 15])∧Ext w0 w':=by
  refine enter Tryd.func14 rfl rfl rfl ?_
  intro a hS
  have hH:=Hp.start w0 (Nobody)
  obtain ⟨x0,x1,x2,x3,x4,x5,x6,x7,x8,x9,xa,xb,xc,xd,xe,xf,rfl⟩:=len16 hh
  obtain ⟨y0,y1,y2,y3,y4,y5,y6,y7,y8,y9,ya,yb,yc,yd,ye,yf,rfl⟩:=len16 hg
  replace hH:=hH.knowV hvi (by intro p hp; simp at hp)
  refine c_seq (reg_plain w0 (Nobody) ?_)
  refine r_box hS hH (by repeat' constructor) rfl rfl rfl ?_
  clear hS hH; intro a w b4 hb4 hwb4 hS hH
  refine r_box hS hH (by repeat' constructor) rfl rfl rfl ?_
  clear hS hH; intro a w b5 hb5 hwb5 hS hH
  refine r_alloc hS hH (by repeat' constructor) Fc.zc26 rfl ?_
  clear hS hH; intro a w b6 hb6 hwb6 hS hH
  refine r_assign hS hH.kp0 rfl rfl ?_; clear hS; intro a hS
  refine Sq.nil (then_n (c_seq (reg_plain w0 (Nobody) ?_)))
  refine r_move hS hH.kp0 rfl rfl (x_load_row hH (by repeat' constructor) rfl (by repeat' constructor) Fc.ag26 (by rfl) rfl ?_); clear hS; intro a hS
  refine r_call (l:=[.tmp 13,.tmp 14]) hS rfl rfl Fc.fn29 rfl ?_
  refine Calls.mono (secret_no b V ts [y0,y1,y2,y3,y4,y5,y6,y7,y8,y9,ya,yb,yc,yd,ye,yf] rfl hno hm _ (hH.vin hvi.ok hvi.n01 hvi.n23 (by repeat' constructor) (by repeat' constructor) (by repeat' constructor) (by repeat' constructor))) ?_
  rintro e w1 ⟨rfl,hE⟩
  replace hH:=hH.ext hE
  refine ⟨_,rfl,hH.kp0,?_⟩
  clear hS; intro a hS
  refine r_move hS hH.kp0 rfl rfl (x_extract hH.kp0 rfl rfl rfl (x_extract hH.kp0 rfl rfl rfl (x_assign hH.kp0 rfl rfl (x_assign hH.kp0 rfl rfl ?_)))); clear hS; intro a hS
  refine Sq.nil (then_n (c_seq (c_seq (reg_plain w0 (Nobody) ?_))))
  refine r_move hS hH.kp0 rfl rfl (x_neq hH.kp0 rfl rfl rfl ?_); clear hS; intro a hS
  refine Sq.nil (then_n (c_condT hS rfl rfl (c_seq (reg_plain w0 (Nobody) ?_))))
  refine r_buildA (parts:=[]) hS hH.kp0 rfl rfl Fc.zc26 Fc.ar26 (by rfl) (x_move hH.kp0 rfl rfl ?_); clear hS; intro a hS
  refine r_store_row hS hH rfl rfl (by repeat' constructor) (by repeat' constructor) Fc.sz26 (by first | exact hcells_one _ | exact of_decide_eq_true rfl) (by rfl) (by first | exact .inr (by assumption) | exact .inl (by first | assumption | rfl)) ?_
  clear hH; intro w hH
  refine r_assign hS hH.kp0 rfl rfl ?_; clear hS; intro a hS
  refine Sq.nil (then_n (wp_ret (then_r ?_)))
  exact leave (.inl rfl) hS rfl (Res.cell rfl (hH.get (by repeat' constructor)) Fc.ag26 (by rfl) rfl (Res.tmp rfl Res.nil)) ⟨rfl,hH.mod⟩

set_option maxRecDepth 100000 in
set_option maxHeartbeats 1000000 in
theorem Agree_n2 (b : Nat) (V : VB) (ts : List Tm) (h : List UInt8) (hh : h.length = 16) (g : List UInt8) (hg : g.length = 16) (j : Nat) (t : Tm) (hnm2 : g = nm j) (ht : ts[j]? = some t) (hk : t.kind = 3) (hno : ∀ i,i < ts.length→h≠nm i) (hm : ts.length≤1000000000) (w0 : World) (hvi : VI w0 b V ts) : Calls Tryd.prog 14 #[.pointer (some ⟨b,0,none⟩),hnd h,hnd g] w0 fun e w' => e = .returned (.tuple #[hnd zH,.int .i64 15])∧Ext w0 w':=by
 refine enter Tryd.func14 rfl rfl rfl ?_
 intro a hS
 have hH:=Hp.start w0 (Nobody)
 obtain ⟨x0,x1,x2,x3,x4,x5,x6,x7,x8,x9,xa,xb,xc,xd,xe,xf,rfl⟩:=len16 hh
 obtain ⟨y0,y1,y2,y3,y4,y5,y6,y7,y8,y9,ya,yb,yc,yd,ye,yf,rfl⟩:=len16 hg
 replace hH:=hH.knowV hvi (by intro p hp; simp at hp)
 obtain ⟨g2,hm2,hf2⟩:=hvi.ok.names
 obtain ⟨n0,th,e1,e2,hcase⟩:=hf2.look2 [x0,x1,x2,x3,x4,x5,x6,x7,x8,x9,xa,xb,xc,xd,xe,xf]
 rcases hcase with ⟨_,i9,hi9,_,h9⟩ | ⟨hth,hn0,_⟩
 ·exact absurd h9 (hno i9 hi9)
 subst hth hn0
 refine c_seq (reg_plain w0 (Nobody) ?_)
 refine r_box hS hH (by repeat' constructor) rfl rfl rfl ?_
 clear hS hH; intro a w b4 hb4 hwb4 hS hH
 refine r_box hS hH (by repeat' constructor) rfl rfl rfl ?_
 clear hS hH; intro a w b5 hb5 hwb5 hS hH
 refine r_alloc hS hH (by repeat' constructor) Fc.zc26 rfl ?_
 clear hS hH; intro a w b6 hb6 hwb6 hS hH
 refine r_assign hS hH.kp0 rfl rfl ?_; clear hS; intro a hS
 refine Sq.nil (then_n (c_seq (reg_plain w0 (Nobody) ?_)))
 refine r_move hS hH.kp0 rfl rfl (x_load_row hH (by repeat' constructor) rfl (by repeat' constructor) Fc.ag26 (by rfl) rfl ?_); clear hS; intro a hS
 refine r_call (l:=[.tmp 13,.tmp 14]) hS rfl rfl Fc.fn29 rfl ?_
 refine Calls.mono (secret_v b V ts [y0,y1,y2,y3,y4,y5,y6,y7,y8,y9,ya,yb,yc,yd,ye,yf] rfl j t hnm2 ht hk hm _ (hH.vin hvi.ok hvi.n01 hvi.n23 (by repeat' constructor) (by repeat' constructor) (by repeat' constructor) (by repeat' constructor))) ?_
 rintro e w1 ⟨rfl,hE⟩
 replace hH:=hH.ext hE
 refine ⟨_,rfl,hH.kp0,?_⟩
 clear hS; intro a hS
 refine r_move hS hH.kp0 rfl rfl (x_extract hH.kp0 rfl rfl rfl (x_extract hH.kp0 rfl rfl rfl (x_assign hH.kp0 rfl rfl (x_assign hH.kp0 rfl rfl ?_)))); clear hS; intro a hS
 refine Sq.nil (then_n (c_seq (c_seq (reg_plain w0 (Nobody) ?_))))
 refine r_move hS hH.kp0 rfl rfl (x_neq hH.kp0 rfl rfl rfl ?_); clear hS; intro a hS
 refine Sq.nil (then_n (c_condF hS rfl rfl (wp_skip (then_n (c_seq ?_)))))
 refine reg_draw [(true,0,[]),(true,1,[]),(true,2,[]),(true,3,[]),(true,4,[]),(true,5,[]),(true,6,[]),(true,7,[]),(true,8,[]),(true,9,[]),(true,10,[])] Fc.mixed (by kernel_rfl) (by kernel_rfl) (by kernel_rfl) (by kernel_rfl) (by kernel_rfl) (by repeat (first | with_reducible exact steady_body | with_reducible apply steady_block | with_reducible apply steady_then | with_reducible apply steady_scope | exact steady_body)) hH ?_
 replace hH:=hH.drew
 refine r_move hS trivial rfl rfl (x_nilCheck trivial rfl rfl (x_fieldAddr trivial rfl Fc.fo41_2 rfl (x_load_scS rfl (by repeat' constructor) Fc.sc39 (by rfl) rfl (x_load_rowS rfl (by repeat' constructor) Fc.ag26 (by rfl) rfl (x_lookupS2 Fc.mtN rfl rfl (by repeat' constructor) hm2 (Fc.arrH.keyOf (h:=[x0,x1,x2,x3,x4,x5,x6,x7,x8,x9,xa,xb,xc,xd,xe,xf]) rfl) e1 e2 rfl (x_move trivial rfl rfl (x_extract trivial rfl rfl rfl (x_extract trivial rfl rfl rfl (x_assign trivial rfl rfl (x_assign trivial rfl rfl ?_)))))))))); clear hS; intro a hS
 refine Sq.nil (then_n (c_seq (c_seq (reg_plain w0 (Nobody) ?_))))
 refine r_move hS hH.kp0 rfl rfl (x_not hH.kp0 rfl rfl ?_); clear hS; intro a hS
 refine Sq.nil (then_n (c_condT hS rfl rfl (c_seq (reg_plain w0 (Nobody) ?_))))
 refine r_buildA (parts:=[]) hS hH.kp0 rfl rfl Fc.zc26 Fc.ar26 (by rfl) ?_; clear hS; intro a hS
 refine r_store_row hS hH rfl rfl (by repeat' constructor) (by repeat' constructor) Fc.sz26 (by first | exact hcells_one _ | exact of_decide_eq_true rfl) (by rfl) (by first | exact .inr (by assumption) | exact .inl (by first | assumption | rfl)) ?_
 clear hH; intro w hH
 refine r_assign hS hH.kp0 rfl rfl ?_; clear hS; intro a hS
 refine Sq.nil (then_n (wp_ret (then_r ?_)))
 exact leave (.inl rfl) hS rfl (Res.cell rfl (hH.get (by repeat' constructor)) Fc.ag26 (by rfl) rfl (Res.tmp rfl Res.nil)) ⟨rfl,hH.mod⟩

theorem Agree_c (b : Nat) (V : VB) (ts : List Tm) (h : List UInt8) (hh : h.length = 16) (g : List UInt8) (hg : g.length = 16) (hwf : Wf6 ts) (hm : ts.length≤1000000000) (w0 : World) (hvi : VI w0 b V ts) : Calls Tryd.prog 14 #[.pointer (some ⟨b,0,none⟩),hnd h,hnd g] w0 fun e w' => ∃ h' x V' ts',e = .returned (.tuple #[hnd h',.int .i64 x])∧VI w' b V' ts'∧VStep w0 w' b V V'∧AgT ts h g h' x ts':=by
 by_cases hp : ∃ (j : Nat) (t : Tm),g = nm j∧ts[j]? = some t∧t.kind = 3
 ·obtain ⟨j,t,hj,ht,hk⟩:=hp
  obtain ⟨ha1,ha2⟩:=hwf.a j t ht
  obtain ⟨o,ho⟩:=Int.eq_ofNat_of_zero_le ha1
  by_cases hq : ∃ i,i < ts.length∧h = nm i
  ·obtain ⟨i,hi,hn⟩:=hq
   refine (Agree_v b V ts h hh g hg i j o t hi hn hj ht hk ho (by omega) hm w0 hvi).mono ?_
   rintro e w' ⟨h',k,V',ts',he,hk',h1,h2,h3⟩
   exact ⟨h',0,V',ts',he,h1,h2,.inl ⟨i,j,o,k,t,hi,hn,hj,ht,hk,ho,by omega,rfl,hk',h3⟩⟩
  ·have hno : ∀ i,i < ts.length→h≠nm i:=fun i hi hn => hq ⟨i,hi,hn⟩
   refine (Agree_n2 b V ts h hh g hg j t hj ht hk hno hm w0 hvi).mono ?_
   rintro e w' ⟨he,hE⟩
   exact ⟨zH,15,V,ts,he,hvi.ext hE,VStep.of_ext b V hE,.inr ⟨fun ⟨i,_,_,hi,hn,_⟩ => hno i hi hn,rfl,rfl,rfl⟩⟩
 ·refine (Agree_n1 b V ts h hh g hg hp hm w0 hvi).mono ?_
  rintro e w' ⟨he,hE⟩
  exact ⟨zH,15,V,ts,he,hvi.ext hE,VStep.of_ext b V hE,.inr ⟨fun ⟨_,j,t,_,_,h1,h2,h3⟩ => hp ⟨j,t,h1,h2,h3⟩,rfl,rfl,rfl⟩⟩

set_option maxRecDepth 100000 in
set_option maxHeartbeats 1000000 in
theorem Verify_n (b : Nat) (V : VB) (ts : List Tm) (h : List UInt8) (hh : h.length = 16) (g : List UInt8) (hg : g.length = 16) (v : Value) (l : List UInt8) (hl : l.length≤9223372036854775807) (hno : ¬ ∃ (j : Nat) (t : Tm),h = nm j∧ts[j]? = some t∧t.kind = 3) (hm : ts.length≤1000000000) (w0 : World) (hvi : VI w0 b V ts) : Calls Tryd.prog 17 #[.pointer (some ⟨b,0,none⟩),hnd h,v,hnd g] w0 fun e w' => e = .returned (.int .i64 15)∧Ext w0 w':=by
  refine enter Tryd.func17 rfl rfl rfl ?_
  intro a hS
  have hH:=Hp.start w0 (Nobody)
  obtain ⟨x0,x1,x2,x3,x4,x5,x6,x7,x8,x9,xa,xb,xc,xd,xe,xf,rfl⟩:=len16 hh
  obtain ⟨y0,y1,y2,y3,y4,y5,y6,y7,y8,y9,ya,yb,yc,yd,ye,yf,rfl⟩:=len16 hg
  replace hH:=hH.knowV hvi (by intro p hp; simp at hp)
  refine c_seq (reg_plain w0 (Nobody) ?_)
  refine r_box hS hH (by repeat' constructor) rfl rfl rfl ?_
  clear hS hH; intro a w b5 hb5 hwb5 hS hH
  refine r_box hS hH (by repeat' constructor) rfl rfl rfl ?_
  clear hS hH; intro a w b7 hb7 hwb7 hS hH
  refine r_assign hS hH.kp0 rfl rfl ?_; clear hS; intro a hS
  refine Sq.nil (then_n (c_seq (reg_plain w0 (Nobody) ?_)))
  refine r_move hS hH.kp0 rfl rfl (x_load_row hH (by repeat' constructor) rfl (by repeat' constructor) Fc.ag26 (by rfl) rfl ?_); clear hS; intro a hS
  refine r_call (l:=[.tmp 14,.tmp 15]) hS rfl rfl Fc.fn29 rfl ?_
  refine Calls.mono (secret_no b V ts [x0,x1,x2,x3,x4,x5,x6,x7,x8,x9,xa,xb,xc,xd,xe,xf] rfl hno hm _ (hH.vin hvi.ok hvi.n01 hvi.n23 (by repeat' constructor) (by repeat' constructor) (by repeat' constructor) (by repeat' constructor))) ?_
  rintro e w1 ⟨rfl,hE⟩
  replace hH:=hH.ext hE
  refine ⟨_,rfl,hH.kp0,?_⟩
  clear hS; intro a hS
  refine r_move hS hH.kp0 rfl rfl (x_extract hH.kp0 rfl rfl rfl (x_extract hH.kp0 rfl rfl rfl (x_assign hH.kp0 rfl rfl (x_assign hH.kp0 rfl rfl ?_)))); clear hS; intro a hS
  refine Sq.nil (then_n (c_seq (c_seq (reg_plain w0 (Nobody) ?_))))
  refine r_move hS hH.kp0 rfl rfl (x_neq hH.kp0 rfl rfl rfl ?_); clear hS; intro a hS
  refine Sq.nil (then_n (c_condT hS rfl rfl (c_seq (reg_plain w0 (Nobody) ?_))))
  refine r_move hS hH.kp0 rfl rfl (x_assign hH.kp0 rfl rfl ?_); clear hS; intro a hS
  refine Sq.nil (then_n (wp_ret (then_r ?_)))
  exact leave (.inl rfl) hS rfl (Res.tmp rfl Res.nil) ⟨rfl,hH.mod⟩

set_option maxRecDepth 100000 in
set_option maxHeartbeats 2000000 in
theorem Verify_y (b : Nat) (V : VB) (ts : List Tm) (h : List UInt8) (hh : h.length = 16) (g : List UInt8) (hg : g.length = 16) (v : Value) (l : List UInt8) (hl : l.length≤9223372036854775807) (j : Nat) (t : Tm) (hnm2 : h = nm j) (ht : ts[j]? = some t) (hk : t.kind = 3) (hm : ts.length≤1000000000) (w0 : World) (hvi : VI w0 b V ts) (hb : Bs w0 v l) : Calls Tryd.prog 17 #[.pointer (some ⟨b,0,none⟩),hnd h,v,hnd g] w0 fun e w' => ∃ x : Int,e = .returned (.int .i64 x)∧((x = 0∧∃ s : Nat,g = nm s∧ts[s]? = some { sgnT (strOf l) with a:=t.a })∨(x = 21∧¬ ∃ s : Nat,g = nm s∧ts[s]? = some { sgnT (strOf l) with a:=t.a }))∧Ext w0 w':=by
 refine enter Tryd.func17 rfl rfl rfl ?_
 intro a hS
 have hH:=Hp.start w0 (Nobody)
 obtain ⟨x0,x1,x2,x3,x4,x5,x6,x7,x8,x9,xa,xb,xc,xd,xe,xf,rfl⟩:=len16 hh
 obtain ⟨y0,y1,y2,y3,y4,y5,y6,y7,y8,y9,ya,yb,yc,yd,ye,yf,rfl⟩:=len16 hg
 replace hH:=hH.knowV hvi (by intro p hp; simp at hp)
 have hok5 : (sgnT (strOf l)).ok:=sgnT_ok hl
 have hft:=(hvi.ok.rng t (List.mem_of_getElem? ht)).a
 obtain ⟨g1,hm1,hf1⟩:=hvi.ok.found
 obtain ⟨lx,hkt⟩:=Fc.tm.keyOf (u := { sgnT (strOf l) with a:=t.a }) ⟨hok5.kind,hft,hok5.b,hok5.number,hok5.label,hok5.also,hok5.bytes⟩
 obtain ⟨v9,b9,e1,e2,hlk⟩ : ∃ v9 b9,orZ (g1 (tv { sgnT (strOf l) with a:=t.a })) (.int .i64 0) = v9∧(g1 (tv { sgnT (strOf l) with a:=t.a })).isSome = b9∧((∃ n : Nat,v9 = .int .i64 (n : Int)∧b9 = true∧ts[n]? = some { sgnT (strOf l) with a:=t.a })∨(v9 = .int .i64 0∧b9 = false∧(({ sgnT (strOf l) with a:=t.a } : Tm).kind = 1 ∨ { sgnT (strOf l) with a:=t.a } ∉ ts))):=by
  rcases hf1.look { sgnT (strOf l) with a:=t.a } with ⟨i,h1,h2,h3⟩ | ⟨h1,h2,h3⟩
  ·exact ⟨_,_,h1,h2,.inl ⟨i,rfl,rfl,h3⟩⟩
  ·exact ⟨_,_,h1,h2,.inr ⟨rfl,rfl,h3⟩⟩
 refine c_seq (reg_plain w0 (Nobody) ?_)
 refine r_box hS hH (by repeat' constructor) rfl rfl rfl ?_
 clear hS hH; intro a w b5 hb5 hwb5 hS hH
 refine r_box hS hH (by repeat' constructor) rfl rfl rfl ?_
 clear hS hH; intro a w b7 hb7 hwb7 hS hH
 refine r_assign hS hH.kp0 rfl rfl ?_; clear hS; intro a hS
 refine Sq.nil (then_n (c_seq (reg_plain w0 (Nobody) ?_)))
 refine r_move hS hH.kp0 rfl rfl (x_load_row hH (by repeat' constructor) rfl (by repeat' constructor) Fc.ag26 (by rfl) rfl ?_); clear hS; intro a hS
 refine r_call (l:=[.tmp 14,.tmp 15]) hS rfl rfl Fc.fn29 rfl ?_
 refine Calls.mono (secret_v b V ts [x0,x1,x2,x3,x4,x5,x6,x7,x8,x9,xa,xb,xc,xd,xe,xf] rfl j t hnm2 ht hk hm _ (hH.vin hvi.ok hvi.n01 hvi.n23 (by repeat' constructor) (by repeat' constructor) (by repeat' constructor) (by repeat' constructor))) ?_
 rintro e w1 ⟨rfl,hE⟩
 replace hH:=hH.ext hE
 refine ⟨_,rfl,hH.kp0,?_⟩
 clear hS; intro a hS
 refine r_move hS hH.kp0 rfl rfl (x_extract hH.kp0 rfl rfl rfl (x_extract hH.kp0 rfl rfl rfl (x_assign hH.kp0 rfl rfl (x_assign hH.kp0 rfl rfl ?_)))); clear hS; intro a hS
 refine Sq.nil (then_n (c_seq (c_seq (reg_plain w0 (Nobody) ?_))))
 refine r_move hS hH.kp0 rfl rfl (x_neq hH.kp0 rfl rfl rfl ?_); clear hS; intro a hS
 refine Sq.nil (then_n (c_condF hS rfl rfl (wp_skip (then_n (c_seq ?_)))))
 refine reg_draw [(true,0,[]),(true,1,[]),(true,2,[]),(true,3,[]),(true,4,[]),(true,5,[]),(true,6,[]),(true,7,[]),(true,8,[]),(true,9,[]),(true,10,[]),(true,11,[]),(true,12,[]),(true,13,[])] Fc.mixed (by kernel_rfl) (by kernel_rfl) (by kernel_rfl) (by kernel_rfl) (by kernel_rfl) (by repeat (first | with_reducible exact steady_body | with_reducible apply steady_block | with_reducible apply steady_then | with_reducible apply steady_scope | exact steady_body)) hH ?_
 replace hH:=hH.drew
 refine r_move hS trivial rfl rfl (x_nilCheck trivial rfl rfl (x_fieldAddr trivial rfl Fc.fo41_1 rfl (x_load_scS rfl (by repeat' constructor) Fc.sc38 (by rfl) rfl (x_move trivial rfl rfl (x_move trivial rfl rfl (x_bytesStrS rfl (fun w hw => hb.ext hw.2) Fc.u8s22 Fc.isStr9 rfl (x_buildS (parts:=[(0,.const (.int .i64 5)),(1,.tmp 27),(6,.tmp 29)]) trivial rfl rfl Fc.zc64 Fc.pl64 (by rfl) (x_lookupS2 Fc.mtF rfl rfl (by repeat' constructor) hm1 hkt e1 e2 rfl (x_move trivial rfl rfl (x_extract trivial rfl rfl rfl (x_extract trivial rfl rfl rfl (x_assign trivial rfl rfl (x_assign trivial rfl rfl ?_))))))))))))); clear hS; intro a hS
 refine Sq.nil (then_n (c_seq (c_seq ?_)))
 refine reg_draw [(true,0,[]),(true,1,[]),(true,2,[]),(true,3,[]),(true,4,[]),(false,5,[]),(true,6,[]),(true,7,[])] Fc.mixed (by kernel_rfl) (by kernel_rfl) (by kernel_rfl) (by kernel_rfl) (by kernel_rfl) (by repeat (first | with_reducible exact steady_body | with_reducible apply steady_block | with_reducible apply steady_then | with_reducible apply steady_scope | exact steady_body)) hH ?_
 replace hH:=hH.drew
 refine r_move hS trivial rfl rfl (x_not trivial rfl rfl ?_); clear hS; intro a hS
 rcases hlk with ⟨n,rfl,rfl,hn⟩ | ⟨rfl,rfl,hno⟩
 ·have hnl:=at_lt hn
  refine r_move hS trivial rfl rfl (Sq.xguardYes rfl rfl rfl (x_load_rowS rfl (by repeat' constructor) Fc.ag26 (by rfl) rfl (Sq.xguardYes rfl rfl rfl (x_move trivial rfl rfl (Sq.xguardYes rfl rfl rfl ?_))))); clear hS; intro a hS
  refine r_call (l:=[.tmp 38]) hS rfl rfl Fc.fn30 rfl ?_
  refine Calls.mono (name_c n (by omega) _) ?_
  rintro e w1 ⟨h,rfl,hqz,hE⟩
  obtain ⟨z0,z1,z2,z3,z4,z5,z6,z7,z8,z9,za,zb,zc,zd,ze,zf,rfl⟩:=len16 (h:=h) (by rw [hqz]; rfl)
  replace hH:=hH.ext hE
  refine ⟨_,rfl,hH.kp (by repeat' constructor),?_⟩
  clear hS; intro a hS
  refine Sq.guardYes hS rfl rfl rfl (r_arrNeq (h:=[y0,y1,y2,y3,y4,y5,y6,y7,y8,y9,ya,yb,yc,yd,ye,yf]) (g:=[z0,z1,z2,z3,z4,z5,z6,z7,z8,z9,za,zb,zc,zd,ze,zf]) Fc.arrH hS trivial rfl rfl rfl rfl rfl (x_pickF trivial rfl rfl rfl rfl ?_)); clear hS; intro a hS
  refine Sq.nil (then_n ?_)
  refine c_cond hS rfl (fun hc1 => ?_) (fun hc1 => ?_)
  ·have hne : [y0,y1,y2,y3,y4,y5,y6,y7,y8,y9,ya,yb,yc,yd,ye,yf]≠[z0,z1,z2,z3,z4,z5,z6,z7,z8,z9,za,zb,zc,zd,ze,zf]:=fun e => by rw [DT e] at hc1; cases hc1
   refine c_seq (reg_plain w0 (Nobody) ?_)
   refine r_assign hS hH.kp0 rfl rfl ?_; clear hS; intro a hS
   refine Sq.nil (then_n (wp_ret (then_r ?_)))
   refine leave (.inl rfl) hS rfl (Res.tmp rfl Res.nil) ⟨21,rfl,.inr ⟨rfl,?_⟩,hH.mod⟩
   rintro ⟨s,h1,h2⟩
   obtain rfl:=hvi.ok.uq s n _ h2 hn (by show (5 : Int)≠1; decide)
   exact hne (h1.trans hqz.symm)
  ·have heq : [y0,y1,y2,y3,y4,y5,y6,y7,y8,y9,ya,yb,yc,yd,ye,yf] = [z0,z1,z2,z3,z4,z5,z6,z7,z8,z9,za,zb,zc,zd,ze,zf]:=Decidable.byContradiction fun h => by rw [DF h] at hc1; cases hc1
   refine wp_skip (then_n (c_seq (reg_plain w0 (Nobody) ?_)))
   refine r_assign hS hH.kp0 rfl rfl ?_; clear hS; intro a hS
   refine Sq.nil (then_n (wp_ret ?_))
   exact leave (.inl rfl) hS rfl (Res.tmp rfl Res.nil) ⟨0,rfl,.inl ⟨rfl,n,heq.trans hqz,hn⟩,hH.mod⟩
 ·refine r_move hS trivial rfl rfl (Sq.xguardNo rfl rfl rfl trivial rfl (Sq.xguardNo rfl rfl rfl trivial rfl (Sq.xguardNo rfl rfl rfl (hH.kp (by repeat' constructor)) rfl (Sq.xguardNo rfl rfl rfl trivial rfl (x_pickT trivial rfl rfl rfl rfl ?_))))); clear hS; intro a hS
  refine Sq.nil (then_n (c_condT hS rfl rfl (c_seq (reg_plain w0 (Nobody) ?_))))
  refine r_assign hS hH.kp0 rfl rfl ?_; clear hS; intro a hS
  refine Sq.nil (then_n (wp_ret (then_r ?_)))
  refine leave (.inl rfl) hS rfl (Res.tmp rfl Res.nil) ⟨21,rfl,.inr ⟨rfl,fun ⟨s,_,e⟩ => ?_⟩,hH.mod⟩
  rcases hno with h | h
  ·exact absurd h (by show ¬ ((5 : Int) = 1); decide)
  ·exact h (List.mem_of_getElem? e)

theorem Verify_c (b : Nat) (V : VB) (ts : List Tm) (h : List UInt8) (hh : h.length = 16) (g : List UInt8) (hg : g.length = 16) (v : Value) (l : List UInt8) (hl : l.length≤9223372036854775807) (hm : ts.length≤1000000000) (w0 : World) (hvi : VI w0 b V ts) (hb : Bs w0 v l) : Calls Tryd.prog 17 #[.pointer (some ⟨b,0,none⟩),hnd h,v,hnd g] w0 fun e w' => ∃ x : Int,e = .returned (.int .i64 x)∧VerT ts h l g x∧Ext w0 w':=by
 by_cases hp : ∃ (j : Nat) (t : Tm),h = nm j∧ts[j]? = some t∧t.kind = 3
 ·obtain ⟨j,t,hj,ht,hk⟩:=hp
  exact (Verify_y b V ts h hh g hg v l hl j t hj ht hk hm w0 hvi hb).mono fun e w' ⟨x,he,h1,hE⟩ => ⟨x,he,.inr ⟨j,t,hj,ht,hk,h1⟩,hE⟩
 ·exact (Verify_n b V ts h hh g hg v l hl hp hm w0 hvi).mono fun e w' ⟨he,hE⟩ => ⟨15,he,.inl ⟨rfl,hp⟩,hE⟩

set_option maxRecDepth 100000 in
set_option maxHeartbeats 1000000 in
theorem Seal_no (b : Nat) (V : VB) (ts : List Tm) (h : List UInt8) (hh : h.length = 16) (nu : Int) (va vb : Value) (lb : List UInt8) (hno : ∀ i,i < ts.length→h≠nm i) (hm : ts.length≤1000000000) (w0 : World) (hvi : VI w0 b V ts) (hbb : Bs w0 vb lb) : Calls Tryd.prog 8 #[.pointer (some ⟨b,0,none⟩),hnd h,.int .i64 nu,va,vb] w0 fun e w' => e = .returned (.tuple #[.slice none 0 0,.int .i64 15])∧Ext w0 w':=by
 refine enter Tryd.func8 rfl rfl rfl ?_
 intro a hS
 have hH:=Hp.start w0 (Nobody)
 obtain ⟨x0,x1,x2,x3,x4,x5,x6,x7,x8,x9,xa,xb,xc,xd,xe,xf,rfl⟩:=len16 hh
 replace hH:=hH.knowV hvi (by intro p hp; simp at hp)
 obtain ⟨g2,hm2,hf2⟩:=hvi.ok.names
 obtain ⟨n0,th,e1,e2,hcase⟩:=hf2.look2 [x0,x1,x2,x3,x4,x5,x6,x7,x8,x9,xa,xb,xc,xd,xe,xf]
 rcases hcase with ⟨_,i9,hi9,_,h9⟩ | ⟨hth,hn0,_⟩
 ·exact absurd h9 (hno i9 hi9)
 subst hth hn0
 refine c_seq (reg_plain w0 (Nobody) ?_)
 refine r_box hS hH (by repeat' constructor) rfl rfl rfl ?_
 clear hS hH; intro a w b6 hb6 hwb6 hS hH
 refine r_assign hS hH.kp0 rfl rfl (x_assign hH.kp0 rfl rfl ?_); clear hS; intro a hS
 refine Sq.nil (then_n (c_seq (c_seq (reg_plain w0 (Nobody) ?_))))
 refine r_move hS hH.kp0 rfl rfl ?_; clear hS; intro a hS
 refine r_call (l:=[.tmp 15]) hS rfl rfl Fc.fn24 rfl ?_
 refine Calls.mono (none_v b V ts _ (hH.vin hvi.ok hvi.n01 hvi.n23 (by repeat' constructor) (by repeat' constructor) (by repeat' constructor) (by repeat' constructor))) ?_
 rintro e w1 ⟨rfl,hE⟩
 replace hH:=hH.ext hE
 refine ⟨_,rfl,hH.kp0,?_⟩
 clear hS; intro a hS
 refine Sq.nil (then_n (c_condF hS rfl rfl (wp_skip (then_n (c_seq ?_)))))
 refine reg_draw [(true,0,[]),(true,1,[]),(true,2,[]),(true,3,[]),(true,4,[]),(true,5,[]),(true,6,[]),(true,7,[]),(true,8,[]),(true,9,[]),(true,10,[])] Fc.mixed (by kernel_rfl) (by kernel_rfl) (by kernel_rfl) (by kernel_rfl) (by kernel_rfl) (by repeat (first | with_reducible exact steady_body | with_reducible apply steady_block | with_reducible apply steady_then | with_reducible apply steady_scope | exact steady_body)) hH ?_
 replace hH:=hH.drew
 refine r_move hS trivial rfl rfl (x_nilCheck trivial rfl rfl (x_fieldAddr trivial rfl Fc.fo41_2 rfl (x_load_scS rfl (by repeat' constructor) Fc.sc39 (by rfl) rfl (x_load_rowS rfl (by repeat' constructor) Fc.ag26 (by rfl) rfl (x_lookupS2 Fc.mtN rfl rfl (by repeat' constructor) hm2 (Fc.arrH.keyOf (h:=[x0,x1,x2,x3,x4,x5,x6,x7,x8,x9,xa,xb,xc,xd,xe,xf]) rfl) e1 e2 rfl (x_move trivial rfl rfl (x_extract trivial rfl rfl rfl (x_extract trivial rfl rfl rfl (x_assign trivial rfl rfl (x_assign trivial rfl rfl ?_)))))))))); clear hS; intro a hS
 refine Sq.nil (then_n (c_seq (wp_block (c_seq (reg_plain w0 (Nobody) ?_)))))
 refine r_move hS hH.kp0 rfl rfl (x_not hH.kp0 rfl rfl (x_assign hH.kp0 rfl rfl ?_)); clear hS; intro a hS
 refine Sq.nil (then_n (c_condT hS rfl rfl (c_seq (reg_plain w0 (Nobody) ?_))))
 refine r_assign hS hH.kp0 rfl rfl (x_assign hH.kp0 rfl rfl ?_); clear hS; intro a hS
 refine Sq.nil (then_n (wp_ret (blk_r (then_r ?_))))
 exact leave (.inl rfl) hS rfl (Res.tmp rfl (Res.tmp rfl Res.nil)) ⟨rfl,hH.mod⟩

set_option maxRecDepth 100000 in
set_option maxHeartbeats 1000000 in
theorem Seal_neg (b : Nat) (V : VB) (ts : List Tm) (h : List UInt8) (hh : h.length = 16) (nu : Int) (va vb : Value) (lb : List UInt8) (k : Nat) (hk : k < ts.length) (hnm : h = nm k) (hnu : nu < 0) (hm : ts.length≤1000000000) (w0 : World) (hvi : VI w0 b V ts) (hbb : Bs w0 vb lb) : Calls Tryd.prog 8 #[.pointer (some ⟨b,0,none⟩),hnd h,.int .i64 nu,va,vb] w0 fun e w' => e = .returned (.tuple #[.slice none 0 0,.int .i64 2])∧Ext w0 w':=by
 refine enter Tryd.func8 rfl rfl rfl ?_
 intro a hS
 have hH:=Hp.start w0 (Nobody)
 obtain ⟨x0,x1,x2,x3,x4,x5,x6,x7,x8,x9,xa,xb,xc,xd,xe,xf,rfl⟩:=len16 hh
 replace hH:=hH.knowV hvi (by intro p hp; simp at hp)
 obtain ⟨g2,hm2,hf2⟩:=hvi.ok.names
 obtain ⟨n0,th,e1,e2,hcase⟩:=hf2.look2 [x0,x1,x2,x3,x4,x5,x6,x7,x8,x9,xa,xb,xc,xd,xe,xf]
 rcases hcase.symm with ⟨_,_,hno⟩ | ⟨h,j9,hj9,hn0,hgj⟩
 ·exact absurd hnm (hno k hk)
 subst h
 subst hn0
 obtain rfl : j9 = k:=nm_inj (by omega) (by omega) (hgj.symm.trans hnm)
 refine c_seq (reg_plain w0 (Nobody) ?_)
 refine r_box hS hH (by repeat' constructor) rfl rfl rfl ?_
 clear hS hH; intro a w b6 hb6 hwb6 hS hH
 refine r_assign hS hH.kp0 rfl rfl (x_assign hH.kp0 rfl rfl ?_); clear hS; intro a hS
 refine Sq.nil (then_n (c_seq (c_seq (reg_plain w0 (Nobody) ?_))))
 refine r_move hS hH.kp0 rfl rfl ?_; clear hS; intro a hS
 refine r_call (l:=[.tmp 15]) hS rfl rfl Fc.fn24 rfl ?_
 refine Calls.mono (none_v b V ts _ (hH.vin hvi.ok hvi.n01 hvi.n23 (by repeat' constructor) (by repeat' constructor) (by repeat' constructor) (by repeat' constructor))) ?_
 rintro e w1 ⟨rfl,hE⟩
 replace hH:=hH.ext hE
 refine ⟨_,rfl,hH.kp0,?_⟩
 clear hS; intro a hS
 refine Sq.nil (then_n (c_condF hS rfl rfl (wp_skip (then_n (c_seq ?_)))))
 refine reg_draw [(true,0,[]),(true,1,[]),(true,2,[]),(true,3,[]),(true,4,[]),(true,5,[]),(true,6,[]),(true,7,[]),(true,8,[]),(true,9,[]),(true,10,[])] Fc.mixed (by kernel_rfl) (by kernel_rfl) (by kernel_rfl) (by kernel_rfl) (by kernel_rfl) (by repeat (first | with_reducible exact steady_body | with_reducible apply steady_block | with_reducible apply steady_then | with_reducible apply steady_scope | exact steady_body)) hH ?_
 replace hH:=hH.drew
 refine r_move hS trivial rfl rfl (x_nilCheck trivial rfl rfl (x_fieldAddr trivial rfl Fc.fo41_2 rfl (x_load_scS rfl (by repeat' constructor) Fc.sc39 (by rfl) rfl (x_load_rowS rfl (by repeat' constructor) Fc.ag26 (by rfl) rfl (x_lookupS2 Fc.mtN rfl rfl (by repeat' constructor) hm2 (Fc.arrH.keyOf (h:=[x0,x1,x2,x3,x4,x5,x6,x7,x8,x9,xa,xb,xc,xd,xe,xf]) rfl) e1 e2 rfl (x_move trivial rfl rfl (x_extract trivial rfl rfl rfl (x_extract trivial rfl rfl rfl (x_assign trivial rfl rfl (x_assign trivial rfl rfl ?_)))))))))); clear hS; intro a hS
 refine Sq.nil (then_n (c_seq (wp_block (c_seq (reg_plain w0 (Nobody) ?_)))))
 refine r_move hS hH.kp0 rfl rfl (x_not hH.kp0 rfl rfl (x_assign hH.kp0 rfl rfl ?_)); clear hS; intro a hS
 refine Sq.nil (then_n (c_condF hS rfl rfl (c_seq (reg_plain w0 (Nobody) ?_))))
 refine r_move hS hH.kp0 rfl rfl (x_lss hH.kp0 rfl rfl rfl (x_assign hH.kp0 rfl rfl ?_)); clear hS; intro a hS
 refine Sq.nil (then_n ?_)
 refine c_condT hS rfl (DT (by omega)) ?_
 refine c_seq (reg_plain w0 (Nobody) ?_)
 refine r_assign hS hH.kp0 rfl rfl (x_assign hH.kp0 rfl rfl ?_); clear hS; intro a hS
 refine Sq.nil (then_n (wp_ret (blk_r (then_r ?_))))
 exact leave (.inl rfl) hS rfl (Res.tmp rfl (Res.tmp rfl Res.nil)) ⟨rfl,hH.mod⟩

set_option maxRecDepth 100000 in
set_option maxHeartbeats 1000000 in
theorem Open_no (b : Nat) (V : VB) (ts : List Tm) (h : List UInt8) (hh : h.length = 16) (nu : Int) (va vb : Value) (lb : List UInt8) (hno : ∀ i,i < ts.length→h≠nm i) (hm : ts.length≤1000000000) (w0 : World) (hvi : VI w0 b V ts) (hbb : Bs w0 vb lb) : Calls Tryd.prog 9 #[.pointer (some ⟨b,0,none⟩),hnd h,.int .i64 nu,va,vb] w0 fun e w' => e = .returned (.tuple #[.slice none 0 0,.int .i64 15])∧Ext w0 w':=by
 refine enter Tryd.func9 rfl rfl rfl ?_
 intro a hS
 have hH:=Hp.start w0 (Nobody)
 obtain ⟨x0,x1,x2,x3,x4,x5,x6,x7,x8,x9,xa,xb,xc,xd,xe,xf,rfl⟩:=len16 hh
 replace hH:=hH.knowV hvi (by intro p hp; simp at hp)
 obtain ⟨g2,hm2,hf2⟩:=hvi.ok.names
 obtain ⟨n0,th,e1,e2,hcase⟩:=hf2.look2 [x0,x1,x2,x3,x4,x5,x6,x7,x8,x9,xa,xb,xc,xd,xe,xf]
 rcases hcase with ⟨_,i9,hi9,_,h9⟩ | ⟨hth,hn0,_⟩
 ·exact absurd h9 (hno i9 hi9)
 subst hth hn0
 obtain ⟨qb,qcb,hslb⟩:=hbb
 have hvb:=hslb.val
 subst hvb
 refine c_seq (reg_plain w0 (Nobody) ?_)
 refine r_box hS hH (by repeat' constructor) rfl rfl rfl ?_
 clear hS hH; intro a w b6 hb6 hwb6 hS hH
 refine r_assign hS hH.kp0 rfl rfl (x_assign hH.kp0 rfl rfl ?_); clear hS; intro a hS
 refine Sq.nil (then_n (c_seq (c_seq (reg_plain w0 (Nobody) ?_))))
 refine r_move hS hH.kp0 rfl rfl ?_; clear hS; intro a hS
 refine r_call (l:=[.tmp 18]) hS rfl rfl Fc.fn24 rfl ?_
 refine Calls.mono (none_v b V ts _ (hH.vin hvi.ok hvi.n01 hvi.n23 (by repeat' constructor) (by repeat' constructor) (by repeat' constructor) (by repeat' constructor))) ?_
 rintro e w1 ⟨rfl,hE⟩
 replace hH:=hH.ext hE
 refine ⟨_,rfl,hH.kp0,?_⟩
 clear hS; intro a hS
 refine Sq.nil (then_n (c_condF hS rfl rfl (wp_skip (then_n (c_seq ?_)))))
 refine reg_draw [(true,0,[]),(true,1,[]),(true,2,[]),(true,3,[]),(true,4,[]),(true,5,[]),(true,6,[]),(true,7,[]),(true,8,[]),(true,9,[]),(true,10,[])] Fc.mixed (by kernel_rfl) (by kernel_rfl) (by kernel_rfl) (by kernel_rfl) (by kernel_rfl) (by repeat (first | with_reducible exact steady_body | with_reducible apply steady_block | with_reducible apply steady_then | with_reducible apply steady_scope | exact steady_body)) hH ?_
 replace hH:=hH.drew
 refine r_move hS trivial rfl rfl (x_nilCheck trivial rfl rfl (x_fieldAddr trivial rfl Fc.fo41_2 rfl (x_load_scS rfl (by repeat' constructor) Fc.sc39 (by rfl) rfl (x_load_rowS rfl (by repeat' constructor) Fc.ag26 (by rfl) rfl (x_lookupS2 Fc.mtN rfl rfl (by repeat' constructor) hm2 (Fc.arrH.keyOf (h:=[x0,x1,x2,x3,x4,x5,x6,x7,x8,x9,xa,xb,xc,xd,xe,xf]) rfl) e1 e2 rfl (x_move trivial rfl rfl (x_extract trivial rfl rfl rfl (x_extract trivial rfl rfl rfl (x_assign trivial rfl rfl (x_assign trivial rfl rfl ?_)))))))))); clear hS; intro a hS
 refine Sq.nil (then_n (c_seq (reg_plain w0 (Nobody) ?_)))
 refine r_move hS hH.kp0 rfl rfl (x_lenSl hH.kp0 rfl Fc.isSlice22 rfl (x_subw hH.kp0 rfl rfl rfl (x_assign hH.kp0 rfl rfl ?_))); clear hS; intro a hS
 refine Sq.nil (then_n (c_seq (wp_block (c_seq (reg_plain w0 (Nobody) ?_)))))
 refine r_move hS hH.kp0 rfl rfl (x_not hH.kp0 rfl rfl (x_assign hH.kp0 rfl rfl ?_)); clear hS; intro a hS
 refine Sq.nil (then_n (c_condT hS rfl rfl (c_seq (reg_plain w0 (Nobody) ?_))))
 refine r_assign hS hH.kp0 rfl rfl (x_assign hH.kp0 rfl rfl ?_); clear hS; intro a hS
 refine Sq.nil (then_n (wp_ret (blk_r (then_r ?_))))
 exact leave (.inl rfl) hS rfl (Res.tmp rfl (Res.tmp rfl Res.nil)) ⟨rfl,hH.mod⟩

set_option maxRecDepth 100000 in
set_option maxHeartbeats 1000000 in
theorem Open_neg (b : Nat) (V : VB) (ts : List Tm) (h : List UInt8) (hh : h.length = 16) (nu : Int) (va vb : Value) (lb : List UInt8) (k : Nat) (hk : k < ts.length) (hnm : h = nm k) (hnu : nu < 0) (hm : ts.length≤1000000000) (w0 : World) (hvi : VI w0 b V ts) (hbb : Bs w0 vb lb) : Calls Tryd.prog 9 #[.pointer (some ⟨b,0,none⟩),hnd h,.int .i64 nu,va,vb] w0 fun e w' => e = .returned (.tuple #[.slice none 0 0,.int .i64 2])∧Ext w0 w':=by
 refine enter Tryd.func9 rfl rfl rfl ?_
 intro a hS
 have hH:=Hp.start w0 (Nobody)
 obtain ⟨x0,x1,x2,x3,x4,x5,x6,x7,x8,x9,xa,xb,xc,xd,xe,xf,rfl⟩:=len16 hh
 replace hH:=hH.knowV hvi (by intro p hp; simp at hp)
 obtain ⟨g2,hm2,hf2⟩:=hvi.ok.names
 obtain ⟨n0,th,e1,e2,hcase⟩:=hf2.look2 [x0,x1,x2,x3,x4,x5,x6,x7,x8,x9,xa,xb,xc,xd,xe,xf]
 rcases hcase.symm with ⟨_,_,hno⟩ | ⟨h,j9,hj9,hn0,hgj⟩
 ·exact absurd hnm (hno k hk)
 subst h
 subst hn0
 obtain rfl : j9 = k:=nm_inj (by omega) (by omega) (hgj.symm.trans hnm)
 obtain ⟨qb,qcb,hslb⟩:=hbb
 have hvb:=hslb.val
 subst hvb
 refine c_seq (reg_plain w0 (Nobody) ?_)
 refine r_box hS hH (by repeat' constructor) rfl rfl rfl ?_
 clear hS hH; intro a w b6 hb6 hwb6 hS hH
 refine r_assign hS hH.kp0 rfl rfl (x_assign hH.kp0 rfl rfl ?_); clear hS; intro a hS
 refine Sq.nil (then_n (c_seq (c_seq (reg_plain w0 (Nobody) ?_))))
 refine r_move hS hH.kp0 rfl rfl ?_; clear hS; intro a hS
 refine r_call (l:=[.tmp 18]) hS rfl rfl Fc.fn24 rfl ?_
 refine Calls.mono (none_v b V ts _ (hH.vin hvi.ok hvi.n01 hvi.n23 (by repeat' constructor) (by repeat' constructor) (by repeat' constructor) (by repeat' constructor))) ?_
 rintro e w1 ⟨rfl,hE⟩
 replace hH:=hH.ext hE
 refine ⟨_,rfl,hH.kp0,?_⟩
 clear hS; intro a hS
 refine Sq.nil (then_n (c_condF hS rfl rfl (wp_skip (then_n (c_seq ?_)))))
 refine reg_draw [(true,0,[]),(true,1,[]),(true,2,[]),(true,3,[]),(true,4,[]),(true,5,[]),(true,6,[]),(true,7,[]),(true,8,[]),(true,9,[]),(true,10,[])] Fc.mixed (by kernel_rfl) (by kernel_rfl) (by kernel_rfl) (by kernel_rfl) (by kernel_rfl) (by repeat (first | with_reducible exact steady_body | with_reducible apply steady_block | with_reducible apply steady_then | with_reducible apply steady_scope | exact steady_body)) hH ?_
 replace hH:=hH.drew
 refine r_move hS trivial rfl rfl (x_nilCheck trivial rfl rfl (x_fieldAddr trivial rfl Fc.fo41_2 rfl (x_load_scS rfl (by repeat' constructor) Fc.sc39 (by rfl) rfl (x_load_rowS rfl (by repeat' constructor) Fc.ag26 (by rfl) rfl (x_lookupS2 Fc.mtN rfl rfl (by repeat' constructor) hm2 (Fc.arrH.keyOf (h:=[x0,x1,x2,x3,x4,x5,x6,x7,x8,x9,xa,xb,xc,xd,xe,xf]) rfl) e1 e2 rfl (x_move trivial rfl rfl (x_extract trivial rfl rfl rfl (x_extract trivial rfl rfl rfl (x_assign trivial rfl rfl (x_assign trivial rfl rfl ?_)))))))))); clear hS; intro a hS
 refine Sq.nil (then_n (c_seq (reg_plain w0 (Nobody) ?_)))
 refine r_move hS hH.kp0 rfl rfl (x_lenSl hH.kp0 rfl Fc.isSlice22 rfl (x_subw hH.kp0 rfl rfl rfl (x_assign hH.kp0 rfl rfl ?_))); clear hS; intro a hS
 refine Sq.nil (then_n (c_seq (wp_block (c_seq (reg_plain w0 (Nobody) ?_)))))
 refine r_move hS hH.kp0 rfl rfl (x_not hH.kp0 rfl rfl (x_assign hH.kp0 rfl rfl ?_)); clear hS; intro a hS
 refine Sq.nil (then_n (c_condF hS rfl rfl (c_seq (reg_plain w0 (Nobody) ?_))))
 refine r_move hS hH.kp0 rfl rfl (x_lss hH.kp0 rfl rfl rfl (x_assign hH.kp0 rfl rfl ?_)); clear hS; intro a hS
 refine Sq.nil (then_n ?_)
 refine c_condT hS rfl (DT (by omega)) ?_
 refine c_seq (reg_plain w0 (Nobody) ?_)
 refine r_assign hS hH.kp0 rfl rfl (x_assign hH.kp0 rfl rfl ?_); clear hS; intro a hS
 refine Sq.nil (then_n (wp_ret (blk_r (then_r ?_))))
 exact leave (.inl rfl) hS rfl (Res.tmp rfl (Res.tmp rfl Res.nil)) ⟨rfl,hH.mod⟩

set_option maxRecDepth 100000 in
set_option maxHeartbeats 1000000 in
theorem Open_short (b : Nat) (V : VB) (ts : List Tm) (h : List UInt8) (hh : h.length = 16) (nu : Int) (va vb : Value) (lb : List UInt8) (k : Nat) (hk : k < ts.length) (hnm : h = nm k) (hnu : 0≤nu) (hlb : lb.length < 16) (hm : ts.length≤1000000000) (w0 : World) (hvi : VI w0 b V ts) (hbb : Bs w0 vb lb) : Calls Tryd.prog 9 #[.pointer (some ⟨b,0,none⟩),hnd h,.int .i64 nu,va,vb] w0 fun e w' => e = .returned (.tuple #[.slice none 0 0,.int .i64 20])∧Ext w0 w':=by
 refine enter Tryd.func9 rfl rfl rfl ?_
 intro a hS
 have hH:=Hp.start w0 (Nobody)
 obtain ⟨x0,x1,x2,x3,x4,x5,x6,x7,x8,x9,xa,xb,xc,xd,xe,xf,rfl⟩:=len16 hh
 replace hH:=hH.knowV hvi (by intro p hp; simp at hp)
 obtain ⟨g2,hm2,hf2⟩:=hvi.ok.names
 obtain ⟨n0,th,e1,e2,hcase⟩:=hf2.look2 [x0,x1,x2,x3,x4,x5,x6,x7,x8,x9,xa,xb,xc,xd,xe,xf]
 rcases hcase.symm with ⟨_,_,hno⟩ | ⟨h,j9,hj9,hn0,hgj⟩
 ·exact absurd hnm (hno k hk)
 subst h
 subst hn0
 obtain rfl : j9 = k:=nm_inj (by omega) (by omega) (hgj.symm.trans hnm)
 obtain ⟨qb,qcb,hslb⟩:=hbb
 have hvb:=hslb.val
 subst hvb
 refine c_seq (reg_plain w0 (Nobody) ?_)
 refine r_box hS hH (by repeat' constructor) rfl rfl rfl ?_
 clear hS hH; intro a w b6 hb6 hwb6 hS hH
 refine r_assign hS hH.kp0 rfl rfl (x_assign hH.kp0 rfl rfl ?_); clear hS; intro a hS
 refine Sq.nil (then_n (c_seq (c_seq (reg_plain w0 (Nobody) ?_))))
 refine r_move hS hH.kp0 rfl rfl ?_; clear hS; intro a hS
 refine r_call (l:=[.tmp 18]) hS rfl rfl Fc.fn24 rfl ?_
 refine Calls.mono (none_v b V ts _ (hH.vin hvi.ok hvi.n01 hvi.n23 (by repeat' constructor) (by repeat' constructor) (by repeat' constructor) (by repeat' constructor))) ?_
 rintro e w1 ⟨rfl,hE⟩
 replace hH:=hH.ext hE
 refine ⟨_,rfl,hH.kp0,?_⟩
 clear hS; intro a hS
 refine Sq.nil (then_n (c_condF hS rfl rfl (wp_skip (then_n (c_seq ?_)))))
 refine reg_draw [(true,0,[]),(true,1,[]),(true,2,[]),(true,3,[]),(true,4,[]),(true,5,[]),(true,6,[]),(true,7,[]),(true,8,[]),(true,9,[]),(true,10,[])] Fc.mixed (by kernel_rfl) (by kernel_rfl) (by kernel_rfl) (by kernel_rfl) (by kernel_rfl) (by repeat (first | with_reducible exact steady_body | with_reducible apply steady_block | with_reducible apply steady_then | with_reducible apply steady_scope | exact steady_body)) hH ?_
 replace hH:=hH.drew
 refine r_move hS trivial rfl rfl (x_nilCheck trivial rfl rfl (x_fieldAddr trivial rfl Fc.fo41_2 rfl (x_load_scS rfl (by repeat' constructor) Fc.sc39 (by rfl) rfl (x_load_rowS rfl (by repeat' constructor) Fc.ag26 (by rfl) rfl (x_lookupS2 Fc.mtN rfl rfl (by repeat' constructor) hm2 (Fc.arrH.keyOf (h:=[x0,x1,x2,x3,x4,x5,x6,x7,x8,x9,xa,xb,xc,xd,xe,xf]) rfl) e1 e2 rfl (x_move trivial rfl rfl (x_extract trivial rfl rfl rfl (x_extract trivial rfl rfl rfl (x_assign trivial rfl rfl (x_assign trivial rfl rfl ?_)))))))))); clear hS; intro a hS
 refine Sq.nil (then_n (c_seq (reg_plain w0 (Nobody) ?_)))
 refine r_move hS hH.kp0 rfl rfl (x_lenSl hH.kp0 rfl Fc.isSlice22 rfl (x_sub hH.kp0 rfl rfl rfl (by omega) (x_assign hH.kp0 rfl rfl ?_))); clear hS; intro a hS
 refine Sq.nil (then_n (c_seq (wp_block (c_seq (reg_plain w0 (Nobody) ?_)))))
 refine r_move hS hH.kp0 rfl rfl (x_not hH.kp0 rfl rfl (x_assign hH.kp0 rfl rfl ?_)); clear hS; intro a hS
 refine Sq.nil (then_n (c_condF hS rfl rfl (c_seq (reg_plain w0 (Nobody) ?_))))
 refine r_move hS hH.kp0 rfl rfl (x_lss hH.kp0 rfl rfl rfl (x_assign hH.kp0 rfl rfl ?_)); clear hS; intro a hS
 refine Sq.nil (then_n ?_)
 refine c_condF hS rfl (DF (by omega)) ?_
 refine c_seq (reg_plain w0 (Nobody) ?_)
 refine r_move hS hH.kp0 rfl rfl (x_lss hH.kp0 rfl rfl rfl (x_assign hH.kp0 rfl rfl ?_)); clear hS; intro a hS
 refine Sq.nil (then_n ?_)
 refine c_condT hS rfl (DT (by omega)) ?_
 refine c_seq (reg_plain w0 (Nobody) ?_)
 refine r_assign hS hH.kp0 rfl rfl (x_assign hH.kp0 rfl rfl ?_); clear hS; intro a hS
 refine Sq.nil (then_n (wp_ret (blk_r (then_r ?_))))
 exact leave (.inl rfl) hS rfl (Res.tmp rfl (Res.tmp rfl Res.nil)) ⟨rfl,hH.mod⟩

theorem Seal_c (b : Nat) (V : VB) (ts : List Tm) (h : List UInt8) (hh : h.length = 16) (nu : Int) (hnu : nu≤9223372036854775807) (va vb : Value) (la lb : List UInt8) (hla : la.length≤9223372036854775807) (hm : ts.length≤1000000000) (w0 : World) (hvi : VI w0 b V ts) (hba : BsF (V.F b) w0 va la) (hbb : BsF (V.F b) w0 vb lb) : Calls Tryd.prog 8 #[.pointer (some ⟨b,0,none⟩),hnd h,.int .i64 nu,va,vb] w0 fun e w' => ∃ (sv : Value) (o : List UInt8) (x : Int) (V' : VB) (ts' : List Tm),e = .returned (.tuple #[sv,.int .i64 x])∧BsF (fun z => z < w0.heap.size) w' sv o∧VI w' b V' ts'∧VStep w0 w' b V V'∧SealT ts h nu la lb o x ts':=by
 have stay : ∀ (x : Int),SealT ts h nu la lb [] x ts→∀ (e : Ending) (w' : World),e = .returned (.tuple #[.slice none 0 0,.int .i64 x])∧Ext w0 w'→∃ (sv : Value) (o : List UInt8) (x : Int) (V' : VB) (ts' : List Tm),e = .returned (.tuple #[sv,.int .i64 x])∧BsF (fun z => z < w0.heap.size) w' sv o∧VI w' b V' ts'∧VStep w0 w' b V V'∧SealT ts h nu la lb o x ts' :=
  fun x hx e w' ⟨he,hE⟩ => ⟨_,[],x,V,ts,he,BsF.nil _ _,hvi.ext hE,VStep.of_ext b V hE,hx⟩
 by_cases hq : ∃ k,k < ts.length∧h = nm k
 ·obtain ⟨k,hk,hnm⟩:=hq
  by_cases hneg : nu < 0
  ·exact (Seal_neg b V ts h hh nu va vb lb k hk hnm hneg hm w0 hvi hbb.bs).mono (stay 2 (.inr ⟨k,hk,hnm,.inl ⟨rfl,hneg,rfl,rfl⟩⟩))
  ·by_cases hbig : 65536 < lb.length
   ·exact (Seal_big b V ts h hh k hk hnm nu ⟨by omega,hnu⟩ va vb la lb hla hbig hm w0 hvi hba hbb).mono (stay 3 (.inr ⟨k,hk,hnm,.inr (.inl ⟨rfl,by omega,hbig,rfl,rfl⟩)⟩))
   ·refine (Seal_v b V ts h hh k hk hnm nu ⟨by omega,hnu⟩ va vb la lb hla (by omega) hm w0 hvi hba hbb).mono ?_
    rintro e w' ⟨cb,cap,i,cl,V',ts',he,h1,h2,h3,h4,h5,h6⟩
    have hB:=BsF.of_blk (F:=fun z => z < w0.heap.size) h2 (by show ¬ cb < _; omega) h3.take h3.le
    rw [List.length_append,List.length_replicate,nm_len] at hB
    exact ⟨_,_,0,V',ts',he,hB,h4,h5,.inr ⟨k,hk,hnm,.inr (.inr ⟨rfl,by omega,by omega,i,h6,rfl⟩)⟩⟩
 ·have hno : ∀ i,i < ts.length→h≠nm i:=fun i hi hn => hq ⟨i,hi,hn⟩
  exact (Seal_no b V ts h hh nu va vb lb hno hm w0 hvi hbb.bs).mono (stay 15 (.inl ⟨rfl,hno,rfl,rfl⟩))
theorem Open_c (b : Nat) (V : VB) (ts : List Tm) (h : List UInt8) (hh : h.length = 16) (nu : Int) (hnu : nu≤9223372036854775807) (va vb : Value) (la lb : List UInt8) (hla : la.length≤9223372036854775807) (hlb : lb.length≤1099511627776) (hm : ts.length≤1000000000) (w0 : World) (hvi : VI w0 b V ts) (hba : BsF Nobody w0 va la) (hbb : BsF Nobody w0 vb lb) : Calls Tryd.prog 9 #[.pointer (some ⟨b,0,none⟩),hnd h,.int .i64 nu,va,vb] w0 fun e w' => ∃ (sv : Value) (o : List UInt8) (x : Int),e = .returned (.tuple #[sv,.int .i64 x])∧BsF (fun z => z < w0.heap.size) w' sv o∧OpenT ts h nu la lb o x∧Ext w0 w':=by
 have stay : ∀ (x : Int),OpenT ts h nu la lb [] x→∀ (e : Ending) (w' : World),e = .returned (.tuple #[.slice none 0 0,.int .i64 x])∧Ext w0 w'→∃ (sv : Value) (o : List UInt8) (x : Int),e = .returned (.tuple #[sv,.int .i64 x])∧BsF (fun z => z < w0.heap.size) w' sv o∧OpenT ts h nu la lb o x∧Ext w0 w' :=
  fun x hx e w' ⟨he,hE⟩ => ⟨_,[],x,he,BsF.nil _ _,hx,hE⟩
 by_cases hq : ∃ k,k < ts.length∧h = nm k
 ·obtain ⟨k,hk,hnm⟩:=hq
  by_cases hneg : nu < 0
  ·exact (Open_neg b V ts h hh nu va vb lb k hk hnm hneg hm w0 hvi hbb.bs).mono (stay 2 (.inr ⟨k,hk,hnm,.inl ⟨rfl,hneg,rfl⟩⟩))
  ·by_cases hs : lb.length < 16
   ·exact (Open_short b V ts h hh nu va vb lb k hk hnm (by omega) hs hm w0 hvi hbb.bs).mono (stay 20 (.inr ⟨k,hk,hnm,.inr (.inl ⟨rfl,by omega,hs,rfl⟩)⟩))
   ·obtain ⟨n,hn⟩ : ∃ n,lb.length = n + 16:=⟨lb.length - 16,by omega⟩
    refine (Open_v b V ts h hh k hk hnm nu ⟨by omega,hnu⟩ va vb la lb hla hlb n hn hm w0 hvi hba hbb).mono ?_
    rintro e w' ⟨h1 | ⟨h1,he⟩,hE⟩
    ·obtain ⟨s,t,cb,cap,cl,fz,h2,he,h3,h4,h5,h6⟩:=h1
     exact ⟨_,byt t,0,he,BsF.of_blk h4 (by show ¬ cb < _; omega) h5 h6,.inr ⟨k,hk,hnm,.inr (.inr ⟨n,by omega,hn,.inl ⟨rfl,s,t,h2,rfl⟩⟩)⟩,hE⟩
    ·exact stay 20 (.inr ⟨k,hk,hnm,.inr (.inr ⟨n,by omega,hn,.inr ⟨rfl,rfl,h1⟩⟩)⟩) e w' ⟨he,hE⟩
 ·have hno : ∀ i,i < ts.length→h≠nm i:=fun i hi hn => hq ⟨i,hi,hn⟩
  exact (Open_no b V ts h hh nu va vb lb hno hm w0 hvi hbb.bs).mono (stay 15 (.inl ⟨rfl,hno,rfl⟩))

end Go.Proofs.YtcjmehononbadaaDoor
