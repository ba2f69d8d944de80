/- Two vaults under any calls answer alike. Part Part12: walks and lemmas of the proof. -/
import Derived.Test.YtcjmehononbadaaDoorPart11
namespace Go.Proofs.YtcjmehononbadaaDoor
open Go.Sym


set_option maxRecDepth 100000 in
set_option maxHeartbeats 16000000 in
theorem does0 (k2 k3 k4 nu : Int) (s : ByteArray) (va vq : Value) (la lq : List UInt8) (o : Bool) (b : Nat) (V : VB) (r : Nat) (R : RB) (ts : List Tm) (sh hb hcap : Nat) (hl : List Value) (hs : List (List UInt8)) (sv : Value) (ss : List (List UInt8)) (hk4 : -9223372036854775808≤nu∧nu≤9223372036854775807) (hs9 : s.size≤9223372036854775807) (hla : la.length≤1099511627776) (hlq : lq.length≤1099511627776) (hts : ts.length≤1000000) (hhs : hs.length≤1000000) (hss9 : ss.length≤1000000) (w0 : World) (hpl : PL w0 b V r R ts sh hb hcap hl hs sv ss) (hva : BsF (FT b V r R sh hb sv) w0 va la) (hvq : BsF (FT b V r R sh hb sv) w0 vq lq) : Calls Tryd.prog 22 #[.pointer (some ⟨sh,0,none⟩),.pointer (some ⟨b,0,none⟩),.pointer (some ⟨r,0,none⟩),.agg #[.int .i64 0,.int .i64 k2,.int .i64 k3,.int .i64 k4,.string s,.int .i64 nu,va,vq,.bool o]] w0 fun e w' => e = .returned (.bool true)∧Next w0 b V r R ts sh hb hs sv ss w':=by
 refine enter Tryd.func22 rfl rfl rfl ?_
 intro a hS
 have hH:=Hp.start w0 (Nobody)
 obtain ⟨SS,hSS⟩ : ∃ S : Nat→Prop,S = FS b V r R sh hb:=⟨_,rfl⟩
 have huq:=hpl.bv.v.ok.uq
 have htp:=hpl.tp
 have hvaS : BsF SS w0 va la:=hva.go (Mod.refl _ _) (fun x hx => .inl (.inl (hSS ▸ hx)))
 have hvqS : BsF SS w0 vq lq:=hvq.go (Mod.refl _ _) (fun x hx => .inl (.inl (hSS ▸ hx)))
 obtain ⟨x,hx⟩ : ∃ y,y = pickH hs k2:=⟨_,rfl⟩
 have hx16 : x.length = 16:=by rw [hx]; exact pickH_len hpl.six _
 obtain ⟨x0,x1,x2,x3,x4,x5,x6,x7,x8,x9,xa,xb,xc,xd,xe,xf,rfl⟩:=len16 hx16
 obtain ⟨y,hy⟩ : ∃ y,y = pickH hs k3:=⟨_,rfl⟩
 have hy16 : y.length = 16:=by rw [hy]; exact pickH_len hpl.six _
 obtain ⟨y0,y1,y2,y3,y4,y5,y6,y7,y8,y9,ya,yb,yc,yd,ye,yf,rfl⟩:=len16 hy16
 obtain ⟨z,hz⟩ : ∃ y,y = pickH hs k4:=⟨_,rfl⟩
 have hz16 : z.length = 16:=by rw [hz]; exact pickH_len hpl.six _
 obtain ⟨z0,z1,z2,z3,z4,z5,z6,z7,z8,z9,za,zb,zc,zd,ze,zf,rfl⟩:=len16 hz16
 refine c_seq (reg_plain w0 (Nobody) ?_)
 refine r_box hS hH (by repeat' constructor) rfl rfl rfl ?_
 clear hS hH; intro a w b7 hb7 hwb7 hS hH
 refine r_assign hS hH.kp0 rfl rfl ?_; clear hS; intro a hS
 refine Sq.nil (then_n ?_)
 refine c_cut (fun a w => ∃ b9 b10 b11,w0.heap.size≤b9∧w0.heap.size≤b10∧w0.heap.size≤b11∧St 298 (lv [(0,.pointer (some ⟨sh,0,none⟩)),(1,.pointer (some ⟨b,0,none⟩)),(2,.pointer (some ⟨r,0,none⟩)),(7,.pointer (some ⟨b7,0,none⟩)),(8,.bool false),(9,.pointer (some ⟨b9,0,none⟩)),(10,.pointer (some ⟨b10,0,none⟩)),(11,.pointer (some ⟨b11,0,none⟩))]) a∧Hp w0 Nobody [(b11,.cells (hcells [z0,z1,z2,z3,z4,z5,z6,z7,z8,z9,za,zb,zc,zd,ze,zf]).toArray 26 (0,0)),(b10,.cells (hcells [y0,y1,y2,y3,y4,y5,y6,y7,y8,y9,ya,yb,yc,yd,ye,yf]).toArray 26 (0,0)),(b9,.cells (hcells [x0,x1,x2,x3,x4,x5,x6,x7,x8,x9,xa,xb,xc,xd,xe,xf]).toArray 26 (0,0)),(b7,.cells ([.int .i64 0,.int .i64 k2,.int .i64 k3,.int .i64 k4,.string s,.int .i64 nu,va,vq,.bool o] : List Value).toArray 36 (0,0))] w) ?_ ?_
 ·exact does_r1 0 k2 k3 k4 nu s va vq o b V r R ts sh hb hcap hl hs sv ss [x0,x1,x2,x3,x4,x5,x6,x7,x8,x9,xa,xb,xc,xd,xe,xf] [y0,y1,y2,y3,y4,y5,y6,y7,y8,y9,ya,yb,yc,yd,ye,yf] [z0,z1,z2,z3,z4,z5,z6,z7,z8,z9,za,zb,zc,zd,ze,zf] hx rfl hy rfl hz rfl w0 hpl b7 hb7 a w (hS.live ⟨rfl,rfl,rfl,rfl,rfl,trivial⟩) hH _ (by repeat (first | with_reducible exact steady_body | with_reducible apply steady_block | with_reducible apply steady_then | with_reducible apply steady_scope | exact steady_body))
 clear hS hH; intro a w hJ; obtain ⟨b9,b10,b11,hb9,hb10,hb11,hS,hH⟩:=hJ
 refine c_seq (reg_plain w0 (Nobody) ?_)
 refine r_buildA (parts:=[]) hS hH.kp0 rfl rfl Fc.zc26 Fc.ar26 (by rfl) ?_; clear hS; intro a hS
 refine r_alloc hS hH (by repeat' constructor) Fc.zc26 rfl ?_
 clear hS hH; intro a w b12 hb12 hwb12 hS hH
 refine r_store_row hS hH rfl rfl (by repeat' constructor) (by repeat' constructor) Fc.sz26 (by first | exact hcells_one _ | exact of_decide_eq_true rfl) (by rfl) (by first | exact .inr (by assumption) | exact .inl (by first | assumption | rfl)) ?_
 clear hH; intro w hH
 refine r_assign hS hH.kp0 rfl rfl ?_; clear hS; intro a hS
 refine Sq.nil (then_n (c_seq (reg_plain w0 (Nobody) ?_)))
 refine r_buildA (parts:=[]) hS hH.kp0 rfl rfl Fc.zc25 Fc.ar25 (by rfl) ?_; clear hS; intro a hS
 refine r_alloc hS hH (by repeat' constructor) Fc.zc25 rfl ?_
 clear hS hH; intro a w b14 hb14 hwb14 hS hH
 refine r_store_row hS hH rfl rfl (by repeat' constructor) (by repeat' constructor) Fc.sz25 (by first | exact hcells_one _ | exact of_decide_eq_true rfl) (by rfl) (by first | exact .inr (by assumption) | exact .inl (by first | assumption | rfl)) ?_
 clear hH; intro w hH
 refine r_assign hS hH.kp0 rfl rfl ?_; clear hS; intro a hS
 refine Sq.nil (then_n (c_seq (c_seq (reg_plain w0 (Nobody) ?_))))
 refine r_fieldAddr hS hH.kp0 rfl Fc.fo36_0 rfl (x_load_sc hH (by repeat' constructor) rfl (by repeat' constructor) Fc.sc3 (by rfl) rfl ?_); clear hS; intro a hS
 refine Sq.nil ?_
 have hbv:=hpl.bv.ext hH.mod
 have hlb : ∀ p∈([(b14,.cells #[] 0 (0,0)),(b12,.cells #[] 0 (0,0)),(b11,.cells #[] 0 (0,0)),(b10,.cells #[] 0 (0,0)),(b9,.cells #[] 0 (0,0)),(b7,.cells #[] 0 (0,0))] : Blocks),w0.heap.size≤p.1:=by intro p hp; simp only [List.mem_cons,List.not_mem_nil,or_false] at hp; rcases hp with rfl | rfl | rfl | rfl | rfl | rfl <;> assumption
 have hshl:=lt_of_block hpl.top
 have hhbl:=lt_of_block hpl.row
 replace hH:=((hH.know (hH.mod.heap_some hpl.row (fun h => h)) (by intro p hp; simp only [List.mem_cons,List.not_mem_nil,or_false] at hp; rcases hp with rfl | rfl | rfl | rfl | rfl | rfl <;> (dsimp only; omega))).know (hH.mod.heap_some hpl.top (fun h => h)) (by intro p hp; simp only [List.mem_cons,List.not_mem_nil,or_false] at hp; rcases hp with rfl | rfl | rfl | rfl | rfl | rfl | rfl <;> (first | exact Ne.symm hpl.ne | (dsimp only; omega)))).wide (S':=SS) (fun _ h => h.elim)
 have hVS : ∀ x,V.F b x→SS x∨w0.heap.size≤x:=fun x hx => .inl (by rw [hSS]; exact .inl hx)
 have hRS : ∀ x,R.F r x→SS x∨w0.heap.size≤x:=fun x hx => .inl (by rw [hSS]; exact .inr (.inl hx))
 clear hlb
 refine then_n (wp_block (c_seq (reg_plain w0 (SS) ?_)))
 refine r_eql hS hH.kp0 rfl rfl rfl (x_assign hH.kp0 rfl rfl ?_); clear hS; intro a hS
 refine Sq.nil (then_n (c_condT hS rfl rfl (reg_plain w0 (SS) ?_)))
 refine r_move hS hH.kp0 rfl rfl ?_; clear hS; intro a hS
 refine r_call (l:=[.tmp 43]) hS rfl rfl Fc.fn7 rfl ?_
 refine Calls.mono (Fresh_v b V ts (by omega) _ hbv.v) ?_
 rintro e w1 ⟨h1,V1,rfl,hn1,hvi1,hst1⟩
 have hp16 : h1.length = 16:=by rw [hn1]; rfl
 obtain ⟨p0,p1,p2,p3,p4,p5,p6,p7,p8,p9,pa,pb,pc,pd,pe,pf,rfl⟩:=len16 hp16
 have hq:=hH.callV hbv hst1 (by repeat (first | exact Clear.nil _ | refine Clear.cons (by decide) ?_)) hVS
 clear hH hVS
 obtain ⟨hH,hVS⟩:=hq
 replace hbv:=hbv.callV hvi1 hst1
 refine ⟨_,rfl,hH.kp0,?_⟩
 clear hS; intro a hS
 refine r_move hS hH.kp0 rfl rfl ?_; clear hS; intro a hS
 refine r_call (l:=[.tmp 45]) hS rfl rfl Fc.fn33 rfl ?_
 refine Calls.mono (rFresh_c r R ts (by omega) _ hbv.r) ?_
 rintro e w1 ⟨h2,R1,rfl,hn2,hri1,hst2⟩
 have hq1:=hn1.trans hn2.symm
 subst hq1
 have hq:=hH.callR hbv hst2 (by repeat (first | exact Clear.nil _ | refine Clear.cons (by decide) ?_)) hRS
 clear hH hRS
 obtain ⟨hH,hRS⟩:=hq
 replace hbv:=hbv.callR hri1 hst2
 have hln8 : (ts++[freshT]).length = ts.length + 1:=by rw [List.length_append]; rfl
 obtain ⟨ts1,hts1⟩ : ∃ z,z = ts++[freshT]:=⟨_,rfl⟩
 have hwf1:=hpl.wf.fresh hpl.tp
 have hsl1:=hpl.sel.fresh
 rw [←hts1] at hbv hln8 hwf1 hsl1
 have hlt0 : ts.length≤ts1.length:=by omega
 have hlt1 : ts1.length≤ts.length + 1:=by omega
 refine ⟨_,rfl,hH.kp0,?_⟩
 clear hS; intro a hS
 have hcb12:=hH.get (b:=b12) (o:=.cells ([.int .u8 0,.int .u8 0,.int .u8 0,.int .u8 0,.int .u8 0,.int .u8 0,.int .u8 0,.int .u8 0,.int .u8 0,.int .u8 0,.int .u8 0,.int .u8 0,.int .u8 0,.int .u8 0,.int .u8 0,.int .u8 0] : List Value).toArray 26 (0,0)) (by repeat' constructor)
 refine r_store_rowM hS hH rfl rfl (by repeat' constructor) (by repeat' constructor) Fc.sz26 (by first | exact hcells_one _ | exact of_decide_eq_true rfl) (by rfl) (.inr (by assumption)) ?_
 clear hH; intro w hMb12 hH
 replace hbv:=hbv.put hMb12 hcb12 (by decide)
 have hcb14:=hH.get (b:=b14) (o:=.cells ([.int .u8 0,.int .u8 0,.int .u8 0,.int .u8 0,.int .u8 0,.int .u8 0,.int .u8 0,.int .u8 0,.int .u8 0,.int .u8 0,.int .u8 0,.int .u8 0,.int .u8 0,.int .u8 0,.int .u8 0,.int .u8 0] : List Value).toArray 25 (0,0)) (by repeat' constructor)
 refine r_store_rowM hS hH rfl rfl (by repeat' constructor) (by repeat' constructor) Fc.sz25 (by first | exact hcells_one _ | exact of_decide_eq_true rfl) (by rfl) (.inr (by assumption)) ?_
 clear hH; intro w hMb14 hH
 replace hbv:=hbv.put hMb14 hcb14 (by decide)
 refine Sq.nil (blk_n (then_n (c_seq (c_seq (reg_plain w0 (SS) ?_)))))
 refine r_load_row hS hH (by repeat' constructor) rfl (by repeat' constructor) Fc.ag26 (by rfl) rfl (x_load_row hH (by repeat' constructor) rfl (by repeat' constructor) Fc.ag25 (by rfl) rfl (x_arrNeq (h:=[p0,p1,p2,p3,p4,p5,p6,p7,p8,p9,pa,pb,pc,pd,pe,pf]) (g:=[p0,p1,p2,p3,p4,p5,p6,p7,p8,p9,pa,pb,pc,pd,pe,pf]) Fc.arrH hH.kp0 rfl rfl rfl rfl rfl (x_move hH.kp0 rfl rfl ?_))); clear hS; intro a hS
 refine Sq.guardYes hS rfl rfl (by rw [decide_eq_true rfl]; rfl) ?_
 refine r_move hS hH.kp0 rfl rfl ?_; clear hS; intro a hS
 refine Sq.guardYes hS rfl rfl (by rw [decide_eq_true rfl]; rfl) ?_
 refine r_move hS hH.kp0 rfl rfl ?_; clear hS; intro a hS
 refine Sq.guardYes hS rfl rfl (by rw [decide_eq_true rfl]; rfl) ?_
 refine r_neq hS hH.kp0 rfl rfl rfl ?_; clear hS; intro a hS
 refine r_pickF hS hH.kp0 rfl (by rw [decide_eq_true rfl]; rfl) rfl rfl ?_; clear hS; intro a hS
 refine Sq.nil (then_n ?_)
 refine c_condF hS rfl (bne_self_eq_false _) ?_
 refine wp_skip (then_n (c_seq (c_seq (reg_plain w0 (SS) ?_))))
 refine r_load_row hS hH (by repeat' constructor) rfl (by repeat' constructor) Fc.ag26 (by rfl) rfl (x_buildA (parts:=[]) hH.kp0 rfl rfl Fc.zc26 Fc.ar26 (by rfl) (x_arrNeq (h:=[p0,p1,p2,p3,p4,p5,p6,p7,p8,p9,pa,pb,pc,pd,pe,pf]) (g:=zH) Fc.arrH hH.kp0 rfl rfl rfl rfl rfl ?_)); clear hS; intro a hS
 refine Sq.nil (then_n ?_)
 refine c_cond hS rfl (fun hc14 => ?_) (fun hc14 => ?_)
 ·refine reg_draw [(true,0,[0,1]),(true,1,[0,1]),(true,2,[0,1]),(true,3,[0,1]),(true,4,[1]),(true,5,[0,1]),(false,6,[]),(false,7,[1]),(true,8,[0,1]),(true,9,[0,1]),(false,10,[0,1])] Fc.mixed (by kernel_rfl) (by kernel_rfl) (by kernel_rfl) (by kernel_rfl) (by kernel_rfl) (by repeat (first | with_reducible exact steady_body | with_reducible apply steady_block | with_reducible apply steady_then | with_reducible apply steady_scope | exact steady_body)) hH ?_
  replace hH:=hH.drew
  replace hbv:=hbv.ext (Ext.drew _)
  refine r_move hS trivial rfl rfl (x_move trivial rfl rfl (x_nilCheck trivial rfl rfl (x_fieldAddr trivial rfl Fc.fo59_0 rfl (x_load_scS rfl (by repeat' constructor) Fc.sc57 (by rfl) rfl (x_load_rowS rfl (by repeat' constructor) Fc.ag26 (by rfl) rfl ?_))))); clear hS; intro a hS
  refine r_buildSliceW (parts:=[(0,.tmp 285)]) hS hH (by repeat' constructor) rfl Fc.bsl57_1 (by rfl) rfl ?_
  clear hS hH; intro a w b286 hb286 hwb286 hE44 hS hH
  replace hbv:=hbv.ext hE44
  have hc44:=hH.get (b:=hb) (o:=.cells hl.toArray 26 (0,0)) (by repeat' constructor)
  refine r_append_own hS hH rfl rfl (by repeat' constructor) (by repeat' constructor) Fc.elH Fc.niH hpl.len hpl.cap (Src.hnd (h:=[p0,p1,p2,p3,p4,p5,p6,p7,p8,p9,pa,pb,pc,pd,pe,pf]) (hH.get .here) rfl) (by omega) (.inl (by rw [hSS]; exact .inr (.inr (.inr rfl)))) rfl ?_
  clear hS hH; intro a w hb1 hcap1 hl1 hhb1 hlen1 hcp1 htk1 hmm hS hH
  replace hbv:=hbv.put hmm hc44 (by decide)
  refine r_nilCheck hS trivial rfl rfl (x_fieldAddr trivial rfl Fc.fo59_0 rfl ?_); clear hS; intro a hS
  have hc45:=hH.get (b:=sh) (o:=.cells ([.slice (some ⟨hb,0,none⟩) hs.length hcap,sv] : List Value).toArray 59 (0,0)) (by repeat' constructor)
  refine r_store1M hS hH rfl rfl rfl (by repeat' constructor) (by repeat' constructor) Fc.sz57 (of_decide_eq_true rfl) (.inl (by rw [hSS]; exact .inr (.inr (.inl rfl)))) ?_
  clear hH; intro w hM45 hH
  replace hbv:=hbv.put hM45 hc45 (by decide)
  refine Sq.nil (then_n (c_seq ?_))
  refine reg_draw [(true,0,[]),(true,1,[]),(true,3,[]),(true,4,[]),(false,2,[]),(false,5,[]),(true,6,[]),(true,7,[]),(true,8,[])] Fc.mixed (by kernel_rfl) (by kernel_rfl) (by kernel_rfl) (by kernel_rfl) (by kernel_rfl) (by repeat (first | with_reducible exact steady_body | with_reducible apply steady_block | with_reducible apply steady_then | with_reducible apply steady_scope | exact steady_body)) hH ?_
  replace hH:=hH.drew
  replace hbv:=hbv.ext (Ext.drew _)
  refine r_move hS trivial rfl rfl (x_load_rowS rfl (by repeat' constructor) Fc.ag26 (by rfl) rfl (x_move trivial rfl rfl (x_load_rowS rfl (by repeat' constructor) Fc.ag26 (by rfl) rfl ?_))); clear hS; intro a hS
  refine r_call (l:=[.tmp 290,.tmp 291]) hS rfl rfl Fc.fn18 rfl ?_
  refine Calls.mono (Known_v b V1 ts1 [x0,x1,x2,x3,x4,x5,x6,x7,x8,x9,xa,xb,xc,xd,xe,xf] rfl _ hbv.v) ?_
  rintro e w1 ⟨kb,rfl,hkb,hE⟩
  replace hH:=hH.ext hE
  replace hbv:=hbv.ext hE
  refine ⟨_,rfl,hH.kp (by repeat' constructor),?_⟩
  clear hS; intro a hS
  refine r_call (l:=[.tmp 293,.tmp 294]) hS rfl rfl Fc.fn46 rfl ?_
  refine Calls.mono (rOf_c r R1 ts1 [x0,x1,x2,x3,x4,x5,x6,x7,x8,x9,xa,xb,xc,xd,xe,xf] rfl (by omega) _ hbv.r) ?_
  rintro e w1 ⟨x9,rfl,hx9,hE⟩
  replace hH:=hH.ext hE
  replace hbv:=hbv.ext hE
  refine ⟨_,rfl,hH.kp (by repeat' constructor),?_⟩
  clear hS; intro a hS
  refine r_geq hS trivial rfl rfl rfl (x_boolEql trivial rfl rfl Fc.isBool4 rfl (x_assign trivial rfl rfl ?_)); clear hS; intro a hS
  refine Sq.nil (then_n (wp_ret ?_))
  have hln9 : (hs++[[p0,p1,p2,p3,p4,p5,p6,p7,p8,p9,pa,pb,pc,pd,pe,pf]]).length = hs.length + 1:=by rw [List.length_append]; rfl
  refine leave (.inl rfl) hS rfl (Res.tmp rfl Res.nil) ⟨by rw [known_eq hkb hx9]; rfl,hpl.next (hs':=hs++[[p0,p1,p2,p3,p4,p5,p6,p7,p8,p9,pa,pb,pc,pd,pe,pf]]) hbv hwf1 hsl1 (by rw [hln9]; exact hH.get (b:=sh) (by repeat' constructor)) (hH.get (b:=hb1) (by repeat' constructor)) hlen1 (by rw [hln9]; exact hcp1) (by rw [hln9,htk1,hpl.take]; simp) (by intro h hh; rcases List.mem_append.1 hh with hh | hh; exact hpl.six h hh; rw [List.mem_singleton.1 hh]; rfl) (by rw [hln9]; exact Nat.succ_pos _) hlt0 hlt1 (by rw [hln9]; exact Nat.le_refl _) (hSS ▸ hH.mod) (hSS ▸ hVS) (hSS ▸ hRS) (hSS ▸ hhb1)⟩
 ·refine wp_skip (then_n (c_seq ?_))
  refine reg_draw [(true,0,[]),(true,1,[]),(true,3,[]),(true,4,[]),(false,2,[]),(false,5,[]),(true,6,[]),(true,7,[]),(true,8,[])] Fc.mixed (by kernel_rfl) (by kernel_rfl) (by kernel_rfl) (by kernel_rfl) (by kernel_rfl) (by repeat (first | with_reducible exact steady_body | with_reducible apply steady_block | with_reducible apply steady_then | with_reducible apply steady_scope | exact steady_body)) hH ?_
  replace hH:=hH.drew
  replace hbv:=hbv.ext (Ext.drew _)
  refine r_move hS trivial rfl rfl (x_load_rowS rfl (by repeat' constructor) Fc.ag26 (by rfl) rfl (x_move trivial rfl rfl (x_load_rowS rfl (by repeat' constructor) Fc.ag26 (by rfl) rfl ?_))); clear hS; intro a hS
  refine r_call (l:=[.tmp 290,.tmp 291]) hS rfl rfl Fc.fn18 rfl ?_
  refine Calls.mono (Known_v b V1 ts1 [x0,x1,x2,x3,x4,x5,x6,x7,x8,x9,xa,xb,xc,xd,xe,xf] rfl _ hbv.v) ?_
  rintro e w1 ⟨kb,rfl,hkb,hE⟩
  replace hH:=hH.ext hE
  replace hbv:=hbv.ext hE
  refine ⟨_,rfl,hH.kp (by repeat' constructor),?_⟩
  clear hS; intro a hS
  refine r_call (l:=[.tmp 293,.tmp 294]) hS rfl rfl Fc.fn46 rfl ?_
  refine Calls.mono (rOf_c r R1 ts1 [x0,x1,x2,x3,x4,x5,x6,x7,x8,x9,xa,xb,xc,xd,xe,xf] rfl (by omega) _ hbv.r) ?_
  rintro e w1 ⟨x9,rfl,hx9,hE⟩
  replace hH:=hH.ext hE
  replace hbv:=hbv.ext hE
  refine ⟨_,rfl,hH.kp (by repeat' constructor),?_⟩
  clear hS; intro a hS
  refine r_geq hS trivial rfl rfl rfl (x_boolEql trivial rfl rfl Fc.isBool4 rfl (x_assign trivial rfl rfl ?_)); clear hS; intro a hS
  refine Sq.nil (then_n (wp_ret ?_))
  exact leave (.inl rfl) hS rfl (Res.tmp rfl Res.nil) ⟨by rw [known_eq hkb hx9]; rfl,hpl.next hbv hwf1 hsl1 (hH.get (b:=sh) (by repeat' constructor)) (hH.get (b:=hb) (by repeat' constructor)) hpl.len hpl.cap hpl.take hpl.six hpl.pos hlt0 hlt1 (Nat.le_succ _) (hSS ▸ hH.mod) (hSS ▸ hVS) (hSS ▸ hRS) (.inl (.inr (.inr (.inr rfl))))⟩

end Go.Proofs.YtcjmehononbadaaDoor
namespace Go.Proofs.YtcjmehononbadaaDoor
open Go.Sym


set_option maxRecDepth 100000 in
set_option maxHeartbeats 16000000 in
theorem does1 (k2 k3 k4 nu : Int) (s : ByteArray) (va vq : Value) (la lq : List UInt8) (o : Bool) (b : Nat) (V : VB) (r : Nat) (R : RB) (ts : List Tm) (sh hb hcap : Nat) (hl : List Value) (hs : List (List UInt8)) (sv : Value) (ss : List (List UInt8)) (hk4 : -9223372036854775808≤nu∧nu≤9223372036854775807) (hs9 : s.size≤9223372036854775807) (hla : la.length≤1099511627776) (hlq : lq.length≤1099511627776) (hts : ts.length≤1000000) (hhs : hs.length≤1000000) (hss9 : ss.length≤1000000) (w0 : World) (hpl : PL w0 b V r R ts sh hb hcap hl hs sv ss) (hva : BsF (FT b V r R sh hb sv) w0 va la) (hvq : BsF (FT b V r R sh hb sv) w0 vq lq) : Calls Tryd.prog 22 #[.pointer (some ⟨sh,0,none⟩),.pointer (some ⟨b,0,none⟩),.pointer (some ⟨r,0,none⟩),.agg #[.int .i64 1,.int .i64 k2,.int .i64 k3,.int .i64 k4,.string s,.int .i64 nu,va,vq,.bool o]] w0 fun e w' => e = .returned (.bool true)∧Next w0 b V r R ts sh hb hs sv ss w':=by
 refine enter Tryd.func22 rfl rfl rfl ?_
 intro a hS
 have hH:=Hp.start w0 (Nobody)
 obtain ⟨SS,hSS⟩ : ∃ S : Nat→Prop,S = FS b V r R sh hb:=⟨_,rfl⟩
 have huq:=hpl.bv.v.ok.uq
 have htp:=hpl.tp
 have hvaS : BsF SS w0 va la:=hva.go (Mod.refl _ _) (fun x hx => .inl (.inl (hSS ▸ hx)))
 have hvqS : BsF SS w0 vq lq:=hvq.go (Mod.refl _ _) (fun x hx => .inl (.inl (hSS ▸ hx)))
 obtain ⟨x,hx⟩ : ∃ y,y = pickH hs k2:=⟨_,rfl⟩
 have hx16 : x.length = 16:=by rw [hx]; exact pickH_len hpl.six _
 obtain ⟨x0,x1,x2,x3,x4,x5,x6,x7,x8,x9,xa,xb,xc,xd,xe,xf,rfl⟩:=len16 hx16
 obtain ⟨y,hy⟩ : ∃ y,y = pickH hs k3:=⟨_,rfl⟩
 have hy16 : y.length = 16:=by rw [hy]; exact pickH_len hpl.six _
 obtain ⟨y0,y1,y2,y3,y4,y5,y6,y7,y8,y9,ya,yb,yc,yd,ye,yf,rfl⟩:=len16 hy16
 obtain ⟨z,hz⟩ : ∃ y,y = pickH hs k4:=⟨_,rfl⟩
 have hz16 : z.length = 16:=by rw [hz]; exact pickH_len hpl.six _
 obtain ⟨z0,z1,z2,z3,z4,z5,z6,z7,z8,z9,za,zb,zc,zd,ze,zf,rfl⟩:=len16 hz16
 refine c_seq (reg_plain w0 (Nobody) ?_)
 refine r_box hS hH (by repeat' constructor) rfl rfl rfl ?_
 clear hS hH; intro a w b7 hb7 hwb7 hS hH
 refine r_assign hS hH.kp0 rfl rfl ?_; clear hS; intro a hS
 refine Sq.nil (then_n ?_)
 refine c_cut (fun a w => ∃ b9 b10 b11,w0.heap.size≤b9∧w0.heap.size≤b10∧w0.heap.size≤b11∧St 298 (lv [(0,.pointer (some ⟨sh,0,none⟩)),(1,.pointer (some ⟨b,0,none⟩)),(2,.pointer (some ⟨r,0,none⟩)),(7,.pointer (some ⟨b7,0,none⟩)),(8,.bool false),(9,.pointer (some ⟨b9,0,none⟩)),(10,.pointer (some ⟨b10,0,none⟩)),(11,.pointer (some ⟨b11,0,none⟩))]) a∧Hp w0 Nobody [(b11,.cells (hcells [z0,z1,z2,z3,z4,z5,z6,z7,z8,z9,za,zb,zc,zd,ze,zf]).toArray 26 (0,0)),(b10,.cells (hcells [y0,y1,y2,y3,y4,y5,y6,y7,y8,y9,ya,yb,yc,yd,ye,yf]).toArray 26 (0,0)),(b9,.cells (hcells [x0,x1,x2,x3,x4,x5,x6,x7,x8,x9,xa,xb,xc,xd,xe,xf]).toArray 26 (0,0)),(b7,.cells ([.int .i64 1,.int .i64 k2,.int .i64 k3,.int .i64 k4,.string s,.int .i64 nu,va,vq,.bool o] : List Value).toArray 36 (0,0))] w) ?_ ?_
 ·exact does_r1 1 k2 k3 k4 nu s va vq o b V r R ts sh hb hcap hl hs sv ss [x0,x1,x2,x3,x4,x5,x6,x7,x8,x9,xa,xb,xc,xd,xe,xf] [y0,y1,y2,y3,y4,y5,y6,y7,y8,y9,ya,yb,yc,yd,ye,yf] [z0,z1,z2,z3,z4,z5,z6,z7,z8,z9,za,zb,zc,zd,ze,zf] hx rfl hy rfl hz rfl w0 hpl b7 hb7 a w (hS.live ⟨rfl,rfl,rfl,rfl,rfl,trivial⟩) hH _ (by repeat (first | with_reducible exact steady_body | with_reducible apply steady_block | with_reducible apply steady_then | with_reducible apply steady_scope | exact steady_body))
 clear hS hH; intro a w hJ; obtain ⟨b9,b10,b11,hb9,hb10,hb11,hS,hH⟩:=hJ
 refine c_seq (reg_plain w0 (Nobody) ?_)
 refine r_buildA (parts:=[]) hS hH.kp0 rfl rfl Fc.zc26 Fc.ar26 (by rfl) ?_; clear hS; intro a hS
 refine r_alloc hS hH (by repeat' constructor) Fc.zc26 rfl ?_
 clear hS hH; intro a w b12 hb12 hwb12 hS hH
 refine r_store_row hS hH rfl rfl (by repeat' constructor) (by repeat' constructor) Fc.sz26 (by first | exact hcells_one _ | exact of_decide_eq_true rfl) (by rfl) (by first | exact .inr (by assumption) | exact .inl (by first | assumption | rfl)) ?_
 clear hH; intro w hH
 refine r_assign hS hH.kp0 rfl rfl ?_; clear hS; intro a hS
 refine Sq.nil (then_n (c_seq (reg_plain w0 (Nobody) ?_)))
 refine r_buildA (parts:=[]) hS hH.kp0 rfl rfl Fc.zc25 Fc.ar25 (by rfl) ?_; clear hS; intro a hS
 refine r_alloc hS hH (by repeat' constructor) Fc.zc25 rfl ?_
 clear hS hH; intro a w b14 hb14 hwb14 hS hH
 refine r_store_row hS hH rfl rfl (by repeat' constructor) (by repeat' constructor) Fc.sz25 (by first | exact hcells_one _ | exact of_decide_eq_true rfl) (by rfl) (by first | exact .inr (by assumption) | exact .inl (by first | assumption | rfl)) ?_
 clear hH; intro w hH
 refine r_assign hS hH.kp0 rfl rfl ?_; clear hS; intro a hS
 refine Sq.nil (then_n (c_seq (c_seq (reg_plain w0 (Nobody) ?_))))
 refine r_fieldAddr hS hH.kp0 rfl Fc.fo36_0 rfl (x_load_sc hH (by repeat' constructor) rfl (by repeat' constructor) Fc.sc3 (by rfl) rfl ?_); clear hS; intro a hS
 refine Sq.nil ?_
 have hbv:=hpl.bv.ext hH.mod
 have hlb : ∀ p∈([(b14,.cells #[] 0 (0,0)),(b12,.cells #[] 0 (0,0)),(b11,.cells #[] 0 (0,0)),(b10,.cells #[] 0 (0,0)),(b9,.cells #[] 0 (0,0)),(b7,.cells #[] 0 (0,0))] : Blocks),w0.heap.size≤p.1:=by intro p hp; simp only [List.mem_cons,List.not_mem_nil,or_false] at hp; rcases hp with rfl | rfl | rfl | rfl | rfl | rfl <;> assumption
 have hshl:=lt_of_block hpl.top
 have hhbl:=lt_of_block hpl.row
 replace hH:=((hH.know (hH.mod.heap_some hpl.row (fun h => h)) (by intro p hp; simp only [List.mem_cons,List.not_mem_nil,or_false] at hp; rcases hp with rfl | rfl | rfl | rfl | rfl | rfl <;> (dsimp only; omega))).know (hH.mod.heap_some hpl.top (fun h => h)) (by intro p hp; simp only [List.mem_cons,List.not_mem_nil,or_false] at hp; rcases hp with rfl | rfl | rfl | rfl | rfl | rfl | rfl <;> (first | exact Ne.symm hpl.ne | (dsimp only; omega)))).wide (S':=SS) (fun _ h => h.elim)
 have hVS : ∀ x,V.F b x→SS x∨w0.heap.size≤x:=fun x hx => .inl (by rw [hSS]; exact .inl hx)
 have hRS : ∀ x,R.F r x→SS x∨w0.heap.size≤x:=fun x hx => .inl (by rw [hSS]; exact .inr (.inl hx))
 clear hlb
 refine then_n (wp_block (c_seq (reg_plain w0 (SS) ?_)))
 refine r_eql hS hH.kp0 rfl rfl rfl (x_assign hH.kp0 rfl rfl ?_); clear hS; intro a hS
 refine Sq.nil (then_n (c_condF hS rfl rfl (c_seq (reg_plain w0 (SS) ?_))))
 refine r_eql hS hH.kp0 rfl rfl rfl (x_assign hH.kp0 rfl rfl ?_); clear hS; intro a hS
 refine Sq.nil (then_n (c_condT hS rfl rfl (c_seq (reg_plain w0 (SS) ?_))))
 refine r_move hS hH.kp0 rfl rfl (x_load_row hH (by repeat' constructor) rfl (by repeat' constructor) Fc.ag26 (by rfl) rfl (x_fieldAddr hH.kp0 rfl Fc.fo36_4 rfl (x_load_sc hH (by repeat' constructor) rfl (by repeat' constructor) Fc.sc9 (by rfl) rfl (x_fieldAddr hH.kp0 rfl Fc.fo36_7 rfl (x_load_sc hH (by repeat' constructor) rfl (by repeat' constructor) Fc.sc22 (by rfl) rfl ?_))))); clear hS; intro a hS
 refine r_call (l:=[.tmp 50,.tmp 51,.tmp 53,.tmp 55]) hS rfl rfl Fc.fn12 rfl ?_
 refine Calls.mono (Derive_v b V ts [x0,x1,x2,x3,x4,x5,x6,x7,x8,x9,xa,xb,xc,xd,xe,xf] rfl s _ lq hs9 (by omega) (by omega) _ hbv.v (hvqS.go hH.mod hVS)) ?_
 rintro e w1 ⟨h1,e1,V1,ts1,rfl,hvi1,hst1,hof1⟩
 have hp16:=hof1.len
 obtain ⟨p0,p1,p2,p3,p4,p5,p6,p7,p8,p9,pa,pb,pc,pd,pe,pf,rfl⟩:=len16 hp16
 have hq:=hH.callV hbv hst1 (by repeat (first | exact Clear.nil _ | refine Clear.cons (by decide) ?_)) hVS
 clear hH hVS
 obtain ⟨hH,hVS⟩:=hq
 replace hbv:=hbv.callV hvi1 hst1
 refine ⟨_,rfl,hH.kp0,?_⟩
 clear hS; intro a hS
 refine r_move hS hH.kp0 rfl rfl (x_extract hH.kp0 rfl rfl rfl (x_extract hH.kp0 rfl rfl rfl ?_)); clear hS; intro a hS
 have hcb12:=hH.get (b:=b12) (o:=.cells ([.int .u8 0,.int .u8 0,.int .u8 0,.int .u8 0,.int .u8 0,.int .u8 0,.int .u8 0,.int .u8 0,.int .u8 0,.int .u8 0,.int .u8 0,.int .u8 0,.int .u8 0,.int .u8 0,.int .u8 0,.int .u8 0] : List Value).toArray 26 (0,0)) (by repeat' constructor)
 refine r_store_rowM hS hH rfl rfl (by repeat' constructor) (by repeat' constructor) Fc.sz26 (by first | exact hcells_one _ | exact of_decide_eq_true rfl) (by rfl) (.inr (by assumption)) ?_
 clear hH; intro w hMb12 hH
 replace hbv:=hbv.put hMb12 hcb12 (by decide)
 refine r_assign hS hH.kp0 rfl rfl ?_; clear hS; intro a hS
 refine Sq.nil (then_n (reg_plain w0 (SS) ?_))
 refine r_move hS hH.kp0 rfl rfl (x_load_row hH (by repeat' constructor) rfl (by repeat' constructor) Fc.ag26 (by rfl) rfl (x_fieldAddr hH.kp0 rfl Fc.fo36_4 rfl (x_load_sc hH (by repeat' constructor) rfl (by repeat' constructor) Fc.sc9 (by rfl) rfl (x_fieldAddr hH.kp0 rfl Fc.fo36_7 rfl (x_load_sc hH (by repeat' constructor) rfl (by repeat' constructor) Fc.sc22 (by rfl) rfl ?_))))); clear hS; intro a hS
 refine r_call (l:=[.tmp 60,.tmp 61,.tmp 63,.tmp 65]) hS rfl rfl Fc.fn34 rfl ?_
 refine Calls.mono (rDerive_c r R ts [x0,x1,x2,x3,x4,x5,x6,x7,x8,x9,xa,xb,xc,xd,xe,xf] rfl s _ lq hs9 (by omega) (by omega) _ hbv.r (hvqS.go hH.mod hRS)) ?_
 rintro e w1 ⟨h2,e2,R1,ts2,rfl,hri1,hst2,hof2⟩
 obtain ⟨hq1,hq2,hq3⟩:=hof1.det huq (by omega) hof2
 subst hq1 hq2 hq3
 have hq:=hH.callR hbv hst2 (by repeat (first | exact Clear.nil _ | refine Clear.cons (by decide) ?_)) hRS
 clear hH hRS
 obtain ⟨hH,hRS⟩:=hq
 replace hbv:=hbv.callR hri1 hst2
 have hlt0:=hof1.lens.1
 have hlt1:=hof1.lens.2
 have hwf1:=hof1.wf6 hpl.wf rfl (by show (strOf lq).size≤_; rw [show (strOf lq).size = lq.length from by simp [strOf,ByteArray.size]]; exact hlq)
 have hsl1:=hof1.sel6 hpl.sel (by show (2 : Int)≠6; decide)
 refine ⟨_,rfl,hH.kp0,?_⟩
 clear hS; intro a hS
 refine r_move hS hH.kp0 rfl rfl (x_extract hH.kp0 rfl rfl rfl (x_extract hH.kp0 rfl rfl rfl ?_)); clear hS; intro a hS
 have hcb14:=hH.get (b:=b14) (o:=.cells ([.int .u8 0,.int .u8 0,.int .u8 0,.int .u8 0,.int .u8 0,.int .u8 0,.int .u8 0,.int .u8 0,.int .u8 0,.int .u8 0,.int .u8 0,.int .u8 0,.int .u8 0,.int .u8 0,.int .u8 0,.int .u8 0] : List Value).toArray 25 (0,0)) (by repeat' constructor)
 refine r_store_rowM hS hH rfl rfl (by repeat' constructor) (by repeat' constructor) Fc.sz25 (by first | exact hcells_one _ | exact of_decide_eq_true rfl) (by rfl) (.inr (by assumption)) ?_
 clear hH; intro w hMb14 hH
 replace hbv:=hbv.put hMb14 hcb14 (by decide)
 refine r_assign hS hH.kp0 rfl rfl ?_; clear hS; intro a hS
 refine Sq.nil (blk_n (then_n (c_seq (c_seq (reg_plain w0 (SS) ?_)))))
 refine r_load_row hS hH (by repeat' constructor) rfl (by repeat' constructor) Fc.ag26 (by rfl) rfl (x_load_row hH (by repeat' constructor) rfl (by repeat' constructor) Fc.ag25 (by rfl) rfl (x_arrNeq (h:=[p0,p1,p2,p3,p4,p5,p6,p7,p8,p9,pa,pb,pc,pd,pe,pf]) (g:=[p0,p1,p2,p3,p4,p5,p6,p7,p8,p9,pa,pb,pc,pd,pe,pf]) Fc.arrH hH.kp0 rfl rfl rfl rfl rfl (x_move hH.kp0 rfl rfl ?_))); clear hS; intro a hS
 refine Sq.guardYes hS rfl rfl (by rw [decide_eq_true rfl]; rfl) ?_
 refine r_move hS hH.kp0 rfl rfl ?_; clear hS; intro a hS
 refine Sq.guardYes hS rfl rfl (by rw [decide_eq_true rfl]; rfl) ?_
 refine r_move hS hH.kp0 rfl rfl ?_; clear hS; intro a hS
 refine Sq.guardYes hS rfl rfl (by rw [decide_eq_true rfl]; rfl) ?_
 refine r_neq hS hH.kp0 rfl rfl rfl ?_; clear hS; intro a hS
 refine r_pickF hS hH.kp0 rfl (by rw [decide_eq_true rfl]; rfl) rfl rfl ?_; clear hS; intro a hS
 refine Sq.nil (then_n ?_)
 refine c_condF hS rfl (bne_self_eq_false _) ?_
 refine wp_skip (then_n (c_seq (c_seq (reg_plain w0 (SS) ?_))))
 refine r_load_row hS hH (by repeat' constructor) rfl (by repeat' constructor) Fc.ag26 (by rfl) rfl (x_buildA (parts:=[]) hH.kp0 rfl rfl Fc.zc26 Fc.ar26 (by rfl) (x_arrNeq (h:=[p0,p1,p2,p3,p4,p5,p6,p7,p8,p9,pa,pb,pc,pd,pe,pf]) (g:=zH) Fc.arrH hH.kp0 rfl rfl rfl rfl rfl ?_)); clear hS; intro a hS
 refine Sq.nil (then_n ?_)
 refine c_cond hS rfl (fun hc14 => ?_) (fun hc14 => ?_)
 ·refine reg_draw [(true,0,[0,1]),(true,1,[0,1]),(true,2,[0,1]),(true,3,[0,1]),(true,4,[1]),(true,5,[0,1]),(false,6,[]),(false,7,[1]),(true,8,[0,1]),(true,9,[0,1]),(false,10,[0,1])] Fc.mixed (by kernel_rfl) (by kernel_rfl) (by kernel_rfl) (by kernel_rfl) (by kernel_rfl) (by repeat (first | with_reducible exact steady_body | with_reducible apply steady_block | with_reducible apply steady_then | with_reducible apply steady_scope | exact steady_body)) hH ?_
  replace hH:=hH.drew
  replace hbv:=hbv.ext (Ext.drew _)
  refine r_move hS trivial rfl rfl (x_move trivial rfl rfl (x_nilCheck trivial rfl rfl (x_fieldAddr trivial rfl Fc.fo59_0 rfl (x_load_scS rfl (by repeat' constructor) Fc.sc57 (by rfl) rfl (x_load_rowS rfl (by repeat' constructor) Fc.ag26 (by rfl) rfl ?_))))); clear hS; intro a hS
  refine r_buildSliceW (parts:=[(0,.tmp 285)]) hS hH (by repeat' constructor) rfl Fc.bsl57_1 (by rfl) rfl ?_
  clear hS hH; intro a w b286 hb286 hwb286 hE44 hS hH
  replace hbv:=hbv.ext hE44
  have hc44:=hH.get (b:=hb) (o:=.cells hl.toArray 26 (0,0)) (by repeat' constructor)
  refine r_append_own hS hH rfl rfl (by repeat' constructor) (by repeat' constructor) Fc.elH Fc.niH hpl.len hpl.cap (Src.hnd (h:=[p0,p1,p2,p3,p4,p5,p6,p7,p8,p9,pa,pb,pc,pd,pe,pf]) (hH.get .here) rfl) (by omega) (.inl (by rw [hSS]; exact .inr (.inr (.inr rfl)))) rfl ?_
  clear hS hH; intro a w hb1 hcap1 hl1 hhb1 hlen1 hcp1 htk1 hmm hS hH
  replace hbv:=hbv.put hmm hc44 (by decide)
  refine r_nilCheck hS trivial rfl rfl (x_fieldAddr trivial rfl Fc.fo59_0 rfl ?_); clear hS; intro a hS
  have hc45:=hH.get (b:=sh) (o:=.cells ([.slice (some ⟨hb,0,none⟩) hs.length hcap,sv] : List Value).toArray 59 (0,0)) (by repeat' constructor)
  refine r_store1M hS hH rfl rfl rfl (by repeat' constructor) (by repeat' constructor) Fc.sz57 (of_decide_eq_true rfl) (.inl (by rw [hSS]; exact .inr (.inr (.inl rfl)))) ?_
  clear hH; intro w hM45 hH
  replace hbv:=hbv.put hM45 hc45 (by decide)
  refine Sq.nil (then_n (c_seq ?_))
  refine reg_draw [(true,0,[]),(true,1,[]),(true,3,[]),(true,4,[]),(false,2,[]),(false,5,[]),(true,6,[]),(true,7,[]),(true,8,[])] Fc.mixed (by kernel_rfl) (by kernel_rfl) (by kernel_rfl) (by kernel_rfl) (by kernel_rfl) (by repeat (first | with_reducible exact steady_body | with_reducible apply steady_block | with_reducible apply steady_then | with_reducible apply steady_scope | exact steady_body)) hH ?_
  replace hH:=hH.drew
  replace hbv:=hbv.ext (Ext.drew _)
  refine r_move hS trivial rfl rfl (x_load_rowS rfl (by repeat' constructor) Fc.ag26 (by rfl) rfl (x_move trivial rfl rfl (x_load_rowS rfl (by repeat' constructor) Fc.ag26 (by rfl) rfl ?_))); clear hS; intro a hS
  refine r_call (l:=[.tmp 290,.tmp 291]) hS rfl rfl Fc.fn18 rfl ?_
  refine Calls.mono (Known_v b V1 ts1 [x0,x1,x2,x3,x4,x5,x6,x7,x8,x9,xa,xb,xc,xd,xe,xf] rfl _ hbv.v) ?_
  rintro e w1 ⟨kb,rfl,hkb,hE⟩
  replace hH:=hH.ext hE
  replace hbv:=hbv.ext hE
  refine ⟨_,rfl,hH.kp (by repeat' constructor),?_⟩
  clear hS; intro a hS
  refine r_call (l:=[.tmp 293,.tmp 294]) hS rfl rfl Fc.fn46 rfl ?_
  refine Calls.mono (rOf_c r R1 ts1 [x0,x1,x2,x3,x4,x5,x6,x7,x8,x9,xa,xb,xc,xd,xe,xf] rfl (by omega) _ hbv.r) ?_
  rintro e w1 ⟨x9,rfl,hx9,hE⟩
  replace hH:=hH.ext hE
  replace hbv:=hbv.ext hE
  refine ⟨_,rfl,hH.kp (by repeat' constructor),?_⟩
  clear hS; intro a hS
  refine r_geq hS trivial rfl rfl rfl (x_boolEql trivial rfl rfl Fc.isBool4 rfl (x_assign trivial rfl rfl ?_)); clear hS; intro a hS
  refine Sq.nil (then_n (wp_ret ?_))
  have hln9 : (hs++[[p0,p1,p2,p3,p4,p5,p6,p7,p8,p9,pa,pb,pc,pd,pe,pf]]).length = hs.length + 1:=by rw [List.length_append]; rfl
  refine leave (.inl rfl) hS rfl (Res.tmp rfl Res.nil) ⟨by rw [known_eq hkb hx9]; rfl,hpl.next (hs':=hs++[[p0,p1,p2,p3,p4,p5,p6,p7,p8,p9,pa,pb,pc,pd,pe,pf]]) hbv hwf1 hsl1 (by rw [hln9]; exact hH.get (b:=sh) (by repeat' constructor)) (hH.get (b:=hb1) (by repeat' constructor)) hlen1 (by rw [hln9]; exact hcp1) (by rw [hln9,htk1,hpl.take]; simp) (by intro h hh; rcases List.mem_append.1 hh with hh | hh; exact hpl.six h hh; rw [List.mem_singleton.1 hh]; rfl) (by rw [hln9]; exact Nat.succ_pos _) hlt0 hlt1 (by rw [hln9]; exact Nat.le_refl _) (hSS ▸ hH.mod) (hSS ▸ hVS) (hSS ▸ hRS) (hSS ▸ hhb1)⟩
 ·refine wp_skip (then_n (c_seq ?_))
  refine reg_draw [(true,0,[]),(true,1,[]),(true,3,[]),(true,4,[]),(false,2,[]),(false,5,[]),(true,6,[]),(true,7,[]),(true,8,[])] Fc.mixed (by kernel_rfl) (by kernel_rfl) (by kernel_rfl) (by kernel_rfl) (by kernel_rfl) (by repeat (first | with_reducible exact steady_body | with_reducible apply steady_block | with_reducible apply steady_then | with_reducible apply steady_scope | exact steady_body)) hH ?_
  replace hH:=hH.drew
  replace hbv:=hbv.ext (Ext.drew _)
  refine r_move hS trivial rfl rfl (x_load_rowS rfl (by repeat' constructor) Fc.ag26 (by rfl) rfl (x_move trivial rfl rfl (x_load_rowS rfl (by repeat' constructor) Fc.ag26 (by rfl) rfl ?_))); clear hS; intro a hS
  refine r_call (l:=[.tmp 290,.tmp 291]) hS rfl rfl Fc.fn18 rfl ?_
  refine Calls.mono (Known_v b V1 ts1 [x0,x1,x2,x3,x4,x5,x6,x7,x8,x9,xa,xb,xc,xd,xe,xf] rfl _ hbv.v) ?_
  rintro e w1 ⟨kb,rfl,hkb,hE⟩
  replace hH:=hH.ext hE
  replace hbv:=hbv.ext hE
  refine ⟨_,rfl,hH.kp (by repeat' constructor),?_⟩
  clear hS; intro a hS
  refine r_call (l:=[.tmp 293,.tmp 294]) hS rfl rfl Fc.fn46 rfl ?_
  refine Calls.mono (rOf_c r R1 ts1 [x0,x1,x2,x3,x4,x5,x6,x7,x8,x9,xa,xb,xc,xd,xe,xf] rfl (by omega) _ hbv.r) ?_
  rintro e w1 ⟨x9,rfl,hx9,hE⟩
  replace hH:=hH.ext hE
  replace hbv:=hbv.ext hE
  refine ⟨_,rfl,hH.kp (by repeat' constructor),?_⟩
  clear hS; intro a hS
  refine r_geq hS trivial rfl rfl rfl (x_boolEql trivial rfl rfl Fc.isBool4 rfl (x_assign trivial rfl rfl ?_)); clear hS; intro a hS
  refine Sq.nil (then_n (wp_ret ?_))
  exact leave (.inl rfl) hS rfl (Res.tmp rfl Res.nil) ⟨by rw [known_eq hkb hx9]; rfl,hpl.next hbv hwf1 hsl1 (hH.get (b:=sh) (by repeat' constructor)) (hH.get (b:=hb) (by repeat' constructor)) hpl.len hpl.cap hpl.take hpl.six hpl.pos hlt0 hlt1 (Nat.le_succ _) (hSS ▸ hH.mod) (hSS ▸ hVS) (hSS ▸ hRS) (.inl (.inr (.inr (.inr rfl))))⟩

end Go.Proofs.YtcjmehononbadaaDoor
namespace Go.Proofs.YtcjmehononbadaaDoor
open Go.Sym


set_option maxRecDepth 100000 in
set_option maxHeartbeats 16000000 in
theorem does2 (k2 k3 k4 nu : Int) (s : ByteArray) (va vq : Value) (la lq : List UInt8) (o : Bool) (b : Nat) (V : VB) (r : Nat) (R : RB) (ts : List Tm) (sh hb hcap : Nat) (hl : List Value) (hs : List (List UInt8)) (sv : Value) (ss : List (List UInt8)) (hk4 : -9223372036854775808≤nu∧nu≤9223372036854775807) (hs9 : s.size≤9223372036854775807) (hla : la.length≤1099511627776) (hlq : lq.length≤1099511627776) (hts : ts.length≤1000000) (hhs : hs.length≤1000000) (hss9 : ss.length≤1000000) (w0 : World) (hpl : PL w0 b V r R ts sh hb hcap hl hs sv ss) (hva : BsF (FT b V r R sh hb sv) w0 va la) (hvq : BsF (FT b V r R sh hb sv) w0 vq lq) : Calls Tryd.prog 22 #[.pointer (some ⟨sh,0,none⟩),.pointer (some ⟨b,0,none⟩),.pointer (some ⟨r,0,none⟩),.agg #[.int .i64 2,.int .i64 k2,.int .i64 k3,.int .i64 k4,.string s,.int .i64 nu,va,vq,.bool o]] w0 fun e w' => e = .returned (.bool true)∧Next w0 b V r R ts sh hb hs sv ss w':=by
 refine enter Tryd.func22 rfl rfl rfl ?_
 intro a hS
 have hH:=Hp.start w0 (Nobody)
 obtain ⟨SS,hSS⟩ : ∃ S : Nat→Prop,S = FS b V r R sh hb:=⟨_,rfl⟩
 have huq:=hpl.bv.v.ok.uq
 have htp:=hpl.tp
 have hvaS : BsF SS w0 va la:=hva.go (Mod.refl _ _) (fun x hx => .inl (.inl (hSS ▸ hx)))
 have hvqS : BsF SS w0 vq lq:=hvq.go (Mod.refl _ _) (fun x hx => .inl (.inl (hSS ▸ hx)))
 obtain ⟨x,hx⟩ : ∃ y,y = pickH hs k2:=⟨_,rfl⟩
 have hx16 : x.length = 16:=by rw [hx]; exact pickH_len hpl.six _
 obtain ⟨x0,x1,x2,x3,x4,x5,x6,x7,x8,x9,xa,xb,xc,xd,xe,xf,rfl⟩:=len16 hx16
 obtain ⟨y,hy⟩ : ∃ y,y = pickH hs k3:=⟨_,rfl⟩
 have hy16 : y.length = 16:=by rw [hy]; exact pickH_len hpl.six _
 obtain ⟨y0,y1,y2,y3,y4,y5,y6,y7,y8,y9,ya,yb,yc,yd,ye,yf,rfl⟩:=len16 hy16
 obtain ⟨z,hz⟩ : ∃ y,y = pickH hs k4:=⟨_,rfl⟩
 have hz16 : z.length = 16:=by rw [hz]; exact pickH_len hpl.six _
 obtain ⟨z0,z1,z2,z3,z4,z5,z6,z7,z8,z9,za,zb,zc,zd,ze,zf,rfl⟩:=len16 hz16
 refine c_seq (reg_plain w0 (Nobody) ?_)
 refine r_box hS hH (by repeat' constructor) rfl rfl rfl ?_
 clear hS hH; intro a w b7 hb7 hwb7 hS hH
 refine r_assign hS hH.kp0 rfl rfl ?_; clear hS; intro a hS
 refine Sq.nil (then_n ?_)
 refine c_cut (fun a w => ∃ b9 b10 b11,w0.heap.size≤b9∧w0.heap.size≤b10∧w0.heap.size≤b11∧St 298 (lv [(0,.pointer (some ⟨sh,0,none⟩)),(1,.pointer (some ⟨b,0,none⟩)),(2,.pointer (some ⟨r,0,none⟩)),(7,.pointer (some ⟨b7,0,none⟩)),(8,.bool false),(9,.pointer (some ⟨b9,0,none⟩)),(10,.pointer (some ⟨b10,0,none⟩)),(11,.pointer (some ⟨b11,0,none⟩))]) a∧Hp w0 Nobody [(b11,.cells (hcells [z0,z1,z2,z3,z4,z5,z6,z7,z8,z9,za,zb,zc,zd,ze,zf]).toArray 26 (0,0)),(b10,.cells (hcells [y0,y1,y2,y3,y4,y5,y6,y7,y8,y9,ya,yb,yc,yd,ye,yf]).toArray 26 (0,0)),(b9,.cells (hcells [x0,x1,x2,x3,x4,x5,x6,x7,x8,x9,xa,xb,xc,xd,xe,xf]).toArray 26 (0,0)),(b7,.cells ([.int .i64 2,.int .i64 k2,.int .i64 k3,.int .i64 k4,.string s,.int .i64 nu,va,vq,.bool o] : List Value).toArray 36 (0,0))] w) ?_ ?_
 ·exact does_r1 2 k2 k3 k4 nu s va vq o b V r R ts sh hb hcap hl hs sv ss [x0,x1,x2,x3,x4,x5,x6,x7,x8,x9,xa,xb,xc,xd,xe,xf] [y0,y1,y2,y3,y4,y5,y6,y7,y8,y9,ya,yb,yc,yd,ye,yf] [z0,z1,z2,z3,z4,z5,z6,z7,z8,z9,za,zb,zc,zd,ze,zf] hx rfl hy rfl hz rfl w0 hpl b7 hb7 a w (hS.live ⟨rfl,rfl,rfl,rfl,rfl,trivial⟩) hH _ (by repeat (first | with_reducible exact steady_body | with_reducible apply steady_block | with_reducible apply steady_then | with_reducible apply steady_scope | exact steady_body))
 clear hS hH; intro a w hJ; obtain ⟨b9,b10,b11,hb9,hb10,hb11,hS,hH⟩:=hJ
 refine c_seq (reg_plain w0 (Nobody) ?_)
 refine r_buildA (parts:=[]) hS hH.kp0 rfl rfl Fc.zc26 Fc.ar26 (by rfl) ?_; clear hS; intro a hS
 refine r_alloc hS hH (by repeat' constructor) Fc.zc26 rfl ?_
 clear hS hH; intro a w b12 hb12 hwb12 hS hH
 refine r_store_row hS hH rfl rfl (by repeat' constructor) (by repeat' constructor) Fc.sz26 (by first | exact hcells_one _ | exact of_decide_eq_true rfl) (by rfl) (by first | exact .inr (by assumption) | exact .inl (by first | assumption | rfl)) ?_
 clear hH; intro w hH
 refine r_assign hS hH.kp0 rfl rfl ?_; clear hS; intro a hS
 refine Sq.nil (then_n (c_seq (reg_plain w0 (Nobody) ?_)))
 refine r_buildA (parts:=[]) hS hH.kp0 rfl rfl Fc.zc25 Fc.ar25 (by rfl) ?_; clear hS; intro a hS
 refine r_alloc hS hH (by repeat' constructor) Fc.zc25 rfl ?_
 clear hS hH; intro a w b14 hb14 hwb14 hS hH
 refine r_store_row hS hH rfl rfl (by repeat' constructor) (by repeat' constructor) Fc.sz25 (by first | exact hcells_one _ | exact of_decide_eq_true rfl) (by rfl) (by first | exact .inr (by assumption) | exact .inl (by first | assumption | rfl)) ?_
 clear hH; intro w hH
 refine r_assign hS hH.kp0 rfl rfl ?_; clear hS; intro a hS
 refine Sq.nil (then_n (c_seq (c_seq (reg_plain w0 (Nobody) ?_))))
 refine r_fieldAddr hS hH.kp0 rfl Fc.fo36_0 rfl (x_load_sc hH (by repeat' constructor) rfl (by repeat' constructor) Fc.sc3 (by rfl) rfl ?_); clear hS; intro a hS
 refine Sq.nil ?_
 have hbv:=hpl.bv.ext hH.mod
 have hlb : ∀ p∈([(b14,.cells #[] 0 (0,0)),(b12,.cells #[] 0 (0,0)),(b11,.cells #[] 0 (0,0)),(b10,.cells #[] 0 (0,0)),(b9,.cells #[] 0 (0,0)),(b7,.cells #[] 0 (0,0))] : Blocks),w0.heap.size≤p.1:=by intro p hp; simp only [List.mem_cons,List.not_mem_nil,or_false] at hp; rcases hp with rfl | rfl | rfl | rfl | rfl | rfl <;> assumption
 have hshl:=lt_of_block hpl.top
 have hhbl:=lt_of_block hpl.row
 replace hH:=((hH.know (hH.mod.heap_some hpl.row (fun h => h)) (by intro p hp; simp only [List.mem_cons,List.not_mem_nil,or_false] at hp; rcases hp with rfl | rfl | rfl | rfl | rfl | rfl <;> (dsimp only; omega))).know (hH.mod.heap_some hpl.top (fun h => h)) (by intro p hp; simp only [List.mem_cons,List.not_mem_nil,or_false] at hp; rcases hp with rfl | rfl | rfl | rfl | rfl | rfl | rfl <;> (first | exact Ne.symm hpl.ne | (dsimp only; omega)))).wide (S':=SS) (fun _ h => h.elim)
 have hVS : ∀ x,V.F b x→SS x∨w0.heap.size≤x:=fun x hx => .inl (by rw [hSS]; exact .inl hx)
 have hRS : ∀ x,R.F r x→SS x∨w0.heap.size≤x:=fun x hx => .inl (by rw [hSS]; exact .inr (.inl hx))
 clear hlb
 refine then_n (wp_block (c_seq (reg_plain w0 (SS) ?_)))
 refine r_eql hS hH.kp0 rfl rfl rfl (x_assign hH.kp0 rfl rfl ?_); clear hS; intro a hS
 refine Sq.nil (then_n (c_condF hS rfl rfl (c_seq (reg_plain w0 (SS) ?_))))
 refine r_eql hS hH.kp0 rfl rfl rfl (x_assign hH.kp0 rfl rfl ?_); clear hS; intro a hS
 refine Sq.nil (then_n (c_condF hS rfl rfl (c_seq (reg_plain w0 (SS) ?_))))
 refine r_eql hS hH.kp0 rfl rfl rfl (x_assign hH.kp0 rfl rfl ?_); clear hS; intro a hS
 refine Sq.nil (then_n (c_condT hS rfl rfl (c_seq (reg_plain w0 (SS) ?_))))
 refine r_move hS hH.kp0 rfl rfl (x_load_row hH (by repeat' constructor) rfl (by repeat' constructor) Fc.ag26 (by rfl) rfl ?_); clear hS; intro a hS
 refine r_call (l:=[.tmp 72,.tmp 73]) hS rfl rfl Fc.fn13 rfl ?_
 refine Calls.mono (Public_v b V ts [x0,x1,x2,x3,x4,x5,x6,x7,x8,x9,xa,xb,xc,xd,xe,xf] rfl (by omega) _ hbv.v) ?_
 rintro e w1 ⟨h1,e1,V1,ts1,rfl,hvi1,hst1,hof1⟩
 have hp16:=hof1.len
 obtain ⟨p0,p1,p2,p3,p4,p5,p6,p7,p8,p9,pa,pb,pc,pd,pe,pf,rfl⟩:=len16 hp16
 have hq:=hH.callV hbv hst1 (by repeat (first | exact Clear.nil _ | refine Clear.cons (by decide) ?_)) hVS
 clear hH hVS
 obtain ⟨hH,hVS⟩:=hq
 replace hbv:=hbv.callV hvi1 hst1
 refine ⟨_,rfl,hH.kp0,?_⟩
 clear hS; intro a hS
 refine r_move hS hH.kp0 rfl rfl (x_extract hH.kp0 rfl rfl rfl (x_extract hH.kp0 rfl rfl rfl ?_)); clear hS; intro a hS
 have hcb12:=hH.get (b:=b12) (o:=.cells ([.int .u8 0,.int .u8 0,.int .u8 0,.int .u8 0,.int .u8 0,.int .u8 0,.int .u8 0,.int .u8 0,.int .u8 0,.int .u8 0,.int .u8 0,.int .u8 0,.int .u8 0,.int .u8 0,.int .u8 0,.int .u8 0] : List Value).toArray 26 (0,0)) (by repeat' constructor)
 refine r_store_rowM hS hH rfl rfl (by repeat' constructor) (by repeat' constructor) Fc.sz26 (by first | exact hcells_one _ | exact of_decide_eq_true rfl) (by rfl) (.inr (by assumption)) ?_
 clear hH; intro w hMb12 hH
 replace hbv:=hbv.put hMb12 hcb12 (by decide)
 refine r_assign hS hH.kp0 rfl rfl ?_; clear hS; intro a hS
 refine Sq.nil (then_n (reg_plain w0 (SS) ?_))
 refine r_move hS hH.kp0 rfl rfl (x_load_row hH (by repeat' constructor) rfl (by repeat' constructor) Fc.ag26 (by rfl) rfl ?_); clear hS; intro a hS
 refine r_call (l:=[.tmp 78,.tmp 79]) hS rfl rfl Fc.fn35 rfl ?_
 refine Calls.mono (rPublic_c r R ts [x0,x1,x2,x3,x4,x5,x6,x7,x8,x9,xa,xb,xc,xd,xe,xf] rfl (by omega) _ hbv.r) ?_
 rintro e w1 ⟨h2,e2,R1,ts2,rfl,hri1,hst2,hof2⟩
 obtain ⟨hq1,hq2,hq3⟩:=hof1.det huq (by omega) hof2
 subst hq1 hq2 hq3
 have hq:=hH.callR hbv hst2 (by repeat (first | exact Clear.nil _ | refine Clear.cons (by decide) ?_)) hRS
 clear hH hRS
 obtain ⟨hH,hRS⟩:=hq
 replace hbv:=hbv.callR hri1 hst2
 have hlt0:=hof1.lens.1
 have hlt1:=hof1.lens.2
 have hwf1:=hof1.wf6 hpl.wf rfl (by show ByteArray.empty.size≤_; decide)
 have hsl1:=hof1.sel6 hpl.sel (by decide)
 refine ⟨_,rfl,hH.kp0,?_⟩
 clear hS; intro a hS
 refine r_move hS hH.kp0 rfl rfl (x_extract hH.kp0 rfl rfl rfl (x_extract hH.kp0 rfl rfl rfl ?_)); clear hS; intro a hS
 have hcb14:=hH.get (b:=b14) (o:=.cells ([.int .u8 0,.int .u8 0,.int .u8 0,.int .u8 0,.int .u8 0,.int .u8 0,.int .u8 0,.int .u8 0,.int .u8 0,.int .u8 0,.int .u8 0,.int .u8 0,.int .u8 0,.int .u8 0,.int .u8 0,.int .u8 0] : List Value).toArray 25 (0,0)) (by repeat' constructor)
 refine r_store_rowM hS hH rfl rfl (by repeat' constructor) (by repeat' constructor) Fc.sz25 (by first | exact hcells_one _ | exact of_decide_eq_true rfl) (by rfl) (.inr (by assumption)) ?_
 clear hH; intro w hMb14 hH
 replace hbv:=hbv.put hMb14 hcb14 (by decide)
 refine r_assign hS hH.kp0 rfl rfl ?_; clear hS; intro a hS
 refine Sq.nil (blk_n (then_n (c_seq (c_seq (reg_plain w0 (SS) ?_)))))
 refine r_load_row hS hH (by repeat' constructor) rfl (by repeat' constructor) Fc.ag26 (by rfl) rfl (x_load_row hH (by repeat' constructor) rfl (by repeat' constructor) Fc.ag25 (by rfl) rfl (x_arrNeq (h:=[p0,p1,p2,p3,p4,p5,p6,p7,p8,p9,pa,pb,pc,pd,pe,pf]) (g:=[p0,p1,p2,p3,p4,p5,p6,p7,p8,p9,pa,pb,pc,pd,pe,pf]) Fc.arrH hH.kp0 rfl rfl rfl rfl rfl (x_move hH.kp0 rfl rfl ?_))); clear hS; intro a hS
 refine Sq.guardYes hS rfl rfl (by rw [decide_eq_true rfl]; rfl) ?_
 refine r_move hS hH.kp0 rfl rfl ?_; clear hS; intro a hS
 refine Sq.guardYes hS rfl rfl (by rw [decide_eq_true rfl]; rfl) ?_
 refine r_move hS hH.kp0 rfl rfl ?_; clear hS; intro a hS
 refine Sq.guardYes hS rfl rfl (by rw [decide_eq_true rfl]; rfl) ?_
 refine r_neq hS hH.kp0 rfl rfl rfl ?_; clear hS; intro a hS
 refine r_pickF hS hH.kp0 rfl (by rw [decide_eq_true rfl]; rfl) rfl rfl ?_; clear hS; intro a hS
 refine Sq.nil (then_n ?_)
 refine c_condF hS rfl (bne_self_eq_false _) ?_
 refine wp_skip (then_n (c_seq (c_seq (reg_plain w0 (SS) ?_))))
 refine r_load_row hS hH (by repeat' constructor) rfl (by repeat' constructor) Fc.ag26 (by rfl) rfl (x_buildA (parts:=[]) hH.kp0 rfl rfl Fc.zc26 Fc.ar26 (by rfl) (x_arrNeq (h:=[p0,p1,p2,p3,p4,p5,p6,p7,p8,p9,pa,pb,pc,pd,pe,pf]) (g:=zH) Fc.arrH hH.kp0 rfl rfl rfl rfl rfl ?_)); clear hS; intro a hS
 refine Sq.nil (then_n ?_)
 refine c_cond hS rfl (fun hc14 => ?_) (fun hc14 => ?_)
 ·refine reg_draw [(true,0,[0,1]),(true,1,[0,1]),(true,2,[0,1]),(true,3,[0,1]),(true,4,[1]),(true,5,[0,1]),(false,6,[]),(false,7,[1]),(true,8,[0,1]),(true,9,[0,1]),(false,10,[0,1])] Fc.mixed (by kernel_rfl) (by kernel_rfl) (by kernel_rfl) (by kernel_rfl) (by kernel_rfl) (by repeat (first | with_reducible exact steady_body | with_reducible apply steady_block | with_reducible apply steady_then | with_reducible apply steady_scope | exact steady_body)) hH ?_
  replace hH:=hH.drew
  replace hbv:=hbv.ext (Ext.drew _)
  refine r_move hS trivial rfl rfl (x_move trivial rfl rfl (x_nilCheck trivial rfl rfl (x_fieldAddr trivial rfl Fc.fo59_0 rfl (x_load_scS rfl (by repeat' constructor) Fc.sc57 (by rfl) rfl (x_load_rowS rfl (by repeat' constructor) Fc.ag26 (by rfl) rfl ?_))))); clear hS; intro a hS
  refine r_buildSliceW (parts:=[(0,.tmp 285)]) hS hH (by repeat' constructor) rfl Fc.bsl57_1 (by rfl) rfl ?_
  clear hS hH; intro a w b286 hb286 hwb286 hE44 hS hH
  replace hbv:=hbv.ext hE44
  have hc44:=hH.get (b:=hb) (o:=.cells hl.toArray 26 (0,0)) (by repeat' constructor)
  refine r_append_own hS hH rfl rfl (by repeat' constructor) (by repeat' constructor) Fc.elH Fc.niH hpl.len hpl.cap (Src.hnd (h:=[p0,p1,p2,p3,p4,p5,p6,p7,p8,p9,pa,pb,pc,pd,pe,pf]) (hH.get .here) rfl) (by omega) (.inl (by rw [hSS]; exact .inr (.inr (.inr rfl)))) rfl ?_
  clear hS hH; intro a w hb1 hcap1 hl1 hhb1 hlen1 hcp1 htk1 hmm hS hH
  replace hbv:=hbv.put hmm hc44 (by decide)
  refine r_nilCheck hS trivial rfl rfl (x_fieldAddr trivial rfl Fc.fo59_0 rfl ?_); clear hS; intro a hS
  have hc45:=hH.get (b:=sh) (o:=.cells ([.slice (some ⟨hb,0,none⟩) hs.length hcap,sv] : List Value).toArray 59 (0,0)) (by repeat' constructor)
  refine r_store1M hS hH rfl rfl rfl (by repeat' constructor) (by repeat' constructor) Fc.sz57 (of_decide_eq_true rfl) (.inl (by rw [hSS]; exact .inr (.inr (.inl rfl)))) ?_
  clear hH; intro w hM45 hH
  replace hbv:=hbv.put hM45 hc45 (by decide)
  refine Sq.nil (then_n (c_seq ?_))
  refine reg_draw [(true,0,[]),(true,1,[]),(true,3,[]),(true,4,[]),(false,2,[]),(false,5,[]),(true,6,[]),(true,7,[]),(true,8,[])] Fc.mixed (by kernel_rfl) (by kernel_rfl) (by kernel_rfl) (by kernel_rfl) (by kernel_rfl) (by repeat (first | with_reducible exact steady_body | with_reducible apply steady_block | with_reducible apply steady_then | with_reducible apply steady_scope | exact steady_body)) hH ?_
  replace hH:=hH.drew
  replace hbv:=hbv.ext (Ext.drew _)
  refine r_move hS trivial rfl rfl (x_load_rowS rfl (by repeat' constructor) Fc.ag26 (by rfl) rfl (x_move trivial rfl rfl (x_load_rowS rfl (by repeat' constructor) Fc.ag26 (by rfl) rfl ?_))); clear hS; intro a hS
  refine r_call (l:=[.tmp 290,.tmp 291]) hS rfl rfl Fc.fn18 rfl ?_
  refine Calls.mono (Known_v b V1 ts1 [x0,x1,x2,x3,x4,x5,x6,x7,x8,x9,xa,xb,xc,xd,xe,xf] rfl _ hbv.v) ?_
  rintro e w1 ⟨kb,rfl,hkb,hE⟩
  replace hH:=hH.ext hE
  replace hbv:=hbv.ext hE
  refine ⟨_,rfl,hH.kp (by repeat' constructor),?_⟩
  clear hS; intro a hS
  refine r_call (l:=[.tmp 293,.tmp 294]) hS rfl rfl Fc.fn46 rfl ?_
  refine Calls.mono (rOf_c r R1 ts1 [x0,x1,x2,x3,x4,x5,x6,x7,x8,x9,xa,xb,xc,xd,xe,xf] rfl (by omega) _ hbv.r) ?_
  rintro e w1 ⟨x9,rfl,hx9,hE⟩
  replace hH:=hH.ext hE
  replace hbv:=hbv.ext hE
  refine ⟨_,rfl,hH.kp (by repeat' constructor),?_⟩
  clear hS; intro a hS
  refine r_geq hS trivial rfl rfl rfl (x_boolEql trivial rfl rfl Fc.isBool4 rfl (x_assign trivial rfl rfl ?_)); clear hS; intro a hS
  refine Sq.nil (then_n (wp_ret ?_))
  have hln9 : (hs++[[p0,p1,p2,p3,p4,p5,p6,p7,p8,p9,pa,pb,pc,pd,pe,pf]]).length = hs.length + 1:=by rw [List.length_append]; rfl
  refine leave (.inl rfl) hS rfl (Res.tmp rfl Res.nil) ⟨by rw [known_eq hkb hx9]; rfl,hpl.next (hs':=hs++[[p0,p1,p2,p3,p4,p5,p6,p7,p8,p9,pa,pb,pc,pd,pe,pf]]) hbv hwf1 hsl1 (by rw [hln9]; exact hH.get (b:=sh) (by repeat' constructor)) (hH.get (b:=hb1) (by repeat' constructor)) hlen1 (by rw [hln9]; exact hcp1) (by rw [hln9,htk1,hpl.take]; simp) (by intro h hh; rcases List.mem_append.1 hh with hh | hh; exact hpl.six h hh; rw [List.mem_singleton.1 hh]; rfl) (by rw [hln9]; exact Nat.succ_pos _) hlt0 hlt1 (by rw [hln9]; exact Nat.le_refl _) (hSS ▸ hH.mod) (hSS ▸ hVS) (hSS ▸ hRS) (hSS ▸ hhb1)⟩
 ·refine wp_skip (then_n (c_seq ?_))
  refine reg_draw [(true,0,[]),(true,1,[]),(true,3,[]),(true,4,[]),(false,2,[]),(false,5,[]),(true,6,[]),(true,7,[]),(true,8,[])] Fc.mixed (by kernel_rfl) (by kernel_rfl) (by kernel_rfl) (by kernel_rfl) (by kernel_rfl) (by repeat (first | with_reducible exact steady_body | with_reducible apply steady_block | with_reducible apply steady_then | with_reducible apply steady_scope | exact steady_body)) hH ?_
  replace hH:=hH.drew
  replace hbv:=hbv.ext (Ext.drew _)
  refine r_move hS trivial rfl rfl (x_load_rowS rfl (by repeat' constructor) Fc.ag26 (by rfl) rfl (x_move trivial rfl rfl (x_load_rowS rfl (by repeat' constructor) Fc.ag26 (by rfl) rfl ?_))); clear hS; intro a hS
  refine r_call (l:=[.tmp 290,.tmp 291]) hS rfl rfl Fc.fn18 rfl ?_
  refine Calls.mono (Known_v b V1 ts1 [x0,x1,x2,x3,x4,x5,x6,x7,x8,x9,xa,xb,xc,xd,xe,xf] rfl _ hbv.v) ?_
  rintro e w1 ⟨kb,rfl,hkb,hE⟩
  replace hH:=hH.ext hE
  replace hbv:=hbv.ext hE
  refine ⟨_,rfl,hH.kp (by repeat' constructor),?_⟩
  clear hS; intro a hS
  refine r_call (l:=[.tmp 293,.tmp 294]) hS rfl rfl Fc.fn46 rfl ?_
  refine Calls.mono (rOf_c r R1 ts1 [x0,x1,x2,x3,x4,x5,x6,x7,x8,x9,xa,xb,xc,xd,xe,xf] rfl (by omega) _ hbv.r) ?_
  rintro e w1 ⟨x9,rfl,hx9,hE⟩
  replace hH:=hH.ext hE
  replace hbv:=hbv.ext hE
  refine ⟨_,rfl,hH.kp (by repeat' constructor),?_⟩
  clear hS; intro a hS
  refine r_geq hS trivial rfl rfl rfl (x_boolEql trivial rfl rfl Fc.isBool4 rfl (x_assign trivial rfl rfl ?_)); clear hS; intro a hS
  refine Sq.nil (then_n (wp_ret ?_))
  exact leave (.inl rfl) hS rfl (Res.tmp rfl Res.nil) ⟨by rw [known_eq hkb hx9]; rfl,hpl.next hbv hwf1 hsl1 (hH.get (b:=sh) (by repeat' constructor)) (hH.get (b:=hb) (by repeat' constructor)) hpl.len hpl.cap hpl.take hpl.six hpl.pos hlt0 hlt1 (Nat.le_succ _) (hSS ▸ hH.mod) (hSS ▸ hVS) (hSS ▸ hRS) (.inl (.inr (.inr (.inr rfl))))⟩

end Go.Proofs.YtcjmehononbadaaDoor
namespace Go.Proofs.YtcjmehononbadaaDoor
open Go.Sym


set_option maxRecDepth 100000 in
set_option maxHeartbeats 16000000 in
theorem does3 (k2 k3 k4 nu : Int) (s : ByteArray) (va vq : Value) (la lq : List UInt8) (o : Bool) (b : Nat) (V : VB) (r : Nat) (R : RB) (ts : List Tm) (sh hb hcap : Nat) (hl : List Value) (hs : List (List UInt8)) (sv : Value) (ss : List (List UInt8)) (hk4 : -9223372036854775808≤nu∧nu≤9223372036854775807) (hs9 : s.size≤9223372036854775807) (hla : la.length≤1099511627776) (hlq : lq.length≤1099511627776) (hts : ts.length≤1000000) (hhs : hs.length≤1000000) (hss9 : ss.length≤1000000) (w0 : World) (hpl : PL w0 b V r R ts sh hb hcap hl hs sv ss) (hva : BsF (FT b V r R sh hb sv) w0 va la) (hvq : BsF (FT b V r R sh hb sv) w0 vq lq) : Calls Tryd.prog 22 #[.pointer (some ⟨sh,0,none⟩),.pointer (some ⟨b,0,none⟩),.pointer (some ⟨r,0,none⟩),.agg #[.int .i64 3,.int .i64 k2,.int .i64 k3,.int .i64 k4,.string s,.int .i64 nu,va,vq,.bool o]] w0 fun e w' => e = .returned (.bool true)∧Next w0 b V r R ts sh hb hs sv ss w':=by
 refine enter Tryd.func22 rfl rfl rfl ?_
 intro a hS
 have hH:=Hp.start w0 (Nobody)
 obtain ⟨SS,hSS⟩ : ∃ S : Nat→Prop,S = FS b V r R sh hb:=⟨_,rfl⟩
 have huq:=hpl.bv.v.ok.uq
 have htp:=hpl.tp
 have hvaS : BsF SS w0 va la:=hva.go (Mod.refl _ _) (fun x hx => .inl (.inl (hSS ▸ hx)))
 have hvqS : BsF SS w0 vq lq:=hvq.go (Mod.refl _ _) (fun x hx => .inl (.inl (hSS ▸ hx)))
 obtain ⟨x,hx⟩ : ∃ y,y = pickH hs k2:=⟨_,rfl⟩
 have hx16 : x.length = 16:=by rw [hx]; exact pickH_len hpl.six _
 obtain ⟨x0,x1,x2,x3,x4,x5,x6,x7,x8,x9,xa,xb,xc,xd,xe,xf,rfl⟩:=len16 hx16
 obtain ⟨y,hy⟩ : ∃ y,y = pickH hs k3:=⟨_,rfl⟩
 have hy16 : y.length = 16:=by rw [hy]; exact pickH_len hpl.six _
 obtain ⟨y0,y1,y2,y3,y4,y5,y6,y7,y8,y9,ya,yb,yc,yd,ye,yf,rfl⟩:=len16 hy16
 obtain ⟨z,hz⟩ : ∃ y,y = pickH hs k4:=⟨_,rfl⟩
 have hz16 : z.length = 16:=by rw [hz]; exact pickH_len hpl.six _
 obtain ⟨z0,z1,z2,z3,z4,z5,z6,z7,z8,z9,za,zb,zc,zd,ze,zf,rfl⟩:=len16 hz16
 refine c_seq (reg_plain w0 (Nobody) ?_)
 refine r_box hS hH (by repeat' constructor) rfl rfl rfl ?_
 clear hS hH; intro a w b7 hb7 hwb7 hS hH
 refine r_assign hS hH.kp0 rfl rfl ?_; clear hS; intro a hS
 refine Sq.nil (then_n ?_)
 refine c_cut (fun a w => ∃ b9 b10 b11,w0.heap.size≤b9∧w0.heap.size≤b10∧w0.heap.size≤b11∧St 298 (lv [(0,.pointer (some ⟨sh,0,none⟩)),(1,.pointer (some ⟨b,0,none⟩)),(2,.pointer (some ⟨r,0,none⟩)),(7,.pointer (some ⟨b7,0,none⟩)),(8,.bool false),(9,.pointer (some ⟨b9,0,none⟩)),(10,.pointer (some ⟨b10,0,none⟩)),(11,.pointer (some ⟨b11,0,none⟩))]) a∧Hp w0 Nobody [(b11,.cells (hcells [z0,z1,z2,z3,z4,z5,z6,z7,z8,z9,za,zb,zc,zd,ze,zf]).toArray 26 (0,0)),(b10,.cells (hcells [y0,y1,y2,y3,y4,y5,y6,y7,y8,y9,ya,yb,yc,yd,ye,yf]).toArray 26 (0,0)),(b9,.cells (hcells [x0,x1,x2,x3,x4,x5,x6,x7,x8,x9,xa,xb,xc,xd,xe,xf]).toArray 26 (0,0)),(b7,.cells ([.int .i64 3,.int .i64 k2,.int .i64 k3,.int .i64 k4,.string s,.int .i64 nu,va,vq,.bool o] : List Value).toArray 36 (0,0))] w) ?_ ?_
 ·exact does_r1 3 k2 k3 k4 nu s va vq o b V r R ts sh hb hcap hl hs sv ss [x0,x1,x2,x3,x4,x5,x6,x7,x8,x9,xa,xb,xc,xd,xe,xf] [y0,y1,y2,y3,y4,y5,y6,y7,y8,y9,ya,yb,yc,yd,ye,yf] [z0,z1,z2,z3,z4,z5,z6,z7,z8,z9,za,zb,zc,zd,ze,zf] hx rfl hy rfl hz rfl w0 hpl b7 hb7 a w (hS.live ⟨rfl,rfl,rfl,rfl,rfl,trivial⟩) hH _ (by repeat (first | with_reducible exact steady_body | with_reducible apply steady_block | with_reducible apply steady_then | with_reducible apply steady_scope | exact steady_body))
 clear hS hH; intro a w hJ; obtain ⟨b9,b10,b11,hb9,hb10,hb11,hS,hH⟩:=hJ
 refine c_seq (reg_plain w0 (Nobody) ?_)
 refine r_buildA (parts:=[]) hS hH.kp0 rfl rfl Fc.zc26 Fc.ar26 (by rfl) ?_; clear hS; intro a hS
 refine r_alloc hS hH (by repeat' constructor) Fc.zc26 rfl ?_
 clear hS hH; intro a w b12 hb12 hwb12 hS hH
 refine r_store_row hS hH rfl rfl (by repeat' constructor) (by repeat' constructor) Fc.sz26 (by first | exact hcells_one _ | exact of_decide_eq_true rfl) (by rfl) (by first | exact .inr (by assumption) | exact .inl (by first | assumption | rfl)) ?_
 clear hH; intro w hH
 refine r_assign hS hH.kp0 rfl rfl ?_; clear hS; intro a hS
 refine Sq.nil (then_n (c_seq (reg_plain w0 (Nobody) ?_)))
 refine r_buildA (parts:=[]) hS hH.kp0 rfl rfl Fc.zc25 Fc.ar25 (by rfl) ?_; clear hS; intro a hS
 refine r_alloc hS hH (by repeat' constructor) Fc.zc25 rfl ?_
 clear hS hH; intro a w b14 hb14 hwb14 hS hH
 refine r_store_row hS hH rfl rfl (by repeat' constructor) (by repeat' constructor) Fc.sz25 (by first | exact hcells_one _ | exact of_decide_eq_true rfl) (by rfl) (by first | exact .inr (by assumption) | exact .inl (by first | assumption | rfl)) ?_
 clear hH; intro w hH
 refine r_assign hS hH.kp0 rfl rfl ?_; clear hS; intro a hS
 refine Sq.nil (then_n (c_seq (c_seq (reg_plain w0 (Nobody) ?_))))
 refine r_fieldAddr hS hH.kp0 rfl Fc.fo36_0 rfl (x_load_sc hH (by repeat' constructor) rfl (by repeat' constructor) Fc.sc3 (by rfl) rfl ?_); clear hS; intro a hS
 refine Sq.nil ?_
 have hbv:=hpl.bv.ext hH.mod
 have hlb : ∀ p∈([(b14,.cells #[] 0 (0,0)),(b12,.cells #[] 0 (0,0)),(b11,.cells #[] 0 (0,0)),(b10,.cells #[] 0 (0,0)),(b9,.cells #[] 0 (0,0)),(b7,.cells #[] 0 (0,0))] : Blocks),w0.heap.size≤p.1:=by intro p hp; simp only [List.mem_cons,List.not_mem_nil,or_false] at hp; rcases hp with rfl | rfl | rfl | rfl | rfl | rfl <;> assumption
 have hshl:=lt_of_block hpl.top
 have hhbl:=lt_of_block hpl.row
 replace hH:=((hH.know (hH.mod.heap_some hpl.row (fun h => h)) (by intro p hp; simp only [List.mem_cons,List.not_mem_nil,or_false] at hp; rcases hp with rfl | rfl | rfl | rfl | rfl | rfl <;> (dsimp only; omega))).know (hH.mod.heap_some hpl.top (fun h => h)) (by intro p hp; simp only [List.mem_cons,List.not_mem_nil,or_false] at hp; rcases hp with rfl | rfl | rfl | rfl | rfl | rfl | rfl <;> (first | exact Ne.symm hpl.ne | (dsimp only; omega)))).wide (S':=SS) (fun _ h => h.elim)
 have hVS : ∀ x,V.F b x→SS x∨w0.heap.size≤x:=fun x hx => .inl (by rw [hSS]; exact .inl hx)
 have hRS : ∀ x,R.F r x→SS x∨w0.heap.size≤x:=fun x hx => .inl (by rw [hSS]; exact .inr (.inl hx))
 clear hlb
 refine then_n (wp_block (c_seq (reg_plain w0 (SS) ?_)))
 refine r_eql hS hH.kp0 rfl rfl rfl (x_assign hH.kp0 rfl rfl ?_); clear hS; intro a hS
 refine Sq.nil (then_n (c_condF hS rfl rfl (c_seq (reg_plain w0 (SS) ?_))))
 refine r_eql hS hH.kp0 rfl rfl rfl (x_assign hH.kp0 rfl rfl ?_); clear hS; intro a hS
 refine Sq.nil (then_n (c_condF hS rfl rfl (c_seq (reg_plain w0 (SS) ?_))))
 refine r_eql hS hH.kp0 rfl rfl rfl (x_assign hH.kp0 rfl rfl ?_); clear hS; intro a hS
 refine Sq.nil (then_n (c_condF hS rfl rfl (c_seq (reg_plain w0 (SS) ?_))))
 refine r_eql hS hH.kp0 rfl rfl rfl (x_assign hH.kp0 rfl rfl ?_); clear hS; intro a hS
 refine Sq.nil (then_n (c_condT hS rfl rfl (c_seq (reg_plain w0 (SS) ?_))))
 refine r_move hS hH.kp0 rfl rfl (x_load_row hH (by repeat' constructor) rfl (by repeat' constructor) Fc.ag26 (by rfl) rfl (x_load_row hH (by repeat' constructor) rfl (by repeat' constructor) Fc.ag26 (by rfl) rfl ?_)); clear hS; intro a hS
 refine r_call (l:=[.tmp 86,.tmp 87,.tmp 88]) hS rfl rfl Fc.fn14 rfl ?_
 refine Calls.mono (Agree_c b V ts [x0,x1,x2,x3,x4,x5,x6,x7,x8,x9,xa,xb,xc,xd,xe,xf] rfl [y0,y1,y2,y3,y4,y5,y6,y7,y8,y9,ya,yb,yc,yd,ye,yf] rfl hpl.wf (by omega) _ hbv.v) ?_
 rintro e w1 ⟨h1,e1,V1,ts1,rfl,hvi1,hst1,hof1⟩
 have hp16:=hof1.len
 obtain ⟨p0,p1,p2,p3,p4,p5,p6,p7,p8,p9,pa,pb,pc,pd,pe,pf,rfl⟩:=len16 hp16
 have hq:=hH.callV hbv hst1 (by repeat (first | exact Clear.nil _ | refine Clear.cons (by decide) ?_)) hVS
 clear hH hVS
 obtain ⟨hH,hVS⟩:=hq
 replace hbv:=hbv.callV hvi1 hst1
 refine ⟨_,rfl,hH.kp0,?_⟩
 clear hS; intro a hS
 refine r_move hS hH.kp0 rfl rfl (x_extract hH.kp0 rfl rfl rfl (x_extract hH.kp0 rfl rfl rfl ?_)); clear hS; intro a hS
 have hcb12:=hH.get (b:=b12) (o:=.cells ([.int .u8 0,.int .u8 0,.int .u8 0,.int .u8 0,.int .u8 0,.int .u8 0,.int .u8 0,.int .u8 0,.int .u8 0,.int .u8 0,.int .u8 0,.int .u8 0,.int .u8 0,.int .u8 0,.int .u8 0,.int .u8 0] : List Value).toArray 26 (0,0)) (by repeat' constructor)
 refine r_store_rowM hS hH rfl rfl (by repeat' constructor) (by repeat' constructor) Fc.sz26 (by first | exact hcells_one _ | exact of_decide_eq_true rfl) (by rfl) (.inr (by assumption)) ?_
 clear hH; intro w hMb12 hH
 replace hbv:=hbv.put hMb12 hcb12 (by decide)
 refine r_assign hS hH.kp0 rfl rfl ?_; clear hS; intro a hS
 refine Sq.nil (then_n (reg_plain w0 (SS) ?_))
 refine r_move hS hH.kp0 rfl rfl (x_load_row hH (by repeat' constructor) rfl (by repeat' constructor) Fc.ag26 (by rfl) rfl (x_load_row hH (by repeat' constructor) rfl (by repeat' constructor) Fc.ag26 (by rfl) rfl ?_)); clear hS; intro a hS
 refine r_call (l:=[.tmp 93,.tmp 94,.tmp 95]) hS rfl rfl Fc.fn36 rfl ?_
 refine Calls.mono (rAgree_c r R ts [x0,x1,x2,x3,x4,x5,x6,x7,x8,x9,xa,xb,xc,xd,xe,xf] rfl [y0,y1,y2,y3,y4,y5,y6,y7,y8,y9,ya,yb,yc,yd,ye,yf] rfl hpl.wf (by omega) _ hbv.r) ?_
 rintro e w1 ⟨h2,e2,R1,ts2,rfl,hri1,hst2,hof2⟩
 obtain ⟨hq1,hq2,hq3⟩:=hof1.det huq (by omega) hof2
 subst hq1 hq2 hq3
 have hq:=hH.callR hbv hst2 (by repeat (first | exact Clear.nil _ | refine Clear.cons (by decide) ?_)) hRS
 clear hH hRS
 obtain ⟨hH,hRS⟩:=hq
 replace hbv:=hbv.callR hri1 hst2
 have hlt0:=hof1.lens.1
 have hlt1:=hof1.lens.2
 have hwf1:=hof1.wf6 hpl.wf
 have hsl1:=hof1.sel6 hpl.sel
 refine ⟨_,rfl,hH.kp0,?_⟩
 clear hS; intro a hS
 refine r_move hS hH.kp0 rfl rfl (x_extract hH.kp0 rfl rfl rfl (x_extract hH.kp0 rfl rfl rfl ?_)); clear hS; intro a hS
 have hcb14:=hH.get (b:=b14) (o:=.cells ([.int .u8 0,.int .u8 0,.int .u8 0,.int .u8 0,.int .u8 0,.int .u8 0,.int .u8 0,.int .u8 0,.int .u8 0,.int .u8 0,.int .u8 0,.int .u8 0,.int .u8 0,.int .u8 0,.int .u8 0,.int .u8 0] : List Value).toArray 25 (0,0)) (by repeat' constructor)
 refine r_store_rowM hS hH rfl rfl (by repeat' constructor) (by repeat' constructor) Fc.sz25 (by first | exact hcells_one _ | exact of_decide_eq_true rfl) (by rfl) (.inr (by assumption)) ?_
 clear hH; intro w hMb14 hH
 replace hbv:=hbv.put hMb14 hcb14 (by decide)
 refine r_assign hS hH.kp0 rfl rfl ?_; clear hS; intro a hS
 refine Sq.nil (blk_n (then_n (c_seq (c_seq (reg_plain w0 (SS) ?_)))))
 refine r_load_row hS hH (by repeat' constructor) rfl (by repeat' constructor) Fc.ag26 (by rfl) rfl (x_load_row hH (by repeat' constructor) rfl (by repeat' constructor) Fc.ag25 (by rfl) rfl (x_arrNeq (h:=[p0,p1,p2,p3,p4,p5,p6,p7,p8,p9,pa,pb,pc,pd,pe,pf]) (g:=[p0,p1,p2,p3,p4,p5,p6,p7,p8,p9,pa,pb,pc,pd,pe,pf]) Fc.arrH hH.kp0 rfl rfl rfl rfl rfl (x_move hH.kp0 rfl rfl ?_))); clear hS; intro a hS
 refine Sq.guardYes hS rfl rfl (by rw [decide_eq_true rfl]; rfl) ?_
 refine r_move hS hH.kp0 rfl rfl ?_; clear hS; intro a hS
 refine Sq.guardYes hS rfl rfl (by rw [decide_eq_true rfl]; rfl) ?_
 refine r_move hS hH.kp0 rfl rfl ?_; clear hS; intro a hS
 refine Sq.guardYes hS rfl rfl (by rw [decide_eq_true rfl]; rfl) ?_
 refine r_neq hS hH.kp0 rfl rfl rfl ?_; clear hS; intro a hS
 refine r_pickF hS hH.kp0 rfl (by rw [decide_eq_true rfl]; rfl) rfl rfl ?_; clear hS; intro a hS
 refine Sq.nil (then_n ?_)
 refine c_condF hS rfl (bne_self_eq_false _) ?_
 refine wp_skip (then_n (c_seq (c_seq (reg_plain w0 (SS) ?_))))
 refine r_load_row hS hH (by repeat' constructor) rfl (by repeat' constructor) Fc.ag26 (by rfl) rfl (x_buildA (parts:=[]) hH.kp0 rfl rfl Fc.zc26 Fc.ar26 (by rfl) (x_arrNeq (h:=[p0,p1,p2,p3,p4,p5,p6,p7,p8,p9,pa,pb,pc,pd,pe,pf]) (g:=zH) Fc.arrH hH.kp0 rfl rfl rfl rfl rfl ?_)); clear hS; intro a hS
 refine Sq.nil (then_n ?_)
 refine c_cond hS rfl (fun hc14 => ?_) (fun hc14 => ?_)
 ·refine reg_draw [(true,0,[0,1]),(true,1,[0,1]),(true,2,[0,1]),(true,3,[0,1]),(true,4,[1]),(true,5,[0,1]),(false,6,[]),(false,7,[1]),(true,8,[0,1]),(true,9,[0,1]),(false,10,[0,1])] Fc.mixed (by kernel_rfl) (by kernel_rfl) (by kernel_rfl) (by kernel_rfl) (by kernel_rfl) (by repeat (first | with_reducible exact steady_body | with_reducible apply steady_block | with_reducible apply steady_then | with_reducible apply steady_scope | exact steady_body)) hH ?_
  replace hH:=hH.drew
  replace hbv:=hbv.ext (Ext.drew _)
  refine r_move hS trivial rfl rfl (x_move trivial rfl rfl (x_nilCheck trivial rfl rfl (x_fieldAddr trivial rfl Fc.fo59_0 rfl (x_load_scS rfl (by repeat' constructor) Fc.sc57 (by rfl) rfl (x_load_rowS rfl (by repeat' constructor) Fc.ag26 (by rfl) rfl ?_))))); clear hS; intro a hS
  refine r_buildSliceW (parts:=[(0,.tmp 285)]) hS hH (by repeat' constructor) rfl Fc.bsl57_1 (by rfl) rfl ?_
  clear hS hH; intro a w b286 hb286 hwb286 hE44 hS hH
  replace hbv:=hbv.ext hE44
  have hc44:=hH.get (b:=hb) (o:=.cells hl.toArray 26 (0,0)) (by repeat' constructor)
  refine r_append_own hS hH rfl rfl (by repeat' constructor) (by repeat' constructor) Fc.elH Fc.niH hpl.len hpl.cap (Src.hnd (h:=[p0,p1,p2,p3,p4,p5,p6,p7,p8,p9,pa,pb,pc,pd,pe,pf]) (hH.get .here) rfl) (by omega) (.inl (by rw [hSS]; exact .inr (.inr (.inr rfl)))) rfl ?_
  clear hS hH; intro a w hb1 hcap1 hl1 hhb1 hlen1 hcp1 htk1 hmm hS hH
  replace hbv:=hbv.put hmm hc44 (by decide)
  refine r_nilCheck hS trivial rfl rfl (x_fieldAddr trivial rfl Fc.fo59_0 rfl ?_); clear hS; intro a hS
  have hc45:=hH.get (b:=sh) (o:=.cells ([.slice (some ⟨hb,0,none⟩) hs.length hcap,sv] : List Value).toArray 59 (0,0)) (by repeat' constructor)
  refine r_store1M hS hH rfl rfl rfl (by repeat' constructor) (by repeat' constructor) Fc.sz57 (of_decide_eq_true rfl) (.inl (by rw [hSS]; exact .inr (.inr (.inl rfl)))) ?_
  clear hH; intro w hM45 hH
  replace hbv:=hbv.put hM45 hc45 (by decide)
  refine Sq.nil (then_n (c_seq ?_))
  refine reg_draw [(true,0,[]),(true,1,[]),(true,3,[]),(true,4,[]),(false,2,[]),(false,5,[]),(true,6,[]),(true,7,[]),(true,8,[])] Fc.mixed (by kernel_rfl) (by kernel_rfl) (by kernel_rfl) (by kernel_rfl) (by kernel_rfl) (by repeat (first | with_reducible exact steady_body | with_reducible apply steady_block | with_reducible apply steady_then | with_reducible apply steady_scope | exact steady_body)) hH ?_
  replace hH:=hH.drew
  replace hbv:=hbv.ext (Ext.drew _)
  refine r_move hS trivial rfl rfl (x_load_rowS rfl (by repeat' constructor) Fc.ag26 (by rfl) rfl (x_move trivial rfl rfl (x_load_rowS rfl (by repeat' constructor) Fc.ag26 (by rfl) rfl ?_))); clear hS; intro a hS
  refine r_call (l:=[.tmp 290,.tmp 291]) hS rfl rfl Fc.fn18 rfl ?_
  refine Calls.mono (Known_v b V1 ts1 [x0,x1,x2,x3,x4,x5,x6,x7,x8,x9,xa,xb,xc,xd,xe,xf] rfl _ hbv.v) ?_
  rintro e w1 ⟨kb,rfl,hkb,hE⟩
  replace hH:=hH.ext hE
  replace hbv:=hbv.ext hE
  refine ⟨_,rfl,hH.kp (by repeat' constructor),?_⟩
  clear hS; intro a hS
  refine r_call (l:=[.tmp 293,.tmp 294]) hS rfl rfl Fc.fn46 rfl ?_
  refine Calls.mono (rOf_c r R1 ts1 [x0,x1,x2,x3,x4,x5,x6,x7,x8,x9,xa,xb,xc,xd,xe,xf] rfl (by omega) _ hbv.r) ?_
  rintro e w1 ⟨x9,rfl,hx9,hE⟩
  replace hH:=hH.ext hE
  replace hbv:=hbv.ext hE
  refine ⟨_,rfl,hH.kp (by repeat' constructor),?_⟩
  clear hS; intro a hS
  refine r_geq hS trivial rfl rfl rfl (x_boolEql trivial rfl rfl Fc.isBool4 rfl (x_assign trivial rfl rfl ?_)); clear hS; intro a hS
  refine Sq.nil (then_n (wp_ret ?_))
  have hln9 : (hs++[[p0,p1,p2,p3,p4,p5,p6,p7,p8,p9,pa,pb,pc,pd,pe,pf]]).length = hs.length + 1:=by rw [List.length_append]; rfl
  refine leave (.inl rfl) hS rfl (Res.tmp rfl Res.nil) ⟨by rw [known_eq hkb hx9]; rfl,hpl.next (hs':=hs++[[p0,p1,p2,p3,p4,p5,p6,p7,p8,p9,pa,pb,pc,pd,pe,pf]]) hbv hwf1 hsl1 (by rw [hln9]; exact hH.get (b:=sh) (by repeat' constructor)) (hH.get (b:=hb1) (by repeat' constructor)) hlen1 (by rw [hln9]; exact hcp1) (by rw [hln9,htk1,hpl.take]; simp) (by intro h hh; rcases List.mem_append.1 hh with hh | hh; exact hpl.six h hh; rw [List.mem_singleton.1 hh]; rfl) (by rw [hln9]; exact Nat.succ_pos _) hlt0 hlt1 (by rw [hln9]; exact Nat.le_refl _) (hSS ▸ hH.mod) (hSS ▸ hVS) (hSS ▸ hRS) (hSS ▸ hhb1)⟩
 ·refine wp_skip (then_n (c_seq ?_))
  refine reg_draw [(true,0,[]),(true,1,[]),(true,3,[]),(true,4,[]),(false,2,[]),(false,5,[]),(true,6,[]),(true,7,[]),(true,8,[])] Fc.mixed (by kernel_rfl) (by kernel_rfl) (by kernel_rfl) (by kernel_rfl) (by kernel_rfl) (by repeat (first | with_reducible exact steady_body | with_reducible apply steady_block | with_reducible apply steady_then | with_reducible apply steady_scope | exact steady_body)) hH ?_
  replace hH:=hH.drew
  replace hbv:=hbv.ext (Ext.drew _)
  refine r_move hS trivial rfl rfl (x_load_rowS rfl (by repeat' constructor) Fc.ag26 (by rfl) rfl (x_move trivial rfl rfl (x_load_rowS rfl (by repeat' constructor) Fc.ag26 (by rfl) rfl ?_))); clear hS; intro a hS
  refine r_call (l:=[.tmp 290,.tmp 291]) hS rfl rfl Fc.fn18 rfl ?_
  refine Calls.mono (Known_v b V1 ts1 [x0,x1,x2,x3,x4,x5,x6,x7,x8,x9,xa,xb,xc,xd,xe,xf] rfl _ hbv.v) ?_
  rintro e w1 ⟨kb,rfl,hkb,hE⟩
  replace hH:=hH.ext hE
  replace hbv:=hbv.ext hE
  refine ⟨_,rfl,hH.kp (by repeat' constructor),?_⟩
  clear hS; intro a hS
  refine r_call (l:=[.tmp 293,.tmp 294]) hS rfl rfl Fc.fn46 rfl ?_
  refine Calls.mono (rOf_c r R1 ts1 [x0,x1,x2,x3,x4,x5,x6,x7,x8,x9,xa,xb,xc,xd,xe,xf] rfl (by omega) _ hbv.r) ?_
  rintro e w1 ⟨x9,rfl,hx9,hE⟩
  replace hH:=hH.ext hE
  replace hbv:=hbv.ext hE
  refine ⟨_,rfl,hH.kp (by repeat' constructor),?_⟩
  clear hS; intro a hS
  refine r_geq hS trivial rfl rfl rfl (x_boolEql trivial rfl rfl Fc.isBool4 rfl (x_assign trivial rfl rfl ?_)); clear hS; intro a hS
  refine Sq.nil (then_n (wp_ret ?_))
  exact leave (.inl rfl) hS rfl (Res.tmp rfl Res.nil) ⟨by rw [known_eq hkb hx9]; rfl,hpl.next hbv hwf1 hsl1 (hH.get (b:=sh) (by repeat' constructor)) (hH.get (b:=hb) (by repeat' constructor)) hpl.len hpl.cap hpl.take hpl.six hpl.pos hlt0 hlt1 (Nat.le_succ _) (hSS ▸ hH.mod) (hSS ▸ hVS) (hSS ▸ hRS) (.inl (.inr (.inr (.inr rfl))))⟩

end Go.Proofs.YtcjmehononbadaaDoor
namespace Go.Proofs.YtcjmehononbadaaDoor
open Go.Sym


set_option maxRecDepth 100000 in
set_option maxHeartbeats 16000000 in
theorem does4 (k2 k3 k4 nu : Int) (s : ByteArray) (va vq : Value) (la lq : List UInt8) (o : Bool) (b : Nat) (V : VB) (r : Nat) (R : RB) (ts : List Tm) (sh hb hcap : Nat) (hl : List Value) (hs : List (List UInt8)) (sv : Value) (ss : List (List UInt8)) (hk4 : -9223372036854775808≤nu∧nu≤9223372036854775807) (hs9 : s.size≤9223372036854775807) (hla : la.length≤1099511627776) (hlq : lq.length≤1099511627776) (hts : ts.length≤1000000) (hhs : hs.length≤1000000) (hss9 : ss.length≤1000000) (w0 : World) (hpl : PL w0 b V r R ts sh hb hcap hl hs sv ss) (hva : BsF (FT b V r R sh hb sv) w0 va la) (hvq : BsF (FT b V r R sh hb sv) w0 vq lq) : Calls Tryd.prog 22 #[.pointer (some ⟨sh,0,none⟩),.pointer (some ⟨b,0,none⟩),.pointer (some ⟨r,0,none⟩),.agg #[.int .i64 4,.int .i64 k2,.int .i64 k3,.int .i64 k4,.string s,.int .i64 nu,va,vq,.bool o]] w0 fun e w' => e = .returned (.bool true)∧Next w0 b V r R ts sh hb hs sv ss w':=by
 refine enter Tryd.func22 rfl rfl rfl ?_
 intro a hS
 have hH:=Hp.start w0 (Nobody)
 obtain ⟨SS,hSS⟩ : ∃ S : Nat→Prop,S = FS b V r R sh hb:=⟨_,rfl⟩
 have huq:=hpl.bv.v.ok.uq
 have htp:=hpl.tp
 have hvaS : BsF SS w0 va la:=hva.go (Mod.refl _ _) (fun x hx => .inl (.inl (hSS ▸ hx)))
 have hvqS : BsF SS w0 vq lq:=hvq.go (Mod.refl _ _) (fun x hx => .inl (.inl (hSS ▸ hx)))
 obtain ⟨x,hx⟩ : ∃ y,y = pickH hs k2:=⟨_,rfl⟩
 have hx16 : x.length = 16:=by rw [hx]; exact pickH_len hpl.six _
 obtain ⟨x0,x1,x2,x3,x4,x5,x6,x7,x8,x9,xa,xb,xc,xd,xe,xf,rfl⟩:=len16 hx16
 obtain ⟨y,hy⟩ : ∃ y,y = pickH hs k3:=⟨_,rfl⟩
 have hy16 : y.length = 16:=by rw [hy]; exact pickH_len hpl.six _
 obtain ⟨y0,y1,y2,y3,y4,y5,y6,y7,y8,y9,ya,yb,yc,yd,ye,yf,rfl⟩:=len16 hy16
 obtain ⟨z,hz⟩ : ∃ y,y = pickH hs k4:=⟨_,rfl⟩
 have hz16 : z.length = 16:=by rw [hz]; exact pickH_len hpl.six _
 obtain ⟨z0,z1,z2,z3,z4,z5,z6,z7,z8,z9,za,zb,zc,zd,ze,zf,rfl⟩:=len16 hz16
 refine c_seq (reg_plain w0 (Nobody) ?_)
 refine r_box hS hH (by repeat' constructor) rfl rfl rfl ?_
 clear hS hH; intro a w b7 hb7 hwb7 hS hH
 refine r_assign hS hH.kp0 rfl rfl ?_; clear hS; intro a hS
 refine Sq.nil (then_n ?_)
 refine c_cut (fun a w => ∃ b9 b10 b11,w0.heap.size≤b9∧w0.heap.size≤b10∧w0.heap.size≤b11∧St 298 (lv [(0,.pointer (some ⟨sh,0,none⟩)),(1,.pointer (some ⟨b,0,none⟩)),(2,.pointer (some ⟨r,0,none⟩)),(7,.pointer (some ⟨b7,0,none⟩)),(8,.bool false),(9,.pointer (some ⟨b9,0,none⟩)),(10,.pointer (some ⟨b10,0,none⟩)),(11,.pointer (some ⟨b11,0,none⟩))]) a∧Hp w0 Nobody [(b11,.cells (hcells [z0,z1,z2,z3,z4,z5,z6,z7,z8,z9,za,zb,zc,zd,ze,zf]).toArray 26 (0,0)),(b10,.cells (hcells [y0,y1,y2,y3,y4,y5,y6,y7,y8,y9,ya,yb,yc,yd,ye,yf]).toArray 26 (0,0)),(b9,.cells (hcells [x0,x1,x2,x3,x4,x5,x6,x7,x8,x9,xa,xb,xc,xd,xe,xf]).toArray 26 (0,0)),(b7,.cells ([.int .i64 4,.int .i64 k2,.int .i64 k3,.int .i64 k4,.string s,.int .i64 nu,va,vq,.bool o] : List Value).toArray 36 (0,0))] w) ?_ ?_
 ·exact does_r1 4 k2 k3 k4 nu s va vq o b V r R ts sh hb hcap hl hs sv ss [x0,x1,x2,x3,x4,x5,x6,x7,x8,x9,xa,xb,xc,xd,xe,xf] [y0,y1,y2,y3,y4,y5,y6,y7,y8,y9,ya,yb,yc,yd,ye,yf] [z0,z1,z2,z3,z4,z5,z6,z7,z8,z9,za,zb,zc,zd,ze,zf] hx rfl hy rfl hz rfl w0 hpl b7 hb7 a w (hS.live ⟨rfl,rfl,rfl,rfl,rfl,trivial⟩) hH _ (by repeat (first | with_reducible exact steady_body | with_reducible apply steady_block | with_reducible apply steady_then | with_reducible apply steady_scope | exact steady_body))
 clear hS hH; intro a w hJ; obtain ⟨b9,b10,b11,hb9,hb10,hb11,hS,hH⟩:=hJ
 refine c_seq (reg_plain w0 (Nobody) ?_)
 refine r_buildA (parts:=[]) hS hH.kp0 rfl rfl Fc.zc26 Fc.ar26 (by rfl) ?_; clear hS; intro a hS
 refine r_alloc hS hH (by repeat' constructor) Fc.zc26 rfl ?_
 clear hS hH; intro a w b12 hb12 hwb12 hS hH
 refine r_store_row hS hH rfl rfl (by repeat' constructor) (by repeat' constructor) Fc.sz26 (by first | exact hcells_one _ | exact of_decide_eq_true rfl) (by rfl) (by first | exact .inr (by assumption) | exact .inl (by first | assumption | rfl)) ?_
 clear hH; intro w hH
 refine r_assign hS hH.kp0 rfl rfl ?_; clear hS; intro a hS
 refine Sq.nil (then_n (c_seq (reg_plain w0 (Nobody) ?_)))
 refine r_buildA (parts:=[]) hS hH.kp0 rfl rfl Fc.zc25 Fc.ar25 (by rfl) ?_; clear hS; intro a hS
 refine r_alloc hS hH (by repeat' constructor) Fc.zc25 rfl ?_
 clear hS hH; intro a w b14 hb14 hwb14 hS hH
 refine r_store_row hS hH rfl rfl (by repeat' constructor) (by repeat' constructor) Fc.sz25 (by first | exact hcells_one _ | exact of_decide_eq_true rfl) (by rfl) (by first | exact .inr (by assumption) | exact .inl (by first | assumption | rfl)) ?_
 clear hH; intro w hH
 refine r_assign hS hH.kp0 rfl rfl ?_; clear hS; intro a hS
 refine Sq.nil (then_n (c_seq (c_seq (reg_plain w0 (Nobody) ?_))))
 refine r_fieldAddr hS hH.kp0 rfl Fc.fo36_0 rfl (x_load_sc hH (by repeat' constructor) rfl (by repeat' constructor) Fc.sc3 (by rfl) rfl ?_); clear hS; intro a hS
 refine Sq.nil ?_
 have hbv:=hpl.bv.ext hH.mod
 have hlb : ∀ p∈([(b14,.cells #[] 0 (0,0)),(b12,.cells #[] 0 (0,0)),(b11,.cells #[] 0 (0,0)),(b10,.cells #[] 0 (0,0)),(b9,.cells #[] 0 (0,0)),(b7,.cells #[] 0 (0,0))] : Blocks),w0.heap.size≤p.1:=by intro p hp; simp only [List.mem_cons,List.not_mem_nil,or_false] at hp; rcases hp with rfl | rfl | rfl | rfl | rfl | rfl <;> assumption
 have hshl:=lt_of_block hpl.top
 have hhbl:=lt_of_block hpl.row
 replace hH:=((hH.know (hH.mod.heap_some hpl.row (fun h => h)) (by intro p hp; simp only [List.mem_cons,List.not_mem_nil,or_false] at hp; rcases hp with rfl | rfl | rfl | rfl | rfl | rfl <;> (dsimp only; omega))).know (hH.mod.heap_some hpl.top (fun h => h)) (by intro p hp; simp only [List.mem_cons,List.not_mem_nil,or_false] at hp; rcases hp with rfl | rfl | rfl | rfl | rfl | rfl | rfl <;> (first | exact Ne.symm hpl.ne | (dsimp only; omega)))).wide (S':=SS) (fun _ h => h.elim)
 have hVS : ∀ x,V.F b x→SS x∨w0.heap.size≤x:=fun x hx => .inl (by rw [hSS]; exact .inl hx)
 have hRS : ∀ x,R.F r x→SS x∨w0.heap.size≤x:=fun x hx => .inl (by rw [hSS]; exact .inr (.inl hx))
 clear hlb
 refine then_n (wp_block (c_seq (reg_plain w0 (SS) ?_)))
 refine r_eql hS hH.kp0 rfl rfl rfl (x_assign hH.kp0 rfl rfl ?_); clear hS; intro a hS
 refine Sq.nil (then_n (c_condF hS rfl rfl (c_seq (reg_plain w0 (SS) ?_))))
 refine r_eql hS hH.kp0 rfl rfl rfl (x_assign hH.kp0 rfl rfl ?_); clear hS; intro a hS
 refine Sq.nil (then_n (c_condF hS rfl rfl (c_seq (reg_plain w0 (SS) ?_))))
 refine r_eql hS hH.kp0 rfl rfl rfl (x_assign hH.kp0 rfl rfl ?_); clear hS; intro a hS
 refine Sq.nil (then_n (c_condF hS rfl rfl (c_seq (reg_plain w0 (SS) ?_))))
 refine r_eql hS hH.kp0 rfl rfl rfl (x_assign hH.kp0 rfl rfl ?_); clear hS; intro a hS
 refine Sq.nil (then_n (c_condF hS rfl rfl (c_seq (reg_plain w0 (SS) ?_))))
 refine r_eql hS hH.kp0 rfl rfl rfl (x_assign hH.kp0 rfl rfl ?_); clear hS; intro a hS
 refine Sq.nil (then_n (c_condT hS rfl rfl (c_seq (reg_plain w0 (SS) ?_))))
 refine r_move hS hH.kp0 rfl rfl (x_load_row hH (by repeat' constructor) rfl (by repeat' constructor) Fc.ag26 (by rfl) rfl (x_fieldAddr hH.kp0 rfl Fc.fo36_7 rfl (x_load_sc hH (by repeat' constructor) rfl (by repeat' constructor) Fc.sc22 (by rfl) rfl ?_))); clear hS; intro a hS
 refine r_call (l:=[.tmp 102,.tmp 103,.tmp 105]) hS rfl rfl Fc.fn15 rfl ?_
 refine Calls.mono (Sign_v b V ts [x0,x1,x2,x3,x4,x5,x6,x7,x8,x9,xa,xb,xc,xd,xe,xf] rfl _ lq (by omega) (by omega) _ hbv.v (hvqS.go hH.mod hVS)) ?_
 rintro e w1 ⟨h1,e1,V1,ts1,rfl,hvi1,hst1,hof1⟩
 have hp16:=hof1.len
 obtain ⟨p0,p1,p2,p3,p4,p5,p6,p7,p8,p9,pa,pb,pc,pd,pe,pf,rfl⟩:=len16 hp16
 have hq:=hH.callV hbv hst1 (by repeat (first | exact Clear.nil _ | refine Clear.cons (by decide) ?_)) hVS
 clear hH hVS
 obtain ⟨hH,hVS⟩:=hq
 replace hbv:=hbv.callV hvi1 hst1
 refine ⟨_,rfl,hH.kp0,?_⟩
 clear hS; intro a hS
 refine r_move hS hH.kp0 rfl rfl (x_extract hH.kp0 rfl rfl rfl (x_extract hH.kp0 rfl rfl rfl ?_)); clear hS; intro a hS
 have hcb12:=hH.get (b:=b12) (o:=.cells ([.int .u8 0,.int .u8 0,.int .u8 0,.int .u8 0,.int .u8 0,.int .u8 0,.int .u8 0,.int .u8 0,.int .u8 0,.int .u8 0,.int .u8 0,.int .u8 0,.int .u8 0,.int .u8 0,.int .u8 0,.int .u8 0] : List Value).toArray 26 (0,0)) (by repeat' constructor)
 refine r_store_rowM hS hH rfl rfl (by repeat' constructor) (by repeat' constructor) Fc.sz26 (by first | exact hcells_one _ | exact of_decide_eq_true rfl) (by rfl) (.inr (by assumption)) ?_
 clear hH; intro w hMb12 hH
 replace hbv:=hbv.put hMb12 hcb12 (by decide)
 refine r_assign hS hH.kp0 rfl rfl ?_; clear hS; intro a hS
 refine Sq.nil (then_n (reg_plain w0 (SS) ?_))
 refine r_move hS hH.kp0 rfl rfl (x_load_row hH (by repeat' constructor) rfl (by repeat' constructor) Fc.ag26 (by rfl) rfl (x_fieldAddr hH.kp0 rfl Fc.fo36_7 rfl (x_load_sc hH (by repeat' constructor) rfl (by repeat' constructor) Fc.sc22 (by rfl) rfl ?_))); clear hS; intro a hS
 refine r_call (l:=[.tmp 110,.tmp 111,.tmp 113]) hS rfl rfl Fc.fn37 rfl ?_
 refine Calls.mono (rSign_c r R ts [x0,x1,x2,x3,x4,x5,x6,x7,x8,x9,xa,xb,xc,xd,xe,xf] rfl _ lq (by omega) (by omega) _ hbv.r (hvqS.go hH.mod hRS)) ?_
 rintro e w1 ⟨h2,e2,R1,ts2,rfl,hri1,hst2,hof2⟩
 obtain ⟨hq1,hq2,hq3⟩:=hof1.det huq (by omega) hof2
 subst hq1 hq2 hq3
 have hq:=hH.callR hbv hst2 (by repeat (first | exact Clear.nil _ | refine Clear.cons (by decide) ?_)) hRS
 clear hH hRS
 obtain ⟨hH,hRS⟩:=hq
 replace hbv:=hbv.callR hri1 hst2
 have hlt0:=hof1.lens.1
 have hlt1:=hof1.lens.2
 have hwf1:=hof1.wf6 hpl.wf rfl (by show (strOf lq).size≤_; rw [show (strOf lq).size = lq.length from by simp [strOf,ByteArray.size]]; exact hlq)
 have hsl1:=hof1.sel6 hpl.sel (by show (5 : Int)≠6; decide)
 refine ⟨_,rfl,hH.kp0,?_⟩
 clear hS; intro a hS
 refine r_move hS hH.kp0 rfl rfl (x_extract hH.kp0 rfl rfl rfl (x_extract hH.kp0 rfl rfl rfl ?_)); clear hS; intro a hS
 have hcb14:=hH.get (b:=b14) (o:=.cells ([.int .u8 0,.int .u8 0,.int .u8 0,.int .u8 0,.int .u8 0,.int .u8 0,.int .u8 0,.int .u8 0,.int .u8 0,.int .u8 0,.int .u8 0,.int .u8 0,.int .u8 0,.int .u8 0,.int .u8 0,.int .u8 0] : List Value).toArray 25 (0,0)) (by repeat' constructor)
 refine r_store_rowM hS hH rfl rfl (by repeat' constructor) (by repeat' constructor) Fc.sz25 (by first | exact hcells_one _ | exact of_decide_eq_true rfl) (by rfl) (.inr (by assumption)) ?_
 clear hH; intro w hMb14 hH
 replace hbv:=hbv.put hMb14 hcb14 (by decide)
 refine r_assign hS hH.kp0 rfl rfl ?_; clear hS; intro a hS
 refine Sq.nil (blk_n (then_n (c_seq (c_seq (reg_plain w0 (SS) ?_)))))
 refine r_load_row hS hH (by repeat' constructor) rfl (by repeat' constructor) Fc.ag26 (by rfl) rfl (x_load_row hH (by repeat' constructor) rfl (by repeat' constructor) Fc.ag25 (by rfl) rfl (x_arrNeq (h:=[p0,p1,p2,p3,p4,p5,p6,p7,p8,p9,pa,pb,pc,pd,pe,pf]) (g:=[p0,p1,p2,p3,p4,p5,p6,p7,p8,p9,pa,pb,pc,pd,pe,pf]) Fc.arrH hH.kp0 rfl rfl rfl rfl rfl (x_move hH.kp0 rfl rfl ?_))); clear hS; intro a hS
 refine Sq.guardYes hS rfl rfl (by rw [decide_eq_true rfl]; rfl) ?_
 refine r_move hS hH.kp0 rfl rfl ?_; clear hS; intro a hS
 refine Sq.guardYes hS rfl rfl (by rw [decide_eq_true rfl]; rfl) ?_
 refine r_move hS hH.kp0 rfl rfl ?_; clear hS; intro a hS
 refine Sq.guardYes hS rfl rfl (by rw [decide_eq_true rfl]; rfl) ?_
 refine r_neq hS hH.kp0 rfl rfl rfl ?_; clear hS; intro a hS
 refine r_pickF hS hH.kp0 rfl (by rw [decide_eq_true rfl]; rfl) rfl rfl ?_; clear hS; intro a hS
 refine Sq.nil (then_n ?_)
 refine c_condF hS rfl (bne_self_eq_false _) ?_
 refine wp_skip (then_n (c_seq (c_seq (reg_plain w0 (SS) ?_))))
 refine r_load_row hS hH (by repeat' constructor) rfl (by repeat' constructor) Fc.ag26 (by rfl) rfl (x_buildA (parts:=[]) hH.kp0 rfl rfl Fc.zc26 Fc.ar26 (by rfl) (x_arrNeq (h:=[p0,p1,p2,p3,p4,p5,p6,p7,p8,p9,pa,pb,pc,pd,pe,pf]) (g:=zH) Fc.arrH hH.kp0 rfl rfl rfl rfl rfl ?_)); clear hS; intro a hS
 refine Sq.nil (then_n ?_)
 refine c_cond hS rfl (fun hc14 => ?_) (fun hc14 => ?_)
 ·refine reg_draw [(true,0,[0,1]),(true,1,[0,1]),(true,2,[0,1]),(true,3,[0,1]),(true,4,[1]),(true,5,[0,1]),(false,6,[]),(false,7,[1]),(true,8,[0,1]),(true,9,[0,1]),(false,10,[0,1])] Fc.mixed (by kernel_rfl) (by kernel_rfl) (by kernel_rfl) (by kernel_rfl) (by kernel_rfl) (by repeat (first | with_reducible exact steady_body | with_reducible apply steady_block | with_reducible apply steady_then | with_reducible apply steady_scope | exact steady_body)) hH ?_
  replace hH:=hH.drew
  replace hbv:=hbv.ext (Ext.drew _)
  refine r_move hS trivial rfl rfl (x_move trivial rfl rfl (x_nilCheck trivial rfl rfl (x_fieldAddr trivial rfl Fc.fo59_0 rfl (x_load_scS rfl (by repeat' constructor) Fc.sc57 (by rfl) rfl (x_load_rowS rfl (by repeat' constructor) Fc.ag26 (by rfl) rfl ?_))))); clear hS; intro a hS
  refine r_buildSliceW (parts:=[(0,.tmp 285)]) hS hH (by repeat' constructor) rfl Fc.bsl57_1 (by rfl) rfl ?_
  clear hS hH; intro a w b286 hb286 hwb286 hE44 hS hH
  replace hbv:=hbv.ext hE44
  have hc44:=hH.get (b:=hb) (o:=.cells hl.toArray 26 (0,0)) (by repeat' constructor)
  refine r_append_own hS hH rfl rfl (by repeat' constructor) (by repeat' constructor) Fc.elH Fc.niH hpl.len hpl.cap (Src.hnd (h:=[p0,p1,p2,p3,p4,p5,p6,p7,p8,p9,pa,pb,pc,pd,pe,pf]) (hH.get .here) rfl) (by omega) (.inl (by rw [hSS]; exact .inr (.inr (.inr rfl)))) rfl ?_
  clear hS hH; intro a w hb1 hcap1 hl1 hhb1 hlen1 hcp1 htk1 hmm hS hH
  replace hbv:=hbv.put hmm hc44 (by decide)
  refine r_nilCheck hS trivial rfl rfl (x_fieldAddr trivial rfl Fc.fo59_0 rfl ?_); clear hS; intro a hS
  have hc45:=hH.get (b:=sh) (o:=.cells ([.slice (some ⟨hb,0,none⟩) hs.length hcap,sv] : List Value).toArray 59 (0,0)) (by repeat' constructor)
  refine r_store1M hS hH rfl rfl rfl (by repeat' constructor) (by repeat' constructor) Fc.sz57 (of_decide_eq_true rfl) (.inl (by rw [hSS]; exact .inr (.inr (.inl rfl)))) ?_
  clear hH; intro w hM45 hH
  replace hbv:=hbv.put hM45 hc45 (by decide)
  refine Sq.nil (then_n (c_seq ?_))
  refine reg_draw [(true,0,[]),(true,1,[]),(true,3,[]),(true,4,[]),(false,2,[]),(false,5,[]),(true,6,[]),(true,7,[]),(true,8,[])] Fc.mixed (by kernel_rfl) (by kernel_rfl) (by kernel_rfl) (by kernel_rfl) (by kernel_rfl) (by repeat (first | with_reducible exact steady_body | with_reducible apply steady_block | with_reducible apply steady_then | with_reducible apply steady_scope | exact steady_body)) hH ?_
  replace hH:=hH.drew
  replace hbv:=hbv.ext (Ext.drew _)
  refine r_move hS trivial rfl rfl (x_load_rowS rfl (by repeat' constructor) Fc.ag26 (by rfl) rfl (x_move trivial rfl rfl (x_load_rowS rfl (by repeat' constructor) Fc.ag26 (by rfl) rfl ?_))); clear hS; intro a hS
  refine r_call (l:=[.tmp 290,.tmp 291]) hS rfl rfl Fc.fn18 rfl ?_
  refine Calls.mono (Known_v b V1 ts1 [x0,x1,x2,x3,x4,x5,x6,x7,x8,x9,xa,xb,xc,xd,xe,xf] rfl _ hbv.v) ?_
  rintro e w1 ⟨kb,rfl,hkb,hE⟩
  replace hH:=hH.ext hE
  replace hbv:=hbv.ext hE
  refine ⟨_,rfl,hH.kp (by repeat' constructor),?_⟩
  clear hS; intro a hS
  refine r_call (l:=[.tmp 293,.tmp 294]) hS rfl rfl Fc.fn46 rfl ?_
  refine Calls.mono (rOf_c r R1 ts1 [x0,x1,x2,x3,x4,x5,x6,x7,x8,x9,xa,xb,xc,xd,xe,xf] rfl (by omega) _ hbv.r) ?_
  rintro e w1 ⟨x9,rfl,hx9,hE⟩
  replace hH:=hH.ext hE
  replace hbv:=hbv.ext hE
  refine ⟨_,rfl,hH.kp (by repeat' constructor),?_⟩
  clear hS; intro a hS
  refine r_geq hS trivial rfl rfl rfl (x_boolEql trivial rfl rfl Fc.isBool4 rfl (x_assign trivial rfl rfl ?_)); clear hS; intro a hS
  refine Sq.nil (then_n (wp_ret ?_))
  have hln9 : (hs++[[p0,p1,p2,p3,p4,p5,p6,p7,p8,p9,pa,pb,pc,pd,pe,pf]]).length = hs.length + 1:=by rw [List.length_append]; rfl
  refine leave (.inl rfl) hS rfl (Res.tmp rfl Res.nil) ⟨by rw [known_eq hkb hx9]; rfl,hpl.next (hs':=hs++[[p0,p1,p2,p3,p4,p5,p6,p7,p8,p9,pa,pb,pc,pd,pe,pf]]) hbv hwf1 hsl1 (by rw [hln9]; exact hH.get (b:=sh) (by repeat' constructor)) (hH.get (b:=hb1) (by repeat' constructor)) hlen1 (by rw [hln9]; exact hcp1) (by rw [hln9,htk1,hpl.take]; simp) (by intro h hh; rcases List.mem_append.1 hh with hh | hh; exact hpl.six h hh; rw [List.mem_singleton.1 hh]; rfl) (by rw [hln9]; exact Nat.succ_pos _) hlt0 hlt1 (by rw [hln9]; exact Nat.le_refl _) (hSS ▸ hH.mod) (hSS ▸ hVS) (hSS ▸ hRS) (hSS ▸ hhb1)⟩
 ·refine wp_skip (then_n (c_seq ?_))
  refine reg_draw [(true,0,[]),(true,1,[]),(true,3,[]),(true,4,[]),(false,2,[]),(false,5,[]),(true,6,[]),(true,7,[]),(true,8,[])] Fc.mixed (by kernel_rfl) (by kernel_rfl) (by kernel_rfl) (by kernel_rfl) (by kernel_rfl) (by repeat (first | with_reducible exact steady_body | with_reducible apply steady_block | with_reducible apply steady_then | with_reducible apply steady_scope | exact steady_body)) hH ?_
  replace hH:=hH.drew
  replace hbv:=hbv.ext (Ext.drew _)
  refine r_move hS trivial rfl rfl (x_load_rowS rfl (by repeat' constructor) Fc.ag26 (by rfl) rfl (x_move trivial rfl rfl (x_load_rowS rfl (by repeat' constructor) Fc.ag26 (by rfl) rfl ?_))); clear hS; intro a hS
  refine r_call (l:=[.tmp 290,.tmp 291]) hS rfl rfl Fc.fn18 rfl ?_
  refine Calls.mono (Known_v b V1 ts1 [x0,x1,x2,x3,x4,x5,x6,x7,x8,x9,xa,xb,xc,xd,xe,xf] rfl _ hbv.v) ?_
  rintro e w1 ⟨kb,rfl,hkb,hE⟩
  replace hH:=hH.ext hE
  replace hbv:=hbv.ext hE
  refine ⟨_,rfl,hH.kp (by repeat' constructor),?_⟩
  clear hS; intro a hS
  refine r_call (l:=[.tmp 293,.tmp 294]) hS rfl rfl Fc.fn46 rfl ?_
  refine Calls.mono (rOf_c r R1 ts1 [x0,x1,x2,x3,x4,x5,x6,x7,x8,x9,xa,xb,xc,xd,xe,xf] rfl (by omega) _ hbv.r) ?_
  rintro e w1 ⟨x9,rfl,hx9,hE⟩
  replace hH:=hH.ext hE
  replace hbv:=hbv.ext hE
  refine ⟨_,rfl,hH.kp (by repeat' constructor),?_⟩
  clear hS; intro a hS
  refine r_geq hS trivial rfl rfl rfl (x_boolEql trivial rfl rfl Fc.isBool4 rfl (x_assign trivial rfl rfl ?_)); clear hS; intro a hS
  refine Sq.nil (then_n (wp_ret ?_))
  exact leave (.inl rfl) hS rfl (Res.tmp rfl Res.nil) ⟨by rw [known_eq hkb hx9]; rfl,hpl.next hbv hwf1 hsl1 (hH.get (b:=sh) (by repeat' constructor)) (hH.get (b:=hb) (by repeat' constructor)) hpl.len hpl.cap hpl.take hpl.six hpl.pos hlt0 hlt1 (Nat.le_succ _) (hSS ▸ hH.mod) (hSS ▸ hVS) (hSS ▸ hRS) (.inl (.inr (.inr (.inr rfl))))⟩

end Go.Proofs.YtcjmehononbadaaDoor
