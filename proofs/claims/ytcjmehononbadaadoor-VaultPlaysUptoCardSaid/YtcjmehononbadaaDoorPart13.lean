/- Two vaults under any calls answer alike. Part Part13: walks and lemmas of the proof. -/
import Derived.Test.YtcjmehononbadaaDoorPart11
import Derived.Test.YtcjmehononbadaaDoorSym6
namespace Go.Proofs.YtcjmehononbadaaDoor
open Go.Sym


set_option maxRecDepth 100000 in
set_option maxHeartbeats 16000000 in
theorem does5 (k2 k3 k4 nu : Int) (s : ByteArray) (va vq : Value) (la lq : List UInt8) (o : Bool) (b : Nat) (V : VB) (r : Nat) (R : RB) (ts : List Tm) (sh hb hcap : Nat) (hl : List Value) (hs : List (List UInt8)) (sv : Value) (ss : List (List UInt8)) (hk4 : -9223372036854775808≤nu∧nu≤9223372036854775807) (hs9 : s.size≤9223372036854775807) (hla : la.length≤1099511627776) (hlq : lq.length≤1099511627776) (hts : ts.length≤1000000) (hhs : hs.length≤1000000) (hss9 : ss.length≤1000000) (w0 : World) (hpl : PL w0 b V r R ts sh hb hcap hl hs sv ss) (hva : BsF (FT b V r R sh hb sv) w0 va la) (hvq : BsF (FT b V r R sh hb sv) w0 vq lq) : Calls Tryd.prog 22 #[.pointer (some ⟨sh,0,none⟩),.pointer (some ⟨b,0,none⟩),.pointer (some ⟨r,0,none⟩),.agg #[.int .i64 5,.int .i64 k2,.int .i64 k3,.int .i64 k4,.string s,.int .i64 nu,va,vq,.bool o]] w0 fun e w' => e = .returned (.bool true)∧Next w0 b V r R ts sh hb hs sv ss w':=by
 refine enter Tryd.func22 rfl rfl rfl ?_
 intro a hS
 have hH:=Hp.start w0 (Nobody)
 obtain ⟨SS,hSS⟩ : ∃ S : Nat→Prop,S = FS b V r R sh hb:=⟨_,rfl⟩
 have huq:=hpl.bv.v.ok.uq
 have htp:=hpl.tp
 have hvaS : BsF SS w0 va la:=hva.go (Mod.refl _ _) (fun x hx => .inl (.inl (hSS ▸ hx)))
 have hvqS : BsF SS w0 vq lq:=hvq.go (Mod.refl _ _) (fun x hx => .inl (.inl (hSS ▸ hx)))
 obtain ⟨x,hx⟩ : ∃ y,y = pickH hs k2:=⟨_,rfl⟩
 have hx16 : x.length = 16:=by rw [hx]; exact pickH_len hpl.six _
 obtain ⟨x0,x1,x2,x3,x4,x5,x6,x7,x8,x9,xa,xb,xc,xd,xe,xf,rfl⟩:=len16 hx16
 obtain ⟨y,hy⟩ : ∃ y,y = pickH hs k3:=⟨_,rfl⟩
 have hy16 : y.length = 16:=by rw [hy]; exact pickH_len hpl.six _
 obtain ⟨y0,y1,y2,y3,y4,y5,y6,y7,y8,y9,ya,yb,yc,yd,ye,yf,rfl⟩:=len16 hy16
 obtain ⟨z,hz⟩ : ∃ y,y = pickH hs k4:=⟨_,rfl⟩
 have hz16 : z.length = 16:=by rw [hz]; exact pickH_len hpl.six _
 obtain ⟨z0,z1,z2,z3,z4,z5,z6,z7,z8,z9,za,zb,zc,zd,ze,zf,rfl⟩:=len16 hz16
 refine c_seq (reg_plain w0 (Nobody) ?_)
 refine r_box hS hH (by repeat' constructor) rfl rfl rfl ?_
 clear hS hH; intro a w b7 hb7 hwb7 hS hH
 refine r_assign hS hH.kp0 rfl rfl ?_; clear hS; intro a hS
 refine Sq.nil (then_n ?_)
 refine c_cut (fun a w => ∃ b9 b10 b11,w0.heap.size≤b9∧w0.heap.size≤b10∧w0.heap.size≤b11∧St 298 (lv [(0,.pointer (some ⟨sh,0,none⟩)),(1,.pointer (some ⟨b,0,none⟩)),(2,.pointer (some ⟨r,0,none⟩)),(7,.pointer (some ⟨b7,0,none⟩)),(8,.bool false),(9,.pointer (some ⟨b9,0,none⟩)),(10,.pointer (some ⟨b10,0,none⟩)),(11,.pointer (some ⟨b11,0,none⟩))]) a∧Hp w0 Nobody [(b11,.cells (hcells [z0,z1,z2,z3,z4,z5,z6,z7,z8,z9,za,zb,zc,zd,ze,zf]).toArray 26 (0,0)),(b10,.cells (hcells [y0,y1,y2,y3,y4,y5,y6,y7,y8,y9,ya,yb,yc,yd,ye,yf]).toArray 26 (0,0)),(b9,.cells (hcells [x0,x1,x2,x3,x4,x5,x6,x7,x8,x9,xa,xb,xc,xd,xe,xf]).toArray 26 (0,0)),(b7,.cells ([.int .i64 5,.int .i64 k2,.int .i64 k3,.int .i64 k4,.string s,.int .i64 nu,va,vq,.bool o] : List Value).toArray 36 (0,0))] w) ?_ ?_
 ·exact does_r1 5 k2 k3 k4 nu s va vq o b V r R ts sh hb hcap hl hs sv ss [x0,x1,x2,x3,x4,x5,x6,x7,x8,x9,xa,xb,xc,xd,xe,xf] [y0,y1,y2,y3,y4,y5,y6,y7,y8,y9,ya,yb,yc,yd,ye,yf] [z0,z1,z2,z3,z4,z5,z6,z7,z8,z9,za,zb,zc,zd,ze,zf] hx rfl hy rfl hz rfl w0 hpl b7 hb7 a w (hS.live ⟨rfl,rfl,rfl,rfl,rfl,trivial⟩) hH _ (by repeat (first | with_reducible exact steady_body | with_reducible apply steady_block | with_reducible apply steady_then | with_reducible apply steady_scope | exact steady_body))
 clear hS hH; intro a w hJ; obtain ⟨b9,b10,b11,hb9,hb10,hb11,hS,hH⟩:=hJ
 refine c_seq (reg_plain w0 (Nobody) ?_)
 refine r_buildA (parts:=[]) hS hH.kp0 rfl rfl Fc.zc26 Fc.ar26 (by rfl) ?_; clear hS; intro a hS
 refine r_alloc hS hH (by repeat' constructor) Fc.zc26 rfl ?_
 clear hS hH; intro a w b12 hb12 hwb12 hS hH
 refine r_store_row hS hH rfl rfl (by repeat' constructor) (by repeat' constructor) Fc.sz26 (by first | exact hcells_one _ | exact of_decide_eq_true rfl) (by rfl) (by first | exact .inr (by assumption) | exact .inl (by first | assumption | rfl)) ?_
 clear hH; intro w hH
 refine r_assign hS hH.kp0 rfl rfl ?_; clear hS; intro a hS
 refine Sq.nil (then_n (c_seq (reg_plain w0 (Nobody) ?_)))
 refine r_buildA (parts:=[]) hS hH.kp0 rfl rfl Fc.zc25 Fc.ar25 (by rfl) ?_; clear hS; intro a hS
 refine r_alloc hS hH (by repeat' constructor) Fc.zc25 rfl ?_
 clear hS hH; intro a w b14 hb14 hwb14 hS hH
 refine r_store_row hS hH rfl rfl (by repeat' constructor) (by repeat' constructor) Fc.sz25 (by first | exact hcells_one _ | exact of_decide_eq_true rfl) (by rfl) (by first | exact .inr (by assumption) | exact .inl (by first | assumption | rfl)) ?_
 clear hH; intro w hH
 refine r_assign hS hH.kp0 rfl rfl ?_; clear hS; intro a hS
 refine Sq.nil (then_n (c_seq (c_seq (reg_plain w0 (Nobody) ?_))))
 refine r_fieldAddr hS hH.kp0 rfl Fc.fo36_0 rfl (x_load_sc hH (by repeat' constructor) rfl (by repeat' constructor) Fc.sc3 (by rfl) rfl ?_); clear hS; intro a hS
 refine Sq.nil ?_
 have hbv:=hpl.bv.ext hH.mod
 have hlb : ∀ p∈([(b14,.cells #[] 0 (0,0)),(b12,.cells #[] 0 (0,0)),(b11,.cells #[] 0 (0,0)),(b10,.cells #[] 0 (0,0)),(b9,.cells #[] 0 (0,0)),(b7,.cells #[] 0 (0,0))] : Blocks),w0.heap.size≤p.1:=by intro p hp; simp only [List.mem_cons,List.not_mem_nil,or_false] at hp; rcases hp with rfl | rfl | rfl | rfl | rfl | rfl <;> assumption
 have hshl:=lt_of_block hpl.top
 have hhbl:=lt_of_block hpl.row
 replace hH:=((hH.know (hH.mod.heap_some hpl.row (fun h => h)) (by intro p hp; simp only [List.mem_cons,List.not_mem_nil,or_false] at hp; rcases hp with rfl | rfl | rfl | rfl | rfl | rfl <;> (dsimp only; omega))).know (hH.mod.heap_some hpl.top (fun h => h)) (by intro p hp; simp only [List.mem_cons,List.not_mem_nil,or_false] at hp; rcases hp with rfl | rfl | rfl | rfl | rfl | rfl | rfl <;> (first | exact Ne.symm hpl.ne | (dsimp only; omega)))).wide (S':=SS) (fun _ h => h.elim)
 have hVS : ∀ x,V.F b x→SS x∨w0.heap.size≤x:=fun x hx => .inl (by rw [hSS]; exact .inl hx)
 have hRS : ∀ x,R.F r x→SS x∨w0.heap.size≤x:=fun x hx => .inl (by rw [hSS]; exact .inr (.inl hx))
 clear hlb
 refine then_n (wp_block (c_seq (reg_plain w0 (SS) ?_)))
 refine r_eql hS hH.kp0 rfl rfl rfl (x_assign hH.kp0 rfl rfl ?_); clear hS; intro a hS
 refine Sq.nil (then_n (c_condF hS rfl rfl (c_seq (reg_plain w0 (SS) ?_))))
 refine r_eql hS hH.kp0 rfl rfl rfl (x_assign hH.kp0 rfl rfl ?_); clear hS; intro a hS
 refine Sq.nil (then_n (c_condF hS rfl rfl (c_seq (reg_plain w0 (SS) ?_))))
 refine r_eql hS hH.kp0 rfl rfl rfl (x_assign hH.kp0 rfl rfl ?_); clear hS; intro a hS
 refine Sq.nil (then_n (c_condF hS rfl rfl (c_seq (reg_plain w0 (SS) ?_))))
 refine r_eql hS hH.kp0 rfl rfl rfl (x_assign hH.kp0 rfl rfl ?_); clear hS; intro a hS
 refine Sq.nil (then_n (c_condF hS rfl rfl (c_seq (reg_plain w0 (SS) ?_))))
 refine r_eql hS hH.kp0 rfl rfl rfl (x_assign hH.kp0 rfl rfl ?_); clear hS; intro a hS
 refine Sq.nil (then_n (c_condF hS rfl rfl (c_seq (reg_plain w0 (SS) ?_))))
 refine r_eql hS hH.kp0 rfl rfl rfl (x_assign hH.kp0 rfl rfl ?_); clear hS; intro a hS
 refine Sq.nil (then_n (c_condT hS rfl rfl (c_seq (reg_plain w0 (SS) ?_))))
 refine r_move hS hH.kp0 rfl rfl (x_load_row hH (by repeat' constructor) rfl (by repeat' constructor) Fc.ag26 (by rfl) rfl (x_fieldAddr hH.kp0 rfl Fc.fo36_7 rfl (x_load_sc hH (by repeat' constructor) rfl (by repeat' constructor) Fc.sc22 (by rfl) rfl (x_load_row hH (by repeat' constructor) rfl (by repeat' constructor) Fc.ag26 (by rfl) rfl ?_)))); clear hS; intro a hS
 refine r_call (l:=[.tmp 119,.tmp 120,.tmp 122,.tmp 123]) hS rfl rfl Fc.fn17 rfl ?_
 refine Calls.mono (Verify_c b V ts [x0,x1,x2,x3,x4,x5,x6,x7,x8,x9,xa,xb,xc,xd,xe,xf] rfl [z0,z1,z2,z3,z4,z5,z6,z7,z8,z9,za,zb,zc,zd,ze,zf] rfl _ lq (by omega) (by omega) _ hbv.v (hvqS.go (F':=Nobody) hH.mod (fun _ h => h.elim)).bs) ?_
 rintro e w1 ⟨e1,rfl,hve1,hE⟩
 replace hH:=hH.ext hE
 replace hbv:=hbv.ext hE
 refine ⟨_,rfl,hH.kp0,?_⟩
 clear hS; intro a hS
 refine r_assign hS hH.kp0 rfl rfl ?_; clear hS; intro a hS
 refine Sq.nil (then_n (reg_plain w0 (SS) ?_))
 refine r_move hS hH.kp0 rfl rfl (x_load_row hH (by repeat' constructor) rfl (by repeat' constructor) Fc.ag26 (by rfl) rfl (x_fieldAddr hH.kp0 rfl Fc.fo36_7 rfl (x_load_sc hH (by repeat' constructor) rfl (by repeat' constructor) Fc.sc22 (by rfl) rfl (x_load_row hH (by repeat' constructor) rfl (by repeat' constructor) Fc.ag26 (by rfl) rfl ?_)))); clear hS; intro a hS
 refine r_call (l:=[.tmp 125,.tmp 126,.tmp 128,.tmp 129]) hS rfl rfl Fc.fn38 rfl ?_
 refine Calls.mono (rVerify_c r R ts [x0,x1,x2,x3,x4,x5,x6,x7,x8,x9,xa,xb,xc,xd,xe,xf] rfl [z0,z1,z2,z3,z4,z5,z6,z7,z8,z9,za,zb,zc,zd,ze,zf] rfl _ lq (by omega) (by omega) _ hbv.r (hvqS.go (F':=Nobody) hH.mod (fun _ h => h.elim)).bs) ?_
 rintro e w1 ⟨e2,rfl,hve2,hE⟩
 replace hH:=hH.ext hE
 replace hbv:=hbv.ext hE
 have hq2:=hve1.det (by omega) hve2
 subst hq2
 refine ⟨_,rfl,hH.kp0,?_⟩
 clear hS; intro a hS
 refine r_assign hS hH.kp0 rfl rfl ?_; clear hS; intro a hS
 refine Sq.nil (blk_n (then_n (c_seq (c_seq (reg_plain w0 (SS) ?_)))))
 refine r_load_row hS hH (by repeat' constructor) rfl (by repeat' constructor) Fc.ag26 (by rfl) rfl (x_load_row hH (by repeat' constructor) rfl (by repeat' constructor) Fc.ag25 (by rfl) rfl (x_arrNeq (h:=zH) (g:=zH) Fc.arrH hH.kp0 rfl rfl rfl rfl rfl (x_move hH.kp0 rfl rfl ?_))); clear hS; intro a hS
 refine Sq.guardYes hS rfl rfl (by rw [decide_eq_true rfl]; rfl) ?_
 refine r_move hS hH.kp0 rfl rfl ?_; clear hS; intro a hS
 refine Sq.guardYes hS rfl rfl (by rw [decide_eq_true rfl]; rfl) ?_
 refine r_move hS hH.kp0 rfl rfl ?_; clear hS; intro a hS
 refine Sq.guardYes hS rfl rfl (by rw [decide_eq_true rfl]; rfl) ?_
 refine r_neq hS hH.kp0 rfl rfl rfl ?_; clear hS; intro a hS
 refine r_pickF hS hH.kp0 rfl (by rw [decide_eq_true rfl]; rfl) rfl rfl ?_; clear hS; intro a hS
 refine Sq.nil (then_n ?_)
 refine c_condF hS rfl (bne_self_eq_false _) ?_
 refine wp_skip (then_n (c_seq (c_seq (reg_plain w0 (SS) ?_))))
 refine r_load_row hS hH (by repeat' constructor) rfl (by repeat' constructor) Fc.ag26 (by rfl) rfl (x_buildA (parts:=[]) hH.kp0 rfl rfl Fc.zc26 Fc.ar26 (by rfl) (x_arrNeq (h:=zH) (g:=zH) Fc.arrH hH.kp0 rfl rfl rfl rfl rfl ?_)); clear hS; intro a hS
 refine Sq.nil (then_n ?_)
 refine c_condF hS rfl (by rw [decide_eq_true rfl]; rfl) ?_
 refine wp_skip (then_n (c_seq ?_))
 refine reg_draw [(true,0,[]),(true,1,[]),(true,3,[]),(true,4,[]),(false,2,[]),(false,5,[]),(true,6,[]),(true,7,[]),(true,8,[])] Fc.mixed (by kernel_rfl) (by kernel_rfl) (by kernel_rfl) (by kernel_rfl) (by kernel_rfl) (by repeat (first | with_reducible exact steady_body | with_reducible apply steady_block | with_reducible apply steady_then | with_reducible apply steady_scope | exact steady_body)) hH ?_
 replace hH:=hH.drew
 replace hbv:=hbv.ext (Ext.drew _)
 refine r_move hS trivial rfl rfl (x_load_rowS rfl (by repeat' constructor) Fc.ag26 (by rfl) rfl (x_move trivial rfl rfl (x_load_rowS rfl (by repeat' constructor) Fc.ag26 (by rfl) rfl ?_))); clear hS; intro a hS
 refine r_call (l:=[.tmp 290,.tmp 291]) hS rfl rfl Fc.fn18 rfl ?_
 refine Calls.mono (Known_v b V ts [x0,x1,x2,x3,x4,x5,x6,x7,x8,x9,xa,xb,xc,xd,xe,xf] rfl _ hbv.v) ?_
 rintro e w1 ⟨kb,rfl,hkb,hE⟩
 replace hH:=hH.ext hE
 replace hbv:=hbv.ext hE
 refine ⟨_,rfl,hH.kp (by repeat' constructor),?_⟩
 clear hS; intro a hS
 refine r_call (l:=[.tmp 293,.tmp 294]) hS rfl rfl Fc.fn46 rfl ?_
 refine Calls.mono (rOf_c r R ts [x0,x1,x2,x3,x4,x5,x6,x7,x8,x9,xa,xb,xc,xd,xe,xf] rfl (by omega) _ hbv.r) ?_
 rintro e w1 ⟨x9,rfl,hx9,hE⟩
 replace hH:=hH.ext hE
 replace hbv:=hbv.ext hE
 refine ⟨_,rfl,hH.kp (by repeat' constructor),?_⟩
 clear hS; intro a hS
 refine r_geq hS trivial rfl rfl rfl (x_boolEql trivial rfl rfl Fc.isBool4 rfl (x_assign trivial rfl rfl ?_)); clear hS; intro a hS
 refine Sq.nil (then_n (wp_ret ?_))
 exact leave (.inl rfl) hS rfl (Res.tmp rfl Res.nil) ⟨by rw [known_eq hkb hx9]; rfl,hpl.next hbv hpl.wf hpl.sel (hH.get (b:=sh) (by repeat' constructor)) (hH.get (b:=hb) (by repeat' constructor)) hpl.len hpl.cap hpl.take hpl.six hpl.pos (Nat.le_refl _) (Nat.le_succ _) (Nat.le_succ _) (hSS ▸ hH.mod) (hSS ▸ hVS) (hSS ▸ hRS) (.inl (.inr (.inr (.inr rfl))))⟩

end Go.Proofs.YtcjmehononbadaaDoor
namespace Go.Proofs.YtcjmehononbadaaDoor
open Go.Sym


set_option maxRecDepth 100000 in
set_option maxHeartbeats 16000000 in
theorem doesOther (k2 k3 k4 nu : Int) (k1 : Int) (s : ByteArray) (va vq : Value) (la lq : List UInt8) (o : Bool) (b : Nat) (V : VB) (r : Nat) (R : RB) (ts : List Tm) (sh hb hcap : Nat) (hl : List Value) (hs : List (List UInt8)) (sv : Value) (ss : List (List UInt8)) (hk4 : -9223372036854775808≤nu∧nu≤9223372036854775807) (hs9 : s.size≤9223372036854775807) (hla : la.length≤1099511627776) (hlq : lq.length≤1099511627776) (hts : ts.length≤1000000) (hhs : hs.length≤1000000) (hss9 : ss.length≤1000000) (hk1 : k1 < 0∨9 < k1) (w0 : World) (hpl : PL w0 b V r R ts sh hb hcap hl hs sv ss) (hva : BsF (FT b V r R sh hb sv) w0 va la) (hvq : BsF (FT b V r R sh hb sv) w0 vq lq) : Calls Tryd.prog 22 #[.pointer (some ⟨sh,0,none⟩),.pointer (some ⟨b,0,none⟩),.pointer (some ⟨r,0,none⟩),.agg #[.int .i64 k1,.int .i64 k2,.int .i64 k3,.int .i64 k4,.string s,.int .i64 nu,va,vq,.bool o]] w0 fun e w' => e = .returned (.bool true)∧Next w0 b V r R ts sh hb hs sv ss w':=by
 refine enter Tryd.func22 rfl rfl rfl ?_
 intro a hS
 have hH:=Hp.start w0 (Nobody)
 obtain ⟨SS,hSS⟩ : ∃ S : Nat→Prop,S = FS b V r R sh hb:=⟨_,rfl⟩
 have huq:=hpl.bv.v.ok.uq
 have htp:=hpl.tp
 have hvaS : BsF SS w0 va la:=hva.go (Mod.refl _ _) (fun x hx => .inl (.inl (hSS ▸ hx)))
 have hvqS : BsF SS w0 vq lq:=hvq.go (Mod.refl _ _) (fun x hx => .inl (.inl (hSS ▸ hx)))
 obtain ⟨x,hx⟩ : ∃ y,y = pickH hs k2:=⟨_,rfl⟩
 have hx16 : x.length = 16:=by rw [hx]; exact pickH_len hpl.six _
 obtain ⟨x0,x1,x2,x3,x4,x5,x6,x7,x8,x9,xa,xb,xc,xd,xe,xf,rfl⟩:=len16 hx16
 obtain ⟨y,hy⟩ : ∃ y,y = pickH hs k3:=⟨_,rfl⟩
 have hy16 : y.length = 16:=by rw [hy]; exact pickH_len hpl.six _
 obtain ⟨y0,y1,y2,y3,y4,y5,y6,y7,y8,y9,ya,yb,yc,yd,ye,yf,rfl⟩:=len16 hy16
 obtain ⟨z,hz⟩ : ∃ y,y = pickH hs k4:=⟨_,rfl⟩
 have hz16 : z.length = 16:=by rw [hz]; exact pickH_len hpl.six _
 obtain ⟨z0,z1,z2,z3,z4,z5,z6,z7,z8,z9,za,zb,zc,zd,ze,zf,rfl⟩:=len16 hz16
 refine c_seq (reg_plain w0 (Nobody) ?_)
 refine r_box hS hH (by repeat' constructor) rfl rfl rfl ?_
 clear hS hH; intro a w b7 hb7 hwb7 hS hH
 refine r_assign hS hH.kp0 rfl rfl ?_; clear hS; intro a hS
 refine Sq.nil (then_n ?_)
 refine c_cut (fun a w => ∃ b9 b10 b11,w0.heap.size≤b9∧w0.heap.size≤b10∧w0.heap.size≤b11∧St 298 (lv [(0,.pointer (some ⟨sh,0,none⟩)),(1,.pointer (some ⟨b,0,none⟩)),(2,.pointer (some ⟨r,0,none⟩)),(7,.pointer (some ⟨b7,0,none⟩)),(8,.bool false),(9,.pointer (some ⟨b9,0,none⟩)),(10,.pointer (some ⟨b10,0,none⟩)),(11,.pointer (some ⟨b11,0,none⟩))]) a∧Hp w0 Nobody [(b11,.cells (hcells [z0,z1,z2,z3,z4,z5,z6,z7,z8,z9,za,zb,zc,zd,ze,zf]).toArray 26 (0,0)),(b10,.cells (hcells [y0,y1,y2,y3,y4,y5,y6,y7,y8,y9,ya,yb,yc,yd,ye,yf]).toArray 26 (0,0)),(b9,.cells (hcells [x0,x1,x2,x3,x4,x5,x6,x7,x8,x9,xa,xb,xc,xd,xe,xf]).toArray 26 (0,0)),(b7,.cells ([.int .i64 k1,.int .i64 k2,.int .i64 k3,.int .i64 k4,.string s,.int .i64 nu,va,vq,.bool o] : List Value).toArray 36 (0,0))] w) ?_ ?_
 ·exact does_r1 k1 k2 k3 k4 nu s va vq o b V r R ts sh hb hcap hl hs sv ss [x0,x1,x2,x3,x4,x5,x6,x7,x8,x9,xa,xb,xc,xd,xe,xf] [y0,y1,y2,y3,y4,y5,y6,y7,y8,y9,ya,yb,yc,yd,ye,yf] [z0,z1,z2,z3,z4,z5,z6,z7,z8,z9,za,zb,zc,zd,ze,zf] hx rfl hy rfl hz rfl w0 hpl b7 hb7 a w (hS.live ⟨rfl,rfl,rfl,rfl,rfl,trivial⟩) hH _ (by repeat (first | with_reducible exact steady_body | with_reducible apply steady_block | with_reducible apply steady_then | with_reducible apply steady_scope | exact steady_body))
 clear hS hH; intro a w hJ; obtain ⟨b9,b10,b11,hb9,hb10,hb11,hS,hH⟩:=hJ
 refine c_seq (reg_plain w0 (Nobody) ?_)
 refine r_buildA (parts:=[]) hS hH.kp0 rfl rfl Fc.zc26 Fc.ar26 (by rfl) ?_; clear hS; intro a hS
 refine r_alloc hS hH (by repeat' constructor) Fc.zc26 rfl ?_
 clear hS hH; intro a w b12 hb12 hwb12 hS hH
 refine r_store_row hS hH rfl rfl (by repeat' constructor) (by repeat' constructor) Fc.sz26 (by first | exact hcells_one _ | exact of_decide_eq_true rfl) (by rfl) (by first | exact .inr (by assumption) | exact .inl (by first | assumption | rfl)) ?_
 clear hH; intro w hH
 refine r_assign hS hH.kp0 rfl rfl ?_; clear hS; intro a hS
 refine Sq.nil (then_n (c_seq (reg_plain w0 (Nobody) ?_)))
 refine r_buildA (parts:=[]) hS hH.kp0 rfl rfl Fc.zc25 Fc.ar25 (by rfl) ?_; clear hS; intro a hS
 refine r_alloc hS hH (by repeat' constructor) Fc.zc25 rfl ?_
 clear hS hH; intro a w b14 hb14 hwb14 hS hH
 refine r_store_row hS hH rfl rfl (by repeat' constructor) (by repeat' constructor) Fc.sz25 (by first | exact hcells_one _ | exact of_decide_eq_true rfl) (by rfl) (by first | exact .inr (by assumption) | exact .inl (by first | assumption | rfl)) ?_
 clear hH; intro w hH
 refine r_assign hS hH.kp0 rfl rfl ?_; clear hS; intro a hS
 refine Sq.nil (then_n (c_seq (c_seq (reg_plain w0 (Nobody) ?_))))
 refine r_fieldAddr hS hH.kp0 rfl Fc.fo36_0 rfl (x_load_sc hH (by repeat' constructor) rfl (by repeat' constructor) Fc.sc3 (by rfl) rfl ?_); clear hS; intro a hS
 refine Sq.nil ?_
 have hbv:=hpl.bv.ext hH.mod
 have hlb : ∀ p∈([(b14,.cells #[] 0 (0,0)),(b12,.cells #[] 0 (0,0)),(b11,.cells #[] 0 (0,0)),(b10,.cells #[] 0 (0,0)),(b9,.cells #[] 0 (0,0)),(b7,.cells #[] 0 (0,0))] : Blocks),w0.heap.size≤p.1:=by intro p hp; simp only [List.mem_cons,List.not_mem_nil,or_false] at hp; rcases hp with rfl | rfl | rfl | rfl | rfl | rfl <;> assumption
 have hshl:=lt_of_block hpl.top
 have hhbl:=lt_of_block hpl.row
 replace hH:=((hH.know (hH.mod.heap_some hpl.row (fun h => h)) (by intro p hp; simp only [List.mem_cons,List.not_mem_nil,or_false] at hp; rcases hp with rfl | rfl | rfl | rfl | rfl | rfl <;> (dsimp only; omega))).know (hH.mod.heap_some hpl.top (fun h => h)) (by intro p hp; simp only [List.mem_cons,List.not_mem_nil,or_false] at hp; rcases hp with rfl | rfl | rfl | rfl | rfl | rfl | rfl <;> (first | exact Ne.symm hpl.ne | (dsimp only; omega)))).wide (S':=SS) (fun _ h => h.elim)
 have hVS : ∀ x,V.F b x→SS x∨w0.heap.size≤x:=fun x hx => .inl (by rw [hSS]; exact .inl hx)
 have hRS : ∀ x,R.F r x→SS x∨w0.heap.size≤x:=fun x hx => .inl (by rw [hSS]; exact .inr (.inl hx))
 clear hlb
 refine then_n (wp_block (c_seq (reg_plain w0 (SS) ?_)))
 refine r_eql hS hH.kp0 rfl rfl rfl (x_assign hH.kp0 rfl rfl ?_); clear hS; intro a hS
 refine Sq.nil (then_n ?_)
 refine c_condF hS rfl (beq_false_of_ne (by omega)) ?_
 refine c_seq (reg_plain w0 (SS) ?_)
 refine r_eql hS hH.kp0 rfl rfl rfl (x_assign hH.kp0 rfl rfl ?_); clear hS; intro a hS
 refine Sq.nil (then_n ?_)
 refine c_condF hS rfl (beq_false_of_ne (by omega)) ?_
 refine c_seq (reg_plain w0 (SS) ?_)
 refine r_eql hS hH.kp0 rfl rfl rfl (x_assign hH.kp0 rfl rfl ?_); clear hS; intro a hS
 refine Sq.nil (then_n ?_)
 refine c_condF hS rfl (beq_false_of_ne (by omega)) ?_
 refine c_seq (reg_plain w0 (SS) ?_)
 refine r_eql hS hH.kp0 rfl rfl rfl (x_assign hH.kp0 rfl rfl ?_); clear hS; intro a hS
 refine Sq.nil (then_n ?_)
 refine c_condF hS rfl (beq_false_of_ne (by omega)) ?_
 refine c_seq (reg_plain w0 (SS) ?_)
 refine r_eql hS hH.kp0 rfl rfl rfl (x_assign hH.kp0 rfl rfl ?_); clear hS; intro a hS
 refine Sq.nil (then_n ?_)
 refine c_condF hS rfl (beq_false_of_ne (by omega)) ?_
 refine c_seq (reg_plain w0 (SS) ?_)
 refine r_eql hS hH.kp0 rfl rfl rfl (x_assign hH.kp0 rfl rfl ?_); clear hS; intro a hS
 refine Sq.nil (then_n ?_)
 refine c_condF hS rfl (beq_false_of_ne (by omega)) ?_
 refine c_seq (reg_plain w0 (SS) ?_)
 refine r_eql hS hH.kp0 rfl rfl rfl (x_assign hH.kp0 rfl rfl ?_); clear hS; intro a hS
 refine Sq.nil (then_n ?_)
 refine c_condF hS rfl (beq_false_of_ne (by omega)) ?_
 refine c_seq (reg_plain w0 (SS) ?_)
 refine r_eql hS hH.kp0 rfl rfl rfl (x_assign hH.kp0 rfl rfl ?_); clear hS; intro a hS
 refine Sq.nil (then_n ?_)
 refine c_condF hS rfl (beq_false_of_ne (by omega)) ?_
 refine c_seq (reg_plain w0 (SS) ?_)
 refine r_eql hS hH.kp0 rfl rfl rfl (x_assign hH.kp0 rfl rfl ?_); clear hS; intro a hS
 refine Sq.nil (then_n ?_)
 refine c_condF hS rfl (beq_false_of_ne (by omega)) ?_
 refine c_seq (reg_plain w0 (SS) ?_)
 refine r_eql hS hH.kp0 rfl rfl rfl (x_assign hH.kp0 rfl rfl ?_); clear hS; intro a hS
 refine Sq.nil (then_n ?_)
 refine c_condF hS rfl (beq_false_of_ne (by omega)) ?_
 refine wp_skip (blk_n (then_n (c_seq (c_seq (reg_plain w0 (SS) ?_)))))
 refine r_load_row hS hH (by repeat' constructor) rfl (by repeat' constructor) Fc.ag26 (by rfl) rfl (x_load_row hH (by repeat' constructor) rfl (by repeat' constructor) Fc.ag25 (by rfl) rfl (x_arrNeq (h:=zH) (g:=zH) Fc.arrH hH.kp0 rfl rfl rfl rfl rfl (x_move hH.kp0 rfl rfl ?_))); clear hS; intro a hS
 refine Sq.guardYes hS rfl rfl (by rw [decide_eq_true rfl]; rfl) ?_
 refine r_move hS hH.kp0 rfl rfl ?_; clear hS; intro a hS
 refine Sq.guardYes hS rfl rfl (by rw [decide_eq_true rfl]; rfl) ?_
 refine r_move hS hH.kp0 rfl rfl ?_; clear hS; intro a hS
 refine Sq.guardYes hS rfl rfl (by rw [decide_eq_true rfl]; rfl) ?_
 refine r_neq hS hH.kp0 rfl rfl rfl ?_; clear hS; intro a hS
 refine r_pickF hS hH.kp0 rfl (by rw [decide_eq_true rfl]; rfl) rfl rfl ?_; clear hS; intro a hS
 refine Sq.nil (then_n ?_)
 refine c_condF hS rfl (bne_self_eq_false _) ?_
 refine wp_skip (then_n (c_seq (c_seq (reg_plain w0 (SS) ?_))))
 refine r_load_row hS hH (by repeat' constructor) rfl (by repeat' constructor) Fc.ag26 (by rfl) rfl (x_buildA (parts:=[]) hH.kp0 rfl rfl Fc.zc26 Fc.ar26 (by rfl) (x_arrNeq (h:=zH) (g:=zH) Fc.arrH hH.kp0 rfl rfl rfl rfl rfl ?_)); clear hS; intro a hS
 refine Sq.nil (then_n ?_)
 refine c_condF hS rfl (by rw [decide_eq_true rfl]; rfl) ?_
 refine wp_skip (then_n (c_seq ?_))
 refine reg_draw [(true,0,[]),(true,1,[]),(true,3,[]),(true,4,[]),(false,2,[]),(false,5,[]),(true,6,[]),(true,7,[]),(true,8,[])] Fc.mixed (by kernel_rfl) (by kernel_rfl) (by kernel_rfl) (by kernel_rfl) (by kernel_rfl) (by repeat (first | with_reducible exact steady_body | with_reducible apply steady_block | with_reducible apply steady_then | with_reducible apply steady_scope | exact steady_body)) hH ?_
 replace hH:=hH.drew
 replace hbv:=hbv.ext (Ext.drew _)
 refine r_move hS trivial rfl rfl (x_load_rowS rfl (by repeat' constructor) Fc.ag26 (by rfl) rfl (x_move trivial rfl rfl (x_load_rowS rfl (by repeat' constructor) Fc.ag26 (by rfl) rfl ?_))); clear hS; intro a hS
 refine r_call (l:=[.tmp 290,.tmp 291]) hS rfl rfl Fc.fn18 rfl ?_
 refine Calls.mono (Known_v b V ts [x0,x1,x2,x3,x4,x5,x6,x7,x8,x9,xa,xb,xc,xd,xe,xf] rfl _ hbv.v) ?_
 rintro e w1 ⟨kb,rfl,hkb,hE⟩
 replace hH:=hH.ext hE
 replace hbv:=hbv.ext hE
 refine ⟨_,rfl,hH.kp (by repeat' constructor),?_⟩
 clear hS; intro a hS
 refine r_call (l:=[.tmp 293,.tmp 294]) hS rfl rfl Fc.fn46 rfl ?_
 refine Calls.mono (rOf_c r R ts [x0,x1,x2,x3,x4,x5,x6,x7,x8,x9,xa,xb,xc,xd,xe,xf] rfl (by omega) _ hbv.r) ?_
 rintro e w1 ⟨x9,rfl,hx9,hE⟩
 replace hH:=hH.ext hE
 replace hbv:=hbv.ext hE
 refine ⟨_,rfl,hH.kp (by repeat' constructor),?_⟩
 clear hS; intro a hS
 refine r_geq hS trivial rfl rfl rfl (x_boolEql trivial rfl rfl Fc.isBool4 rfl (x_assign trivial rfl rfl ?_)); clear hS; intro a hS
 refine Sq.nil (then_n (wp_ret ?_))
 exact leave (.inl rfl) hS rfl (Res.tmp rfl Res.nil) ⟨by rw [known_eq hkb hx9]; rfl,hpl.next hbv hpl.wf hpl.sel (hH.get (b:=sh) (by repeat' constructor)) (hH.get (b:=hb) (by repeat' constructor)) hpl.len hpl.cap hpl.take hpl.six hpl.pos (Nat.le_refl _) (Nat.le_succ _) (Nat.le_succ _) (hSS ▸ hH.mod) (hSS ▸ hVS) (hSS ▸ hRS) (.inl (.inr (.inr (.inr rfl))))⟩

end Go.Proofs.YtcjmehononbadaaDoor
namespace Go.Proofs.YtcjmehononbadaaDoor
open Go.Sym


set_option maxRecDepth 100000 in
set_option maxHeartbeats 16000000 in
theorem does8 (k2 k3 k4 nu : Int) (s : ByteArray) (va vq : Value) (la lq : List UInt8) (o : Bool) (b : Nat) (V : VB) (r : Nat) (R : RB) (ts : List Tm) (sh hb hcap : Nat) (hl : List Value) (hs : List (List UInt8)) (sv : Value) (ss : List (List UInt8)) (hk4 : -9223372036854775808≤nu∧nu≤9223372036854775807) (hs9 : s.size≤9223372036854775807) (hla : la.length≤1099511627776) (hlq : lq.length≤1099511627776) (hts : ts.length≤1000000) (hhs : hs.length≤1000000) (hss9 : ss.length≤1000000) (w0 : World) (hpl : PL w0 b V r R ts sh hb hcap hl hs sv ss) (hva : BsF (FT b V r R sh hb sv) w0 va la) (hvq : BsF (FT b V r R sh hb sv) w0 vq lq) : Calls Tryd.prog 22 #[.pointer (some ⟨sh,0,none⟩),.pointer (some ⟨b,0,none⟩),.pointer (some ⟨r,0,none⟩),.agg #[.int .i64 8,.int .i64 k2,.int .i64 k3,.int .i64 k4,.string s,.int .i64 nu,va,vq,.bool o]] w0 fun e w' => e = .returned (.bool true)∧Next w0 b V r R ts sh hb hs sv ss w':=by
 refine enter Tryd.func22 rfl rfl rfl ?_
 intro a hS
 have hH:=Hp.start w0 (Nobody)
 obtain ⟨SS,hSS⟩ : ∃ S : Nat→Prop,S = Nobody:=⟨_,rfl⟩
 have hX : ∀ {u w : World},Mod SS u w→Ext u w:=fun h => by rw [hSS] at h; exact h
 have htp:=hpl.tp
 have hvaN : BsF Nobody w0 va la:=hva.go (Mod.refl _ _) (fun x hx => hx.elim)
 have hvqN : BsF Nobody w0 vq lq:=hvq.go (Mod.refl _ _) (fun x hx => hx.elim)
 obtain ⟨LS,hLS⟩ : ∃ z,z = seenL hs ss la nu k2:=⟨_,rfl⟩
 have hLl : LS.length≤1048576:=by have h9:=seenL_len (hs:=hs) (ss:=ss) (also:=la) (nu:=nu) (a:=k2); rw [←hLS] at h9; omega
 have hLb : ∀ l∈LS,l.length≤1099511627776:=by rw [hLS]; exact seenL_le hpl.sz hla (by decide) hpl.six
 obtain ⟨LB,hLB⟩ : ∃ z,z = pickB ss o k4 lq:=⟨_,rfl⟩
 have hLBl : LB.length≤1099511627776:=by rw [hLB]; exact pickB_le hpl.sz hlq
 obtain ⟨x,hx⟩ : ∃ y,y = pickH hs k2:=⟨_,rfl⟩
 have hx16 : x.length = 16:=by rw [hx]; exact pickH_len hpl.six _
 obtain ⟨x0,x1,x2,x3,x4,x5,x6,x7,x8,x9,xa,xb,xc,xd,xe,xf,rfl⟩:=len16 hx16
 obtain ⟨y,hy⟩ : ∃ y,y = pickH hs k3:=⟨_,rfl⟩
 have hy16 : y.length = 16:=by rw [hy]; exact pickH_len hpl.six _
 obtain ⟨y0,y1,y2,y3,y4,y5,y6,y7,y8,y9,ya,yb,yc,yd,ye,yf,rfl⟩:=len16 hy16
 obtain ⟨z,hz⟩ : ∃ y,y = pickH hs k4:=⟨_,rfl⟩
 have hz16 : z.length = 16:=by rw [hz]; exact pickH_len hpl.six _
 obtain ⟨z0,z1,z2,z3,z4,z5,z6,z7,z8,z9,za,zb,zc,zd,ze,zf,rfl⟩:=len16 hz16
 refine c_seq (reg_plain w0 (Nobody) ?_)
 refine r_box hS hH (by repeat' constructor) rfl rfl rfl ?_
 clear hS hH; intro a w b7 hb7 hwb7 hS hH
 refine r_assign hS hH.kp0 rfl rfl ?_; clear hS; intro a hS
 refine Sq.nil (then_n ?_)
 refine c_cut (fun a w => ∃ b9 b10 b11,w0.heap.size≤b9∧w0.heap.size≤b10∧w0.heap.size≤b11∧St 298 (lv [(0,.pointer (some ⟨sh,0,none⟩)),(1,.pointer (some ⟨b,0,none⟩)),(2,.pointer (some ⟨r,0,none⟩)),(7,.pointer (some ⟨b7,0,none⟩)),(8,.bool false),(9,.pointer (some ⟨b9,0,none⟩)),(10,.pointer (some ⟨b10,0,none⟩)),(11,.pointer (some ⟨b11,0,none⟩))]) a∧Hp w0 Nobody [(b11,.cells (hcells [z0,z1,z2,z3,z4,z5,z6,z7,z8,z9,za,zb,zc,zd,ze,zf]).toArray 26 (0,0)),(b10,.cells (hcells [y0,y1,y2,y3,y4,y5,y6,y7,y8,y9,ya,yb,yc,yd,ye,yf]).toArray 26 (0,0)),(b9,.cells (hcells [x0,x1,x2,x3,x4,x5,x6,x7,x8,x9,xa,xb,xc,xd,xe,xf]).toArray 26 (0,0)),(b7,.cells ([.int .i64 8,.int .i64 k2,.int .i64 k3,.int .i64 k4,.string s,.int .i64 nu,va,vq,.bool o] : List Value).toArray 36 (0,0))] w) ?_ ?_
 ·exact does_r1 8 k2 k3 k4 nu s va vq o b V r R ts sh hb hcap hl hs sv ss [x0,x1,x2,x3,x4,x5,x6,x7,x8,x9,xa,xb,xc,xd,xe,xf] [y0,y1,y2,y3,y4,y5,y6,y7,y8,y9,ya,yb,yc,yd,ye,yf] [z0,z1,z2,z3,z4,z5,z6,z7,z8,z9,za,zb,zc,zd,ze,zf] hx rfl hy rfl hz rfl w0 hpl b7 hb7 a w (hS.live ⟨rfl,rfl,rfl,rfl,rfl,trivial⟩) hH _ (by repeat (first | with_reducible exact steady_body | with_reducible apply steady_block | with_reducible apply steady_then | with_reducible apply steady_scope | exact steady_body))
 clear hS hH; intro a w hJ; obtain ⟨b9,b10,b11,hb9,hb10,hb11,hS,hH⟩:=hJ
 refine c_seq (reg_plain w0 (Nobody) ?_)
 refine r_buildA (parts:=[]) hS hH.kp0 rfl rfl Fc.zc26 Fc.ar26 (by rfl) ?_; clear hS; intro a hS
 refine r_alloc hS hH (by repeat' constructor) Fc.zc26 rfl ?_
 clear hS hH; intro a w b12 hb12 hwb12 hS hH
 refine r_store_row hS hH rfl rfl (by repeat' constructor) (by repeat' constructor) Fc.sz26 (by first | exact hcells_one _ | exact of_decide_eq_true rfl) (by rfl) (by first | exact .inr (by assumption) | exact .inl (by first | assumption | rfl)) ?_
 clear hH; intro w hH
 refine r_assign hS hH.kp0 rfl rfl ?_; clear hS; intro a hS
 refine Sq.nil (then_n (c_seq (reg_plain w0 (Nobody) ?_)))
 refine r_buildA (parts:=[]) hS hH.kp0 rfl rfl Fc.zc25 Fc.ar25 (by rfl) ?_; clear hS; intro a hS
 refine r_alloc hS hH (by repeat' constructor) Fc.zc25 rfl ?_
 clear hS hH; intro a w b14 hb14 hwb14 hS hH
 refine r_store_row hS hH rfl rfl (by repeat' constructor) (by repeat' constructor) Fc.sz25 (by first | exact hcells_one _ | exact of_decide_eq_true rfl) (by rfl) (by first | exact .inr (by assumption) | exact .inl (by first | assumption | rfl)) ?_
 clear hH; intro w hH
 refine r_assign hS hH.kp0 rfl rfl ?_; clear hS; intro a hS
 refine Sq.nil (then_n (c_seq (c_seq (reg_plain w0 (Nobody) ?_))))
 refine r_fieldAddr hS hH.kp0 rfl Fc.fo36_0 rfl (x_load_sc hH (by repeat' constructor) rfl (by repeat' constructor) Fc.sc3 (by rfl) rfl ?_); clear hS; intro a hS
 refine Sq.nil ?_
 have hbv:=hpl.bv.ext hH.mod
 have hlb : ∀ p∈([(b14,.cells #[] 0 (0,0)),(b12,.cells #[] 0 (0,0)),(b11,.cells #[] 0 (0,0)),(b10,.cells #[] 0 (0,0)),(b9,.cells #[] 0 (0,0)),(b7,.cells #[] 0 (0,0))] : Blocks),w0.heap.size≤p.1:=by intro p hp; simp only [List.mem_cons,List.not_mem_nil,or_false] at hp; rcases hp with rfl | rfl | rfl | rfl | rfl | rfl <;> assumption
 have hshl:=lt_of_block hpl.top
 have hhbl:=lt_of_block hpl.row
 replace hH:=((hH.know (hH.mod.heap_some hpl.row (fun h => h)) (by intro p hp; simp only [List.mem_cons,List.not_mem_nil,or_false] at hp; rcases hp with rfl | rfl | rfl | rfl | rfl | rfl <;> (dsimp only; omega))).know (hH.mod.heap_some hpl.top (fun h => h)) (by intro p hp; simp only [List.mem_cons,List.not_mem_nil,or_false] at hp; rcases hp with rfl | rfl | rfl | rfl | rfl | rfl | rfl <;> (first | exact Ne.symm hpl.ne | (dsimp only; omega)))).wide (S':=SS) (fun _ h => h.elim)
 clear hlb
 refine then_n (wp_block (c_seq (reg_plain w0 (SS) ?_)))
 refine r_eql hS hH.kp0 rfl rfl rfl (x_assign hH.kp0 rfl rfl ?_); clear hS; intro a hS
 refine Sq.nil (then_n (c_condF hS rfl rfl (c_seq (reg_plain w0 (SS) ?_))))
 refine r_eql hS hH.kp0 rfl rfl rfl (x_assign hH.kp0 rfl rfl ?_); clear hS; intro a hS
 refine Sq.nil (then_n (c_condF hS rfl rfl (c_seq (reg_plain w0 (SS) ?_))))
 refine r_eql hS hH.kp0 rfl rfl rfl (x_assign hH.kp0 rfl rfl ?_); clear hS; intro a hS
 refine Sq.nil (then_n (c_condF hS rfl rfl (c_seq (reg_plain w0 (SS) ?_))))
 refine r_eql hS hH.kp0 rfl rfl rfl (x_assign hH.kp0 rfl rfl ?_); clear hS; intro a hS
 refine Sq.nil (then_n (c_condF hS rfl rfl (c_seq (reg_plain w0 (SS) ?_))))
 refine r_eql hS hH.kp0 rfl rfl rfl (x_assign hH.kp0 rfl rfl ?_); clear hS; intro a hS
 refine Sq.nil (then_n (c_condF hS rfl rfl (c_seq (reg_plain w0 (SS) ?_))))
 refine r_eql hS hH.kp0 rfl rfl rfl (x_assign hH.kp0 rfl rfl ?_); clear hS; intro a hS
 refine Sq.nil (then_n (c_condF hS rfl rfl (c_seq (reg_plain w0 (SS) ?_))))
 refine r_eql hS hH.kp0 rfl rfl rfl (x_assign hH.kp0 rfl rfl ?_); clear hS; intro a hS
 refine Sq.nil (then_n (c_condF hS rfl rfl (c_seq (reg_plain w0 (SS) ?_))))
 refine r_eql hS hH.kp0 rfl rfl rfl (x_assign hH.kp0 rfl rfl ?_); clear hS; intro a hS
 refine Sq.nil (then_n (c_condF hS rfl rfl (c_seq (reg_plain w0 (SS) ?_))))
 refine r_eql hS hH.kp0 rfl rfl rfl (x_assign hH.kp0 rfl rfl ?_); clear hS; intro a hS
 refine Sq.nil (then_n (c_condT hS rfl rfl (c_seq ?_)))
 refine reg_draw [(true,0,[]),(true,1,[]),(true,2,[]),(true,5,[]),(true,6,[]),(true,7,[]),(false,3,[]),(false,4,[]),(false,8,[]),(false,9,[]),(false,10,[]),(true,11,[])] Fc.mixed (by kernel_rfl) (by kernel_rfl) (by kernel_rfl) (by kernel_rfl) (by kernel_rfl) (by repeat (first | with_reducible exact steady_body | with_reducible apply steady_block | with_reducible apply steady_then | with_reducible apply steady_scope | exact steady_body)) hH ?_
 replace hH:=hH.drew
 refine r_move hS trivial rfl rfl (x_move trivial rfl rfl (x_load_rowS rfl (by repeat' constructor) Fc.ag36 (by rfl) rfl (x_move trivial rfl rfl (x_move trivial rfl rfl (x_load_rowS rfl (by repeat' constructor) Fc.ag36 (by rfl) rfl ?_))))); clear hS; intro a hS
 refine r_call (l:=[.tmp 225,.tmp 226]) hS rfl rfl Fc.fn43 rfl ?_
 refine Calls.mono (seen_c 8 k2 k3 k4 nu s va vq o la sh hb hcap hl hs sv ss (by omega) _ (hpl.shf.ext (hX hH.mod)) (hvaN.go (hX hH.mod) (fun _ h => .inl h))) ?_
 rintro e w1 ⟨vs1,rfl,hts1,hEs1⟩
 rw [←hLS] at hts1
 replace hH:=hH.ext hEs1
 refine ⟨_,rfl,hH.kp (by repeat' constructor),?_⟩
 clear hS; intro a hS
 refine r_call (l:=[.tmp 224,.tmp 227]) hS rfl rfl Fc.fn10 rfl ?_
 refine Calls.mono (Spied6_v b V ts (by omega) hpl.wf hpl.tp vs1 LS hLb hLl _ (hpl.bv.v.ext (hX hH.mod)) hts1.slg) ?_
 rintro e w1 ⟨K1,v2,rfl,hkn1,htd2,hE2⟩
 replace hH:=hH.ext hE2
 refine ⟨_,rfl,hH.kp (by repeat' constructor),?_⟩
 clear hS; intro a hS
 refine r_call (l:=[.tmp 230,.tmp 231]) hS rfl rfl Fc.fn43 rfl ?_
 refine Calls.mono (seen_c 8 k2 k3 k4 nu s va vq o la sh hb hcap hl hs sv ss (by omega) _ (hpl.shf.ext (hX hH.mod)) (hvaN.go (hX hH.mod) (fun _ h => .inl h))) ?_
 rintro e w1 ⟨vs3,rfl,hts3,hEs3⟩
 rw [←hLS] at hts3
 replace hH:=hH.ext hEs3
 replace htd2:=htd2.go hEs3
 refine ⟨_,rfl,hH.kp (by repeat' constructor),?_⟩
 clear hS; intro a hS
 refine r_call (l:=[.tmp 229,.tmp 232]) hS rfl rfl Fc.fn44 rfl ?_
 refine Calls.mono (rSpied_c r R ts hpl.wf hpl.tp vs3 LS hLb hLl (by omega) _ (hpl.bv.r.ext (hX hH.mod)) hts3.slg) ?_
 rintro e w1 ⟨K2,v4,rfl,hkn2,htd4,hE4⟩
 have hKK:=hkn1.det hkn2
 subst hKK
 replace hH:=hH.ext hE4
 replace htd2:=htd2.go hE4
 refine ⟨_,rfl,hH.kp (by repeat' constructor),?_⟩
 clear hS; intro a hS
 refine r_call (l:=[.tmp 228,.tmp 233]) hS rfl rfl Fc.fn42 rfl ?_
 refine Calls.mono (lists_c v2 v4 (spL ts K1 ts.length) (by have:=spL_le ts K1 ts.length; omega) _ htd2.slg htd4.slg) ?_
 rintro e w1 ⟨rfl,hE5⟩
 replace hH:=hH.ext hE5
 refine ⟨_,rfl,hH.kp (by repeat' constructor),?_⟩
 clear hS; intro a hS
 refine r_assign hS trivial rfl rfl ?_; clear hS; intro a hS
 refine Sq.nil (then_n (wp_ret (blk_r (then_r ?_))))
 exact leave (.inl rfl) hS rfl (Res.tmp rfl Res.nil) ⟨rfl,hpl.same (hX hH.mod)⟩

end Go.Proofs.YtcjmehononbadaaDoor
namespace Go.Proofs.YtcjmehononbadaaDoor
open Go.Sym


set_option maxRecDepth 100000 in
set_option maxHeartbeats 16000000 in
theorem does9 (k2 k3 k4 nu : Int) (s : ByteArray) (va vq : Value) (la lq : List UInt8) (o : Bool) (b : Nat) (V : VB) (r : Nat) (R : RB) (ts : List Tm) (sh hb hcap : Nat) (hl : List Value) (hs : List (List UInt8)) (sv : Value) (ss : List (List UInt8)) (hk4 : -9223372036854775808≤nu∧nu≤9223372036854775807) (hs9 : s.size≤9223372036854775807) (hla : la.length≤1099511627776) (hlq : lq.length≤1099511627776) (hts : ts.length≤1000000) (hhs : hs.length≤1000000) (hss9 : ss.length≤1000000) (w0 : World) (hpl : PL w0 b V r R ts sh hb hcap hl hs sv ss) (hva : BsF (FT b V r R sh hb sv) w0 va la) (hvq : BsF (FT b V r R sh hb sv) w0 vq lq) : Calls Tryd.prog 22 #[.pointer (some ⟨sh,0,none⟩),.pointer (some ⟨b,0,none⟩),.pointer (some ⟨r,0,none⟩),.agg #[.int .i64 9,.int .i64 k2,.int .i64 k3,.int .i64 k4,.string s,.int .i64 nu,va,vq,.bool o]] w0 fun e w' => e = .returned (.bool true)∧Next w0 b V r R ts sh hb hs sv ss w':=by
 refine enter Tryd.func22 rfl rfl rfl ?_
 intro a hS
 have hH:=Hp.start w0 (Nobody)
 obtain ⟨SS,hSS⟩ : ∃ S : Nat→Prop,S = Nobody:=⟨_,rfl⟩
 have hX : ∀ {u w : World},Mod SS u w→Ext u w:=fun h => by rw [hSS] at h; exact h
 have htp:=hpl.tp
 have hvaN : BsF Nobody w0 va la:=hva.go (Mod.refl _ _) (fun x hx => hx.elim)
 have hvqN : BsF Nobody w0 vq lq:=hvq.go (Mod.refl _ _) (fun x hx => hx.elim)
 obtain ⟨LS,hLS⟩ : ∃ z,z = seenL hs ss la nu k2:=⟨_,rfl⟩
 have hLl : LS.length≤1048576:=by have h9:=seenL_len (hs:=hs) (ss:=ss) (also:=la) (nu:=nu) (a:=k2); rw [←hLS] at h9; omega
 have hLb : ∀ l∈LS,l.length≤1099511627776:=by rw [hLS]; exact seenL_le hpl.sz hla (by decide) hpl.six
 obtain ⟨LB,hLB⟩ : ∃ z,z = pickB ss o k4 lq:=⟨_,rfl⟩
 have hLBl : LB.length≤1099511627776:=by rw [hLB]; exact pickB_le hpl.sz hlq
 obtain ⟨x,hx⟩ : ∃ y,y = pickH hs k2:=⟨_,rfl⟩
 have hx16 : x.length = 16:=by rw [hx]; exact pickH_len hpl.six _
 obtain ⟨x0,x1,x2,x3,x4,x5,x6,x7,x8,x9,xa,xb,xc,xd,xe,xf,rfl⟩:=len16 hx16
 obtain ⟨y,hy⟩ : ∃ y,y = pickH hs k3:=⟨_,rfl⟩
 have hy16 : y.length = 16:=by rw [hy]; exact pickH_len hpl.six _
 obtain ⟨y0,y1,y2,y3,y4,y5,y6,y7,y8,y9,ya,yb,yc,yd,ye,yf,rfl⟩:=len16 hy16
 obtain ⟨z,hz⟩ : ∃ y,y = pickH hs k4:=⟨_,rfl⟩
 have hz16 : z.length = 16:=by rw [hz]; exact pickH_len hpl.six _
 obtain ⟨z0,z1,z2,z3,z4,z5,z6,z7,z8,z9,za,zb,zc,zd,ze,zf,rfl⟩:=len16 hz16
 refine c_seq (reg_plain w0 (Nobody) ?_)
 refine r_box hS hH (by repeat' constructor) rfl rfl rfl ?_
 clear hS hH; intro a w b7 hb7 hwb7 hS hH
 refine r_assign hS hH.kp0 rfl rfl ?_; clear hS; intro a hS
 refine Sq.nil (then_n ?_)
 refine c_cut (fun a w => ∃ b9 b10 b11,w0.heap.size≤b9∧w0.heap.size≤b10∧w0.heap.size≤b11∧St 298 (lv [(0,.pointer (some ⟨sh,0,none⟩)),(1,.pointer (some ⟨b,0,none⟩)),(2,.pointer (some ⟨r,0,none⟩)),(7,.pointer (some ⟨b7,0,none⟩)),(8,.bool false),(9,.pointer (some ⟨b9,0,none⟩)),(10,.pointer (some ⟨b10,0,none⟩)),(11,.pointer (some ⟨b11,0,none⟩))]) a∧Hp w0 Nobody [(b11,.cells (hcells [z0,z1,z2,z3,z4,z5,z6,z7,z8,z9,za,zb,zc,zd,ze,zf]).toArray 26 (0,0)),(b10,.cells (hcells [y0,y1,y2,y3,y4,y5,y6,y7,y8,y9,ya,yb,yc,yd,ye,yf]).toArray 26 (0,0)),(b9,.cells (hcells [x0,x1,x2,x3,x4,x5,x6,x7,x8,x9,xa,xb,xc,xd,xe,xf]).toArray 26 (0,0)),(b7,.cells ([.int .i64 9,.int .i64 k2,.int .i64 k3,.int .i64 k4,.string s,.int .i64 nu,va,vq,.bool o] : List Value).toArray 36 (0,0))] w) ?_ ?_
 ·exact does_r1 9 k2 k3 k4 nu s va vq o b V r R ts sh hb hcap hl hs sv ss [x0,x1,x2,x3,x4,x5,x6,x7,x8,x9,xa,xb,xc,xd,xe,xf] [y0,y1,y2,y3,y4,y5,y6,y7,y8,y9,ya,yb,yc,yd,ye,yf] [z0,z1,z2,z3,z4,z5,z6,z7,z8,z9,za,zb,zc,zd,ze,zf] hx rfl hy rfl hz rfl w0 hpl b7 hb7 a w (hS.live ⟨rfl,rfl,rfl,rfl,rfl,trivial⟩) hH _ (by repeat (first | with_reducible exact steady_body | with_reducible apply steady_block | with_reducible apply steady_then | with_reducible apply steady_scope | exact steady_body))
 clear hS hH; intro a w hJ; obtain ⟨b9,b10,b11,hb9,hb10,hb11,hS,hH⟩:=hJ
 refine c_seq (reg_plain w0 (Nobody) ?_)
 refine r_buildA (parts:=[]) hS hH.kp0 rfl rfl Fc.zc26 Fc.ar26 (by rfl) ?_; clear hS; intro a hS
 refine r_alloc hS hH (by repeat' constructor) Fc.zc26 rfl ?_
 clear hS hH; intro a w b12 hb12 hwb12 hS hH
 refine r_store_row hS hH rfl rfl (by repeat' constructor) (by repeat' constructor) Fc.sz26 (by first | exact hcells_one _ | exact of_decide_eq_true rfl) (by rfl) (by first | exact .inr (by assumption) | exact .inl (by first | assumption | rfl)) ?_
 clear hH; intro w hH
 refine r_assign hS hH.kp0 rfl rfl ?_; clear hS; intro a hS
 refine Sq.nil (then_n (c_seq (reg_plain w0 (Nobody) ?_)))
 refine r_buildA (parts:=[]) hS hH.kp0 rfl rfl Fc.zc25 Fc.ar25 (by rfl) ?_; clear hS; intro a hS
 refine r_alloc hS hH (by repeat' constructor) Fc.zc25 rfl ?_
 clear hS hH; intro a w b14 hb14 hwb14 hS hH
 refine r_store_row hS hH rfl rfl (by repeat' constructor) (by repeat' constructor) Fc.sz25 (by first | exact hcells_one _ | exact of_decide_eq_true rfl) (by rfl) (by first | exact .inr (by assumption) | exact .inl (by first | assumption | rfl)) ?_
 clear hH; intro w hH
 refine r_assign hS hH.kp0 rfl rfl ?_; clear hS; intro a hS
 refine Sq.nil (then_n (c_seq (c_seq (reg_plain w0 (Nobody) ?_))))
 refine r_fieldAddr hS hH.kp0 rfl Fc.fo36_0 rfl (x_load_sc hH (by repeat' constructor) rfl (by repeat' constructor) Fc.sc3 (by rfl) rfl ?_); clear hS; intro a hS
 refine Sq.nil ?_
 have hbv:=hpl.bv.ext hH.mod
 have hlb : ∀ p∈([(b14,.cells #[] 0 (0,0)),(b12,.cells #[] 0 (0,0)),(b11,.cells #[] 0 (0,0)),(b10,.cells #[] 0 (0,0)),(b9,.cells #[] 0 (0,0)),(b7,.cells #[] 0 (0,0))] : Blocks),w0.heap.size≤p.1:=by intro p hp; simp only [List.mem_cons,List.not_mem_nil,or_false] at hp; rcases hp with rfl | rfl | rfl | rfl | rfl | rfl <;> assumption
 have hshl:=lt_of_block hpl.top
 have hhbl:=lt_of_block hpl.row
 replace hH:=((hH.know (hH.mod.heap_some hpl.row (fun h => h)) (by intro p hp; simp only [List.mem_cons,List.not_mem_nil,or_false] at hp; rcases hp with rfl | rfl | rfl | rfl | rfl | rfl <;> (dsimp only; omega))).know (hH.mod.heap_some hpl.top (fun h => h)) (by intro p hp; simp only [List.mem_cons,List.not_mem_nil,or_false] at hp; rcases hp with rfl | rfl | rfl | rfl | rfl | rfl | rfl <;> (first | exact Ne.symm hpl.ne | (dsimp only; omega)))).wide (S':=SS) (fun _ h => h.elim)
 clear hlb
 refine then_n (wp_block (c_seq (reg_plain w0 (SS) ?_)))
 refine r_eql hS hH.kp0 rfl rfl rfl (x_assign hH.kp0 rfl rfl ?_); clear hS; intro a hS
 refine Sq.nil (then_n (c_condF hS rfl rfl (c_seq (reg_plain w0 (SS) ?_))))
 refine r_eql hS hH.kp0 rfl rfl rfl (x_assign hH.kp0 rfl rfl ?_); clear hS; intro a hS
 refine Sq.nil (then_n (c_condF hS rfl rfl (c_seq (reg_plain w0 (SS) ?_))))
 refine r_eql hS hH.kp0 rfl rfl rfl (x_assign hH.kp0 rfl rfl ?_); clear hS; intro a hS
 refine Sq.nil (then_n (c_condF hS rfl rfl (c_seq (reg_plain w0 (SS) ?_))))
 refine r_eql hS hH.kp0 rfl rfl rfl (x_assign hH.kp0 rfl rfl ?_); clear hS; intro a hS
 refine Sq.nil (then_n (c_condF hS rfl rfl (c_seq (reg_plain w0 (SS) ?_))))
 refine r_eql hS hH.kp0 rfl rfl rfl (x_assign hH.kp0 rfl rfl ?_); clear hS; intro a hS
 refine Sq.nil (then_n (c_condF hS rfl rfl (c_seq (reg_plain w0 (SS) ?_))))
 refine r_eql hS hH.kp0 rfl rfl rfl (x_assign hH.kp0 rfl rfl ?_); clear hS; intro a hS
 refine Sq.nil (then_n (c_condF hS rfl rfl (c_seq (reg_plain w0 (SS) ?_))))
 refine r_eql hS hH.kp0 rfl rfl rfl (x_assign hH.kp0 rfl rfl ?_); clear hS; intro a hS
 refine Sq.nil (then_n (c_condF hS rfl rfl (c_seq (reg_plain w0 (SS) ?_))))
 refine r_eql hS hH.kp0 rfl rfl rfl (x_assign hH.kp0 rfl rfl ?_); clear hS; intro a hS
 refine Sq.nil (then_n (c_condF hS rfl rfl (c_seq (reg_plain w0 (SS) ?_))))
 refine r_eql hS hH.kp0 rfl rfl rfl (x_assign hH.kp0 rfl rfl ?_); clear hS; intro a hS
 refine Sq.nil (then_n (c_condF hS rfl rfl (c_seq (reg_plain w0 (SS) ?_))))
 refine r_eql hS hH.kp0 rfl rfl rfl (x_assign hH.kp0 rfl rfl ?_); clear hS; intro a hS
 refine Sq.nil (then_n (c_condT hS rfl rfl (c_seq ?_)))
 refine reg_draw [(true,0,[]),(true,1,[]),(true,2,[]),(true,4,[]),(true,5,[]),(true,8,[]),(true,9,[]),(true,10,[]),(true,12,[]),(true,13,[]),(false,3,[]),(false,6,[]),(false,7,[]),(false,11,[]),(false,14,[]),(false,15,[]),(true,16,[]),(true,17,[]),(true,18,[]),(true,19,[]),(true,20,[]),(true,21,[]),(true,24,[]),(true,25,[]),(true,26,[]),(true,27,[]),(false,22,[]),(false,23,[]),(false,28,[]),(false,29,[]),(true,30,[]),(true,31,[]),(true,32,[])] Fc.mixed (by kernel_rfl) (by kernel_rfl) (by kernel_rfl) (by kernel_rfl) (by kernel_rfl) (by repeat (first | with_reducible exact steady_body | with_reducible apply steady_block | with_reducible apply steady_then | with_reducible apply steady_scope | exact steady_body)) hH ?_
 replace hH:=hH.drew
 refine r_move hS trivial rfl rfl (x_move trivial rfl rfl (x_load_rowS rfl (by repeat' constructor) Fc.ag36 (by rfl) rfl (x_move trivial rfl rfl (x_load_rowS rfl (by repeat' constructor) Fc.ag36 (by rfl) rfl (x_move trivial rfl rfl (x_move trivial rfl rfl (x_load_rowS rfl (by repeat' constructor) Fc.ag36 (by rfl) rfl (x_move trivial rfl rfl (x_load_rowS rfl (by repeat' constructor) Fc.ag36 (by rfl) rfl ?_))))))))); clear hS; intro a hS
 refine r_call (l:=[.tmp 238,.tmp 239]) hS rfl rfl Fc.fn40 rfl ?_
 refine Calls.mono (bytes_c 9 k2 k3 k4 nu s va vq o lq sh hb hcap hl hs sv ss _ (hpl.shf.ext (hX hH.mod)) (hvqN.go (hX hH.mod) (fun _ h => .inl h))) ?_
 rintro e w1 ⟨vb1,rfl,hbb1,hEb1⟩
 rw [←hLB] at hbb1
 replace hH:=hH.ext hEb1
 refine ⟨_,rfl,hH.kp (by repeat' constructor),?_⟩
 clear hS; intro a hS
 refine r_call (l:=[.tmp 241,.tmp 242]) hS rfl rfl Fc.fn43 rfl ?_
 refine Calls.mono (seen_c 9 k2 k3 k4 nu s va vq o la sh hb hcap hl hs sv ss (by omega) _ (hpl.shf.ext (hX hH.mod)) (hvaN.go (hX hH.mod) (fun _ h => .inl h))) ?_
 rintro e w1 ⟨vs2,rfl,hts2,hEs2⟩
 rw [←hLS] at hts2
 replace hH:=hH.ext hEs2
 replace hbb1:=hbb1.go hEs2 (fun _ h => .inl h)
 refine ⟨_,rfl,hH.kp (by repeat' constructor),?_⟩
 clear hS; intro a hS
 refine r_call (l:=[.tmp 237,.tmp 240,.tmp 243]) hS rfl rfl Fc.fn11 rfl ?_
 refine Calls.mono (Hidden7_v b V ts (by omega) hpl.wf hpl.tp vb1 vs2 LB hLBl LS hLb hLl _ (hpl.bv.v.ext (hX hH.mod)) hbb1.bs hts2.slg) ?_
 rintro e w1 ⟨r3,K3,rfl,hkn3,hh3,hEh3⟩
 replace hH:=hH.ext hEh3
 refine ⟨_,rfl,hH.kp (by repeat' constructor),?_⟩
 clear hS; intro a hS
 refine r_call (l:=[.tmp 246,.tmp 247]) hS rfl rfl Fc.fn40 rfl ?_
 refine Calls.mono (bytes_c 9 k2 k3 k4 nu s va vq o lq sh hb hcap hl hs sv ss _ (hpl.shf.ext (hX hH.mod)) (hvqN.go (hX hH.mod) (fun _ h => .inl h))) ?_
 rintro e w1 ⟨vb4,rfl,hbb4,hEb4⟩
 rw [←hLB] at hbb4
 replace hH:=hH.ext hEb4
 refine ⟨_,rfl,hH.kp (by repeat' constructor),?_⟩
 clear hS; intro a hS
 refine r_call (l:=[.tmp 249,.tmp 250]) hS rfl rfl Fc.fn43 rfl ?_
 refine Calls.mono (seen_c 9 k2 k3 k4 nu s va vq o la sh hb hcap hl hs sv ss (by omega) _ (hpl.shf.ext (hX hH.mod)) (hvaN.go (hX hH.mod) (fun _ h => .inl h))) ?_
 rintro e w1 ⟨vs5,rfl,hts5,hEs5⟩
 rw [←hLS] at hts5
 replace hH:=hH.ext hEs5
 replace hbb4:=hbb4.go hEs5 (fun _ h => .inl h)
 refine ⟨_,rfl,hH.kp (by repeat' constructor),?_⟩
 clear hS; intro a hS
 refine r_call (l:=[.tmp 245,.tmp 248,.tmp 251]) hS rfl rfl Fc.fn45 rfl ?_
 refine Calls.mono (rHidden_c r R ts hpl.wf hpl.tp vb4 vs5 LB hLBl LS hLb hLl (by omega) _ (hpl.bv.r.ext (hX hH.mod)) hbb4 hts5.slg) ?_
 rintro e w1 ⟨r6,K6,rfl,hkn6,hh6,hEh6⟩
 have hKK:=hkn3.det hkn6
 subst hKK
 have hrr:=hh3.f (by omega) hh6
 subst hrr
 replace hH:=hH.ext hEh6
 refine ⟨_,rfl,hH.kp (by repeat' constructor),?_⟩
 clear hS; intro a hS
 refine r_boolEql hS trivial rfl rfl Fc.isBool4 rfl (x_move trivial rfl rfl (Sq.xguardYes rfl rfl (beq_self_eq_true _) (x_move trivial rfl rfl (Sq.xguardYes rfl rfl (beq_self_eq_true _) (x_slArr trivial rfl Fc.ar26 rfl (Sq.xguardYes rfl rfl (beq_self_eq_true _) (x_move trivial rfl rfl (Sq.xguardYes rfl rfl (beq_self_eq_true _) (x_load_rowS rfl (by repeat' constructor) Fc.ag36 (by rfl) rfl (Sq.xguardYes rfl rfl (beq_self_eq_true _) (x_move trivial rfl rfl (Sq.xguardYes rfl rfl (beq_self_eq_true _) (x_slArr trivial rfl Fc.ar26 rfl (Sq.xguardYes rfl rfl (beq_self_eq_true _) (x_move trivial rfl rfl (Sq.xguardYes rfl rfl (beq_self_eq_true _) (x_load_rowS rfl (by repeat' constructor) Fc.ag36 (by rfl) rfl (Sq.xguardYes rfl rfl (beq_self_eq_true _) ?_)))))))))))))))))); clear hS; intro a hS
 refine r_call (l:=[.tmp 257,.tmp 258]) hS rfl rfl Fc.fn43 rfl ?_
 refine Calls.mono (seen_c 9 k2 k3 k4 nu s va vq o la sh hb hcap hl hs sv ss (by omega) _ (hpl.shf.ext (hX hH.mod)) (hvaN.go (hX hH.mod) (fun _ h => .inl h))) ?_
 rintro e w1 ⟨vs7,rfl,hts7,hEs7⟩
 rw [←hLS] at hts7
 replace hH:=hH.ext hEs7
 refine ⟨_,rfl,hH.kp (by repeat' constructor),?_⟩
 clear hS; intro a hS
 refine Sq.guardYes hS rfl rfl (beq_self_eq_true _) ?_
 refine r_call (l:=[.tmp 255,.tmp 256,.tmp 259]) hS rfl rfl Fc.fn11 rfl ?_
 refine Calls.mono (Hidden7_v b V ts (by omega) hpl.wf hpl.tp (.slice (some ⟨b10,0,none⟩) 16 16) vs7 [y0,y1,y2,y3,y4,y5,y6,y7,y8,y9,ya,yb,yc,yd,ye,yf] (by show 16≤_; decide) LS hLb hLl _ (hpl.bv.v.ext (hX hH.mod)) (Bs.handle (h:=[y0,y1,y2,y3,y4,y5,y6,y7,y8,y9,ya,yb,yc,yd,ye,yf]) (hH.get (b:=b10) (by repeat' constructor)) rfl) hts7.slg) ?_
 rintro e w1 ⟨r8,K8,rfl,hkn8,hh8,hEh8⟩
 replace hH:=hH.ext hEh8
 refine ⟨_,rfl,hH.kp (by repeat' constructor),?_⟩
 clear hS; intro a hS
 refine Sq.guardYes hS rfl rfl (beq_self_eq_true _) ?_
 refine r_call (l:=[.tmp 263,.tmp 264]) hS rfl rfl Fc.fn43 rfl ?_
 refine Calls.mono (seen_c 9 k2 k3 k4 nu s va vq o la sh hb hcap hl hs sv ss (by omega) _ (hpl.shf.ext (hX hH.mod)) (hvaN.go (hX hH.mod) (fun _ h => .inl h))) ?_
 rintro e w1 ⟨vs9,rfl,hts9,hEs9⟩
 rw [←hLS] at hts9
 replace hH:=hH.ext hEs9
 refine ⟨_,rfl,hH.kp (by repeat' constructor),?_⟩
 clear hS; intro a hS
 refine Sq.guardYes hS rfl rfl (beq_self_eq_true _) ?_
 refine r_call (l:=[.tmp 261,.tmp 262,.tmp 265]) hS rfl rfl Fc.fn45 rfl ?_
 refine Calls.mono (rHidden_c r R ts hpl.wf hpl.tp (.slice (some ⟨b10,0,none⟩) 16 16) vs9 [y0,y1,y2,y3,y4,y5,y6,y7,y8,y9,ya,yb,yc,yd,ye,yf] (by show 16≤_; decide) LS hLb hLl (by omega) _ (hpl.bv.r.ext (hX hH.mod)) (BsF.block (h:=[y0,y1,y2,y3,y4,y5,y6,y7,y8,y9,ya,yb,yc,yd,ye,yf]) (hH.get (b:=b10) (by repeat' constructor)) rfl (fun h => h)) hts9.slg) ?_
 rintro e w1 ⟨r10,K10,rfl,hkn10,hh10,hEh10⟩
 have hKK:=hkn8.det hkn10
 subst hKK
 have hrr:=hh8.f (by omega) hh10
 subst hrr
 replace hH:=hH.ext hEh10
 refine ⟨_,rfl,hH.kp (by repeat' constructor),?_⟩
 clear hS; intro a hS
 refine Sq.guardYes hS rfl rfl (beq_self_eq_true _) (r_boolEql hS trivial rfl rfl Fc.isBool4 rfl (x_pickT trivial rfl (beq_self_eq_true _) rfl rfl (x_assign trivial rfl rfl ?_))); clear hS; intro a hS
 refine Sq.nil (then_n (wp_ret (blk_r (then_r ?_))))
 exact leave (.inl rfl) hS rfl (Res.tmp rfl Res.nil) ⟨by rw [beq_self_eq_true]; rfl,hpl.same (hX hH.mod)⟩

end Go.Proofs.YtcjmehononbadaaDoor
namespace Go.Proofs.YtcjmehononbadaaDoor
open Go.Sym


set_option maxRecDepth 100000 in
set_option maxHeartbeats 16000000 in
theorem does7 (k2 k3 k4 nu : Int) (s : ByteArray) (va vq : Value) (la lq : List UInt8) (o : Bool) (b : Nat) (V : VB) (r : Nat) (R : RB) (ts : List Tm) (sh hb hcap : Nat) (hl : List Value) (hs : List (List UInt8)) (sv : Value) (ss : List (List UInt8)) (hk4 : -9223372036854775808≤nu∧nu≤9223372036854775807) (hs9 : s.size≤9223372036854775807) (hla : la.length≤1099511627776) (hlq : lq.length≤1099511627776) (hts : ts.length≤1000000) (hhs : hs.length≤1000000) (hss9 : ss.length≤1000000) (w0 : World) (hpl : PL w0 b V r R ts sh hb hcap hl hs sv ss) (hva : BsF (FT b V r R sh hb sv) w0 va la) (hvq : BsF (FT b V r R sh hb sv) w0 vq lq) : Calls Tryd.prog 22 #[.pointer (some ⟨sh,0,none⟩),.pointer (some ⟨b,0,none⟩),.pointer (some ⟨r,0,none⟩),.agg #[.int .i64 7,.int .i64 k2,.int .i64 k3,.int .i64 k4,.string s,.int .i64 nu,va,vq,.bool o]] w0 fun e w' => e = .returned (.bool true)∧Next w0 b V r R ts sh hb hs sv ss w':=by
 refine enter Tryd.func22 rfl rfl rfl ?_
 intro a hS
 have hH:=Hp.start w0 (Nobody)
 obtain ⟨SS,hSS⟩ : ∃ S : Nat→Prop,S = Nobody:=⟨_,rfl⟩
 have hX : ∀ {u w : World},Mod SS u w→Ext u w:=fun h => by rw [hSS] at h; exact h
 have htp:=hpl.tp
 have hvaN : BsF Nobody w0 va la:=hva.go (Mod.refl _ _) (fun x hx => hx.elim)
 have hvqN : BsF Nobody w0 vq lq:=hvq.go (Mod.refl _ _) (fun x hx => hx.elim)
 obtain ⟨LS,hLS⟩ : ∃ z,z = seenL hs ss la nu k2:=⟨_,rfl⟩
 have hLl : LS.length≤1048576:=by have h9:=seenL_len (hs:=hs) (ss:=ss) (also:=la) (nu:=nu) (a:=k2); rw [←hLS] at h9; omega
 have hLb : ∀ l∈LS,l.length≤1099511627776:=by rw [hLS]; exact seenL_le hpl.sz hla (by decide) hpl.six
 obtain ⟨LB,hLB⟩ : ∃ z,z = pickB ss o k4 lq:=⟨_,rfl⟩
 have hLBl : LB.length≤1099511627776:=by rw [hLB]; exact pickB_le hpl.sz hlq
 obtain ⟨x,hx⟩ : ∃ y,y = pickH hs k2:=⟨_,rfl⟩
 have hx16 : x.length = 16:=by rw [hx]; exact pickH_len hpl.six _
 obtain ⟨x0,x1,x2,x3,x4,x5,x6,x7,x8,x9,xa,xb,xc,xd,xe,xf,rfl⟩:=len16 hx16
 obtain ⟨y,hy⟩ : ∃ y,y = pickH hs k3:=⟨_,rfl⟩
 have hy16 : y.length = 16:=by rw [hy]; exact pickH_len hpl.six _
 obtain ⟨y0,y1,y2,y3,y4,y5,y6,y7,y8,y9,ya,yb,yc,yd,ye,yf,rfl⟩:=len16 hy16
 obtain ⟨z,hz⟩ : ∃ y,y = pickH hs k4:=⟨_,rfl⟩
 have hz16 : z.length = 16:=by rw [hz]; exact pickH_len hpl.six _
 obtain ⟨z0,z1,z2,z3,z4,z5,z6,z7,z8,z9,za,zb,zc,zd,ze,zf,rfl⟩:=len16 hz16
 refine c_seq (reg_plain w0 (Nobody) ?_)
 refine r_box hS hH (by repeat' constructor) rfl rfl rfl ?_
 clear hS hH; intro a w b7 hb7 hwb7 hS hH
 refine r_assign hS hH.kp0 rfl rfl ?_; clear hS; intro a hS
 refine Sq.nil (then_n ?_)
 refine c_cut (fun a w => ∃ b9 b10 b11,w0.heap.size≤b9∧w0.heap.size≤b10∧w0.heap.size≤b11∧St 298 (lv [(0,.pointer (some ⟨sh,0,none⟩)),(1,.pointer (some ⟨b,0,none⟩)),(2,.pointer (some ⟨r,0,none⟩)),(7,.pointer (some ⟨b7,0,none⟩)),(8,.bool false),(9,.pointer (some ⟨b9,0,none⟩)),(10,.pointer (some ⟨b10,0,none⟩)),(11,.pointer (some ⟨b11,0,none⟩))]) a∧Hp w0 Nobody [(b11,.cells (hcells [z0,z1,z2,z3,z4,z5,z6,z7,z8,z9,za,zb,zc,zd,ze,zf]).toArray 26 (0,0)),(b10,.cells (hcells [y0,y1,y2,y3,y4,y5,y6,y7,y8,y9,ya,yb,yc,yd,ye,yf]).toArray 26 (0,0)),(b9,.cells (hcells [x0,x1,x2,x3,x4,x5,x6,x7,x8,x9,xa,xb,xc,xd,xe,xf]).toArray 26 (0,0)),(b7,.cells ([.int .i64 7,.int .i64 k2,.int .i64 k3,.int .i64 k4,.string s,.int .i64 nu,va,vq,.bool o] : List Value).toArray 36 (0,0))] w) ?_ ?_
 ·exact does_r1 7 k2 k3 k4 nu s va vq o b V r R ts sh hb hcap hl hs sv ss [x0,x1,x2,x3,x4,x5,x6,x7,x8,x9,xa,xb,xc,xd,xe,xf] [y0,y1,y2,y3,y4,y5,y6,y7,y8,y9,ya,yb,yc,yd,ye,yf] [z0,z1,z2,z3,z4,z5,z6,z7,z8,z9,za,zb,zc,zd,ze,zf] hx rfl hy rfl hz rfl w0 hpl b7 hb7 a w (hS.live ⟨rfl,rfl,rfl,rfl,rfl,trivial⟩) hH _ (by repeat (first | with_reducible exact steady_body | with_reducible apply steady_block | with_reducible apply steady_then | with_reducible apply steady_scope | exact steady_body))
 clear hS hH; intro a w hJ; obtain ⟨b9,b10,b11,hb9,hb10,hb11,hS,hH⟩:=hJ
 refine c_seq (reg_plain w0 (Nobody) ?_)
 refine r_buildA (parts:=[]) hS hH.kp0 rfl rfl Fc.zc26 Fc.ar26 (by rfl) ?_; clear hS; intro a hS
 refine r_alloc hS hH (by repeat' constructor) Fc.zc26 rfl ?_
 clear hS hH; intro a w b12 hb12 hwb12 hS hH
 refine r_store_row hS hH rfl rfl (by repeat' constructor) (by repeat' constructor) Fc.sz26 (by first | exact hcells_one _ | exact of_decide_eq_true rfl) (by rfl) (by first | exact .inr (by assumption) | exact .inl (by first | assumption | rfl)) ?_
 clear hH; intro w hH
 refine r_assign hS hH.kp0 rfl rfl ?_; clear hS; intro a hS
 refine Sq.nil (then_n (c_seq (reg_plain w0 (Nobody) ?_)))
 refine r_buildA (parts:=[]) hS hH.kp0 rfl rfl Fc.zc25 Fc.ar25 (by rfl) ?_; clear hS; intro a hS
 refine r_alloc hS hH (by repeat' constructor) Fc.zc25 rfl ?_
 clear hS hH; intro a w b14 hb14 hwb14 hS hH
 refine r_store_row hS hH rfl rfl (by repeat' constructor) (by repeat' constructor) Fc.sz25 (by first | exact hcells_one _ | exact of_decide_eq_true rfl) (by rfl) (by first | exact .inr (by assumption) | exact .inl (by first | assumption | rfl)) ?_
 clear hH; intro w hH
 refine r_assign hS hH.kp0 rfl rfl ?_; clear hS; intro a hS
 refine Sq.nil (then_n (c_seq (c_seq (reg_plain w0 (Nobody) ?_))))
 refine r_fieldAddr hS hH.kp0 rfl Fc.fo36_0 rfl (x_load_sc hH (by repeat' constructor) rfl (by repeat' constructor) Fc.sc3 (by rfl) rfl ?_); clear hS; intro a hS
 refine Sq.nil ?_
 have hbv:=hpl.bv.ext hH.mod
 have hlb : ∀ p∈([(b14,.cells #[] 0 (0,0)),(b12,.cells #[] 0 (0,0)),(b11,.cells #[] 0 (0,0)),(b10,.cells #[] 0 (0,0)),(b9,.cells #[] 0 (0,0)),(b7,.cells #[] 0 (0,0))] : Blocks),w0.heap.size≤p.1:=by intro p hp; simp only [List.mem_cons,List.not_mem_nil,or_false] at hp; rcases hp with rfl | rfl | rfl | rfl | rfl | rfl <;> assumption
 have hshl:=lt_of_block hpl.top
 have hhbl:=lt_of_block hpl.row
 replace hH:=((hH.know (hH.mod.heap_some hpl.row (fun h => h)) (by intro p hp; simp only [List.mem_cons,List.not_mem_nil,or_false] at hp; rcases hp with rfl | rfl | rfl | rfl | rfl | rfl <;> (dsimp only; omega))).know (hH.mod.heap_some hpl.top (fun h => h)) (by intro p hp; simp only [List.mem_cons,List.not_mem_nil,or_false] at hp; rcases hp with rfl | rfl | rfl | rfl | rfl | rfl | rfl <;> (first | exact Ne.symm hpl.ne | (dsimp only; omega)))).wide (S':=SS) (fun _ h => h.elim)
 clear hlb
 refine then_n (wp_block (c_seq (reg_plain w0 (SS) ?_)))
 refine r_eql hS hH.kp0 rfl rfl rfl (x_assign hH.kp0 rfl rfl ?_); clear hS; intro a hS
 refine Sq.nil (then_n (c_condF hS rfl rfl (c_seq (reg_plain w0 (SS) ?_))))
 refine r_eql hS hH.kp0 rfl rfl rfl (x_assign hH.kp0 rfl rfl ?_); clear hS; intro a hS
 refine Sq.nil (then_n (c_condF hS rfl rfl (c_seq (reg_plain w0 (SS) ?_))))
 refine r_eql hS hH.kp0 rfl rfl rfl (x_assign hH.kp0 rfl rfl ?_); clear hS; intro a hS
 refine Sq.nil (then_n (c_condF hS rfl rfl (c_seq (reg_plain w0 (SS) ?_))))
 refine r_eql hS hH.kp0 rfl rfl rfl (x_assign hH.kp0 rfl rfl ?_); clear hS; intro a hS
 refine Sq.nil (then_n (c_condF hS rfl rfl (c_seq (reg_plain w0 (SS) ?_))))
 refine r_eql hS hH.kp0 rfl rfl rfl (x_assign hH.kp0 rfl rfl ?_); clear hS; intro a hS
 refine Sq.nil (then_n (c_condF hS rfl rfl (c_seq (reg_plain w0 (SS) ?_))))
 refine r_eql hS hH.kp0 rfl rfl rfl (x_assign hH.kp0 rfl rfl ?_); clear hS; intro a hS
 refine Sq.nil (then_n (c_condF hS rfl rfl (c_seq (reg_plain w0 (SS) ?_))))
 refine r_eql hS hH.kp0 rfl rfl rfl (x_assign hH.kp0 rfl rfl ?_); clear hS; intro a hS
 refine Sq.nil (then_n (c_condF hS rfl rfl (c_seq (reg_plain w0 (SS) ?_))))
 refine r_eql hS hH.kp0 rfl rfl rfl (x_assign hH.kp0 rfl rfl ?_); clear hS; intro a hS
 refine Sq.nil (then_n (c_condT hS rfl rfl (c_seq ?_)))
 refine reg_draw [(true,0,[]),(true,1,[]),(true,2,[]),(true,3,[]),(true,4,[]),(true,5,[]),(true,6,[]),(true,7,[]),(false,8,[]),(false,9,[]),(true,10,[]),(true,11,[]),(true,12,[]),(true,13,[]),(true,14,[])] Fc.mixed (by kernel_rfl) (by kernel_rfl) (by kernel_rfl) (by kernel_rfl) (by kernel_rfl) (by repeat (first | with_reducible exact steady_body | with_reducible apply steady_block | with_reducible apply steady_then | with_reducible apply steady_scope | exact steady_body)) hH ?_
 replace hH:=hH.drew
 refine r_move hS trivial rfl rfl (x_load_rowS rfl (by repeat' constructor) Fc.ag26 (by rfl) rfl (x_fieldAddr trivial rfl Fc.fo36_5 rfl (x_load_scS rfl (by repeat' constructor) Fc.sc3 (by rfl) rfl (x_fieldAddr trivial rfl Fc.fo36_6 rfl (x_load_scS rfl (by repeat' constructor) Fc.sc22 (by rfl) rfl (x_move trivial rfl rfl (x_load_rowS rfl (by repeat' constructor) Fc.ag36 (by rfl) rfl ?_))))))); clear hS; intro a hS
 refine r_call (l:=[.tmp 196,.tmp 197]) hS rfl rfl Fc.fn40 rfl ?_
 refine Calls.mono (bytes_c 7 k2 k3 k4 nu s va vq o lq sh hb hcap hl hs sv ss _ (hpl.shf.ext (hX hH.mod)) (hvqN.go (hX hH.mod) (fun _ h => .inl h))) ?_
 rintro e w1 ⟨vb1,rfl,hbb1,hEb1⟩
 rw [←hLB] at hbb1
 replace hH:=hH.ext hEb1
 refine ⟨_,rfl,hH.kp (by repeat' constructor),?_⟩
 clear hS; intro a hS
 refine r_call (l:=[.tmp 190,.tmp 191,.tmp 193,.tmp 195,.tmp 198]) hS rfl rfl Fc.fn9 rfl ?_
 refine Calls.mono (Open_c b V ts [x0,x1,x2,x3,x4,x5,x6,x7,x8,x9,xa,xb,xc,xd,xe,xf] rfl nu hk4.2 va vb1 la LB (by omega) hLBl (by omega) _ (hpl.bv.v.ext (hX hH.mod)) (hvaN.go (hX hH.mod) (fun _ h => .inl h)) hbb1) ?_
 rintro e w1 ⟨sv1,o1,e1,rfl,hbo1,hop1,hE2⟩
 replace hH:=hH.ext hE2
 replace hbo1:=hbo1.go (F':=Nobody) (Mod.refl _ _) (fun _ h => h.elim)
 refine ⟨_,rfl,hH.kp (by repeat' constructor),?_⟩
 clear hS; intro a hS
 refine r_move hS trivial rfl rfl (x_extract trivial rfl rfl rfl (x_extract trivial rfl rfl rfl (x_assign trivial rfl rfl (x_assign trivial rfl rfl ?_)))); clear hS; intro a hS
 refine Sq.nil (then_n (c_seq ?_))
 refine reg_draw [(true,0,[]),(true,1,[]),(true,2,[]),(true,3,[]),(true,4,[]),(true,5,[]),(true,6,[]),(true,7,[]),(false,8,[]),(false,9,[]),(true,10,[]),(true,11,[]),(true,12,[]),(true,13,[]),(true,14,[])] Fc.mixed (by kernel_rfl) (by kernel_rfl) (by kernel_rfl) (by kernel_rfl) (by kernel_rfl) (by repeat (first | with_reducible exact steady_body | with_reducible apply steady_block | with_reducible apply steady_then | with_reducible apply steady_scope | exact steady_body)) hH ?_
 replace hH:=hH.drew
 replace hbo1:=hbo1.go (Ext.drew _) (fun _ h => .inl h)
 refine r_move hS trivial rfl rfl (x_load_rowS rfl (by repeat' constructor) Fc.ag26 (by rfl) rfl (x_fieldAddr trivial rfl Fc.fo36_5 rfl (x_load_scS rfl (by repeat' constructor) Fc.sc3 (by rfl) rfl (x_fieldAddr trivial rfl Fc.fo36_6 rfl (x_load_scS rfl (by repeat' constructor) Fc.sc22 (by rfl) rfl (x_move trivial rfl rfl (x_load_rowS rfl (by repeat' constructor) Fc.ag36 (by rfl) rfl ?_))))))); clear hS; intro a hS
 refine r_call (l:=[.tmp 209,.tmp 210]) hS rfl rfl Fc.fn40 rfl ?_
 refine Calls.mono (bytes_c 7 k2 k3 k4 nu s va vq o lq sh hb hcap hl hs sv ss _ (hpl.shf.ext (hX hH.mod)) (hvqN.go (hX hH.mod) (fun _ h => .inl h))) ?_
 rintro e w1 ⟨vb3,rfl,hbb3,hEb3⟩
 rw [←hLB] at hbb3
 replace hH:=hH.ext hEb3
 replace hbo1:=hbo1.go hEb3 (fun _ h => .inl h)
 refine ⟨_,rfl,hH.kp (by repeat' constructor),?_⟩
 clear hS; intro a hS
 refine r_call (l:=[.tmp 203,.tmp 204,.tmp 206,.tmp 208,.tmp 211]) hS rfl rfl Fc.fn41 rfl ?_
 refine Calls.mono (rOpen_c r R ts [x0,x1,x2,x3,x4,x5,x6,x7,x8,x9,xa,xb,xc,xd,xe,xf] rfl nu hk4.2 va vb3 la LB (by omega) hLBl hpl.wf hpl.sel (by omega) _ (hpl.bv.r.ext (hX hH.mod)) (hvaN.go (hX hH.mod) (fun _ h => .inl h)) hbb3) ?_
 rintro e w1 ⟨sv2,o2,e2,rfl,hbo2,hop2,hE4⟩
 obtain ⟨hq1,hq2⟩:=hop1.det (by omega) hop2
 subst hq1 hq2
 replace hH:=hH.ext hE4
 replace hbo2:=hbo2.go (F':=Nobody) (Mod.refl _ _) (fun _ h => h.elim)
 replace hbo1:=hbo1.go hE4 (fun _ h => .inl h)
 refine ⟨_,rfl,hH.kp (by repeat' constructor),?_⟩
 clear hS; intro a hS
 refine r_move hS trivial rfl rfl (x_extract trivial rfl rfl rfl (x_extract trivial rfl rfl rfl (x_assign trivial rfl rfl (x_assign trivial rfl rfl ?_)))); clear hS; intro a hS
 refine Sq.nil (then_n (c_seq (c_seq (reg_plain w0 (SS) ?_))))
 refine r_move hS hH.kp0 rfl rfl (x_bytesStr hH.kp0 rfl hbo1.bs Fc.u8s22 Fc.isStr9 rfl (x_move hH.kp0 rfl rfl (x_bytesStr hH.kp0 rfl hbo2.bs Fc.u8s22 Fc.isStr9 rfl (x_strNeq hH.kp0 rfl rfl rfl ?_)))); clear hS; intro a hS
 refine Sq.nil (then_n ?_)
 refine c_condF hS rfl (bne_self_eq_false _) ?_
 refine wp_skip (then_n (reg_plain w0 (SS) ?_))
 refine r_move hS hH.kp0 rfl rfl (x_move hH.kp0 rfl rfl (x_assign hH.kp0 rfl rfl (x_assign hH.kp0 rfl rfl ?_))); clear hS; intro a hS
 refine Sq.nil (blk_n (then_n (c_seq (c_seq (reg_plain w0 (SS) ?_)))))
 refine r_load_row hS hH (by repeat' constructor) rfl (by repeat' constructor) Fc.ag26 (by rfl) rfl (x_load_row hH (by repeat' constructor) rfl (by repeat' constructor) Fc.ag25 (by rfl) rfl (x_arrNeq (h:=zH) (g:=zH) Fc.arrH hH.kp0 rfl rfl rfl rfl rfl (x_move hH.kp0 rfl rfl ?_))); clear hS; intro a hS
 refine Sq.guardYes hS rfl rfl (by rw [decide_eq_true rfl]; rfl) ?_
 refine r_move hS hH.kp0 rfl rfl ?_; clear hS; intro a hS
 refine Sq.guardYes hS rfl rfl (by rw [decide_eq_true rfl]; rfl) ?_
 refine r_move hS hH.kp0 rfl rfl ?_; clear hS; intro a hS
 refine Sq.guardYes hS rfl rfl (by rw [decide_eq_true rfl]; rfl) ?_
 refine r_neq hS hH.kp0 rfl rfl rfl ?_; clear hS; intro a hS
 refine r_pickF hS hH.kp0 rfl (by rw [decide_eq_true rfl]; rfl) rfl rfl ?_; clear hS; intro a hS
 refine Sq.nil (then_n ?_)
 refine c_condF hS rfl (bne_self_eq_false _) ?_
 refine wp_skip (then_n (c_seq (c_seq (reg_plain w0 (SS) ?_))))
 refine r_load_row hS hH (by repeat' constructor) rfl (by repeat' constructor) Fc.ag26 (by rfl) rfl (x_buildA (parts:=[]) hH.kp0 rfl rfl Fc.zc26 Fc.ar26 (by rfl) (x_arrNeq (h:=zH) (g:=zH) Fc.arrH hH.kp0 rfl rfl rfl rfl rfl ?_)); clear hS; intro a hS
 refine Sq.nil (then_n ?_)
 refine c_condF hS rfl (by rw [decide_eq_true rfl]; rfl) ?_
 refine wp_skip (then_n (c_seq ?_))
 refine reg_draw [(true,0,[]),(true,1,[]),(true,3,[]),(true,4,[]),(false,2,[]),(false,5,[]),(true,6,[]),(true,7,[]),(true,8,[])] Fc.mixed (by kernel_rfl) (by kernel_rfl) (by kernel_rfl) (by kernel_rfl) (by kernel_rfl) (by repeat (first | with_reducible exact steady_body | with_reducible apply steady_block | with_reducible apply steady_then | with_reducible apply steady_scope | exact steady_body)) hH ?_
 replace hH:=hH.drew
 replace hbv:=hpl.bv.ext (hX hH.mod)
 refine r_move hS trivial rfl rfl (x_load_rowS rfl (by repeat' constructor) Fc.ag26 (by rfl) rfl (x_move trivial rfl rfl (x_load_rowS rfl (by repeat' constructor) Fc.ag26 (by rfl) rfl ?_))); clear hS; intro a hS
 refine r_call (l:=[.tmp 290,.tmp 291]) hS rfl rfl Fc.fn18 rfl ?_
 refine Calls.mono (Known_v b V ts [x0,x1,x2,x3,x4,x5,x6,x7,x8,x9,xa,xb,xc,xd,xe,xf] rfl _ hbv.v) ?_
 rintro e w1 ⟨kb,rfl,hkb,hE⟩
 replace hH:=hH.ext hE
 replace hbv:=hbv.ext hE
 refine ⟨_,rfl,hH.kp (by repeat' constructor),?_⟩
 clear hS; intro a hS
 refine r_call (l:=[.tmp 293,.tmp 294]) hS rfl rfl Fc.fn46 rfl ?_
 refine Calls.mono (rOf_c r R ts [x0,x1,x2,x3,x4,x5,x6,x7,x8,x9,xa,xb,xc,xd,xe,xf] rfl (by omega) _ hbv.r) ?_
 rintro e w1 ⟨x9,rfl,hx9,hE⟩
 replace hH:=hH.ext hE
 replace hbv:=hbv.ext hE
 refine ⟨_,rfl,hH.kp (by repeat' constructor),?_⟩
 clear hS; intro a hS
 refine r_geq hS trivial rfl rfl rfl (x_boolEql trivial rfl rfl Fc.isBool4 rfl (x_assign trivial rfl rfl ?_)); clear hS; intro a hS
 refine Sq.nil (then_n (wp_ret ?_))
 exact leave (.inl rfl) hS rfl (Res.tmp rfl Res.nil) ⟨by rw [known_eq hkb hx9]; rfl,hpl.same (hX hH.mod)⟩

end Go.Proofs.YtcjmehononbadaaDoor
namespace Go.Proofs.YtcjmehononbadaaDoor
open Go.Sym


set_option maxRecDepth 100000 in
set_option maxHeartbeats 16000000 in
theorem does6 (k2 k3 k4 nu : Int) (s : ByteArray) (va vq : Value) (la lq : List UInt8) (o : Bool) (b : Nat) (V : VB) (r : Nat) (R : RB) (ts : List Tm) (sh hb hcap : Nat) (hl : List Value) (hs : List (List UInt8)) (sv : Value) (ss : List (List UInt8)) (hk4 : -9223372036854775808≤nu∧nu≤9223372036854775807) (hs9 : s.size≤9223372036854775807) (hla : la.length≤1099511627776) (hlq : lq.length≤1099511627776) (hts : ts.length≤1000000) (hhs : hs.length≤1000000) (hss9 : ss.length≤1000000) (w0 : World) (hpl : PL w0 b V r R ts sh hb hcap hl hs sv ss) (hva : BsF (FT b V r R sh hb sv) w0 va la) (hvq : BsF (FT b V r R sh hb sv) w0 vq lq) : Calls Tryd.prog 22 #[.pointer (some ⟨sh,0,none⟩),.pointer (some ⟨b,0,none⟩),.pointer (some ⟨r,0,none⟩),.agg #[.int .i64 6,.int .i64 k2,.int .i64 k3,.int .i64 k4,.string s,.int .i64 nu,va,vq,.bool o]] w0 fun e w' => e = .returned (.bool true)∧Next w0 b V r R ts sh hb hs sv ss w':=by
 refine enter Tryd.func22 rfl rfl rfl ?_
 intro a hS
 have hH:=Hp.start w0 (Nobody)
 obtain ⟨SA,hSA⟩ : ∃ S : Nat→Prop,S = FS b V r R sh hb:=⟨_,rfl⟩
 obtain ⟨SS,hSS⟩ : ∃ S : Nat→Prop,S = FT b V r R sh hb sv:=⟨_,rfl⟩
 have hvaS : BsF SA w0 va la:=hva.go (Mod.refl _ _) (fun x hx => .inl (.inl (hSA ▸ hx)))
 have hvqS : BsF SA w0 vq lq:=hvq.go (Mod.refl _ _) (fun x hx => .inl (.inl (hSA ▸ hx)))
 have huq:=hpl.bv.v.ok.uq
 have htp:=hpl.tp
 obtain ⟨x,hx⟩ : ∃ y,y = pickH hs k2:=⟨_,rfl⟩
 have hx16 : x.length = 16:=by rw [hx]; exact pickH_len hpl.six _
 obtain ⟨x0,x1,x2,x3,x4,x5,x6,x7,x8,x9,xa,xb,xc,xd,xe,xf,rfl⟩:=len16 hx16
 obtain ⟨y,hy⟩ : ∃ y,y = pickH hs k3:=⟨_,rfl⟩
 have hy16 : y.length = 16:=by rw [hy]; exact pickH_len hpl.six _
 obtain ⟨y0,y1,y2,y3,y4,y5,y6,y7,y8,y9,ya,yb,yc,yd,ye,yf,rfl⟩:=len16 hy16
 obtain ⟨z,hz⟩ : ∃ y,y = pickH hs k4:=⟨_,rfl⟩
 have hz16 : z.length = 16:=by rw [hz]; exact pickH_len hpl.six _
 obtain ⟨z0,z1,z2,z3,z4,z5,z6,z7,z8,z9,za,zb,zc,zd,ze,zf,rfl⟩:=len16 hz16
 refine c_seq (reg_plain w0 (Nobody) ?_)
 refine r_box hS hH (by repeat' constructor) rfl rfl rfl ?_
 clear hS hH; intro a w b7 hb7 hwb7 hS hH
 refine r_assign hS hH.kp0 rfl rfl ?_; clear hS; intro a hS
 refine Sq.nil (then_n ?_)
 refine c_cut (fun a w => ∃ b9 b10 b11,w0.heap.size≤b9∧w0.heap.size≤b10∧w0.heap.size≤b11∧St 298 (lv [(0,.pointer (some ⟨sh,0,none⟩)),(1,.pointer (some ⟨b,0,none⟩)),(2,.pointer (some ⟨r,0,none⟩)),(7,.pointer (some ⟨b7,0,none⟩)),(8,.bool false),(9,.pointer (some ⟨b9,0,none⟩)),(10,.pointer (some ⟨b10,0,none⟩)),(11,.pointer (some ⟨b11,0,none⟩))]) a∧Hp w0 Nobody [(b11,.cells (hcells [z0,z1,z2,z3,z4,z5,z6,z7,z8,z9,za,zb,zc,zd,ze,zf]).toArray 26 (0,0)),(b10,.cells (hcells [y0,y1,y2,y3,y4,y5,y6,y7,y8,y9,ya,yb,yc,yd,ye,yf]).toArray 26 (0,0)),(b9,.cells (hcells [x0,x1,x2,x3,x4,x5,x6,x7,x8,x9,xa,xb,xc,xd,xe,xf]).toArray 26 (0,0)),(b7,.cells ([.int .i64 6,.int .i64 k2,.int .i64 k3,.int .i64 k4,.string s,.int .i64 nu,va,vq,.bool o] : List Value).toArray 36 (0,0))] w) ?_ ?_
 ·exact does_r1 6 k2 k3 k4 nu s va vq o b V r R ts sh hb hcap hl hs sv ss [x0,x1,x2,x3,x4,x5,x6,x7,x8,x9,xa,xb,xc,xd,xe,xf] [y0,y1,y2,y3,y4,y5,y6,y7,y8,y9,ya,yb,yc,yd,ye,yf] [z0,z1,z2,z3,z4,z5,z6,z7,z8,z9,za,zb,zc,zd,ze,zf] hx rfl hy rfl hz rfl w0 hpl b7 hb7 a w (hS.live ⟨rfl,rfl,rfl,rfl,rfl,trivial⟩) hH _ (by repeat (first | with_reducible exact steady_body | with_reducible apply steady_block | with_reducible apply steady_then | with_reducible apply steady_scope | exact steady_body))
 clear hS hH; intro a w hJ; obtain ⟨b9,b10,b11,hb9,hb10,hb11,hS,hH⟩:=hJ
 refine c_seq (reg_plain w0 (Nobody) ?_)
 refine r_buildA (parts:=[]) hS hH.kp0 rfl rfl Fc.zc26 Fc.ar26 (by rfl) ?_; clear hS; intro a hS
 refine r_alloc hS hH (by repeat' constructor) Fc.zc26 rfl ?_
 clear hS hH; intro a w b12 hb12 hwb12 hS hH
 refine r_store_row hS hH rfl rfl (by repeat' constructor) (by repeat' constructor) Fc.sz26 (by first | exact hcells_one _ | exact of_decide_eq_true rfl) (by rfl) (by first | exact .inr (by assumption) | exact .inl (by first | assumption | rfl)) ?_
 clear hH; intro w hH
 refine r_assign hS hH.kp0 rfl rfl ?_; clear hS; intro a hS
 refine Sq.nil (then_n (c_seq (reg_plain w0 (Nobody) ?_)))
 refine r_buildA (parts:=[]) hS hH.kp0 rfl rfl Fc.zc25 Fc.ar25 (by rfl) ?_; clear hS; intro a hS
 refine r_alloc hS hH (by repeat' constructor) Fc.zc25 rfl ?_
 clear hS hH; intro a w b14 hb14 hwb14 hS hH
 refine r_store_row hS hH rfl rfl (by repeat' constructor) (by repeat' constructor) Fc.sz25 (by first | exact hcells_one _ | exact of_decide_eq_true rfl) (by rfl) (by first | exact .inr (by assumption) | exact .inl (by first | assumption | rfl)) ?_
 clear hH; intro w hH
 refine r_assign hS hH.kp0 rfl rfl ?_; clear hS; intro a hS
 refine Sq.nil (then_n (c_seq (c_seq (reg_plain w0 (Nobody) ?_))))
 refine r_fieldAddr hS hH.kp0 rfl Fc.fo36_0 rfl (x_load_sc hH (by repeat' constructor) rfl (by repeat' constructor) Fc.sc3 (by rfl) rfl ?_); clear hS; intro a hS
 refine Sq.nil (then_n (wp_block (c_seq (reg_plain w0 (Nobody) ?_))))
 refine r_eql hS hH.kp0 rfl rfl rfl (x_assign hH.kp0 rfl rfl ?_); clear hS; intro a hS
 refine Sq.nil (then_n (c_condF hS rfl rfl (c_seq (reg_plain w0 (Nobody) ?_))))
 refine r_eql hS hH.kp0 rfl rfl rfl (x_assign hH.kp0 rfl rfl ?_); clear hS; intro a hS
 refine Sq.nil (then_n (c_condF hS rfl rfl (c_seq (reg_plain w0 (Nobody) ?_))))
 refine r_eql hS hH.kp0 rfl rfl rfl (x_assign hH.kp0 rfl rfl ?_); clear hS; intro a hS
 refine Sq.nil (then_n (c_condF hS rfl rfl (c_seq (reg_plain w0 (Nobody) ?_))))
 refine r_eql hS hH.kp0 rfl rfl rfl (x_assign hH.kp0 rfl rfl ?_); clear hS; intro a hS
 refine Sq.nil (then_n (c_condF hS rfl rfl (c_seq (reg_plain w0 (Nobody) ?_))))
 refine r_eql hS hH.kp0 rfl rfl rfl (x_assign hH.kp0 rfl rfl ?_); clear hS; intro a hS
 refine Sq.nil (then_n (c_condF hS rfl rfl (c_seq (reg_plain w0 (Nobody) ?_))))
 refine r_eql hS hH.kp0 rfl rfl rfl (x_assign hH.kp0 rfl rfl ?_); clear hS; intro a hS
 refine Sq.nil (then_n (c_condF hS rfl rfl (c_seq (reg_plain w0 (Nobody) ?_))))
 refine r_eql hS hH.kp0 rfl rfl rfl (x_assign hH.kp0 rfl rfl ?_); clear hS; intro a hS
 refine Sq.nil (then_n (c_condT hS rfl rfl (c_seq (reg_plain w0 (Nobody) ?_))))
 refine r_buildSlice0 hS hH (by repeat' constructor) Fc.und22 Fc.inf5 rfl ?_
 clear hS hH; intro a w b133 hb133 hwb133 hS hH
 refine r_fieldAddr hS hH.kp0 rfl Fc.fo36_7 rfl (x_load_sc hH (by repeat' constructor) rfl (by repeat' constructor) Fc.sc22 (by rfl) rfl ?_); clear hS; intro a hS
 refine r_append_own2 (l:=[]) hS hH rfl rfl (by repeat' constructor) (by repeat' constructor) Fc.elBy Fc.niBy rfl (Nat.le_refl _) (hvq.go (F':=Nobody) (Mod.refl _ _) (fun _ h => h.elim) _ hH.mod).src (by omega) hb133 rfl ?_
 clear hS hH; intro a w ob1 cap1 l1 hob1 hl1 hc1_ htk1 _ hS hH
 rw [Nat.zero_add lq.length] at hS hc1_ htk1
 refine r_assign hS hH.kp0 rfl rfl ?_; clear hS; intro a hS
 refine Sq.nil ?_
 have hbv:=hpl.bv.ext hH.mod
 have hshl:=lt_of_block hpl.top
 have hhbl:=lt_of_block hpl.row
 replace hH:=((hH.know (hH.mod.heap_some hpl.row (fun h => h)) (by intro p hp; simp only [List.mem_cons,List.not_mem_nil,or_false] at hp; rcases hp with rfl | rfl | rfl | rfl | rfl | rfl | rfl <;> (dsimp only; omega))).know (hH.mod.heap_some hpl.top (fun h => h)) (by intro p hp; simp only [List.mem_cons,List.not_mem_nil,or_false] at hp; rcases hp with rfl | rfl | rfl | rfl | rfl | rfl | rfl | rfl <;> (first | exact Ne.symm hpl.ne | (dsimp only; omega)))).wide (S':=SA) (fun _ h => h.elim)
 have hVS : ∀ x,V.F b x→SA x∨w0.heap.size≤x:=fun x hx => .inl (by rw [hSA]; exact .inl hx)
 have hRS : ∀ x,R.F r x→SA x∨w0.heap.size≤x:=fun x hx => .inl (by rw [hSA]; exact .inr (.inl hx))
 refine then_n (c_seq (reg_plain w0 (SA) ?_))
 refine r_move hS hH.kp0 rfl rfl (x_load_row hH (by repeat' constructor) rfl (by repeat' constructor) Fc.ag26 (by rfl) rfl (x_fieldAddr hH.kp0 rfl Fc.fo36_5 rfl (x_load_sc hH (by repeat' constructor) rfl (by repeat' constructor) Fc.sc3 (by rfl) rfl (x_fieldAddr hH.kp0 rfl Fc.fo36_6 rfl (x_load_sc hH (by repeat' constructor) rfl (by repeat' constructor) Fc.sc22 (by rfl) rfl (x_move hH.kp0 rfl rfl ?_)))))); clear hS; intro a hS
 refine r_call (l:=[.tmp 138,.tmp 139,.tmp 141,.tmp 143,.tmp 144]) hS rfl rfl Fc.fn8 rfl ?_
 have hRlt:=hbv.r.lt
 refine Calls.mono (Seal_c b V ts [x0,x1,x2,x3,x4,x5,x6,x7,x8,x9,xa,xb,xc,xd,xe,xf] rfl nu hk4.2 va (.slice (some ⟨ob1,0,none⟩) lq.length cap1) la lq (by omega) (by omega) _ hbv.v (hvaS.go hH.mod hVS) (BsF.row (F:=V.F b) (hH.get (b:=ob1) (by repeat' constructor)) (hbv.v.notF (hH.get (b:=ob1) (by repeat' constructor)) (by decide) (by decide)) hl1 hc1_ (by rw [htk1]; rfl) rfl)) ?_
 rintro e w1 ⟨sv1,o1,e1,V1,ts1,rfl,hbo1,hvi1,hst1,hsT1⟩
 have hq:=hH.callV hbv hst1 (by repeat (first | exact Clear.nil _ | refine Clear.cons (by decide) ?_)) hVS
 clear hH hVS
 obtain ⟨hH,hVS⟩:=hq
 replace hbv:=hbv.callV hvi1 hst1
 replace hbo1:=hbo1.go (F':=fun z => R.F r z) (Mod.refl _ _) (fun x hx => .inl (hRlt x hx))
 refine ⟨_,rfl,hH.kp0,?_⟩
 clear hS; intro a hS
 refine r_move hS hH.kp0 rfl rfl (x_extract hH.kp0 rfl rfl rfl (x_extract hH.kp0 rfl rfl rfl (x_assign hH.kp0 rfl rfl (x_assign hH.kp0 rfl rfl ?_)))); clear hS; intro a hS
 refine Sq.nil (then_n (c_seq (reg_plain w0 (SA) ?_)))
 refine r_move hS hH.kp0 rfl rfl (x_load_row hH (by repeat' constructor) rfl (by repeat' constructor) Fc.ag26 (by rfl) rfl (x_fieldAddr hH.kp0 rfl Fc.fo36_5 rfl (x_load_sc hH (by repeat' constructor) rfl (by repeat' constructor) Fc.sc3 (by rfl) rfl (x_fieldAddr hH.kp0 rfl Fc.fo36_6 rfl (x_load_sc hH (by repeat' constructor) rfl (by repeat' constructor) Fc.sc22 (by rfl) rfl (x_fieldAddr hH.kp0 rfl Fc.fo36_7 rfl (x_load_sc hH (by repeat' constructor) rfl (by repeat' constructor) Fc.sc22 (by rfl) rfl ?_))))))); clear hS; intro a hS
 refine r_call (l:=[.tmp 149,.tmp 150,.tmp 152,.tmp 154,.tmp 156]) hS rfl rfl Fc.fn39 rfl ?_
 have hVlt:=hbv.v.lt
 have hw25:=hH.mod.size
 refine Calls.mono (rSeal_c r R ts [x0,x1,x2,x3,x4,x5,x6,x7,x8,x9,xa,xb,xc,xd,xe,xf] rfl nu hk4.2 va vq la lq (by omega) (by omega) _ hbv.r (hvaS.go hH.mod hRS) (hvqS.go hH.mod hRS)) ?_
 rintro e w1 ⟨sv2,o2,e2,R1,ts2,rfl,hbo2,hri1,hst2,hsT2⟩
 obtain ⟨hq1,hq2,hq3⟩:=hsT1.det huq (by omega) hsT2
 subst hq1 hq2 hq3
 replace hbo1:=hbo1.go (F':=Nobody) hst2.mod (fun _ h => h.elim)
 have hboF : BsF (fun z => V1.F b z∨R1.F r z∨z < w0.heap.size) _ sv2 o1:=hbo2.go (Mod.refl _ _) (fun x hx => .inl (by rcases hx with hx | hx | hx; exact .inl (hVlt x hx); exact .inr hx; exact .inl (by omega)))
 clear hbo2
 have hq:=hH.callR hbv hst2 (by repeat (first | exact Clear.nil _ | refine Clear.cons (by decide) ?_)) hRS
 clear hH hRS
 obtain ⟨hH,hRS⟩:=hq
 replace hbv:=hbv.callR hri1 hst2
 have hlt0:=hsT1.lens.1
 have hlt1:=hsT1.lens.2
 have hwf1:=hsT1.wf6 hpl.wf
 have hsl1:=hsT1.sel6 hpl.sel
 obtain ⟨q2,c2,hsl2⟩:=hboF.bs
 have hv2:=hsl2.val
 subst hv2
 refine ⟨_,rfl,hH.kp0,?_⟩
 clear hS; intro a hS
 refine r_move hS hH.kp0 rfl rfl (x_extract hH.kp0 rfl rfl rfl (x_extract hH.kp0 rfl rfl rfl (x_assign hH.kp0 rfl rfl (x_assign hH.kp0 rfl rfl ?_)))); clear hS; intro a hS
 refine Sq.nil (then_n (c_seq (c_seq (reg_plain w0 (SA) ?_))))
 refine r_move hS hH.kp0 rfl rfl (x_bytesStr hH.kp0 rfl hbo1.bs Fc.u8s22 Fc.isStr9 rfl (x_move hH.kp0 rfl rfl (x_bytesStr hH.kp0 rfl hboF.bs Fc.u8s22 Fc.isStr9 rfl (x_strNeq hH.kp0 rfl rfl rfl (x_move hH.kp0 rfl rfl (Sq.xguardYes rfl rfl (bne_self_eq_false _) (x_move hH.kp0 rfl rfl (Sq.xguardYes rfl rfl (bne_self_eq_false _) ?_)))))))); clear hS; intro a hS
 refine r_bytesStr (l:=lq) hS hH.kp0 rfl (BsF.row (F:=Nobody) (hH.get (b:=ob1) (by repeat' constructor)) (fun h => h) hl1 hc1_ (by rw [htk1]; rfl) rfl).bs Fc.u8s22 Fc.isStr9 rfl ?_; clear hS; intro a hS
 refine Sq.guardYes hS rfl rfl (bne_self_eq_false _) (r_fieldAddr hS hH.kp0 rfl Fc.fo36_7 rfl (Sq.xguardYes rfl rfl (bne_self_eq_false _) (x_load_sc hH (by repeat' constructor) rfl (by repeat' constructor) Fc.sc22 (by rfl) rfl (Sq.xguardYes rfl rfl (bne_self_eq_false _) (x_bytesStr hH.kp0 rfl (hvqS.go (F':=Nobody) hH.mod (fun _ h => h.elim)).bs Fc.u8s22 Fc.isStr9 rfl (Sq.xguardYes rfl rfl (bne_self_eq_false _) (x_strNeq hH.kp0 rfl rfl rfl (x_pickF hH.kp0 rfl (bne_self_eq_false _) rfl rfl ?_)))))))); clear hS; intro a hS
 refine Sq.nil (then_n ?_)
 refine c_condF hS rfl (bne_self_eq_false _) ?_
 refine wp_skip (then_n (c_seq (c_seq (reg_plain w0 (SA) ?_))))
 by_cases he0 : e1 = 0
 ·subst he0
  refine r_move hS hH.kp0 rfl rfl (x_eql hH.kp0 rfl rfl rfl ?_); clear hS; intro a hS
  refine Sq.nil (then_n (c_condT hS rfl rfl ?_))
  have hH9:=hH
  rw [hSA] at hH9
  have hTd9:=hpl.td.go hH9.mod
  obtain ⟨xs,hKO,hBL⟩:=hpl.td.koTo hH9 (by intro p hp l fz; simp only [List.mem_cons,List.not_mem_nil,or_false] at hp; rcases hp with rfl | rfl | rfl | rfl | rfl | rfl | rfl | rfl | rfl <;> (intro h; injection h with _ h2; revert h2; decide))
  clear hH9
  have hBL9 : BL SS w0 xs ss:=by rw [hSS]; exact hBL
  have hsz25:=hH.mod.size
  replace hH:=hH.wide (S':=SS) (fun x h => by rw [hSS]; exact .inl (hSA ▸ h))
  have hVS9 : ∀ x,V1.F b x→SS x∨w0.heap.size≤x:=fun x hx => (hVS x hx).imp (fun h => by rw [hSS]; exact .inl (hSA ▸ h)) id
  have hRS9 : ∀ x,R1.F r x→SS x∨w0.heap.size≤x:=fun x hx => (hRS x hx).imp (fun h => by rw [hSS]; exact .inl (hSA ▸ h)) id
  refine reg_plain w0 (SS) ?_
  refine r_move hS hH.kp0 rfl rfl (x_move hH.kp0 rfl rfl (x_nilCheck hH.kp0 rfl rfl (x_fieldAddr hH.kp0 rfl Fc.fo59_1 rfl (x_load_sc hH (by repeat' constructor) rfl (by repeat' constructor) Fc.sc31 (by rfl) rfl (x_move hH.kp0 rfl rfl ?_))))); clear hS; intro a hS
  refine r_buildSliceW (parts:=[(0,.tmp 180)]) hS hH (by repeat' constructor) rfl Fc.bsl31_1 (by rfl) rfl ?_
  clear hS hH; intro a w b181 hb181 hwb181 hE29 hS hH
  have hap9:=hTd9.apart hE29 hH hwb181 (by intro p hp l fz; simp only [List.mem_cons,List.not_mem_nil,or_false] at hp; rcases hp with rfl | rfl | rfl | rfl | rfl | rfl | rfl | rfl | rfl <;> (intro h; injection h with _ h2; revert h2; decide))
  have hKO9:=KO.wide (S':=SS) hKO (fun x h => by rw [hSS]; exact h) (fun b l h => hE29.heap_some h) hap9
  replace hbv:=hbv.ext hE29
  replace hTd9:=hTd9.go (hE29.mono (fun _ h => h.elim))
  have hE29b:=hE29
  have hw29:=hH.mod.size
  refine r_append_KB hS hH (by repeat' constructor) rfl rfl hKO9 Fc.el31 Fc.ni31 (src_one (hH.get .here) rfl) (by omega) rfl ?_
  clear hS hH; intro a w sv3 hKO3 hfr hmd hS hH
  replace hbv:=hbv.todo hTd9 hmd (by decide)
  have hFS9 : ∀ x,FS b V1 r R1 sh hb x→SS x∨w0.heap.size≤x:=by rintro x (hx | hx | rfl | rfl); exact hVS9 x hx; exact hRS9 x hx; exact .inl (by rw [hSS]; exact .inl (.inr (.inr (.inl rfl)))); exact .inl (by rw [hSS]; exact .inl (.inr (.inr (.inr rfl))))
  have hnF9 : ∀ (b9 : Nat) (l9 : List Value),w.heap[b9]? = some (.cells l9.toArray 22 (0,0))→¬ FS b V1 r R1 sh hb b9:=by
   intro b9 l9 h9
   have hc8:=hH.get (b:=sh) (o:=.cells ([.slice (some ⟨hb,0,none⟩) hs.length hcap,sv] : List Value).toArray 59 (0,0)) (by repeat' constructor)
   have hc9:=hH.get (b:=hb) (o:=.cells hl.toArray 26 (0,0)) (by repeat' constructor)
   rintro (hx | hx | rfl | rfl)
   ·exact hbv.v.notF h9 (by decide) (by decide) hx
   ·exact hbv.r.notF h9 (by decide) (by decide) hx
   ·rw [h9] at hc8; injection hc8 with hc8; injection hc8 with _ h2; revert h2; decide
   ·rw [h9] at hc9; injection hc9 with hc9; injection hc9 with _ h2; revert h2; decide
  have hTd3 : Todo 0 22 (FS b V1 r R1 sh hb) w sv3 (ss++[o1]):=Todo.ofKO hKO3 rfl hBL9 hH.mod hFS9 (fun b9 l9 h9 _ => hnF9 b9 l9 h9) (fun b9 hb9 => hboF.go (Mod.trans (hE29b.mono (fun _ h => h.elim)) hmd (fun z _ hz => by obtain ⟨m,c,e⟩:=hz; exact .inr (.inr (hpl.td.lt e).1))) (fun x hx => by
   rcases hx with (hx | hx | rfl | rfl) | rfl
   ·exact .inl (.inl hx)
   ·exact .inl (.inr (.inl hx))
   ·exact .inl (.inr (.inr hshl))
   ·exact .inl (.inr (.inr hhbl))
   ·rcases hfr _ hb9 with ⟨m,c,e⟩ | h9
    ·exact .inl (.inr (.inr (hpl.td.lt e).1))
    ·exact .inr (Nat.le_trans hE29b.size h9)))
  have hfr3 : ∀ b9,(∃ m c,sv3 = .slice (some ⟨b9,0,none⟩) m c)→(∃ m c,sv = .slice (some ⟨b9,0,none⟩) m c)∨w0.heap.size≤b9:=fun b9 h9 => (hfr b9 h9).imp id (fun h => Nat.le_trans hw29 h)
  refine r_nilCheck hS hH.kp0 rfl rfl (x_fieldAddr hH.kp0 rfl Fc.fo59_1 rfl ?_); clear hS; intro a hS
  have hc29:=hH.get (b:=sh) (o:=.cells ([.slice (some ⟨hb,0,none⟩) hs.length hcap,sv] : List Value).toArray 59 (0,0)) (by repeat' constructor)
  have hone3 : sv3.oneCell' = true:=by rcases hKO3 with ⟨h9,_⟩ | ⟨b9,c9,l9,h9,_⟩ <;> (rw [h9]; rfl)
  refine r_store1M hS hH rfl rfl hone3 (by repeat' constructor) (by repeat' constructor) Fc.sz31 (of_decide_eq_true rfl) (.inl (by rw [hSS]; exact .inl (.inr (.inr (.inl rfl))))) ?_
  clear hH; intro w hM29 hH
  replace hbv:=hbv.put hM29 hc29 (by decide)
  replace hTd3:=hTd3.go (hM29.mono (fun x h => .inr (.inr (.inl h))))
  refine Sq.nil (then_n (reg_plain w0 (SS) ?_))
  refine r_move hS hH.kp0 rfl rfl (x_move hH.kp0 rfl rfl (x_assign hH.kp0 rfl rfl (x_assign hH.kp0 rfl rfl ?_))); clear hS; intro a hS
  refine Sq.nil (blk_n (then_n (c_seq (c_seq (reg_plain w0 (SS) ?_)))))
  refine r_load_row hS hH (by repeat' constructor) rfl (by repeat' constructor) Fc.ag26 (by rfl) rfl (x_load_row hH (by repeat' constructor) rfl (by repeat' constructor) Fc.ag25 (by rfl) rfl (x_arrNeq (h:=zH) (g:=zH) Fc.arrH hH.kp0 rfl rfl rfl rfl rfl (x_move hH.kp0 rfl rfl ?_))); clear hS; intro a hS
  refine Sq.guardYes hS rfl rfl (by rw [decide_eq_true rfl]; rfl) ?_
  refine r_move hS hH.kp0 rfl rfl ?_; clear hS; intro a hS
  refine Sq.guardYes hS rfl rfl (by rw [decide_eq_true rfl]; rfl) ?_
  refine r_move hS hH.kp0 rfl rfl ?_; clear hS; intro a hS
  refine Sq.guardYes hS rfl rfl (by rw [decide_eq_true rfl]; rfl) ?_
  refine r_neq hS hH.kp0 rfl rfl rfl ?_; clear hS; intro a hS
  refine r_pickF hS hH.kp0 rfl (by rw [decide_eq_true rfl]; rfl) rfl rfl ?_; clear hS; intro a hS
  refine Sq.nil (then_n ?_)
  refine c_condF hS rfl (bne_self_eq_false _) ?_
  refine wp_skip (then_n (c_seq (c_seq (reg_plain w0 (SS) ?_))))
  refine r_load_row hS hH (by repeat' constructor) rfl (by repeat' constructor) Fc.ag26 (by rfl) rfl (x_buildA (parts:=[]) hH.kp0 rfl rfl Fc.zc26 Fc.ar26 (by rfl) (x_arrNeq (h:=zH) (g:=zH) Fc.arrH hH.kp0 rfl rfl rfl rfl rfl ?_)); clear hS; intro a hS
  refine Sq.nil (then_n ?_)
  refine c_condF hS rfl (by rw [decide_eq_true rfl]; rfl) ?_
  refine wp_skip (then_n (c_seq ?_))
  refine reg_draw [(true,0,[]),(true,1,[]),(true,3,[]),(true,4,[]),(false,2,[]),(false,5,[]),(true,6,[]),(true,7,[]),(true,8,[])] Fc.mixed (by kernel_rfl) (by kernel_rfl) (by kernel_rfl) (by kernel_rfl) (by kernel_rfl) (by repeat (first | with_reducible exact steady_body | with_reducible apply steady_block | with_reducible apply steady_then | with_reducible apply steady_scope | exact steady_body)) hH ?_
  replace hH:=hH.drew
  replace hbv:=hbv.ext (Ext.drew _)
  replace hTd3:=hTd3.go ((Ext.drew _).mono (fun _ h => h.elim))
  refine r_move hS trivial rfl rfl (x_load_rowS rfl (by repeat' constructor) Fc.ag26 (by rfl) rfl (x_move trivial rfl rfl (x_load_rowS rfl (by repeat' constructor) Fc.ag26 (by rfl) rfl ?_))); clear hS; intro a hS
  refine r_call (l:=[.tmp 290,.tmp 291]) hS rfl rfl Fc.fn18 rfl ?_
  refine Calls.mono (Known_v b V1 ts1 [x0,x1,x2,x3,x4,x5,x6,x7,x8,x9,xa,xb,xc,xd,xe,xf] rfl _ hbv.v) ?_
  rintro e w1 ⟨kb,rfl,hkb,hE⟩
  replace hH:=hH.ext hE
  replace hbv:=hbv.ext hE
  replace hTd3:=hTd3.go (hE.mono (fun _ h => h.elim))
  refine ⟨_,rfl,hH.kp (by repeat' constructor),?_⟩
  clear hS; intro a hS
  refine r_call (l:=[.tmp 293,.tmp 294]) hS rfl rfl Fc.fn46 rfl ?_
  refine Calls.mono (rOf_c r R1 ts1 [x0,x1,x2,x3,x4,x5,x6,x7,x8,x9,xa,xb,xc,xd,xe,xf] rfl (by omega) _ hbv.r) ?_
  rintro e w1 ⟨x9,rfl,hx9,hE⟩
  replace hH:=hH.ext hE
  replace hbv:=hbv.ext hE
  replace hTd3:=hTd3.go (hE.mono (fun _ h => h.elim))
  refine ⟨_,rfl,hH.kp (by repeat' constructor),?_⟩
  clear hS; intro a hS
  refine r_geq hS trivial rfl rfl rfl (x_boolEql trivial rfl rfl Fc.isBool4 rfl (x_assign trivial rfl rfl ?_)); clear hS; intro a hS
  refine Sq.nil (then_n (wp_ret ?_))
  exact leave (.inl rfl) hS rfl (Res.tmp rfl Res.nil) ⟨by rw [known_eq hkb hx9]; rfl,hpl.more hbv hwf1 hsl1 (hH.get (b:=sh) (by repeat' constructor)) (hH.get (b:=hb) (by repeat' constructor)) hlt0 hlt1 (by have:=hsT1.out; omega) (hSS ▸ hH.mod) (hSS ▸ hVS9) (hSS ▸ hRS9) hTd3 hfr3⟩
 ·refine r_move hS hH.kp0 rfl rfl (x_eql hH.kp0 rfl rfl rfl ?_); clear hS; intro a hS
  refine Sq.nil (then_n ?_)
  refine c_condF hS rfl (beq_false_of_ne he0) ?_
  refine wp_skip (then_n (reg_plain w0 (SA) ?_))
  refine r_move hS hH.kp0 rfl rfl (x_move hH.kp0 rfl rfl (x_assign hH.kp0 rfl rfl (x_assign hH.kp0 rfl rfl ?_))); clear hS; intro a hS
  refine Sq.nil (blk_n (then_n (c_seq (c_seq (reg_plain w0 (SA) ?_)))))
  refine r_load_row hS hH (by repeat' constructor) rfl (by repeat' constructor) Fc.ag26 (by rfl) rfl (x_load_row hH (by repeat' constructor) rfl (by repeat' constructor) Fc.ag25 (by rfl) rfl (x_arrNeq (h:=zH) (g:=zH) Fc.arrH hH.kp0 rfl rfl rfl rfl rfl (x_move hH.kp0 rfl rfl ?_))); clear hS; intro a hS
  refine Sq.guardYes hS rfl rfl (by rw [decide_eq_true rfl]; rfl) ?_
  refine r_move hS hH.kp0 rfl rfl ?_; clear hS; intro a hS
  refine Sq.guardYes hS rfl rfl (by rw [decide_eq_true rfl]; rfl) ?_
  refine r_move hS hH.kp0 rfl rfl ?_; clear hS; intro a hS
  refine Sq.guardYes hS rfl rfl (by rw [decide_eq_true rfl]; rfl) ?_
  refine r_neq hS hH.kp0 rfl rfl rfl ?_; clear hS; intro a hS
  refine r_pickF hS hH.kp0 rfl (by rw [decide_eq_true rfl]; rfl) rfl rfl ?_; clear hS; intro a hS
  refine Sq.nil (then_n ?_)
  refine c_condF hS rfl (bne_self_eq_false _) ?_
  refine wp_skip (then_n (c_seq (c_seq (reg_plain w0 (SA) ?_))))
  refine r_load_row hS hH (by repeat' constructor) rfl (by repeat' constructor) Fc.ag26 (by rfl) rfl (x_buildA (parts:=[]) hH.kp0 rfl rfl Fc.zc26 Fc.ar26 (by rfl) (x_arrNeq (h:=zH) (g:=zH) Fc.arrH hH.kp0 rfl rfl rfl rfl rfl ?_)); clear hS; intro a hS
  refine Sq.nil (then_n ?_)
  refine c_condF hS rfl (by rw [decide_eq_true rfl]; rfl) ?_
  refine wp_skip (then_n (c_seq ?_))
  refine reg_draw [(true,0,[]),(true,1,[]),(true,3,[]),(true,4,[]),(false,2,[]),(false,5,[]),(true,6,[]),(true,7,[]),(true,8,[])] Fc.mixed (by kernel_rfl) (by kernel_rfl) (by kernel_rfl) (by kernel_rfl) (by kernel_rfl) (by repeat (first | with_reducible exact steady_body | with_reducible apply steady_block | with_reducible apply steady_then | with_reducible apply steady_scope | exact steady_body)) hH ?_
  replace hH:=hH.drew
  replace hbv:=hbv.ext (Ext.drew _)
  refine r_move hS trivial rfl rfl (x_load_rowS rfl (by repeat' constructor) Fc.ag26 (by rfl) rfl (x_move trivial rfl rfl (x_load_rowS rfl (by repeat' constructor) Fc.ag26 (by rfl) rfl ?_))); clear hS; intro a hS
  refine r_call (l:=[.tmp 290,.tmp 291]) hS rfl rfl Fc.fn18 rfl ?_
  refine Calls.mono (Known_v b V1 ts1 [x0,x1,x2,x3,x4,x5,x6,x7,x8,x9,xa,xb,xc,xd,xe,xf] rfl _ hbv.v) ?_
  rintro e w1 ⟨kb,rfl,hkb,hE⟩
  replace hH:=hH.ext hE
  replace hbv:=hbv.ext hE
  refine ⟨_,rfl,hH.kp (by repeat' constructor),?_⟩
  clear hS; intro a hS
  refine r_call (l:=[.tmp 293,.tmp 294]) hS rfl rfl Fc.fn46 rfl ?_
  refine Calls.mono (rOf_c r R1 ts1 [x0,x1,x2,x3,x4,x5,x6,x7,x8,x9,xa,xb,xc,xd,xe,xf] rfl (by omega) _ hbv.r) ?_
  rintro e w1 ⟨x9,rfl,hx9,hE⟩
  replace hH:=hH.ext hE
  replace hbv:=hbv.ext hE
  refine ⟨_,rfl,hH.kp (by repeat' constructor),?_⟩
  clear hS; intro a hS
  refine r_geq hS trivial rfl rfl rfl (x_boolEql trivial rfl rfl Fc.isBool4 rfl (x_assign trivial rfl rfl ?_)); clear hS; intro a hS
  refine Sq.nil (then_n (wp_ret ?_))
  exact leave (.inl rfl) hS rfl (Res.tmp rfl Res.nil) ⟨by rw [known_eq hkb hx9]; rfl,hpl.next hbv hwf1 hsl1 (hH.get (b:=sh) (by repeat' constructor)) (hH.get (b:=hb) (by repeat' constructor)) hpl.len hpl.cap hpl.take hpl.six hpl.pos hlt0 hlt1 (Nat.le_succ _) (hSA ▸ hH.mod) (hSA ▸ hVS) (hSA ▸ hRS) (.inl (.inr (.inr (.inr rfl))))⟩

end Go.Proofs.YtcjmehononbadaaDoor
