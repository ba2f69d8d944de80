/- Two vaults under any calls answer alike. Part Part10: walks and lemmas of the proof. -/
import Derived.Test.YtcjmehononbadaaDoorPart9
import Derived.Test.YtcjmehononbadaaDoorSym6
namespace Go.Proofs.YtcjmehononbadaaDoor
open Go.Sym

theorem Fc.fn61 : isFn Tryd.prog 61 = true:=by kernel_rfl
theorem Fc.fn63 : isFn Tryd.prog 63 = true:=by kernel_rfl
set_option maxRecDepth 100000 in
set_option maxHeartbeats 8000000 in
theorem rSpied_c (b : Nat) (V : RB) (ts : List Tm) (hwf : Wf6 ts) (hpos : 0 < ts.length) (sv : Value) (ls : List (List UInt8)) (hll : ∀ l∈ls,l.length≤1099511627776) (hls2 : ls.length≤1048576) (hm : ts.length≤1000000000) (w0 : World) (hri : RI w0 b V ts) (hss : SlG Nobody w0 sv ls) :
  Calls Tryd.prog 44 #[.pointer (some ⟨b,0,none⟩),sv] w0 fun e w' => ∃ K v,e = .returned v∧Knows6 ts ls K∧Todo w0.heap.size 22 Nobody w' v (spL ts K ts.length)∧Ext w0 w':=by
 refine enter Tryd.func44 rfl rfl rfl ?_
 intro a hS
 have hH:=Hp.start w0 (Nobody)
 replace hH:=hH.knowR hri (by intro p hp; simp at hp)
 refine c_seq (reg_plain w0 (Nobody) ?_)
 refine r_assign hS hH.kp0 rfl rfl ?_; clear hS; intro a hS
 refine Sq.nil (then_n (c_seq (reg_plain w0 (Nobody) ?_)))
 refine r_move hS hH.kp0 rfl rfl (x_move hH.kp0 rfl rfl ?_); clear hS; intro a hS
 refine r_call (l:=[.tmp 9,.tmp 10]) hS rfl rfl Fc.fn61 rfl ?_
 refine Calls.mono (rKnows_c b V ts hwf hpos sv ls hll hls2 hm _ (hH.rin (TV:=80) (TT:=77) hri.ok rfl hri.n01 (by repeat' constructor) (by repeat' constructor)) (hss.go hH.mod (fun _ h => h.elim))) ?_
 rintro e w1 ⟨K,kb,rfl,hkb,hkk,hKN,hE⟩
 have hkb0:=Nat.le_trans hH.mod.size hkb
 have hltx:=hH.lt
 replace hH:=(hH.ext hE).know hkk (fun p hp e => by have h1:=hltx p hp; omega)
 clear hltx
 have hKl:=hKN.len
 refine ⟨_,rfl,hH.kp0,?_⟩
 clear hS; intro a hS
 refine r_assign hS hH.kp0 rfl rfl ?_; clear hS; intro a hS
 refine Sq.nil (then_n (c_seq (reg_plain w0 (Nobody) ?_)))
 refine r_assign hS hH.kp0 rfl rfl ?_; clear hS; intro a hS
 refine Sq.nil (then_n (c_seq (c_seq (reg_plain w0 (Nobody) ?_))))
 refine r_assign hS hH.kp0 rfl rfl ?_; clear hS; intro a hS
 refine Sq.nil ?_
 obtain ⟨wB,hwBe⟩ : ∃ z,z = w0:=⟨_,rfl⟩
 subst hwBe
 refine then_n (wp_block ?_)
 refine c_loop (fun m a w => ∃ (i : Nat) (ii : Int) (tdv1 : Value) (tds : List (List UInt8)),m + i = ts.length∧ii = i∧tds = spL ts K i∧tds.length≤i∧Todo wB.heap.size 22 Nobody w tdv1 tds∧St 51 (lv [(0,.pointer (some ⟨b,0,none⟩)),(5,.slice (some ⟨kb,0,none⟩) ts.length ts.length),(6,tdv1),(7,.int .i64 ii)]) a∧Hp wB Nobody [(kb,.cells (bools K).toArray 4 (0,0)),(b,.cells (V.top ts.length).toArray 80 (0,0)),(V.sb,.cells V.l.toArray 77 (0,0))] w) (ts.length) ?_ ?_
 ·exact ⟨0,_,_,[],by omega,rfl,rfl,Nat.zero_le _,Todo.nil _ _ _ _,hS.live ⟨rfl,rfl,rfl,rfl,trivial⟩,hH⟩
 clear hS hH; intro m a w0 hI; obtain ⟨i,ii,tdv1,tds,hmi,hii,hsp,hln,htd,hS,hHI⟩:=hI
 have hwB:=hHI.mod.size
 rcases id htd with ⟨rfl,rfl⟩ | ⟨tb,tcap,tl,rfl,htb1,htb2,htb3,htl1,htl2,htbl⟩
 ·obtain ⟨tds,htds0⟩ : ∃ z : List (List UInt8),z = []:=⟨_,rfl⟩
  rw [←htds0] at hsp hln htd
  obtain ⟨SR,hSR⟩ : ∃ S : Nat→Prop,S = Nobody:=⟨_,rfl⟩
  have hH : Hp w0 SR [(kb,.cells (bools K).toArray 4 (0,0)),(b,.cells (V.top ts.length).toArray 80 (0,0)),(V.sb,.cells V.l.toArray 77 (0,0))] w0:=hHI.fresh
  refine c_seq (c_seq (reg_plain w0 (SR) ?_))
  refine r_move hS hH.kp0 rfl rfl (x_move hH.kp0 rfl rfl (x_nilCheck hH.kp0 rfl rfl (x_fieldAddr hH.kp0 rfl Fc.fo80_0 rfl (x_load_sc hH (by repeat' constructor) rfl (by repeat' constructor) Fc.sc78 (by rfl) rfl (x_lenSl hH.kp0 rfl Fc.isSlice78 rfl (x_lss hH.kp0 rfl rfl rfl ?_)))))); clear hS; intro a hS
  refine Sq.nil (then_n ?_)
  refine c_cond hS rfl (fun hc0 => ?_) (fun hc0 => ?_)
  ·have hlt:=of_decide_eq_true hc0
   obtain ⟨t,ht⟩ : ∃ t,ts[i]? = some t:=⟨_,List.getElem?_eq_getElem (by omega)⟩
   have hrow:=hri.ok.row ht
   obtain ⟨hwa1,hwa2⟩:=hwf.a i t ht
   obtain ⟨ia,hta⟩:=Int.eq_ofNat_of_zero_le hwa1
   have hia : ia < ts.length:=by omega
   have hian : t.a.toNat = ia:=by omega
   obtain ⟨ka,hka⟩ : ∃ k,K[ia]? = some k:=⟨_,List.getElem?_eq_getElem (by omega)⟩
   obtain ⟨ki,hki⟩ : ∃ k,K[i]? = some k:=⟨_,List.getElem?_eq_getElem (by omega)⟩
   refine wp_skip (then_n (c_seq (wp_block (c_seq (reg_plain w0 (SR) ?_)))))
   refine r_move hS hH.kp0 rfl rfl (x_nilCheck hH.kp0 rfl rfl (x_fieldAddr hH.kp0 rfl Fc.fo80_0 rfl (x_load_sc hH (by repeat' constructor) rfl (by repeat' constructor) Fc.sc78 (by rfl) rfl (x_move hH.kp0 rfl rfl (x_indexAddrS (j:=i) hH.kp0 rfl rfl Fc.slb78 hii (by omega) rfl ?_))))); clear hS; intro a hS
   refine r_load_at (vs:=rcells t) hS hH (by repeat' constructor) rfl (by repeat' constructor) Fc.ag77 (by rw [Nat.zero_add]; exact hrow.2) (by rw [Nat.zero_add]; exact hrow.1) rfl ?_; clear hS; intro a hS
   refine r_alloc hS hH (by repeat' constructor) Fc.zc77 rfl ?_
   clear hS hH; intro a w b8 hb8 hwb8 hS hH
   refine r_store_row (vs:=rcells t) hS hH rfl rfl (by repeat' constructor) (by repeat' constructor) Fc.sz77 (rcells_one t) (by rfl) (.inr (by assumption)) ?_; clear hH; intro w hH
   refine Sq.nil (then_n (c_seq (reg_plain w0 (SR) ?_)))
   refine r_fieldAddr hS hH.kp0 rfl Fc.fo77_0 rfl (x_load_sc hH (by repeat' constructor) rfl (by repeat' constructor) Fc.sc3 (by rfl) rfl (x_eql hH.kp0 rfl rfl rfl ?_)); clear hS; intro a hS
   rcases hk6 : (t.kind == 6) with _ | _
   ·refine r_move hS hH.kp0 rfl rfl (Sq.xguardNo rfl rfl hk6 hH.kp0 rfl (Sq.xguardNo rfl rfl hk6 hH.kp0 rfl (Sq.xguardNo rfl rfl hk6 hH.kp0 rfl (Sq.xguardNo rfl rfl hk6 hH.kp0 rfl (x_pickF hH.kp0 rfl hk6 rfl rfl (x_move hH.kp0 rfl rfl (Sq.xguardNo rfl rfl rfl hH.kp0 rfl (Sq.xguardNo rfl rfl rfl hH.kp0 rfl (Sq.xguardNo rfl rfl rfl hH.kp0 rfl (Sq.xguardNo rfl rfl rfl hH.kp0 rfl (Sq.xguardNo rfl rfl rfl hH.kp0 rfl (x_pickF hH.kp0 rfl rfl rfl rfl ?_)))))))))))); clear hS; intro a hS
    refine Sq.nil ?_
    obtain ⟨tds3,htds3⟩ : ∃ z,z = tds:=⟨_,rfl⟩
    have hsp3 : tds3 = spL ts K (i + 1):=by rw [htds3,hsp]; exact (spL_no ht (fun h => by have h9:=h.1; simp [h9] at hk6)).symm
    have hln3 : tds3.length≤i + 1:=by rw [htds3]; omega
    have htd3:=Todo.nilH (B:=wB.heap.size) (e:=22) (F:=Nobody) hH
    rw [←htds0] at htd3
    obtain ⟨tdv3,htdv3⟩ : ∃ z : Value,z = .slice none 0 0:=⟨_,rfl⟩
    rw [←htdv3] at hS htd3
    rw [←htds3] at htd3
    refine then_n (c_condF hS rfl rfl (wp_skip (blk_n (then_n (reg_plain w0 (SR) ?_)))))
    refine r_move hS hH.kp0 rfl rfl (x_add hH.kp0 rfl rfl rfl (by omega) (x_assign hH.kp0 rfl rfl ?_)); clear hS; intro a hS
    refine Sq.nil (then_n ?_)
    refine ⟨m - 1,by omega,i + 1,_,tdv3,tds3,by omega,?_,hsp3,hln3,htd3,hS.live ⟨rfl,rfl,rfl,rfl,trivial⟩,(hHI.rebase hH (fun x hx => by rw [hSR] at hx; exact .inl hx)).sub (by repeat' constructor) hHI.nd⟩
    omega
   ·have hk6e : t.kind = 6:=by simpa using hk6
    refine r_move hS hH.kp0 rfl rfl (Sq.xguardYes rfl rfl hk6 (x_move hH.kp0 rfl rfl (Sq.xguardYes rfl rfl hk6 (x_move hH.kp0 rfl rfl (Sq.xguardYes rfl rfl hk6 (x_indexAddrS (j:=i) hH.kp0 rfl rfl Fc.slb69 hii (by omega) rfl (Sq.xguardYes rfl rfl hk6 ?_))))))); clear hS; intro a hS
    refine r_load_sc hS hH (by repeat' constructor) rfl (by repeat' constructor) Fc.sc4 (v:=.bool ki) (by rw [nthV_eq,Nat.zero_add,Nat.mul_one]; exact bools_get hki) rfl ?_; clear hS; intro a hS
    refine r_pickT hS hH.kp0 rfl hk6 rfl rfl ?_; clear hS; intro a hS
    rcases ki with _ | _
    ·refine r_move hS hH.kp0 rfl rfl (Sq.xguardNo rfl rfl rfl hH.kp0 rfl (Sq.xguardNo rfl rfl rfl hH.kp0 rfl (Sq.xguardNo rfl rfl rfl hH.kp0 rfl (Sq.xguardNo rfl rfl rfl hH.kp0 rfl (Sq.xguardNo rfl rfl rfl hH.kp0 rfl (x_pickF hH.kp0 rfl rfl rfl rfl ?_)))))); clear hS; intro a hS
     refine Sq.nil ?_
     obtain ⟨tds3,htds3⟩ : ∃ z,z = tds:=⟨_,rfl⟩
     have hsp3 : tds3 = spL ts K (i + 1):=by rw [htds3,hsp]; exact (spL_no ht (fun h => by have h9:=h.2.1; unfold KT at h9; rw [hki] at h9; cases h9)).symm
     have hln3 : tds3.length≤i + 1:=by rw [htds3]; omega
     have htd3:=Todo.nilH (B:=wB.heap.size) (e:=22) (F:=Nobody) hH
     rw [←htds0] at htd3
     obtain ⟨tdv3,htdv3⟩ : ∃ z : Value,z = .slice none 0 0:=⟨_,rfl⟩
     rw [←htdv3] at hS htd3
     rw [←htds3] at htd3
     refine then_n (c_condF hS rfl rfl (wp_skip (blk_n (then_n (reg_plain w0 (SR) ?_)))))
     refine r_move hS hH.kp0 rfl rfl (x_add hH.kp0 rfl rfl rfl (by omega) (x_assign hH.kp0 rfl rfl ?_)); clear hS; intro a hS
     refine Sq.nil (then_n ?_)
     refine ⟨m - 1,by omega,i + 1,_,tdv3,tds3,by omega,?_,hsp3,hln3,htd3,hS.live ⟨rfl,rfl,rfl,rfl,trivial⟩,(hHI.rebase hH (fun x hx => by rw [hSR] at hx; exact .inl hx)).sub (by repeat' constructor) hHI.nd⟩
     omega
    ·refine r_move hS hH.kp0 rfl rfl (Sq.xguardYes rfl rfl rfl (x_move hH.kp0 rfl rfl (Sq.xguardYes rfl rfl rfl (x_fieldAddr hH.kp0 rfl Fc.fo77_1 rfl (Sq.xguardYes rfl rfl rfl (x_load_sc hH (by repeat' constructor) rfl (by repeat' constructor) Fc.sc3 (by rfl) rfl (Sq.xguardYes rfl rfl rfl (x_indexAddrS (j:=ia) hH.kp0 rfl rfl Fc.slb69 hta (by omega) rfl (Sq.xguardYes rfl rfl rfl ?_))))))))); clear hS; intro a hS
     refine r_load_sc hS hH (by repeat' constructor) rfl (by repeat' constructor) Fc.sc4 (v:=.bool ka) (by rw [nthV_eq,Nat.zero_add,Nat.mul_one]; exact bools_get hka) rfl ?_; clear hS; intro a hS
     rcases ka with _ | _
     ·refine r_pickT hS hH.kp0 rfl rfl rfl rfl ?_; clear hS; intro a hS
      refine Sq.nil ?_
      obtain ⟨tds3,htds3⟩ : ∃ z,z = tds:=⟨_,rfl⟩
      have hsp3 : tds3 = spL ts K (i + 1):=by rw [htds3,hsp]; exact (spL_no ht (fun h => by rw [hian] at h; have h9:=h.2.2; unfold KT at h9; rw [hka] at h9; cases h9)).symm
      have hln3 : tds3.length≤i + 1:=by rw [htds3]; omega
      have htd3:=Todo.nilH (B:=wB.heap.size) (e:=22) (F:=Nobody) hH
      rw [←htds0] at htd3
      obtain ⟨tdv3,htdv3⟩ : ∃ z : Value,z = .slice none 0 0:=⟨_,rfl⟩
      rw [←htdv3] at hS htd3
      rw [←htds3] at htd3
      refine then_n (c_condF hS rfl rfl (wp_skip (blk_n (then_n (reg_plain w0 (SR) ?_)))))
      refine r_move hS hH.kp0 rfl rfl (x_add hH.kp0 rfl rfl rfl (by omega) (x_assign hH.kp0 rfl rfl ?_)); clear hS; intro a hS
      refine Sq.nil (then_n ?_)
      refine ⟨m - 1,by omega,i + 1,_,tdv3,tds3,by omega,?_,hsp3,hln3,htd3,hS.live ⟨rfl,rfl,rfl,rfl,trivial⟩,(hHI.rebase hH (fun x hx => by rw [hSR] at hx; exact .inl hx)).sub (by repeat' constructor) hHI.nd⟩
      omega
     ·refine r_pickT hS hH.kp0 rfl rfl rfl rfl ?_; clear hS; intro a hS
      refine Sq.nil (then_n (c_condT hS rfl rfl (reg_plain w0 (SR) ?_)))
      refine r_move hS hH.kp0 rfl rfl (x_fieldAddr hH.kp0 rfl Fc.fo77_6 rfl (x_load_sc hH (by repeat' constructor) rfl (by repeat' constructor) Fc.sc9 (by rfl) rfl ?_)); clear hS; intro a hS
      refine r_strBytesK hS hH (by repeat' constructor) rfl Fc.und9 Fc.und22 Fc.ui5 rfl ?_
      clear hS hH; intro a w b93 c93 l93 f93 hb93 hbw93 hl93 hc93 hS hH
      refine r_buildSlice (parts:=[(0,.tmp 47)]) hS hH (by repeat' constructor) rfl Fc.bsl31_1 (by rfl) rfl ?_
      clear hS hH; intro a w b94 hb94 hwb94 hS hH
      have h94:=hH.get (b:=b94) (o:=.cells ([Value.slice (some ⟨b93,0,none⟩) (byt t).length c93] : List Value).toArray 22 (0,0)) .here
      have hs94 : Sl 1 w (.slice (some ⟨b94,0,none⟩) 1 1) [Value.slice (some ⟨b93,0,none⟩) (byt t).length c93] 1 (some ⟨b94,0,none⟩) 1:=Sl.of_block (es:=1) (m:=1) (cap:=1) h94 (Nat.le_refl 1) (Nat.le_refl 1)
      refine r_append_nil hS hH (by repeat' constructor) rfl rfl Fc.el31 Fc.ni31 (hs94.src (by intro z hz; rw [List.mem_singleton.1 hz]; rfl)) (by decide) (by decide) rfl ?_
      clear hS hH; intro a w ub ucap ul hub huw hul huc hut huE hS hH
      refine r_assign hS hH.kp0 rfl rfl ?_; clear hS; intro a hS
      refine Sq.nil ?_
      subst htds0
      have hnb : b93≠ub:=hH.ne (x:=b93) (y:=ub) (.cons (by repeat' constructor) (.cons (by repeat' constructor) .nil)) (by intro h; injection h with _ h2 _; revert h2; decide)
      have hub1 : wB.heap.size≤ub:=by omega
      have hbl3 : BL (fun x => Nobody x∨x = ub) w (([] : List Value)++[Value.slice (some ⟨b93,0,none⟩) (byt t).length c93]) ([]++[byt t]):=BL.snoc (.nil) (BsF.of_blk (hH.get (b:=b93) (by repeat' constructor)) (fun h => h.elim (fun h => h) hnb) hl93 hc93)
      have htk3 : ul.take ([]++[byt t]).length = ([] : List Value)++[Value.slice (some ⟨b93,0,none⟩) (byt t).length c93]:=by rw [List.length_append]; have h9:=hut; rw [Nat.mul_one] at h9; exact h9
      have htd3 : Todo wB.heap.size 22 Nobody w (.slice (some ⟨ub,0,none⟩) ([]++[byt t]).length ucap) ([]++[byt t]):=.inr ⟨ub,ucap,ul,rfl,hub1,fun h => h,hH.get (b:=ub) (by repeat' constructor),hul,by rw [List.length_append]; exact huc,by rw [htk3]; exact hbl3⟩
      obtain ⟨tdv3,htdv3⟩ : ∃ z : Value,z = .slice (some ⟨ub,0,none⟩) ([]++[byt t]).length ucap:=⟨_,rfl⟩
      obtain ⟨tds3,htds3⟩ : ∃ z,z = []++[byt t]:=⟨_,rfl⟩
      have hln3 : tds3.length≤i + 1:=by rw [htds3]; show 1≤_; omega
      rw [show Value.slice (some ⟨ub,0,none⟩) 1 ucap = tdv3 from htdv3.symm] at hS
      rw [←htdv3,←htds3] at htd3
      have hsp3 : tds3 = spL ts K (i + 1):=by rw [htds3]; exact (congrArg (· ++ [byt t]) hsp).trans (spL_yes ht ⟨hk6e,hki,by rw [hian]; exact hka⟩).symm
      refine blk_n (then_n (reg_plain w0 (SR) ?_))
      refine r_move hS hH.kp0 rfl rfl (x_add hH.kp0 rfl rfl rfl (by omega) (x_assign hH.kp0 rfl rfl ?_)); clear hS; intro a hS
      refine Sq.nil (then_n ?_)
      refine ⟨m - 1,by omega,i + 1,_,tdv3,tds3,by omega,?_,hsp3,hln3,htd3,hS.live ⟨rfl,rfl,rfl,rfl,trivial⟩,(hHI.rebase hH (fun x hx => by rw [hSR] at hx; exact .inl hx)).sub (by repeat' constructor) hHI.nd⟩
      omega
  ·have hge:=of_decide_eq_false hc0
   have hii0 : i = ts.length:=by omega
   subst hii0
   refine wp_exit (then_e (then_e (blk_hit (then_n (c_seq (reg_plain w0 (SR) ?_))))))
   refine r_move hS hH.kp0 rfl rfl (x_assign hH.kp0 rfl rfl ?_); clear hS; intro a hS
   refine Sq.nil (then_n (wp_ret ?_))
   subst hsp
   exact leave (.inl rfl) hS rfl (Res.tmp rfl Res.nil) ⟨K,_,rfl,hKN,htd,hHI.mod⟩
 ·have htbn : ∀ p∈([(kb,.cells (bools K).toArray 4 (0,0)),(b,.cells (V.top ts.length).toArray 80 (0,0)),(V.sb,.cells V.l.toArray 77 (0,0))] : Blocks),p.1≠tb:=by intro p hp e; have h8:=hHI.blk p hp; rw [e,htb3] at h8; simp only [List.mem_cons,List.not_mem_nil,or_false] at hp; rcases hp with rfl | rfl | rfl <;> simp at h8
  obtain ⟨SR,hSR⟩ : ∃ S : Nat→Prop,S = fun x => Nobody x∨x = tb:=⟨_,rfl⟩
  have hH : Hp w0 SR [(kb,.cells (bools K).toArray 4 (0,0)),(b,.cells (V.top ts.length).toArray 80 (0,0)),(V.sb,.cells V.l.toArray 77 (0,0))] w0:=hHI.fresh
  replace hH:=hH.know htb3 htbn
  refine c_seq (c_seq (reg_plain w0 (SR) ?_))
  refine r_move hS hH.kp0 rfl rfl (x_move hH.kp0 rfl rfl (x_nilCheck hH.kp0 rfl rfl (x_fieldAddr hH.kp0 rfl Fc.fo80_0 rfl (x_load_sc hH (by repeat' constructor) rfl (by repeat' constructor) Fc.sc78 (by rfl) rfl (x_lenSl hH.kp0 rfl Fc.isSlice78 rfl (x_lss hH.kp0 rfl rfl rfl ?_)))))); clear hS; intro a hS
  refine Sq.nil (then_n ?_)
  refine c_cond hS rfl (fun hc0 => ?_) (fun hc0 => ?_)
  ·have hlt:=of_decide_eq_true hc0
   obtain ⟨t,ht⟩ : ∃ t,ts[i]? = some t:=⟨_,List.getElem?_eq_getElem (by omega)⟩
   have hrow:=hri.ok.row ht
   obtain ⟨hwa1,hwa2⟩:=hwf.a i t ht
   obtain ⟨ia,hta⟩:=Int.eq_ofNat_of_zero_le hwa1
   have hia : ia < ts.length:=by omega
   have hian : t.a.toNat = ia:=by omega
   obtain ⟨ka,hka⟩ : ∃ k,K[ia]? = some k:=⟨_,List.getElem?_eq_getElem (by omega)⟩
   obtain ⟨ki,hki⟩ : ∃ k,K[i]? = some k:=⟨_,List.getElem?_eq_getElem (by omega)⟩
   refine wp_skip (then_n (c_seq (wp_block (c_seq (reg_plain w0 (SR) ?_)))))
   refine r_move hS hH.kp0 rfl rfl (x_nilCheck hH.kp0 rfl rfl (x_fieldAddr hH.kp0 rfl Fc.fo80_0 rfl (x_load_sc hH (by repeat' constructor) rfl (by repeat' constructor) Fc.sc78 (by rfl) rfl (x_move hH.kp0 rfl rfl (x_indexAddrS (j:=i) hH.kp0 rfl rfl Fc.slb78 hii (by omega) rfl ?_))))); clear hS; intro a hS
   refine r_load_at (vs:=rcells t) hS hH (by repeat' constructor) rfl (by repeat' constructor) Fc.ag77 (by rw [Nat.zero_add]; exact hrow.2) (by rw [Nat.zero_add]; exact hrow.1) rfl ?_; clear hS; intro a hS
   refine r_alloc hS hH (by repeat' constructor) Fc.zc77 rfl ?_
   clear hS hH; intro a w b8 hb8 hwb8 hS hH
   refine r_store_row (vs:=rcells t) hS hH rfl rfl (by repeat' constructor) (by repeat' constructor) Fc.sz77 (rcells_one t) (by rfl) (.inr (by assumption)) ?_; clear hH; intro w hH
   refine Sq.nil (then_n (c_seq (reg_plain w0 (SR) ?_)))
   refine r_fieldAddr hS hH.kp0 rfl Fc.fo77_0 rfl (x_load_sc hH (by repeat' constructor) rfl (by repeat' constructor) Fc.sc3 (by rfl) rfl (x_eql hH.kp0 rfl rfl rfl ?_)); clear hS; intro a hS
   rcases hk6 : (t.kind == 6) with _ | _
   ·refine r_move hS hH.kp0 rfl rfl (Sq.xguardNo rfl rfl hk6 hH.kp0 rfl (Sq.xguardNo rfl rfl hk6 hH.kp0 rfl (Sq.xguardNo rfl rfl hk6 hH.kp0 rfl (Sq.xguardNo rfl rfl hk6 hH.kp0 rfl (x_pickF hH.kp0 rfl hk6 rfl rfl (x_move hH.kp0 rfl rfl (Sq.xguardNo rfl rfl rfl hH.kp0 rfl (Sq.xguardNo rfl rfl rfl hH.kp0 rfl (Sq.xguardNo rfl rfl rfl hH.kp0 rfl (Sq.xguardNo rfl rfl rfl hH.kp0 rfl (Sq.xguardNo rfl rfl rfl hH.kp0 rfl (x_pickF hH.kp0 rfl rfl rfl rfl ?_)))))))))))); clear hS; intro a hS
    refine Sq.nil ?_
    obtain ⟨tds3,htds3⟩ : ∃ z,z = tds:=⟨_,rfl⟩
    have hsp3 : tds3 = spL ts K (i + 1):=by rw [htds3,hsp]; exact (spL_no ht (fun h => by have h9:=h.1; simp [h9] at hk6)).symm
    have hln3 : tds3.length≤i + 1:=by rw [htds3]; omega
    have htd3:=Todo.blkH (F:=Nobody) hH (by repeat' constructor) htb1 htb2 htl1 htl2 hSR htbl
    obtain ⟨tdv3,htdv3⟩ : ∃ z : Value,z = .slice (some ⟨tb,0,none⟩) tds.length tcap:=⟨_,rfl⟩
    rw [←htdv3] at hS htd3
    rw [←htds3] at htd3
    refine then_n (c_condF hS rfl rfl (wp_skip (blk_n (then_n (reg_plain w0 (SR) ?_)))))
    refine r_move hS hH.kp0 rfl rfl (x_add hH.kp0 rfl rfl rfl (by omega) (x_assign hH.kp0 rfl rfl ?_)); clear hS; intro a hS
    refine Sq.nil (then_n ?_)
    refine ⟨m - 1,by omega,i + 1,_,tdv3,tds3,by omega,?_,hsp3,hln3,htd3,hS.live ⟨rfl,rfl,rfl,rfl,trivial⟩,(hHI.rebase hH (fun x hx => by rw [hSR] at hx; rcases hx with hx | hx; exact .inl hx; exact .inr (by rw [hx]; exact htb1))).sub (by repeat' constructor) hHI.nd⟩
    omega
   ·have hk6e : t.kind = 6:=by simpa using hk6
    refine r_move hS hH.kp0 rfl rfl (Sq.xguardYes rfl rfl hk6 (x_move hH.kp0 rfl rfl (Sq.xguardYes rfl rfl hk6 (x_move hH.kp0 rfl rfl (Sq.xguardYes rfl rfl hk6 (x_indexAddrS (j:=i) hH.kp0 rfl rfl Fc.slb69 hii (by omega) rfl (Sq.xguardYes rfl rfl hk6 ?_))))))); clear hS; intro a hS
    refine r_load_sc hS hH (by repeat' constructor) rfl (by repeat' constructor) Fc.sc4 (v:=.bool ki) (by rw [nthV_eq,Nat.zero_add,Nat.mul_one]; exact bools_get hki) rfl ?_; clear hS; intro a hS
    refine r_pickT hS hH.kp0 rfl hk6 rfl rfl ?_; clear hS; intro a hS
    rcases ki with _ | _
    ·refine r_move hS hH.kp0 rfl rfl (Sq.xguardNo rfl rfl rfl hH.kp0 rfl (Sq.xguardNo rfl rfl rfl hH.kp0 rfl (Sq.xguardNo rfl rfl rfl hH.kp0 rfl (Sq.xguardNo rfl rfl rfl hH.kp0 rfl (Sq.xguardNo rfl rfl rfl hH.kp0 rfl (x_pickF hH.kp0 rfl rfl rfl rfl ?_)))))); clear hS; intro a hS
     refine Sq.nil ?_
     obtain ⟨tds3,htds3⟩ : ∃ z,z = tds:=⟨_,rfl⟩
     have hsp3 : tds3 = spL ts K (i + 1):=by rw [htds3,hsp]; exact (spL_no ht (fun h => by have h9:=h.2.1; unfold KT at h9; rw [hki] at h9; cases h9)).symm
     have hln3 : tds3.length≤i + 1:=by rw [htds3]; omega
     have htd3:=Todo.blkH (F:=Nobody) hH (by repeat' constructor) htb1 htb2 htl1 htl2 hSR htbl
     obtain ⟨tdv3,htdv3⟩ : ∃ z : Value,z = .slice (some ⟨tb,0,none⟩) tds.length tcap:=⟨_,rfl⟩
     rw [←htdv3] at hS htd3
     rw [←htds3] at htd3
     refine then_n (c_condF hS rfl rfl (wp_skip (blk_n (then_n (reg_plain w0 (SR) ?_)))))
     refine r_move hS hH.kp0 rfl rfl (x_add hH.kp0 rfl rfl rfl (by omega) (x_assign hH.kp0 rfl rfl ?_)); clear hS; intro a hS
     refine Sq.nil (then_n ?_)
     refine ⟨m - 1,by omega,i + 1,_,tdv3,tds3,by omega,?_,hsp3,hln3,htd3,hS.live ⟨rfl,rfl,rfl,rfl,trivial⟩,(hHI.rebase hH (fun x hx => by rw [hSR] at hx; rcases hx with hx | hx; exact .inl hx; exact .inr (by rw [hx]; exact htb1))).sub (by repeat' constructor) hHI.nd⟩
     omega
    ·refine r_move hS hH.kp0 rfl rfl (Sq.xguardYes rfl rfl rfl (x_move hH.kp0 rfl rfl (Sq.xguardYes rfl rfl rfl (x_fieldAddr hH.kp0 rfl Fc.fo77_1 rfl (Sq.xguardYes rfl rfl rfl (x_load_sc hH (by repeat' constructor) rfl (by repeat' constructor) Fc.sc3 (by rfl) rfl (Sq.xguardYes rfl rfl rfl (x_indexAddrS (j:=ia) hH.kp0 rfl rfl Fc.slb69 hta (by omega) rfl (Sq.xguardYes rfl rfl rfl ?_))))))))); clear hS; intro a hS
     refine r_load_sc hS hH (by repeat' constructor) rfl (by repeat' constructor) Fc.sc4 (v:=.bool ka) (by rw [nthV_eq,Nat.zero_add,Nat.mul_one]; exact bools_get hka) rfl ?_; clear hS; intro a hS
     rcases ka with _ | _
     ·refine r_pickT hS hH.kp0 rfl rfl rfl rfl ?_; clear hS; intro a hS
      refine Sq.nil ?_
      obtain ⟨tds3,htds3⟩ : ∃ z,z = tds:=⟨_,rfl⟩
      have hsp3 : tds3 = spL ts K (i + 1):=by rw [htds3,hsp]; exact (spL_no ht (fun h => by rw [hian] at h; have h9:=h.2.2; unfold KT at h9; rw [hka] at h9; cases h9)).symm
      have hln3 : tds3.length≤i + 1:=by rw [htds3]; omega
      have htd3:=Todo.blkH (F:=Nobody) hH (by repeat' constructor) htb1 htb2 htl1 htl2 hSR htbl
      obtain ⟨tdv3,htdv3⟩ : ∃ z : Value,z = .slice (some ⟨tb,0,none⟩) tds.length tcap:=⟨_,rfl⟩
      rw [←htdv3] at hS htd3
      rw [←htds3] at htd3
      refine then_n (c_condF hS rfl rfl (wp_skip (blk_n (then_n (reg_plain w0 (SR) ?_)))))
      refine r_move hS hH.kp0 rfl rfl (x_add hH.kp0 rfl rfl rfl (by omega) (x_assign hH.kp0 rfl rfl ?_)); clear hS; intro a hS
      refine Sq.nil (then_n ?_)
      refine ⟨m - 1,by omega,i + 1,_,tdv3,tds3,by omega,?_,hsp3,hln3,htd3,hS.live ⟨rfl,rfl,rfl,rfl,trivial⟩,(hHI.rebase hH (fun x hx => by rw [hSR] at hx; rcases hx with hx | hx; exact .inl hx; exact .inr (by rw [hx]; exact htb1))).sub (by repeat' constructor) hHI.nd⟩
      omega
     ·refine r_pickT hS hH.kp0 rfl rfl rfl rfl ?_; clear hS; intro a hS
      refine Sq.nil (then_n (c_condT hS rfl rfl (reg_plain w0 (SR) ?_)))
      refine r_move hS hH.kp0 rfl rfl (x_fieldAddr hH.kp0 rfl Fc.fo77_6 rfl (x_load_sc hH (by repeat' constructor) rfl (by repeat' constructor) Fc.sc9 (by rfl) rfl ?_)); clear hS; intro a hS
      refine r_strBytesK hS hH (by repeat' constructor) rfl Fc.und9 Fc.und22 Fc.ui5 rfl ?_
      clear hS hH; intro a w b93 c93 l93 f93 hb93 hbw93 hl93 hc93 hS hH
      refine r_buildSlice (parts:=[(0,.tmp 47)]) hS hH (by repeat' constructor) rfl Fc.bsl31_1 (by rfl) rfl ?_
      clear hS hH; intro a w b94 hb94 hwb94 hS hH
      have h94:=hH.get (b:=b94) (o:=.cells ([Value.slice (some ⟨b93,0,none⟩) (byt t).length c93] : List Value).toArray 22 (0,0)) .here
      have hs94 : Sl 1 w (.slice (some ⟨b94,0,none⟩) 1 1) [Value.slice (some ⟨b93,0,none⟩) (byt t).length c93] 1 (some ⟨b94,0,none⟩) 1:=Sl.of_block (es:=1) (m:=1) (cap:=1) h94 (Nat.le_refl 1) (Nat.le_refl 1)
      refine r_append_own hS hH rfl rfl (by repeat' constructor) (by repeat' constructor) Fc.el31 Fc.ni31 htl1 htl2 (hs94.src (by intro z hz; rw [List.mem_singleton.1 hz]; rfl)) (by omega) (.inl (by rw [hSR]; exact .inr rfl)) rfl ?_
      clear hS hH; intro a w ub ucap ul hub hul huc hut hum hS hH
      refine r_assign hS hH.kp0 rfl rfl ?_; clear hS; intro a hS
      refine Sq.nil ?_
      have hnb : b93≠ub:=hH.ne (x:=b93) (y:=ub) (.cons (by repeat' constructor) (.cons (by repeat' constructor) .nil)) (by intro h; injection h with _ h2 _; revert h2; decide)
      have hub1 : wB.heap.size≤ub:=by rcases hub with h | h; (rw [hSR] at h; rcases h with h | h; exact h.elim; rw [h]; exact htb1); omega
      have hbl3 : BL (fun x => Nobody x∨x = ub) w (tl.take tds.length++[Value.slice (some ⟨b93,0,none⟩) (byt t).length c93]) (tds++[byt t]):=BL.snoc (htbl.go (hSR ▸ hH.mod) (fun x hx => by rcases hx with hx | hx; exact hx.elim; rcases hub with h | h; (rw [hSR] at h; exact .inl (.inr (by rw [hx]; exact h.elim (fun h => h.elim) (fun h => h)))); exact .inr (by rw [hx]; exact h))) (BsF.of_blk (hH.get (b:=b93) (by repeat' constructor)) (fun h => h.elim (fun h => h) hnb) hl93 hc93)
      have htk3 : ul.take (tds++[byt t]).length = tl.take tds.length++[Value.slice (some ⟨b93,0,none⟩) (byt t).length c93]:=by rw [List.length_append]; have h9:=hut; rw [Nat.mul_one,Nat.mul_one] at h9; exact h9
      have htd3 : Todo wB.heap.size 22 Nobody w (.slice (some ⟨ub,0,none⟩) (tds++[byt t]).length ucap) (tds++[byt t]):=.inr ⟨ub,ucap,ul,rfl,hub1,fun h => h,hH.get (b:=ub) (by repeat' constructor),hul,by rw [List.length_append]; exact huc,by rw [htk3]; exact hbl3⟩
      obtain ⟨tdv3,htdv3⟩ : ∃ z : Value,z = .slice (some ⟨ub,0,none⟩) (tds++[byt t]).length ucap:=⟨_,rfl⟩
      obtain ⟨tds3,htds3⟩ : ∃ z,z = tds++[byt t]:=⟨_,rfl⟩
      have hln3 : tds3.length≤i + 1:=by rw [htds3,List.length_append]; show _ + 1≤_; omega
      rw [show (tds.length + 1 : Nat) = (tds++[byt t]).length from by rw [List.length_append]; rfl,←htdv3] at hS
      rw [←htdv3,←htds3] at htd3
      have hsp3 : tds3 = spL ts K (i + 1):=by rw [htds3]; exact (congrArg (· ++ [byt t]) hsp).trans (spL_yes ht ⟨hk6e,hki,by rw [hian]; exact hka⟩).symm
      refine blk_n (then_n (reg_plain w0 (SR) ?_))
      refine r_move hS hH.kp0 rfl rfl (x_add hH.kp0 rfl rfl rfl (by omega) (x_assign hH.kp0 rfl rfl ?_)); clear hS; intro a hS
      refine Sq.nil (then_n ?_)
      refine ⟨m - 1,by omega,i + 1,_,tdv3,tds3,by omega,?_,hsp3,hln3,htd3,hS.live ⟨rfl,rfl,rfl,rfl,trivial⟩,(hHI.rebase hH (fun x hx => by rw [hSR] at hx; rcases hx with hx | hx; exact .inl hx; exact .inr (by rw [hx]; exact htb1))).sub (by repeat' constructor) hHI.nd⟩
      omega
  ·have hge:=of_decide_eq_false hc0
   have hii0 : i = ts.length:=by omega
   subst hii0
   refine wp_exit (then_e (then_e (blk_hit (then_n (c_seq (reg_plain w0 (SR) ?_))))))
   refine r_move hS hH.kp0 rfl rfl (x_assign hH.kp0 rfl rfl ?_); clear hS; intro a hS
   refine Sq.nil (then_n (wp_ret ?_))
   subst hsp
   exact leave (.inl rfl) hS rfl (Res.tmp rfl Res.nil) ⟨K,_,rfl,hKN,htd,hHI.mod⟩

set_option maxRecDepth 100000 in
set_option maxHeartbeats 8000000 in
theorem rHidden_c (b : Nat) (V : RB) (ts : List Tm) (hwf : Wf6 ts) (hpos : 0 < ts.length) (vb sv : Value) (l : List UInt8) (hl : l.length≤1099511627776) (ls : List (List UInt8)) (hll : ∀ l∈ls,l.length≤1099511627776) (hls2 : ls.length≤1048576) (hm : ts.length≤1000000000) (w0 : World) (hri : RI w0 b V ts) (hb : BsF Nobody w0 vb l) (hss : SlG Nobody w0 sv ls) : Calls Tryd.prog 45 #[.pointer (some ⟨b,0,none⟩),vb,sv] w0 fun e w' => ∃ (rr : Bool) (K : List Bool),e = .returned (.bool rr)∧Knows6 ts ls K∧HidF ts K l rr∧Ext w0 w':=by
 refine enter Tryd.func45 rfl rfl rfl ?_
 intro a hS
 have hH:=Hp.start w0 (Nobody)
 replace hH:=hH.knowR hri (by intro p hp; simp at hp)
 obtain ⟨q,qc,hsb⟩:=hb.bs
 have hvb:=hsb.val
 subst hvb
 have hqc:=hsb.le
 refine c_seq (reg_plain w0 (Nobody) ?_)
 refine r_assign hS hH.kp0 rfl rfl ?_; clear hS; intro a hS
 refine Sq.nil (then_n (c_seq (reg_plain w0 (Nobody) ?_)))
 refine r_move hS hH.kp0 rfl rfl (x_move hH.kp0 rfl rfl ?_); clear hS; intro a hS
 refine r_call (l:=[.tmp 10,.tmp 11]) hS rfl rfl Fc.fn61 rfl ?_
 refine Calls.mono (rKnows_c b V ts hwf hpos sv ls hll hls2 hm _ (hH.rin (TV:=80) (TT:=77) hri.ok rfl hri.n01 (by repeat' constructor) (by repeat' constructor)) (hss.go hH.mod (fun _ h => h.elim))) ?_
 rintro e w1 ⟨K,kb,rfl,hkb,hkk,hKN,hE⟩
 have hkb0:=Nat.le_trans hH.mod.size hkb
 have hltx:=hH.lt
 replace hH:=(hH.ext hE).know hkk (fun p hp e => by have h1:=hltx p hp; omega)
 clear hltx
 have hKl:=hKN.len
 refine ⟨_,rfl,hH.kp0,?_⟩
 clear hS; intro a hS
 refine r_assign hS hH.kp0 rfl rfl ?_; clear hS; intro a hS
 refine Sq.nil (then_n (c_seq (c_seq (reg_plain w0 (Nobody) ?_))))
 refine r_assign hS hH.kp0 rfl rfl ?_; clear hS; intro a hS
 refine Sq.nil (then_n (wp_block ?_))
 refine c_loop (fun m a w => ∃ i : Nat,m + i = ts.length∧(∀ j,j < i→¬ KT K j→¬ HasN l j)∧St 52 (lv [(0,.pointer (some ⟨b,0,none⟩)),(1,.slice q l.length qc),(6,.bool false),(7,.slice (some ⟨kb,0,none⟩) ts.length ts.length),(8,.int .i64 (i : Int))]) a∧Hp w0 Nobody [(kb,.cells (bools K).toArray 4 (0,0)),(b,.cells (V.top ts.length).toArray 80 (0,0)),(V.sb,.cells V.l.toArray 77 (0,0))] w) (ts.length) ?_ ?_
 ·exact ⟨0,by omega,fun j hj => absurd hj (Nat.not_lt_zero j),hS.live ⟨rfl,rfl,rfl,rfl,rfl,trivial⟩,hH⟩
 clear hS hH; intro m a w hI; obtain ⟨i,hmi,hno,hS,hH⟩:=hI
 refine c_seq (c_seq (reg_plain w0 (Nobody) ?_))
 refine r_move hS hH.kp0 rfl rfl (x_move hH.kp0 rfl rfl (x_nilCheck hH.kp0 rfl rfl (x_fieldAddr hH.kp0 rfl Fc.fo80_0 rfl (x_load_sc hH (by repeat' constructor) rfl (by repeat' constructor) Fc.sc78 (by rfl) rfl (x_lenSl hH.kp0 rfl Fc.isSlice78 rfl (x_lss hH.kp0 rfl rfl rfl ?_)))))); clear hS; intro a hS
 refine Sq.nil (then_n ?_)
 refine c_cond hS rfl (fun hc0 => ?_) (fun hc0 => ?_)
 ·have hlt : i < ts.length:=by have:=of_decide_eq_true hc0; omega
  obtain ⟨ki,hki⟩ : ∃ k,K[i]? = some k:=⟨_,List.getElem?_eq_getElem (by omega)⟩
  refine wp_skip (then_n (c_seq (wp_block (c_seq ?_))))
  refine reg_draw [(true,0,[]),(true,1,[]),(true,2,[]),(true,3,[]),(true,4,[]),(true,5,[]),(true,6,[]),(true,8,[]),(true,9,[]),(false,7,[]),(false,10,[]),(true,11,[])] Fc.mixed (by kernel_rfl) (by kernel_rfl) (by kernel_rfl) (by kernel_rfl) (by kernel_rfl) (by repeat (first | with_reducible exact steady_body | with_reducible apply steady_block | with_reducible apply steady_then | with_reducible apply steady_scope | exact steady_body)) hH ?_
  replace hH:=hH.drew
  refine r_move hS trivial rfl rfl (x_move trivial rfl rfl (x_indexAddrS (j:=i) trivial rfl rfl Fc.slb69 rfl (by omega) rfl ?_)); clear hS; intro a hS
  refine r_load_scS hS rfl (by repeat' constructor) Fc.sc4 (v:=.bool ki) (by rw [nthV_eq,Nat.zero_add,Nat.mul_one]; exact bools_get hki) rfl ?_; clear hS; intro a hS
  refine r_not hS trivial rfl rfl ?_; clear hS; intro a hS
  rcases ki with _ | _
  ·refine r_move hS trivial rfl rfl (Sq.xguardYes rfl rfl rfl (x_move trivial rfl rfl (Sq.xguardYes rfl rfl rfl (x_move trivial rfl rfl (Sq.xguardYes rfl rfl rfl (x_bytesStrS rfl (fun w hw => hb w hw.2) Fc.u8s22 Fc.isStr9 rfl (Sq.xguardYes rfl rfl rfl ?_))))))); clear hS; intro a hS
   refine r_call (l:=[.tmp 28]) hS rfl rfl Fc.fn20 rfl ?_
   refine Calls.mono (rname_c i (by omega) _) ?_
   rintro e w1 ⟨h,rfl,hqy,hE⟩
   obtain ⟨y0,y1,y2,y3,y4,y5,y6,y7,y8,y9,ya,yb,yc,yd,ye,yf,rfl⟩:=len16 (h:=h) (by rw [hqy]; rfl)
   replace hH:=hH.ext hE
   refine ⟨_,rfl,hH.kp (by repeat' constructor),?_⟩
   clear hS; intro a hS
   refine Sq.guardYes hS rfl rfl rfl ?_
   refine r_call (l:=[.tmp 29,.tmp 31]) hS rfl rfl Fc.fn62 rfl ?_
   refine Calls.mono (rin_c [y0,y1,y2,y3,y4,y5,y6,y7,y8,y9,ya,yb,yc,yd,ye,yf] rfl l hl _) ?_
   rintro e w1 ⟨rr,rfl,hrr,hE⟩
   replace hH:=hH.ext hE
   refine ⟨_,rfl,hH.kp (by repeat' constructor),?_⟩
   clear hS; intro a hS
   refine r_pickT hS trivial rfl rfl rfl rfl ?_; clear hS; intro a hS
   refine Sq.nil (then_n ?_)
   refine c_cond hS rfl (fun hc1 => ?_) (fun hc1 => ?_)
   ·subst hc1
    have hrn : HasN l i:=by rw [hqy] at hrr; exact hrr.1 rfl
    refine c_seq (reg_plain w0 (Nobody) ?_)
    refine r_assign hS hH.kp0 rfl rfl ?_; clear hS; intro a hS
    refine Sq.nil (then_n (wp_ret (blk_r (then_r (then_r (blk_r (then_r ?_)))))))
    exact leave (.inl rfl) hS rfl (Res.tmp rfl Res.nil) ⟨true,K,rfl,hKN,⟨fun _ => .inl ⟨i,hlt,fun h => absurd ((kt_some hki).1 h) (by decide),hrn⟩,fun _ => rfl⟩,hH.mod⟩
   ·subst hc1
    have hrn : ¬ HasN l i:=fun h => by rw [hqy] at hrr; exact absurd (hrr.2 h) (by decide)
    refine wp_skip (blk_n (then_n (reg_plain w0 (Nobody) ?_)))
    refine r_move hS hH.kp0 rfl rfl (x_add hH.kp0 rfl rfl rfl (by omega) (x_assign hH.kp0 rfl rfl ?_)); clear hS; intro a hS
    refine Sq.nil (then_n ?_)
    refine ⟨m - 1,by omega,i + 1,by omega,fun j hj hk hn => ?_,hS.live ⟨rfl,rfl,rfl,rfl,rfl,trivial⟩,hH⟩
    by_cases hji : j = i
    ·subst hji; exact hrn hn
    ·exact hno j (by omega) hk hn
  ·refine r_move hS trivial rfl rfl (Sq.xguardNo rfl rfl rfl trivial rfl (Sq.xguardNo rfl rfl rfl trivial rfl (Sq.xguardNo rfl rfl rfl trivial rfl (Sq.xguardNo rfl rfl rfl (hH.kp (by repeat' constructor)) rfl (Sq.xguardNo rfl rfl rfl (hH.kp (by repeat' constructor)) rfl (x_pickF trivial rfl rfl rfl rfl ?_)))))); clear hS; intro a hS
   refine Sq.nil (then_n (c_condF hS rfl rfl (wp_skip (blk_n (then_n (reg_plain w0 (Nobody) ?_))))))
   refine r_move hS hH.kp0 rfl rfl (x_add hH.kp0 rfl rfl rfl (by omega) (x_assign hH.kp0 rfl rfl ?_)); clear hS; intro a hS
   refine Sq.nil (then_n ?_)
   refine ⟨m - 1,by omega,i + 1,by omega,fun j hj hk hn => ?_,hS.live ⟨rfl,rfl,rfl,rfl,rfl,trivial⟩,hH⟩
   by_cases hji : j = i
   ·subst hji; exact hk ((kt_some hki).2 rfl)
   ·exact hno j (by omega) hk hn
 ·have hge : i = ts.length:=by have:=of_decide_eq_false hc0; omega
  subst hge
  refine wp_exit (then_e (then_e (blk_hit (then_n (c_seq (c_seq (reg_plain w0 (Nobody) ?_)))))))
  refine r_assign hS hH.kp0 rfl rfl ?_; clear hS; intro a hS
  refine Sq.nil (then_n (wp_block ?_))
  refine c_loop (fun m a w => ∃ z : Nat,m + z = l.length + 1∧(∀ y,y < z→y + 16≤l.length→laterF ts.length ((l.drop y).take 16) = false)∧St 52 (lv [(0,.pointer (some ⟨b,0,none⟩)),(1,.slice q l.length qc),(6,.bool false),(7,.slice (some ⟨kb,0,none⟩) ts.length ts.length),(9,.int .i64 (z : Int))]) a∧Hp w0 Nobody [(kb,.cells (bools K).toArray 4 (0,0)),(b,.cells (V.top ts.length).toArray 80 (0,0)),(V.sb,.cells V.l.toArray 77 (0,0))] w) (l.length + 1) ?_ ?_
  ·exact ⟨0,by omega,fun j hj => absurd hj (Nat.not_lt_zero j),hS.live ⟨rfl,rfl,rfl,rfl,rfl,trivial⟩,hH⟩
  clear hS hH; intro m a w hI; obtain ⟨z,hmz,hnl,hS,hH⟩:=hI
  refine c_seq (c_seq (reg_plain w0 (Nobody) ?_))
  refine r_move hS hH.kp0 rfl rfl (x_add hH.kp0 rfl rfl rfl (by omega) (x_move hH.kp0 rfl rfl (x_lenSl hH.kp0 rfl Fc.isSlice22 rfl (x_leq hH.kp0 rfl rfl rfl ?_)))); clear hS; intro a hS
  refine Sq.nil (then_n ?_)
  refine c_cond hS rfl (fun hc2 => ?_) (fun hc2 => ?_)
  ·have hle : z + 16≤l.length:=by have:=of_decide_eq_true hc2; omega
   obtain ⟨ba,bo,hq⟩:=hb.addr (by omega)
   subst hq
   have hbp:=hb.part (ll:=z) (hh:=z + 16) (by omega) (by omega)
   rw [if_neg (show ¬ qc = z by omega),show z + 16 - z = 16 from by omega] at hbp
   refine wp_skip (then_n (c_seq (wp_block (c_seq ?_))))
   refine reg_draw [(true,0,[]),(true,1,[]),(true,2,[]),(true,3,[]),(true,4,[]),(true,5,[]),(true,6,[]),(true,7,[]),(true,8,[]),(true,9,[]),(false,10,[])] Fc.mixed (by kernel_rfl) (by kernel_rfl) (by kernel_rfl) (by kernel_rfl) (by kernel_rfl) (by repeat (first | with_reducible exact steady_body | with_reducible apply steady_block | with_reducible apply steady_then | with_reducible apply steady_scope | exact steady_body)) hH ?_
   replace hH:=hH.drew
   refine r_move hS trivial rfl rfl (x_move trivial rfl rfl (x_move trivial rfl rfl (x_add trivial rfl rfl rfl (by omega) (x_slLoHi (ll:=z) (hh:=z + 16) trivial rfl rfl rfl Fc.slb22 rfl rfl (by omega) (by omega) rfl ?_)))); clear hS; intro a hS
   rw [if_neg (show ¬ qc = z by omega),show z + 16 - z = 16 from by omega] at hS
   refine r_move hS trivial rfl rfl (x_nilCheck trivial rfl rfl (x_fieldAddr trivial rfl Fc.fo80_0 rfl (x_load_scS rfl (by repeat' constructor) Fc.sc78 (by rfl) rfl (x_lenSl trivial rfl Fc.isSlice78 rfl ?_)))); clear hS; intro a hS
   refine r_call (l:=[.tmp 45,.tmp 50]) hS rfl rfl Fc.fn63 rfl ?_
   refine Calls.mono (rlater_c ((l.drop z).take 16) (by rw [List.length_take,List.length_drop]; omega) ts.length hm ba (bo + z * 1) (qc - z) _ (hbp.go hH.mod (fun _ h => h.elim))) ?_
   rintro e w1 ⟨rfl,hE⟩
   replace hH:=hH.ext hE
   refine ⟨_,rfl,hH.kp (by repeat' constructor),?_⟩
   clear hS; intro a hS
   refine Sq.nil (then_n ?_)
   refine c_cond hS rfl (fun hc3 => ?_) (fun hc3 => ?_)
   ·refine c_seq (reg_plain w0 (Nobody) ?_)
    refine r_assign hS hH.kp0 rfl rfl ?_; clear hS; intro a hS
    refine Sq.nil (then_n (wp_ret (blk_r (then_r (then_r (blk_r (then_r ?_)))))))
    exact leave (.inl rfl) hS rfl (Res.tmp rfl Res.nil) ⟨true,K,rfl,hKN,⟨fun _ => .inr ⟨z,hle,hc3⟩,fun _ => rfl⟩,hH.mod⟩
   ·refine wp_skip (blk_n (then_n (reg_plain w0 (Nobody) ?_)))
    refine r_move hS hH.kp0 rfl rfl (x_add hH.kp0 rfl rfl rfl (by omega) (x_assign hH.kp0 rfl rfl ?_)); clear hS; intro a hS
    refine Sq.nil (then_n ?_)
    refine ⟨m - 1,by omega,z + 1,by omega,fun y hy hy2 => ?_,hS.live ⟨rfl,rfl,rfl,rfl,rfl,trivial⟩,hH⟩
    by_cases hyz : y = z
    ·subst hyz; exact hc3
    ·exact hnl y (by omega) hy2
  ·have hgt : ¬ z + 16≤l.length:=by have:=of_decide_eq_false hc2; omega
   refine wp_exit (then_e (then_e (blk_hit (then_n (c_seq (reg_plain w0 (Nobody) ?_))))))
   refine r_assign hS hH.kp0 rfl rfl ?_; clear hS; intro a hS
   refine Sq.nil (then_n (wp_ret ?_))
   refine leave (.inl rfl) hS rfl (Res.tmp rfl Res.nil) ⟨false,K,rfl,hKN,⟨fun h => (by cases h),?_⟩,hH.mod⟩
   rintro (⟨i,h1,h2,h3⟩ | ⟨y,h1,h2⟩)
   ·exact absurd h3 (hno i h1 h2)
   ·rw [hnl y (by omega) h1] at h2; cases h2

end Go.Proofs.YtcjmehononbadaaDoor
namespace Go.Proofs.YtcjmehononbadaaDoor
open Go.Sym

theorem Fc.fo36_3 : foff Tryd.prog 36 3 = some 3:=by kernel_rfl
theorem Fc.fo36_7 : foff Tryd.prog 36 7 = some 7:=by kernel_rfl
theorem Fc.fo36_8 : foff Tryd.prog 36 8 = some 8:=by kernel_rfl
theorem Fc.fo59_0 : foff Tryd.prog 59 0 = some 0:=by kernel_rfl
theorem Fc.fo59_1 : foff Tryd.prog 59 1 = some 1:=by kernel_rfl
theorem Fc.isSlice57 : isSlice Tryd.prog 57 = true:=by kernel_rfl
theorem Fc.sc57 : scB Tryd.prog 57 = true:=by kernel_rfl
theorem Fc.slb57 : slB Tryd.prog 57 = some 16:=by kernel_rfl
set_option maxRecDepth 100000 in
set_option maxHeartbeats 400000 in
theorem names_c (w0 : World) : Calls Tryd.prog 21 #[] w0 fun e w' => e = .returned (.bool true)∧Ext w0 w':=by
  refine enter Tryd.func21 rfl rfl rfl ?_
  intro a hS
  have hH:=Hp.start w0 (Nobody)
  refine c_seq (reg_plain w0 (Nobody) ?_)
  refine r_assign hS hH.kp0 rfl rfl ?_; clear hS; intro a hS
  refine Sq.nil (then_n (c_seq (reg_plain w0 (Nobody) ?_)))
  refine r_assign hS hH.kp0 rfl rfl ?_; clear hS; intro a hS
  refine Sq.nil (then_n (wp_ret ?_))
  exact leave (.inl rfl) hS rfl (Res.tmp rfl Res.nil) ⟨rfl,hH.mod⟩

set_option maxRecDepth 100000 in
set_option maxHeartbeats 2000000 in
theorem handle_c (i : Int) (sh hb hcap : Nat) (hl : List Value) (hs : List (List UInt8)) (sv : Value) (ss : List (List UInt8)) (w0 : World) (hf : Shf 59 26 w0 sh hb hcap hl hs sv ss) : Calls Tryd.prog 32 #[.pointer (some ⟨sh,0,none⟩),.int .i64 i] w0 fun e w' => e = .returned (hnd (pickH hs i))∧Ext w0 w':=by
 refine enter Tryd.func32 rfl rfl rfl ?_
 intro a hS
 have hH:=Hp.start w0 (Nobody)
 replace hH:=(hH.know hf.row (by intro p hp; simp at hp)).know hf.top (by intro p hp; simp at hp; subst hp; exact Ne.symm hf.ne)
 refine c_seq (reg_plain w0 (Nobody) ?_)
 refine r_alloc hS hH (by repeat' constructor) Fc.zc26 rfl ?_
 clear hS hH; intro a w b4 hb4 hwb4 hS hH
 refine Sq.nil (then_n (c_seq (c_seq (reg_plain w0 (Nobody) ?_))))
 rcases Int.lt_or_le i 0 with hneg | hnn
 ·refine r_move hS hH.kp0 rfl rfl (x_lss hH.kp0 rfl rfl rfl (x_move hH.kp0 rfl rfl (Sq.xguardNo rfl rfl (DT hneg) hH.kp0 rfl (Sq.xguardNo rfl rfl (DT hneg) hH.kp0 rfl (Sq.xguardNo rfl rfl (DT hneg) hH.kp0 rfl (Sq.xguardNo rfl rfl (DT hneg) hH.kp0 rfl (Sq.xguardNo rfl rfl (DT hneg) hH.kp0 rfl (Sq.xguardNo rfl rfl (DT hneg) hH.kp0 rfl (x_pickT hH.kp0 rfl (DT hneg) rfl rfl ?_))))))))); clear hS; intro a hS
  refine Sq.nil (then_n (c_condT hS rfl rfl (c_seq (reg_plain w0 (Nobody) ?_))))
  refine r_buildA (parts:=[(0,.const (.int .u8 1)),(1,.const (.int .u8 2)),(2,.const (.int .u8 3))]) hS hH.kp0 rfl rfl Fc.zc26 Fc.ar26 (by rfl) ?_; clear hS; intro a hS
  refine r_store_row hS hH rfl rfl (by repeat' constructor) (by repeat' constructor) Fc.sz26 (by first | exact hcells_one _ | exact of_decide_eq_true rfl) (by rfl) (by first | exact .inr (by assumption) | exact .inl (by first | assumption | rfl)) ?_
  clear hH; intro w hH
  refine Sq.nil (then_n (wp_ret (then_r ?_)))
  refine leave (.inl rfl) hS rfl (Res.cell rfl (hH.get (by repeat' constructor)) Fc.ag26 (by rfl) rfl Res.nil) ⟨?_,hH.mod⟩
  rw [pickH_neg hneg]; rfl
 ·obtain ⟨k,rfl⟩:=Int.eq_ofNat_of_zero_le hnn
  have hpos:=hf.pos
  have hkl:=Nat.mod_lt k hpos
  obtain ⟨g,hg⟩ : ∃ g,hs[k % hs.length]? = some g:=⟨_,List.getElem?_eq_getElem hkl⟩
  have hrow:=rd_row hf.six hf.take hg
  have hg16:=hf.six g (List.mem_of_getElem? hg)
  rw [pickH_at hg]
  clear hg
  obtain ⟨g0,g1,g2,g3,g4,g5,g6,g7,g8,g9,ga,gb,gc,gd,ge,gf,rfl⟩:=len16 hg16
  refine r_move hS hH.kp0 rfl rfl (x_lss hH.kp0 rfl rfl rfl (x_move hH.kp0 rfl rfl (Sq.xguardYes rfl rfl (DF (by omega)) (x_move hH.kp0 rfl rfl (Sq.xguardYes rfl rfl (DF (by omega)) (x_nilCheck hH.kp0 rfl rfl (Sq.xguardYes rfl rfl (DF (by omega)) (x_fieldAddr hH.kp0 rfl Fc.fo59_0 rfl (Sq.xguardYes rfl rfl (DF (by omega)) (x_load_sc hH (by repeat' constructor) rfl (by repeat' constructor) Fc.sc57 (by rfl) rfl (Sq.xguardYes rfl rfl (DF (by omega)) (x_lenSl hH.kp0 rfl Fc.isSlice57 rfl (Sq.xguardYes rfl rfl (DF (by omega)) (x_eql hH.kp0 rfl rfl rfl (x_pickF hH.kp0 rfl (DF (by omega)) rfl rfl ?_))))))))))))))); clear hS; intro a hS
  refine Sq.nil (then_n ?_)
  refine c_condF hS rfl (beq_false_of_ne (by omega)) ?_
  refine wp_skip (then_n (c_seq ?_))
  refine reg_draw [(true,0,[0]),(true,1,[0]),(true,2,[0]),(true,3,[0]),(true,4,[0]),(true,5,[0]),(true,6,[0]),(true,7,[0]),(true,8,[0]),(true,9,[0]),(true,10,[0]),(true,11,[0]),(true,12,[0]),(false,13,[0])] Fc.mixed (by kernel_rfl) (by kernel_rfl) (by kernel_rfl) (by kernel_rfl) (by kernel_rfl) (by repeat (first | with_reducible exact steady_body | with_reducible apply steady_block | with_reducible apply steady_then | with_reducible apply steady_scope | exact steady_body)) hH ?_
  replace hH:=hH.drew
  refine r_move hS trivial rfl rfl (x_nilCheck trivial rfl rfl (x_fieldAddr trivial rfl Fc.fo59_0 rfl (x_load_scS rfl (by repeat' constructor) Fc.sc57 (by rfl) rfl (x_move trivial rfl rfl (x_move trivial rfl rfl (x_nilCheck trivial rfl rfl (x_fieldAddr trivial rfl Fc.fo59_0 rfl (x_load_scS rfl (by repeat' constructor) Fc.sc57 (by rfl) rfl (x_lenSl trivial rfl Fc.isSlice57 rfl (x_remN (k % hs.length) trivial rfl rfl (by omega) rfl rfl (x_indexAddrS (j:=k % hs.length) trivial rfl rfl Fc.slb57 rfl hkl rfl ?_))))))))))); clear hS; intro a hS
  refine r_load_atS (vs:=hcells [g0,g1,g2,g3,g4,g5,g6,g7,g8,g9,ga,gb,gc,gd,ge,gf]) hS rfl (by repeat' constructor) Fc.ag26 (by rw [Nat.zero_add]; exact hrow.2) (by rw [Nat.zero_add]; exact hrow.1) rfl ?_; clear hS; intro a hS
  refine r_store_row hS hH rfl rfl (by repeat' constructor) (by repeat' constructor) Fc.sz26 (by first | exact hcells_one _ | exact of_decide_eq_true rfl) (by rfl) (by first | exact .inr (by assumption) | exact .inl (by first | assumption | rfl)) ?_
  clear hH; intro w hH
  refine Sq.nil (then_n (wp_ret ?_))
  exact leave (.inl rfl) hS rfl (Res.cell rfl (hH.get (by repeat' constructor)) Fc.ag26 (by rfl) rfl Res.nil) ⟨rfl,hH.mod⟩

theorem handle_y (i : Int) (y : List UInt8) (sh hb hcap : Nat) (hl : List Value) (hs : List (List UInt8)) (sv : Value) (ss : List (List UInt8)) (hy : y = pickH hs i) (w0 : World) (hf : Shf 59 26 w0 sh hb hcap hl hs sv ss) : Calls Tryd.prog 32 #[.pointer (some ⟨sh,0,none⟩),.int .i64 i] w0 fun e w' => e = .returned (hnd y)∧Ext w0 w':=by
  rw [hy]; exact handle_c i sh hb hcap hl hs sv ss w0 hf
set_option maxRecDepth 100000 in
set_option maxHeartbeats 2000000 in
theorem bytes_c (k1 k2 k3 k4 nu : Int) (s : ByteArray) (va vq : Value) (o : Bool) (l : List UInt8) (sh hb hcap : Nat) (hl : List Value) (hs : List (List UInt8)) (sv : Value) (ss : List (List UInt8)) (w0 : World) (hf : Shf 59 26 w0 sh hb hcap hl hs sv ss) (hb : BsF Nobody w0 vq l) : Calls Tryd.prog 40 #[.pointer (some ⟨sh,0,none⟩),.agg #[.int .i64 k1,.int .i64 k2,.int .i64 k3,.int .i64 k4,.string s,.int .i64 nu,va,vq,.bool o]] w0 fun e w' => ∃ v,e = .returned v∧BsF Nobody w' v (pickB ss o k4 l)∧Ext w0 w':=by
 refine enter Tryd.func40 rfl rfl rfl ?_
 intro a hS
 have hH:=Hp.start w0 (Nobody)
 obtain ⟨vs,sp,scap,hsl0,hel⟩:=hf.sl
 have hsv9:=(hsl0 _ (Mod.refl _ _)).val
 subst hsv9
 replace hH:=(hH.know hf.row (by intro p hp; simp at hp)).know hf.top (by intro p hp; simp at hp; subst hp; exact Ne.symm hf.ne)
 refine c_seq (reg_plain w0 (Nobody) ?_)
 refine r_box hS hH (by repeat' constructor) rfl rfl rfl ?_
 clear hS hH; intro a w b3 hb3 hwb3 hS hH
 refine r_assign hS hH.kp0 rfl rfl ?_; clear hS; intro a hS
 refine Sq.nil (then_n (c_seq (c_seq (reg_plain w0 (Nobody) ?_))))
 rcases o with _ | _
 ·refine r_fieldAddr hS hH.kp0 rfl Fc.fo36_8 rfl (x_load_sc hH (by repeat' constructor) rfl (by repeat' constructor) Fc.sc4 (by rfl) rfl (x_move hH.kp0 rfl rfl (Sq.xguardNo rfl rfl rfl hH.kp0 rfl (Sq.xguardNo rfl rfl rfl hH.kp0 rfl (Sq.xguardNo rfl rfl rfl hH.kp0 rfl (x_pickF hH.kp0 rfl rfl rfl rfl (x_move hH.kp0 rfl rfl (Sq.xguardNo rfl rfl rfl hH.kp0 rfl (Sq.xguardNo rfl rfl rfl hH.kp0 rfl (Sq.xguardNo rfl rfl rfl hH.kp0 rfl (Sq.xguardNo rfl rfl rfl hH.kp0 rfl (Sq.xguardNo rfl rfl rfl hH.kp0 rfl (Sq.xguardNo rfl rfl rfl hH.kp0 rfl (x_pickF hH.kp0 rfl rfl rfl rfl ?_)))))))))))))); clear hS; intro a hS
  refine Sq.nil (then_n (c_condF hS rfl rfl (wp_skip (then_n (c_seq (reg_plain w0 (Nobody) ?_))))))
  refine r_fieldAddr hS hH.kp0 rfl Fc.fo36_7 rfl (x_load_sc hH (by repeat' constructor) rfl (by repeat' constructor) Fc.sc22 (by rfl) rfl (x_assign hH.kp0 rfl rfl ?_)); clear hS; intro a hS
  refine Sq.nil (then_n (wp_ret ?_))
  refine leave (.inl rfl) hS rfl (Res.tmp rfl Res.nil) ⟨_,rfl,?_,hH.mod⟩
  rw [pickB_no (fun h => absurd h.1 (by decide))]; exact hb.go hH.mod (fun _ h => .inl h)
 ·refine r_fieldAddr hS hH.kp0 rfl Fc.fo36_8 rfl ?_; clear hS; intro a hS
  rcases Int.lt_or_le k4 0 with hneg | hnn
  ·refine r_load_sc hS hH (by repeat' constructor) rfl (by repeat' constructor) Fc.sc4 (by rfl) rfl (x_move hH.kp0 rfl rfl (Sq.xguardYes rfl rfl rfl (x_fieldAddr hH.kp0 rfl Fc.fo36_3 rfl (Sq.xguardYes rfl rfl rfl (x_load_sc hH (by repeat' constructor) rfl (by repeat' constructor) Fc.sc3 (by rfl) rfl (Sq.xguardYes rfl rfl rfl (x_geq hH.kp0 rfl rfl rfl (x_pickT hH.kp0 rfl rfl rfl rfl (x_move hH.kp0 rfl rfl (Sq.xguardNo rfl rfl (DF (by omega)) hH.kp0 rfl (Sq.xguardNo rfl rfl (DF (by omega)) hH.kp0 rfl (Sq.xguardNo rfl rfl (DF (by omega)) hH.kp0 rfl (Sq.xguardNo rfl rfl (DF (by omega)) hH.kp0 rfl (Sq.xguardNo rfl rfl (DF (by omega)) hH.kp0 rfl (Sq.xguardNo rfl rfl (DF (by omega)) hH.kp0 rfl (x_pickF hH.kp0 rfl (DF (by omega)) rfl rfl ?_)))))))))))))))); clear hS; intro a hS
   refine Sq.nil (then_n (c_condF hS rfl rfl (wp_skip (then_n (c_seq (reg_plain w0 (Nobody) ?_))))))
   refine r_fieldAddr hS hH.kp0 rfl Fc.fo36_7 rfl (x_load_sc hH (by repeat' constructor) rfl (by repeat' constructor) Fc.sc22 (by rfl) rfl (x_assign hH.kp0 rfl rfl ?_)); clear hS; intro a hS
   refine Sq.nil (then_n (wp_ret ?_))
   refine leave (.inl rfl) hS rfl (Res.tmp rfl Res.nil) ⟨_,rfl,?_,hH.mod⟩
   rw [pickB_no (fun h => by omega)]; exact hb.go hH.mod (fun _ h => .inl h)
  ·obtain ⟨k,rfl⟩:=Int.eq_ofNat_of_zero_le hnn
   refine r_load_sc hS hH (by repeat' constructor) rfl (by repeat' constructor) Fc.sc4 (by rfl) rfl (x_move hH.kp0 rfl rfl (Sq.xguardYes rfl rfl rfl (x_fieldAddr hH.kp0 rfl Fc.fo36_3 rfl (Sq.xguardYes rfl rfl rfl (x_load_sc hH (by repeat' constructor) rfl (by repeat' constructor) Fc.sc3 (by rfl) rfl (Sq.xguardYes rfl rfl rfl (x_geq hH.kp0 rfl rfl rfl (x_pickT hH.kp0 rfl rfl rfl rfl (x_move hH.kp0 rfl rfl (Sq.xguardYes rfl rfl (DT (by omega)) (x_move hH.kp0 rfl rfl (Sq.xguardYes rfl rfl (DT (by omega)) (x_nilCheck hH.kp0 rfl rfl (Sq.xguardYes rfl rfl (DT (by omega)) (x_fieldAddr hH.kp0 rfl Fc.fo59_1 rfl (Sq.xguardYes rfl rfl (DT (by omega)) (x_load_sc hH (by repeat' constructor) rfl (by repeat' constructor) Fc.sc31 (by rfl) rfl (Sq.xguardYes rfl rfl (DT (by omega)) (x_lenSl hH.kp0 rfl Fc.isSlice31 rfl (Sq.xguardYes rfl rfl (DT (by omega)) (x_gtr hH.kp0 rfl rfl rfl (x_pickT hH.kp0 rfl (DT (by omega)) rfl rfl ?_)))))))))))))))))))))); clear hS; intro a hS
   refine Sq.nil (then_n ?_)
   refine c_cond hS rfl (fun hc0 => ?_) (fun hc0 => ?_)
   ·have hpos : 0 < ss.length:=by have:=of_decide_eq_true hc0; omega
    have hkl:=Nat.mod_lt k hpos
    have hsl:=hsl0 _ hH.mod
    obtain ⟨ba,bo_,hq⟩:=hsl.addr (by omega)
    subst hq
    obtain ⟨x,hx⟩ : ∃ x,vs[k % ss.length]? = some x:=⟨_,List.getElem?_eq_getElem (by rw [hsl.len]; omega)⟩
    obtain ⟨l9,hli,hbx⟩:=hel _ x hx
    rw [pickB_at hli hpos]
    refine c_seq ?_
    refine reg_draw [(true,0,[]),(true,1,[]),(true,2,[]),(true,3,[]),(true,4,[]),(true,5,[]),(true,6,[]),(true,7,[]),(true,8,[]),(true,9,[]),(true,10,[]),(true,11,[]),(true,12,[]),(true,13,[]),(true,14,[])] Fc.mixed (by kernel_rfl) (by kernel_rfl) (by kernel_rfl) (by kernel_rfl) (by kernel_rfl) (by repeat (first | with_reducible exact steady_body | with_reducible apply steady_block | with_reducible apply steady_then | with_reducible apply steady_scope | exact steady_body)) hH ?_
    replace hH:=hH.drew
    refine r_move hS trivial rfl rfl (x_nilCheck trivial rfl rfl (x_fieldAddr trivial rfl Fc.fo59_1 rfl (x_load_scS rfl (by repeat' constructor) Fc.sc31 (by rfl) rfl (x_fieldAddr trivial rfl Fc.fo36_3 rfl (x_load_scS rfl (by repeat' constructor) Fc.sc3 (by rfl) rfl (x_move trivial rfl rfl (x_nilCheck trivial rfl rfl (x_fieldAddr trivial rfl Fc.fo59_1 rfl (x_load_scS rfl (by repeat' constructor) Fc.sc31 (by rfl) rfl (x_lenSl trivial rfl Fc.isSlice31 rfl (x_remN (k % ss.length) trivial rfl rfl (by omega) rfl rfl (x_indexAddrS (j:=k % ss.length) trivial rfl rfl Fc.slb31 rfl hkl rfl ?_)))))))))))); clear hS; intro a hS
    refine r_load_cellS (v:=x) hS rfl (fun w hw => by obtain ⟨b9,o9,e9,hc9⟩:=(hsl0 w hw.2).cells _ x hx; cases e9; rw [Nat.mul_one]; exact hc9) Fc.sc22 rfl ?_; clear hS; intro a hS
    refine r_assign hS trivial rfl rfl ?_; clear hS; intro a hS
    refine Sq.nil (then_n (wp_ret (then_r ?_)))
    exact leave (.inl rfl) hS rfl (Res.tmp rfl Res.nil) ⟨_,rfl,hbx.go hH.mod (fun _ h => .inl h),hH.mod⟩
   ·have hno : ¬ 0 < ss.length:=by have:=of_decide_eq_false hc0; omega
    refine wp_skip (then_n (c_seq (reg_plain w0 (Nobody) ?_)))
    refine r_fieldAddr hS hH.kp0 rfl Fc.fo36_7 rfl (x_load_sc hH (by repeat' constructor) rfl (by repeat' constructor) Fc.sc22 (by rfl) rfl (x_assign hH.kp0 rfl rfl ?_)); clear hS; intro a hS
    refine Sq.nil (then_n (wp_ret ?_))
    refine leave (.inl rfl) hS rfl (Res.tmp rfl Res.nil) ⟨_,rfl,?_,hH.mod⟩
    rw [pickB_no (fun h => hno h.2.2)]; exact hb.go hH.mod (fun _ h => .inl h)

set_option maxRecDepth 100000 in
set_option maxHeartbeats 2000000 in
theorem lists_c (v1 v2 : Value) (ls : List (List UInt8)) (hls2 : ls.length≤1000000000) (w0 : World) (h1 : SlG Nobody w0 v1 ls) (h2 : SlG Nobody w0 v2 ls) : Calls Tryd.prog 42 #[v1,v2] w0 fun e w' => e = .returned (.bool true)∧Ext w0 w':=by
 refine enter Tryd.func42 rfl rfl rfl ?_
 intro a hS
 have hH:=Hp.start w0 (Nobody)
 obtain ⟨vs,p,cap,hsl1,hel1⟩:=h1
 have e1:=(hsl1 _ (Mod.refl _ _)).val
 subst e1
 obtain ⟨us,p',cap',hsl2,hel2⟩:=h2
 have e2:=(hsl2 _ (Mod.refl _ _)).val
 subst e2
 refine c_seq (reg_plain w0 (Nobody) ?_)
 refine r_assign hS hH.kp0 rfl rfl ?_; clear hS; intro a hS
 refine Sq.nil (then_n (c_seq (c_seq (reg_plain w0 (Nobody) ?_))))
 refine r_move hS hH.kp0 rfl rfl (x_lenSl hH.kp0 rfl Fc.isSlice31 rfl (x_move hH.kp0 rfl rfl (x_lenSl hH.kp0 rfl Fc.isSlice31 rfl (x_neq hH.kp0 rfl rfl rfl ?_)))); clear hS; intro a hS
 refine Sq.nil (then_n ?_)
 refine c_condF hS rfl (bne_self_eq_false _) ?_
 refine wp_skip (then_n (c_seq (c_seq (reg_plain w0 (Nobody) ?_))))
 refine r_assign hS hH.kp0 rfl rfl ?_; clear hS; intro a hS
 refine Sq.nil (then_n (wp_block ?_))
 refine c_loop (fun m a w => ∃ i : Nat,m + i = ls.length∧St 28 (lv [(0,.slice p ls.length cap),(1,.slice p' ls.length cap'),(4,.bool false),(5,.int .i64 (i : Int))]) a∧Hp w0 Nobody [] w) (ls.length) ?_ ?_
 ·exact ⟨0,rfl,hS.live ⟨rfl,rfl,rfl,rfl,trivial⟩,hH⟩
 clear hS hH; intro m a w hI; obtain ⟨i,hmi,hS,hH⟩:=hI
 refine c_seq (c_seq (reg_plain w0 (Nobody) ?_))
 refine r_move hS hH.kp0 rfl rfl (x_move hH.kp0 rfl rfl (x_lenSl hH.kp0 rfl Fc.isSlice31 rfl (x_lss hH.kp0 rfl rfl rfl ?_))); clear hS; intro a hS
 refine Sq.nil (then_n ?_)
 refine c_cond hS rfl (fun hc1 => ?_) (fun hc1 => ?_)
 ·have hlt : i < ls.length:=by have:=of_decide_eq_true hc1; omega
  have hsa:=hsl1 _ hH.mod
  obtain ⟨b1_,o1_,hq1⟩:=hsa.addr (by omega)
  subst hq1
  have hsb:=hsl2 _ hH.mod
  obtain ⟨b2_,o2_,hq2⟩:=hsb.addr (by omega)
  subst hq2
  obtain ⟨x1,hx1⟩ : ∃ x,vs[i]? = some x:=⟨_,List.getElem?_eq_getElem (by rw [hsa.len]; omega)⟩
  obtain ⟨x2,hx2⟩ : ∃ x,us[i]? = some x:=⟨_,List.getElem?_eq_getElem (by rw [hsb.len]; omega)⟩
  obtain ⟨l,hli,hb1⟩:=hel1 _ _ hx1
  obtain ⟨l2,hli2,hb2⟩:=hel2 _ _ hx2
  obtain rfl : l = l2:=Option.some.inj (hli.symm.trans hli2)
  refine wp_skip (then_n (c_seq (wp_block (c_seq ?_))))
  refine reg_draw [(true,0,[]),(true,1,[]),(true,2,[]),(true,3,[]),(true,4,[]),(true,5,[]),(true,6,[]),(true,7,[]),(true,8,[]),(true,9,[]),(true,10,[])] Fc.mixed (by kernel_rfl) (by kernel_rfl) (by kernel_rfl) (by kernel_rfl) (by kernel_rfl) (by repeat (first | with_reducible exact steady_body | with_reducible apply steady_block | with_reducible apply steady_then | with_reducible apply steady_scope | exact steady_body)) hH ?_
  replace hH:=hH.drew
  refine r_move hS trivial rfl rfl (x_move trivial rfl rfl (x_indexAddrS (j:=i) trivial rfl rfl Fc.slb31 rfl hlt rfl ?_)); clear hS; intro a hS
  refine r_load_cellS (v:=x1) hS rfl (fun w hw => by obtain ⟨b9,o9,e9,hc9⟩:=(hsl1 w hw.2).cells _ x1 hx1; cases e9; rw [Nat.mul_one]; exact hc9) Fc.sc22 rfl ?_; clear hS; intro a hS
  refine r_bytesStrS (l:=l) hS rfl (fun w hw => hb1 w hw.2) Fc.u8s22 Fc.isStr9 rfl (x_move trivial rfl rfl (x_move trivial rfl rfl (x_indexAddrS (j:=i) trivial rfl rfl Fc.slb31 rfl hlt rfl ?_))); clear hS; intro a hS
  refine r_load_cellS (v:=x2) hS rfl (fun w hw => by obtain ⟨b9,o9,e9,hc9⟩:=(hsl2 w hw.2).cells _ x2 hx2; cases e9; rw [Nat.mul_one]; exact hc9) Fc.sc22 rfl ?_; clear hS; intro a hS
  refine r_bytesStrS (l:=l) hS rfl (fun w hw => hb2 w hw.2) Fc.u8s22 Fc.isStr9 rfl (x_strNeq trivial rfl rfl rfl ?_); clear hS; intro a hS
  refine Sq.nil (then_n ?_)
  refine c_condF hS rfl (bne_self_eq_false _) ?_
  refine wp_skip (blk_n (then_n (reg_plain w0 (Nobody) ?_)))
  refine r_move hS hH.kp0 rfl rfl (x_add hH.kp0 rfl rfl rfl (by omega) (x_assign hH.kp0 rfl rfl ?_)); clear hS; intro a hS
  refine Sq.nil (then_n ?_)
  exact ⟨m - 1,by omega,i + 1,by omega,hS.live ⟨rfl,rfl,rfl,rfl,trivial⟩,hH⟩
 ·have hge : i = ls.length:=by have:=of_decide_eq_false hc1; omega
  refine wp_exit (then_e (then_e (blk_hit (then_n (c_seq (reg_plain w0 (Nobody) ?_))))))
  refine r_assign hS hH.kp0 rfl rfl ?_; clear hS; intro a hS
  refine Sq.nil (then_n (wp_ret ?_))
  exact leave (.inl rfl) hS rfl (Res.tmp rfl Res.nil) ⟨rfl,hH.mod⟩

end Go.Proofs.YtcjmehononbadaaDoor
namespace Go.Proofs.YtcjmehononbadaaDoor
open Go.Sym

theorem Fc.bsl22_1 : bslB Tryd.prog 22 1 = some (5,1,[.int .u8 0]):=by kernel_rfl
theorem Fc.elBy : elB Tryd.prog 22 = some (5,1,1):=by kernel_rfl
theorem Fc.fn32 : isFn Tryd.prog 32 = true:=by kernel_rfl
theorem Fc.fo36_1 : foff Tryd.prog 36 1 = some 1:=by kernel_rfl
theorem Fc.fo36_5 : foff Tryd.prog 36 5 = some 5:=by kernel_rfl
theorem Fc.fo36_6 : foff Tryd.prog 36 6 = some 6:=by kernel_rfl
theorem Fc.niBy : notInt Tryd.prog 22 = true:=by kernel_rfl
set_option maxRecDepth 100000 in
set_option maxHeartbeats 4000000 in
theorem seen_c (k1 k2 k3 k4 nu : Int) (s : ByteArray) (va vq : Value) (o : Bool) (la : List UInt8) (sh hb hcap : Nat) (hl : List Value) (hs : List (List UInt8)) (sv : Value) (ss : List (List UInt8)) (hss : ss.length≤1000000) (w0 : World) (hf : Shf 59 26 w0 sh hb hcap hl hs sv ss) (ha : BsF Nobody w0 va la) : Calls Tryd.prog 43 #[.pointer (some ⟨sh,0,none⟩),.agg #[.int .i64 k1,.int .i64 k2,.int .i64 k3,.int .i64 k4,.string s,.int .i64 nu,va,vq,.bool o]] w0 fun e w' => ∃ v,e = .returned v∧Todo w0.heap.size 22 Nobody w' v (seenL hs ss la nu k2)∧Ext w0 w':=by
 refine enter Tryd.func43 rfl rfl rfl ?_
 intro a hS
 have hH:=Hp.start w0 (Nobody)
 obtain ⟨vs,sp,scap,hsl0,hel⟩:=hf.sl
 have hsv9:=(hsl0 _ (Mod.refl _ _)).val
 subst hsv9
 replace hH:=(hH.know hf.row (by intro p hp; simp at hp)).know hf.top (by intro p hp; simp at hp; subst hp; exact Ne.symm hf.ne)
 obtain ⟨qa,qac,hsla⟩:=ha.bs
 have hva:=hsla.val
 subst hva
 refine c_seq (reg_plain w0 (Nobody) ?_)
 refine r_box hS hH (by repeat' constructor) rfl rfl rfl ?_
 clear hS hH; intro a w b3 hb3 hwb3 hS hH
 refine r_assign hS hH.kp0 rfl rfl ?_; clear hS; intro a hS
 refine Sq.nil (then_n (c_seq (reg_plain w0 (Nobody) ?_)))
 refine r_fieldAddr hS hH.kp0 rfl Fc.fo36_6 rfl (x_load_sc hH (by repeat' constructor) rfl (by repeat' constructor) Fc.sc22 (by rfl) rfl ?_); clear hS; intro a hS
 refine r_buildSlice (parts:=[(0,.tmp 9)]) hS hH (by repeat' constructor) rfl Fc.bsl31_1 (by rfl) rfl ?_
 clear hS hH; intro a w b10 hb10 hwb10 hS hH
 refine r_assign hS hH.kp0 rfl rfl ?_; clear hS; intro a hS
 refine Sq.nil ?_
 have hO0 : Todo w0.heap.size 22 Nobody w (.slice (some ⟨b10,0,none⟩) 1 1) (la :: pckS nu ss 0):=.inr ⟨b10,1,[.slice qa la.length qac],rfl,hb10,fun h => h,hH.get (b:=b10) (by repeat' constructor),rfl,Nat.le_refl _,.cons (ha.go hH.mod (fun x hx => hx.elim (fun h => h.elim) (fun h => .inr (by rw [h]; exact hb10)))) .nil⟩
 refine then_n (c_seq (c_seq (reg_plain w0 (Nobody) ?_)))
 refine r_assign hS hH.kp0 rfl rfl ?_; clear hS; intro a hS
 refine Sq.nil (then_n (wp_block ?_))
 refine c_loop (fun m a w => ∃ (i : Nat) (ov : Value),m + i = ss.length∧Todo w0.heap.size 22 Nobody w ov (la :: pckS nu ss i)∧St 52 (lv [(0,.pointer (some ⟨sh,0,none⟩)),(3,.pointer (some ⟨b3,0,none⟩)),(4,.slice none 0 0),(5,ov),(6,.int .i64 (i : Int))]) a∧Hp w0 Nobody [(b3,.cells ([.int .i64 k1,.int .i64 k2,.int .i64 k3,.int .i64 k4,.string s,.int .i64 nu,.slice qa la.length qac,vq,.bool o] : List Value).toArray 36 (0,0)),(sh,.cells ([.slice (some ⟨hb,0,none⟩) hs.length hcap,.slice sp ss.length scap] : List Value).toArray 59 (0,0)),(hb,.cells hl.toArray 26 (0,0))] w) (ss.length) ?_ ?_
 ·exact ⟨0,_,rfl,hO0,hS.live ⟨rfl,rfl,rfl,rfl,rfl,trivial⟩,hH.drop [0]⟩
 clear hS hH hO0; intro m a w hI; obtain ⟨i,ov,hmi,hO,hS,hH⟩:=hI
 refine c_seq (c_seq (reg_plain w0 (Nobody) ?_))
 refine r_move hS hH.kp0 rfl rfl (x_move hH.kp0 rfl rfl (x_nilCheck hH.kp0 rfl rfl (x_fieldAddr hH.kp0 rfl Fc.fo59_1 rfl (x_load_sc hH (by repeat' constructor) rfl (by repeat' constructor) Fc.sc31 (by rfl) rfl (x_lenSl hH.kp0 rfl Fc.isSlice31 rfl (x_lss hH.kp0 rfl rfl rfl ?_)))))); clear hS; intro a hS
 refine Sq.nil (then_n ?_)
 refine c_cond hS rfl (fun hc0 => ?_) (fun hc0 => ?_)
 ·have hlt : i < ss.length:=by have:=of_decide_eq_true hc0; omega
  have hsl:=hsl0 _ hH.mod
  obtain ⟨ba,bo_,hq⟩:=hsl.addr (by omega)
  subst hq
  obtain ⟨x,hx⟩ : ∃ x,vs[i]? = some x:=⟨_,List.getElem?_eq_getElem (by rw [hsl.len]; omega)⟩
  obtain ⟨l9,hli,hbx⟩:=hel _ x hx
  obtain ⟨qx,qxc,hslx⟩:=hbx.bs
  have hvx:=hslx.val
  subst hvx
  refine wp_skip (then_n (c_seq (wp_block (c_seq (reg_plain w0 (Nobody) ?_)))))
  refine r_fieldAddr hS hH.kp0 rfl Fc.fo36_5 rfl (x_load_sc hH (by repeat' constructor) rfl (by repeat' constructor) Fc.sc3 (by rfl) rfl (x_move hH.kp0 rfl rfl (x_remN (i % 8) hH.kp0 rfl rfl (by omega) rfl rfl (x_toU64 (i % 8) hH.kp0 rfl Fc.ui83 Fc.us3 rfl rfl (by omega) (x_shrS (i % 8) hH.kp0 rfl rfl rfl rfl (by omega) ?_))))); clear hS; intro a hS
  refine r_bit i hS hH.kp0 rfl rfl ?_; clear hS; intro a e1 he1 hS
  rcases hbit : bitS nu i with _ | _
  ·rw [hbit] at he1
   refine r_eql hS hH.kp0 rfl rfl rfl ?_; clear hS; intro a hS
   rw [he1] at hS
   refine Sq.nil (then_n (c_condF hS rfl rfl (wp_skip (blk_n (then_n (reg_plain w0 (Nobody) ?_))))))
   refine r_move hS hH.kp0 rfl rfl (x_add hH.kp0 rfl rfl rfl (by omega) (x_assign hH.kp0 rfl rfl ?_)); clear hS; intro a hS
   refine Sq.nil (then_n ?_)
   refine ⟨m - 1,by omega,i + 1,ov,by omega,?_,hS.live ⟨rfl,rfl,rfl,rfl,rfl,trivial⟩,hH⟩
   rw [pckS_no hbit]; exact hO
  ·rw [hbit] at he1
   refine r_eql hS hH.kp0 rfl rfl rfl ?_; clear hS; intro a hS
   rw [he1] at hS
   refine Sq.nil (then_n (c_condT hS rfl rfl (reg_plain w0 (Nobody) ?_)))
   refine r_move hS hH.kp0 rfl rfl (x_move hH.kp0 rfl rfl (x_nilCheck hH.kp0 rfl rfl (x_fieldAddr hH.kp0 rfl Fc.fo59_1 rfl (x_load_sc hH (by repeat' constructor) rfl (by repeat' constructor) Fc.sc31 (by rfl) rfl (x_move hH.kp0 rfl rfl (x_indexAddrS (j:=i) hH.kp0 rfl rfl Fc.slb31 rfl hlt rfl ?_)))))); clear hS; intro a hS
   refine r_load_cell (v:=.slice qx l9.length qxc) hS hH.kp0 rfl (by obtain ⟨b9,o9,e9,hc9⟩:=(hsl0 w hH.mod).cells _ _ hx; cases e9; rw [Nat.mul_one]; exact hc9) Fc.sc22 rfl ?_; clear hS; intro a hS
   refine r_buildSliceW (parts:=[(0,.tmp 35)]) hS hH (by repeat' constructor) rfl Fc.bsl31_1 (by rfl) rfl ?_
   intro a9 w9 b36 hb36 hwb36 hE36 hS9 hH9
   clear hS hH
   obtain ⟨a,rfl⟩ : ∃ z,z = a9:=⟨_,rfl⟩
   obtain ⟨w,rfl⟩ : ∃ z,z = w9:=⟨_,rfl⟩
   have hS:=hS9
   have hH:=hH9
   clear hS9 hH9
   have hap9:=hO.apart hE36 hH hwb36 (by intro p hp l fz; simp only [List.mem_cons,List.not_mem_nil,or_false] at hp; rcases hp with rfl | rfl | rfl <;> (intro h; injection h with _ h2; revert h2; decide))
   replace hO:=hO.go hE36
   refine r_append_todo (B:=w0.heap.size) (F:=Nobody) (u:=l9) (ls:=la :: pckS nu ss i) hS hH (by repeat' constructor) rfl hO rfl (by first | exact In.here | exact In.there In.here) (fun b hb _ => hbx.go hH.mod (fun x hx => hx.elim (fun h => h.elim) (fun h => .inr (by rw [h]; exact hb)))) hbx.one hap9 (fun _ h => h.elim) (Nat.le_refl _) hH.mod.size Fc.el31 Fc.ni31 (by have:=pckS_len nu ss i; simp only [List.length_cons]; omega) rfl ?_
   clear hS hH hO; intro a w ov2 hO hov2 hS hH
   refine r_assign hS hH.kp0 rfl rfl ?_; clear hS; intro a hS
   refine Sq.nil (blk_n (then_n (reg_plain w0 (Nobody) ?_)))
   refine r_move hS hH.kp0 rfl rfl (x_add hH.kp0 rfl rfl rfl (by omega) (x_assign hH.kp0 rfl rfl ?_)); clear hS; intro a hS
   refine Sq.nil (then_n ?_)
   refine ⟨m - 1,by omega,i + 1,ov2,by omega,?_,hS.live ⟨rfl,rfl,rfl,rfl,rfl,trivial⟩,hH.drop [0]⟩
   rw [pckS_yes hbit hli]; exact hO
 ·have hge : i = ss.length:=by have:=of_decide_eq_false hc0; omega
  subst hge
  refine wp_exit (then_e (then_e (blk_hit (then_n (c_seq (c_seq (reg_plain w0 (Nobody) ?_)))))))
  refine r_fieldAddr hS hH.kp0 rfl Fc.fo36_1 rfl (x_load_sc hH (by repeat' constructor) rfl (by repeat' constructor) Fc.sc3 (by rfl) rfl (x_geq hH.kp0 rfl rfl rfl ?_)); clear hS; intro a hS
  refine Sq.nil (then_n ?_)
  refine c_cond hS rfl (fun hc2 => ?_) (fun hc2 => ?_)
  ·have hge2:=of_decide_eq_true hc2
   refine c_seq (reg_plain w0 (Nobody) ?_)
   refine r_move hS hH.kp0 rfl rfl (x_fieldAddr hH.kp0 rfl Fc.fo36_1 rfl (x_load_sc hH (by repeat' constructor) rfl (by repeat' constructor) Fc.sc3 (by rfl) rfl ?_)); clear hS; intro a hS
   refine r_call (l:=[.tmp 41,.tmp 43]) hS rfl rfl Fc.fn32 rfl ?_
   have hp16:=pickH_len hf.six k2
   obtain ⟨y,hy⟩ : ∃ y,y = pickH hs k2:=⟨_,rfl⟩
   rw [←hy] at hp16
   obtain ⟨y0,y1,y2,y3,y4,y5,y6,y7,y8,y9,ya,yb,yc,yd,ye,yf,rfl⟩:=len16 hp16
   refine Calls.mono (handle_y k2 [y0,y1,y2,y3,y4,y5,y6,y7,y8,y9,ya,yb,yc,yd,ye,yf] sh hb hcap hl hs (.slice sp ss.length scap) ss hy _ (hf.ext hH.mod)) ?_
   rintro e w1 ⟨rfl,hE⟩
   replace hH:=hH.ext hE
   replace hO:=hO.go hE
   refine ⟨_,rfl,hH.kp0,?_⟩
   clear hS; intro a hS
   refine r_allocE hS hH (by repeat' constructor) Fc.zc26 rfl ?_
   intro a9 w9 b7 hb7 hwb7 hE7 hS9 hH9
   have hwO:=hE7
   clear hS hH
   obtain ⟨a,rfl⟩ : ∃ z,z = a9:=⟨_,rfl⟩
   obtain ⟨w,rfl⟩ : ∃ z,z = w9:=⟨_,rfl⟩
   have hS:=hS9
   have hH:=hH9
   clear hS9 hH9
   refine r_store_rowM hS hH rfl rfl (by repeat' constructor) (by repeat' constructor) Fc.sz26 (by first | exact hcells_one _ | exact of_decide_eq_true rfl) (by rfl) (.inr (by assumption)) ?_
   clear hH; intro w hM7 hH
   have hE8:=Mod.trans hE7 hM7 (fun z hz hb => absurd hb (by omega))
   replace hO:=hO.go hE8
   refine Sq.nil (then_n (reg_plain w0 (Nobody) ?_))
   refine r_move hS hH.kp0 rfl rfl ?_; clear hS; intro a hS
   refine r_buildSliceW (parts:=[(0,.const (.int .u8 7))]) hS hH (by repeat' constructor) rfl Fc.bsl22_1 (by rfl) rfl ?_
   intro a9 w9 b46 hb46 hwb46 hE46 hS9 hH9
   clear hS hH
   obtain ⟨a,rfl⟩ : ∃ z,z = a9:=⟨_,rfl⟩
   obtain ⟨w,rfl⟩ : ∃ z,z = w9:=⟨_,rfl⟩
   have hS:=hS9
   have hH:=hH9
   clear hS9 hH9
   refine r_slArr hS hH.kp0 rfl Fc.ar26 rfl ?_; clear hS; intro a hS
   refine r_append_own2 (l:=[.int .u8 7]) (m:=1) (cap:=1) hS hH rfl rfl (by repeat' constructor) (by repeat' constructor) Fc.elBy Fc.niBy rfl (Nat.le_refl _) (Bs.handle (h:=[y0,y1,y2,y3,y4,y5,y6,y7,y8,y9,ya,yb,yc,yd,ye,yf]) (hH.get (b:=b7) (by repeat' constructor)) rfl).src (by show (1 + 16) * 1≤140737488355328; decide) hb46 rfl ?_
   clear hS hH; intro a w bz cz kz hbz hlz hcz htz hmz hS hH
   have hE47:=Mod.trans hE46 hmz (fun z hz hb => absurd hb (by omega))
   replace hO:=hO.go hE47
   refine r_buildSliceW (parts:=[(0,.tmp 48)]) hS hH (by repeat' constructor) rfl Fc.bsl31_1 (by rfl) rfl ?_
   intro a9 w9 b49 hb49 hwb49 hE49 hS9 hH9
   clear hS hH
   obtain ⟨a,rfl⟩ : ∃ z,z = a9:=⟨_,rfl⟩
   obtain ⟨w,rfl⟩ : ∃ z,z = w9:=⟨_,rfl⟩
   have hS:=hS9
   have hH:=hH9
   clear hS9 hH9
   have hap9:=hO.apart hE49 hH hwb49 (by intro p hp l fz; simp only [List.mem_cons,List.not_mem_nil,or_false] at hp; rcases hp with rfl | rfl | rfl | rfl | rfl <;> (intro h; injection h with _ h2; revert h2; decide))
   replace hO:=hO.go hE49
   refine r_append_todo (B:=w0.heap.size) (F:=Nobody) (u:=7 :: [y0,y1,y2,y3,y4,y5,y6,y7,y8,y9,ya,yb,yc,yd,ye,yf]) (ls:=la :: pckS nu ss ss.length) hS hH (by repeat' constructor) rfl hO rfl (by first | exact In.here | exact In.there In.here) (fun b hb hn => BsF.row (hH.get (b:=bz) (by repeat' constructor)) (fun h => h.elim (fun h => h) (hn (bz,_) (.tail _ (.head _)))) hlz hcz (by rw [htz]; rfl) rfl) rfl hap9 (fun _ h => h.elim) (Nat.le_refl _) hH.mod.size Fc.el31 Fc.ni31 (by have:=pckS_len nu ss ss.length; simp only [List.length_cons]; omega) rfl ?_
   clear hS hH hO; intro a w ov2 hO hov2 hS hH
   refine r_assign hS hH.kp0 rfl rfl ?_; clear hS; intro a hS
   refine Sq.nil (then_n (c_seq (reg_plain w0 (Nobody) ?_)))
   refine r_move hS hH.kp0 rfl rfl (x_assign hH.kp0 rfl rfl ?_); clear hS; intro a hS
   refine Sq.nil (then_n (wp_ret ?_))
   refine leave (.inl rfl) hS rfl (Res.tmp rfl Res.nil) ⟨_,rfl,?_,hH.mod⟩
   unfold seenL
   rw [if_pos hge2,←hy]
   exact hO
  ·have hlt2:=of_decide_eq_false hc2
   refine wp_skip (then_n (c_seq (reg_plain w0 (Nobody) ?_)))
   refine r_move hS hH.kp0 rfl rfl (x_assign hH.kp0 rfl rfl ?_); clear hS; intro a hS
   refine Sq.nil (then_n (wp_ret ?_))
   refine leave (.inl rfl) hS rfl (Res.tmp rfl Res.nil) ⟨_,rfl,?_,hH.mod⟩
   unfold seenL
   rw [if_neg (by omega),List.append_nil]
   exact hO

end Go.Proofs.YtcjmehononbadaaDoor
