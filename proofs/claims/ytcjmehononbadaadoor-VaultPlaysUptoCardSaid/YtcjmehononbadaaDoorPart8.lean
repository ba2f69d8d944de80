/- Two vaults under any calls answer alike. Part Part8: walks and lemmas of the proof. -/
import Derived.Test.YtcjmehononbadaaDoorPart7
import Derived.Test.YtcjmehononbadaaDoorSym6
import Derived.Test.YtcjmehononbadaaDoorSym5
namespace Go.Proofs.YtcjmehononbadaaDoor
open Go.Sym

theorem Fc.fo77_4 : foff Tryd.prog 77 4 = some 4:=by kernel_rfl
theorem Fc.fo77_5 : foff Tryd.prog 77 5 = some 5:=by kernel_rfl
theorem Fc.fo77_6 : foff Tryd.prog 77 6 = some 6:=by kernel_rfl
theorem Fc.sz77 : sizeB Tryd.prog 77 7 = true:=by kernel_rfl
set_option maxRecDepth 100000 in
set_option maxHeartbeats 16000000 in
theorem rOpen_c (b : Nat) (V : RB) (ts : List Tm) (h : List UInt8) (hh : h.length = 16) (nu : Int) (hnu : nu≤9223372036854775807) (va vb : Value) (la lb : List UInt8) (hla : la.length≤9223372036854775807) (hlb : lb.length≤1099511627776) (hwf : Wf6 ts) (hsl : Sel6 ts) (hm : ts.length≤1000000000) (w0 : World) (hri : RI w0 b V ts) (hba : BsF Nobody w0 va la) (hbb : BsF Nobody w0 vb lb) : Calls Tryd.prog 41 #[.pointer (some ⟨b,0,none⟩),hnd h,.int .i64 nu,va,vb] w0 fun e w' => ∃ (sv : Value) (o : List UInt8) (x : Int),e = .returned (.tuple #[sv,.int .i64 x])∧BsF (fun z => z < w0.heap.size) w' sv o∧OpenT ts h nu la lb o x∧Ext w0 w':=by
 refine enter Tryd.func41 rfl rfl rfl ?_
 intro a hS
 have hH:=Hp.start w0 (Nobody)
 obtain ⟨x0,x1,x2,x3,x4,x5,x6,x7,x8,x9,xa,xb,xc,xd,xe,xf,rfl⟩:=len16 hh
 replace hH:=hH.knowR hri (by intro p hp; simp at hp)
 obtain ⟨qb,qcb,hslb⟩:=hbb.bs
 have hvb:=hslb.val
 subst hvb
 have hsle:=hslb.le
 refine c_seq (reg_plain w0 (Nobody) ?_)
 refine r_box hS hH (by repeat' constructor) rfl rfl rfl ?_
 clear hS hH; intro a w b6 hb6 hwb6 hS hH
 refine r_assign hS hH.kp0 rfl rfl (x_assign hH.kp0 rfl rfl ?_); clear hS; intro a hS
 refine Sq.nil (then_n (c_seq (reg_plain w0 (Nobody) ?_)))
 refine r_move hS hH.kp0 rfl rfl (x_load_row hH (by repeat' constructor) rfl (by repeat' constructor) Fc.ag25 (by rfl) rfl ?_); clear hS; intro a hS
 refine r_call (l:=[.tmp 18,.tmp 19]) hS rfl rfl Fc.fn46 rfl ?_
 refine Calls.mono (rOf_c b V ts [x0,x1,x2,x3,x4,x5,x6,x7,x8,x9,xa,xb,xc,xd,xe,xf] rfl hm _ (hH.rin (TV:=80) (TT:=77) hri.ok rfl hri.n01 (by repeat' constructor) (by repeat' constructor))) ?_
 rintro e w1 ⟨k,rfl,hcase,hE⟩
 replace hH:=hH.ext hE
 refine ⟨_,rfl,hH.kp0,?_⟩
 clear hS; intro a hS
 refine r_assign hS hH.kp0 rfl rfl ?_; clear hS; intro a hS
 refine Sq.nil (then_n (c_seq (c_seq (reg_plain w0 (Nobody) ?_))))
 refine r_move hS hH.kp0 rfl rfl (x_lss hH.kp0 rfl rfl rfl ?_); clear hS; intro a hS
 refine Sq.nil (then_n ?_)
 refine c_cond hS rfl (fun hc0 => ?_) (fun hc0 => ?_)
 ·have hlt:=of_decide_eq_true hc0
  rcases hcase with ⟨i,hi,hn,hk⟩ | ⟨hno,hk⟩
  ·omega
  refine c_seq (reg_plain w0 (Nobody) ?_)
  refine r_assign hS hH.kp0 rfl rfl (x_assign hH.kp0 rfl rfl ?_); clear hS; intro a hS
  refine Sq.nil (then_n (wp_ret (then_r ?_)))
  exact leave (.inl rfl) hS rfl (Res.tmp rfl (Res.tmp rfl Res.nil)) ⟨_,[],15,rfl,BsF.nil _ _,.inl ⟨rfl,hno,rfl⟩,hH.mod⟩
 ·have hge:=of_decide_eq_false hc0
  rcases hcase.symm with ⟨hno,hk⟩ | ⟨i,hi,hn,hk⟩
  ·omega
  subst hk
  refine wp_skip (then_n (c_seq (c_seq (reg_plain w0 (Nobody) ?_))))
  refine r_move hS hH.kp0 rfl rfl (x_lss hH.kp0 rfl rfl rfl ?_); clear hS; intro a hS
  refine Sq.nil (then_n ?_)
  refine c_cond hS rfl (fun hc1 => ?_) (fun hc1 => ?_)
  ·have hng:=of_decide_eq_true hc1
   refine c_seq (reg_plain w0 (Nobody) ?_)
   refine r_assign hS hH.kp0 rfl rfl (x_assign hH.kp0 rfl rfl ?_); clear hS; intro a hS
   refine Sq.nil (then_n (wp_ret (then_r ?_)))
   exact leave (.inl rfl) hS rfl (Res.tmp rfl (Res.tmp rfl Res.nil)) ⟨_,[],2,rfl,BsF.nil _ _,.inr ⟨i,hi,hn,.inl ⟨rfl,hng,rfl⟩⟩,hH.mod⟩
  ·have hng:=of_decide_eq_false hc1
   refine wp_skip (then_n (c_seq (reg_plain w0 (Nobody) ?_)))
   refine r_move hS hH.kp0 rfl rfl (x_lenSl hH.kp0 rfl Fc.isSlice22 rfl (x_sub hH.kp0 rfl rfl rfl (by omega) (x_assign hH.kp0 rfl rfl ?_))); clear hS; intro a hS
   refine Sq.nil (then_n (c_seq (c_seq (reg_plain w0 (Nobody) ?_))))
   refine r_move hS hH.kp0 rfl rfl (x_lss hH.kp0 rfl rfl rfl ?_); clear hS; intro a hS
   refine Sq.nil (then_n ?_)
   refine c_cond hS rfl (fun hc2 => ?_) (fun hc2 => ?_)
   ·have hsh:=of_decide_eq_true hc2
    refine c_seq (reg_plain w0 (Nobody) ?_)
    refine r_assign hS hH.kp0 rfl rfl (x_assign hH.kp0 rfl rfl ?_); clear hS; intro a hS
    refine Sq.nil (then_n (wp_ret (then_r ?_)))
    exact leave (.inl rfl) hS rfl (Res.tmp rfl (Res.tmp rfl Res.nil)) ⟨_,[],20,rfl,BsF.nil _ _,.inr ⟨i,hi,hn,.inr (.inl ⟨rfl,by omega,by omega,rfl⟩)⟩,hH.mod⟩
   ·have hsh:=of_decide_eq_false hc2
    obtain ⟨n,hln⟩ : ∃ n,lb.length = n + 16:=⟨lb.length - 16,by omega⟩
    rw [show ((lb.length : Int) - 16) = (n : Int) by omega] at hS
    obtain ⟨qo,qp,hq⟩:=hbb.addr (by omega)
    subst hq
    have hqc:=hbb.len.2
    obtain ⟨g0,g1,g2,g3,g4,g5,g6,g7,g8,g9,ga,gb,gc,gd,ge,gf,hge⟩:=len16 (h:=lb.drop n) (by rw [List.length_drop]; omega)
    refine wp_skip (then_n (c_seq (reg_plain w0 (Nobody) ?_)))
    refine r_alloc hS hH (by repeat' constructor) Fc.zc25 rfl ?_
    clear hS hH; intro a w b14 hb14 hwb14 hS hH
    refine Sq.nil (then_n (c_seq (c_seq (reg_plain w0 (Nobody) ?_))))
    refine r_assign hS hH.kp0 rfl rfl ?_; clear hS; intro a hS
    refine Sq.nil (then_n (wp_block ?_))
    refine wp_loop_rounds 17 ?_
    refine rnd ?_
    refine c_seq (c_seq (reg_plain w0 (Nobody) ?_))
    refine r_move hS hH.kp0 rfl rfl (x_lss hH.kp0 rfl rfl rfl ?_); clear hS; intro a hS
    refine Sq.nil (then_n (c_condT hS rfl rfl (wp_skip (then_n (c_seq (wp_block (reg_plain w0 (Nobody) ?_)))))))
    refine r_move hS hH.kp0 rfl rfl (x_move hH.kp0 rfl rfl (x_move hH.kp0 rfl rfl (x_move hH.kp0 rfl rfl (x_add hH.kp0 rfl rfl rfl (by omega) (x_indexAddrS (j:=n + 0) hH.kp0 rfl rfl Fc.slb22 (by omega) (by omega) rfl ?_))))); clear hS; intro a hS
    refine r_load_cell (v:=byteV g0) hS hH.kp0 rfl (by rw [Nat.mul_one]; exact hbb.byte hH.mod (show lb[n + 0]? = some g0 from by rw [←List.getElem?_drop,hge]; rfl)) Fc.sc5 rfl ?_; clear hS; intro a hS
    refine r_indexAddrA (j:=0) hS hH.kp0 rfl rfl Fc.ar25 (by omega) (by decide) rfl ?_; clear hS; intro a hS
    refine r_store1 hS hH rfl rfl rfl (by repeat' constructor) (by repeat' constructor) Fc.sz5 (of_decide_eq_true rfl) (.inr hb14) ?_
    clear hH; intro w hH
    replace hH : Hp w0 Nobody [(b14,.cells ([byteV g0,.int .u8 0,.int .u8 0,.int .u8 0,.int .u8 0,.int .u8 0,.int .u8 0,.int .u8 0,.int .u8 0,.int .u8 0,.int .u8 0,.int .u8 0,.int .u8 0,.int .u8 0,.int .u8 0,.int .u8 0] : List Value).toArray 25 (0,0)),(b6,.cells (hcells [x0,x1,x2,x3,x4,x5,x6,x7,x8,x9,xa,xb,xc,xd,xe,xf]).toArray 25 (0,0)),(b,.cells (V.top ts.length).toArray 80 (0,0)),(V.sb,.cells V.l.toArray 77 (0,0))] w:=hH
    refine Sq.nil (blk_n (then_n (reg_plain w0 (Nobody) ?_)))
    refine r_move hS hH.kp0 rfl rfl (x_add hH.kp0 rfl rfl rfl (by omega) (x_assign hH.kp0 rfl rfl ?_)); clear hS; intro a hS
    refine Sq.nil (then_n ?_)
    refine rnd ?_
    refine c_seq (c_seq (reg_plain w0 (Nobody) ?_))
    refine r_move hS hH.kp0 rfl rfl (x_lss hH.kp0 rfl rfl rfl ?_); clear hS; intro a hS
    refine Sq.nil (then_n (c_condT hS rfl rfl (wp_skip (then_n (c_seq (wp_block (reg_plain w0 (Nobody) ?_)))))))
    refine r_move hS hH.kp0 rfl rfl (x_move hH.kp0 rfl rfl (x_move hH.kp0 rfl rfl (x_move hH.kp0 rfl rfl (x_add hH.kp0 rfl rfl rfl (by omega) (x_indexAddrS (j:=n + 1) hH.kp0 rfl rfl Fc.slb22 (by omega) (by omega) rfl ?_))))); clear hS; intro a hS
    refine r_load_cell (v:=byteV g1) hS hH.kp0 rfl (by rw [Nat.mul_one]; exact hbb.byte hH.mod (show lb[n + 1]? = some g1 from by rw [←List.getElem?_drop,hge]; rfl)) Fc.sc5 rfl ?_; clear hS; intro a hS
    refine r_indexAddrA (j:=1) hS hH.kp0 rfl rfl Fc.ar25 (by omega) (by decide) rfl ?_; clear hS; intro a hS
    refine r_store1 hS hH rfl rfl rfl (by repeat' constructor) (by repeat' constructor) Fc.sz5 (of_decide_eq_true rfl) (.inr hb14) ?_
    clear hH; intro w hH
    replace hH : Hp w0 Nobody [(b14,.cells ([byteV g0,byteV g1,.int .u8 0,.int .u8 0,.int .u8 0,.int .u8 0,.int .u8 0,.int .u8 0,.int .u8 0,.int .u8 0,.int .u8 0,.int .u8 0,.int .u8 0,.int .u8 0,.int .u8 0,.int .u8 0] : List Value).toArray 25 (0,0)),(b6,.cells (hcells [x0,x1,x2,x3,x4,x5,x6,x7,x8,x9,xa,xb,xc,xd,xe,xf]).toArray 25 (0,0)),(b,.cells (V.top ts.length).toArray 80 (0,0)),(V.sb,.cells V.l.toArray 77 (0,0))] w:=hH
    refine Sq.nil (blk_n (then_n (reg_plain w0 (Nobody) ?_)))
    refine r_move hS hH.kp0 rfl rfl (x_add hH.kp0 rfl rfl rfl (by omega) (x_assign hH.kp0 rfl rfl ?_)); clear hS; intro a hS
    refine Sq.nil (then_n ?_)
    refine rnd ?_
    refine c_seq (c_seq (reg_plain w0 (Nobody) ?_))
    refine r_move hS hH.kp0 rfl rfl (x_lss hH.kp0 rfl rfl rfl ?_); clear hS; intro a hS
    refine Sq.nil (then_n (c_condT hS rfl rfl (wp_skip (then_n (c_seq (wp_block (reg_plain w0 (Nobody) ?_)))))))
    refine r_move hS hH.kp0 rfl rfl (x_move hH.kp0 rfl rfl (x_move hH.kp0 rfl rfl (x_move hH.kp0 rfl rfl (x_add hH.kp0 rfl rfl rfl (by omega) (x_indexAddrS (j:=n + 2) hH.kp0 rfl rfl Fc.slb22 (by omega) (by omega) rfl ?_))))); clear hS; intro a hS
    refine r_load_cell (v:=byteV g2) hS hH.kp0 rfl (by rw [Nat.mul_one]; exact hbb.byte hH.mod (show lb[n + 2]? = some g2 from by rw [←List.getElem?_drop,hge]; rfl)) Fc.sc5 rfl ?_; clear hS; intro a hS
    refine r_indexAddrA (j:=2) hS hH.kp0 rfl rfl Fc.ar25 (by omega) (by decide) rfl ?_; clear hS; intro a hS
    refine r_store1 hS hH rfl rfl rfl (by repeat' constructor) (by repeat' constructor) Fc.sz5 (of_decide_eq_true rfl) (.inr hb14) ?_
    clear hH; intro w hH
    replace hH : Hp w0 Nobody [(b14,.cells ([byteV g0,byteV g1,byteV g2,.int .u8 0,.int .u8 0,.int .u8 0,.int .u8 0,.int .u8 0,.int .u8 0,.int .u8 0,.int .u8 0,.int .u8 0,.int .u8 0,.int .u8 0,.int .u8 0,.int .u8 0] : List Value).toArray 25 (0,0)),(b6,.cells (hcells [x0,x1,x2,x3,x4,x5,x6,x7,x8,x9,xa,xb,xc,xd,xe,xf]).toArray 25 (0,0)),(b,.cells (V.top ts.length).toArray 80 (0,0)),(V.sb,.cells V.l.toArray 77 (0,0))] w:=hH
    refine Sq.nil (blk_n (then_n (reg_plain w0 (Nobody) ?_)))
    refine r_move hS hH.kp0 rfl rfl (x_add hH.kp0 rfl rfl rfl (by omega) (x_assign hH.kp0 rfl rfl ?_)); clear hS; intro a hS
    refine Sq.nil (then_n ?_)
    refine rnd ?_
    refine c_seq (c_seq (reg_plain w0 (Nobody) ?_))
    refine r_move hS hH.kp0 rfl rfl (x_lss hH.kp0 rfl rfl rfl ?_); clear hS; intro a hS
    refine Sq.nil (then_n (c_condT hS rfl rfl (wp_skip (then_n (c_seq (wp_block (reg_plain w0 (Nobody) ?_)))))))
    refine r_move hS hH.kp0 rfl rfl (x_move hH.kp0 rfl rfl (x_move hH.kp0 rfl rfl (x_move hH.kp0 rfl rfl (x_add hH.kp0 rfl rfl rfl (by omega) (x_indexAddrS (j:=n + 3) hH.kp0 rfl rfl Fc.slb22 (by omega) (by omega) rfl ?_))))); clear hS; intro a hS
    refine r_load_cell (v:=byteV g3) hS hH.kp0 rfl (by rw [Nat.mul_one]; exact hbb.byte hH.mod (show lb[n + 3]? = some g3 from by rw [←List.getElem?_drop,hge]; rfl)) Fc.sc5 rfl ?_; clear hS; intro a hS
    refine r_indexAddrA (j:=3) hS hH.kp0 rfl rfl Fc.ar25 (by omega) (by decide) rfl ?_; clear hS; intro a hS
    refine r_store1 hS hH rfl rfl rfl (by repeat' constructor) (by repeat' constructor) Fc.sz5 (of_decide_eq_true rfl) (.inr hb14) ?_
    clear hH; intro w hH
    replace hH : Hp w0 Nobody [(b14,.cells ([byteV g0,byteV g1,byteV g2,byteV g3,.int .u8 0,.int .u8 0,.int .u8 0,.int .u8 0,.int .u8 0,.int .u8 0,.int .u8 0,.int .u8 0,.int .u8 0,.int .u8 0,.int .u8 0,.int .u8 0] : List Value).toArray 25 (0,0)),(b6,.cells (hcells [x0,x1,x2,x3,x4,x5,x6,x7,x8,x9,xa,xb,xc,xd,xe,xf]).toArray 25 (0,0)),(b,.cells (V.top ts.length).toArray 80 (0,0)),(V.sb,.cells V.l.toArray 77 (0,0))] w:=hH
    refine Sq.nil (blk_n (then_n (reg_plain w0 (Nobody) ?_)))
    refine r_move hS hH.kp0 rfl rfl (x_add hH.kp0 rfl rfl rfl (by omega) (x_assign hH.kp0 rfl rfl ?_)); clear hS; intro a hS
    refine Sq.nil (then_n ?_)
    refine rnd ?_
    refine c_seq (c_seq (reg_plain w0 (Nobody) ?_))
    refine r_move hS hH.kp0 rfl rfl (x_lss hH.kp0 rfl rfl rfl ?_); clear hS; intro a hS
    refine Sq.nil (then_n (c_condT hS rfl rfl (wp_skip (then_n (c_seq (wp_block (reg_plain w0 (Nobody) ?_)))))))
    refine r_move hS hH.kp0 rfl rfl (x_move hH.kp0 rfl rfl (x_move hH.kp0 rfl rfl (x_move hH.kp0 rfl rfl (x_add hH.kp0 rfl rfl rfl (by omega) (x_indexAddrS (j:=n + 4) hH.kp0 rfl rfl Fc.slb22 (by omega) (by omega) rfl ?_))))); clear hS; intro a hS
    refine r_load_cell (v:=byteV g4) hS hH.kp0 rfl (by rw [Nat.mul_one]; exact hbb.byte hH.mod (show lb[n + 4]? = some g4 from by rw [←List.getElem?_drop,hge]; rfl)) Fc.sc5 rfl ?_; clear hS; intro a hS
    refine r_indexAddrA (j:=4) hS hH.kp0 rfl rfl Fc.ar25 (by omega) (by decide) rfl ?_; clear hS; intro a hS
    refine r_store1 hS hH rfl rfl rfl (by repeat' constructor) (by repeat' constructor) Fc.sz5 (of_decide_eq_true rfl) (.inr hb14) ?_
    clear hH; intro w hH
    replace hH : Hp w0 Nobody [(b14,.cells ([byteV g0,byteV g1,byteV g2,byteV g3,byteV g4,.int .u8 0,.int .u8 0,.int .u8 0,.int .u8 0,.int .u8 0,.int .u8 0,.int .u8 0,.int .u8 0,.int .u8 0,.int .u8 0,.int .u8 0] : List Value).toArray 25 (0,0)),(b6,.cells (hcells [x0,x1,x2,x3,x4,x5,x6,x7,x8,x9,xa,xb,xc,xd,xe,xf]).toArray 25 (0,0)),(b,.cells (V.top ts.length).toArray 80 (0,0)),(V.sb,.cells V.l.toArray 77 (0,0))] w:=hH
    refine Sq.nil (blk_n (then_n (reg_plain w0 (Nobody) ?_)))
    refine r_move hS hH.kp0 rfl rfl (x_add hH.kp0 rfl rfl rfl (by omega) (x_assign hH.kp0 rfl rfl ?_)); clear hS; intro a hS
    refine Sq.nil (then_n ?_)
    refine rnd ?_
    refine c_seq (c_seq (reg_plain w0 (Nobody) ?_))
    refine r_move hS hH.kp0 rfl rfl (x_lss hH.kp0 rfl rfl rfl ?_); clear hS; intro a hS
    refine Sq.nil (then_n (c_condT hS rfl rfl (wp_skip (then_n (c_seq (wp_block (reg_plain w0 (Nobody) ?_)))))))
    refine r_move hS hH.kp0 rfl rfl (x_move hH.kp0 rfl rfl (x_move hH.kp0 rfl rfl (x_move hH.kp0 rfl rfl (x_add hH.kp0 rfl rfl rfl (by omega) (x_indexAddrS (j:=n + 5) hH.kp0 rfl rfl Fc.slb22 (by omega) (by omega) rfl ?_))))); clear hS; intro a hS
    refine r_load_cell (v:=byteV g5) hS hH.kp0 rfl (by rw [Nat.mul_one]; exact hbb.byte hH.mod (show lb[n + 5]? = some g5 from by rw [←List.getElem?_drop,hge]; rfl)) Fc.sc5 rfl ?_; clear hS; intro a hS
    refine r_indexAddrA (j:=5) hS hH.kp0 rfl rfl Fc.ar25 (by omega) (by decide) rfl ?_; clear hS; intro a hS
    refine r_store1 hS hH rfl rfl rfl (by repeat' constructor) (by repeat' constructor) Fc.sz5 (of_decide_eq_true rfl) (.inr hb14) ?_
    clear hH; intro w hH
    replace hH : Hp w0 Nobody [(b14,.cells ([byteV g0,byteV g1,byteV g2,byteV g3,byteV g4,byteV g5,.int .u8 0,.int .u8 0,.int .u8 0,.int .u8 0,.int .u8 0,.int .u8 0,.int .u8 0,.int .u8 0,.int .u8 0,.int .u8 0] : List Value).toArray 25 (0,0)),(b6,.cells (hcells [x0,x1,x2,x3,x4,x5,x6,x7,x8,x9,xa,xb,xc,xd,xe,xf]).toArray 25 (0,0)),(b,.cells (V.top ts.length).toArray 80 (0,0)),(V.sb,.cells V.l.toArray 77 (0,0))] w:=hH
    refine Sq.nil (blk_n (then_n (reg_plain w0 (Nobody) ?_)))
    refine r_move hS hH.kp0 rfl rfl (x_add hH.kp0 rfl rfl rfl (by omega) (x_assign hH.kp0 rfl rfl ?_)); clear hS; intro a hS
    refine Sq.nil (then_n ?_)
    refine rnd ?_
    refine c_seq (c_seq (reg_plain w0 (Nobody) ?_))
    refine r_move hS hH.kp0 rfl rfl (x_lss hH.kp0 rfl rfl rfl ?_); clear hS; intro a hS
    refine Sq.nil (then_n (c_condT hS rfl rfl (wp_skip (then_n (c_seq (wp_block (reg_plain w0 (Nobody) ?_)))))))
    refine r_move hS hH.kp0 rfl rfl (x_move hH.kp0 rfl rfl (x_move hH.kp0 rfl rfl (x_move hH.kp0 rfl rfl (x_add hH.kp0 rfl rfl rfl (by omega) (x_indexAddrS (j:=n + 6) hH.kp0 rfl rfl Fc.slb22 (by omega) (by omega) rfl ?_))))); clear hS; intro a hS
    refine r_load_cell (v:=byteV g6) hS hH.kp0 rfl (by rw [Nat.mul_one]; exact hbb.byte hH.mod (show lb[n + 6]? = some g6 from by rw [←List.getElem?_drop,hge]; rfl)) Fc.sc5 rfl ?_; clear hS; intro a hS
    refine r_indexAddrA (j:=6) hS hH.kp0 rfl rfl Fc.ar25 (by omega) (by decide) rfl ?_; clear hS; intro a hS
    refine r_store1 hS hH rfl rfl rfl (by repeat' constructor) (by repeat' constructor) Fc.sz5 (of_decide_eq_true rfl) (.inr hb14) ?_
    clear hH; intro w hH
    replace hH : Hp w0 Nobody [(b14,.cells ([byteV g0,byteV g1,byteV g2,byteV g3,byteV g4,byteV g5,byteV g6,.int .u8 0,.int .u8 0,.int .u8 0,.int .u8 0,.int .u8 0,.int .u8 0,.int .u8 0,.int .u8 0,.int .u8 0] : List Value).toArray 25 (0,0)),(b6,.cells (hcells [x0,x1,x2,x3,x4,x5,x6,x7,x8,x9,xa,xb,xc,xd,xe,xf]).toArray 25 (0,0)),(b,.cells (V.top ts.length).toArray 80 (0,0)),(V.sb,.cells V.l.toArray 77 (0,0))] w:=hH
    refine Sq.nil (blk_n (then_n (reg_plain w0 (Nobody) ?_)))
    refine r_move hS hH.kp0 rfl rfl (x_add hH.kp0 rfl rfl rfl (by omega) (x_assign hH.kp0 rfl rfl ?_)); clear hS; intro a hS
    refine Sq.nil (then_n ?_)
    refine rnd ?_
    refine c_seq (c_seq (reg_plain w0 (Nobody) ?_))
    refine r_move hS hH.kp0 rfl rfl (x_lss hH.kp0 rfl rfl rfl ?_); clear hS; intro a hS
    refine Sq.nil (then_n (c_condT hS rfl rfl (wp_skip (then_n (c_seq (wp_block (reg_plain w0 (Nobody) ?_)))))))
    refine r_move hS hH.kp0 rfl rfl (x_move hH.kp0 rfl rfl (x_move hH.kp0 rfl rfl (x_move hH.kp0 rfl rfl (x_add hH.kp0 rfl rfl rfl (by omega) (x_indexAddrS (j:=n + 7) hH.kp0 rfl rfl Fc.slb22 (by omega) (by omega) rfl ?_))))); clear hS; intro a hS
    refine r_load_cell (v:=byteV g7) hS hH.kp0 rfl (by rw [Nat.mul_one]; exact hbb.byte hH.mod (show lb[n + 7]? = some g7 from by rw [←List.getElem?_drop,hge]; rfl)) Fc.sc5 rfl ?_; clear hS; intro a hS
    refine r_indexAddrA (j:=7) hS hH.kp0 rfl rfl Fc.ar25 (by omega) (by decide) rfl ?_; clear hS; intro a hS
    refine r_store1 hS hH rfl rfl rfl (by repeat' constructor) (by repeat' constructor) Fc.sz5 (of_decide_eq_true rfl) (.inr hb14) ?_
    clear hH; intro w hH
    replace hH : Hp w0 Nobody [(b14,.cells ([byteV g0,byteV g1,byteV g2,byteV g3,byteV g4,byteV g5,byteV g6,byteV g7,.int .u8 0,.int .u8 0,.int .u8 0,.int .u8 0,.int .u8 0,.int .u8 0,.int .u8 0,.int .u8 0] : List Value).toArray 25 (0,0)),(b6,.cells (hcells [x0,x1,x2,x3,x4,x5,x6,x7,x8,x9,xa,xb,xc,xd,xe,xf]).toArray 25 (0,0)),(b,.cells (V.top ts.length).toArray 80 (0,0)),(V.sb,.cells V.l.toArray 77 (0,0))] w:=hH
    refine Sq.nil (blk_n (then_n (reg_plain w0 (Nobody) ?_)))
    refine r_move hS hH.kp0 rfl rfl (x_add hH.kp0 rfl rfl rfl (by omega) (x_assign hH.kp0 rfl rfl ?_)); clear hS; intro a hS
    refine Sq.nil (then_n ?_)
    refine rnd ?_
    refine c_seq (c_seq (reg_plain w0 (Nobody) ?_))
    refine r_move hS hH.kp0 rfl rfl (x_lss hH.kp0 rfl rfl rfl ?_); clear hS; intro a hS
    refine Sq.nil (then_n (c_condT hS rfl rfl (wp_skip (then_n (c_seq (wp_block (reg_plain w0 (Nobody) ?_)))))))
    refine r_move hS hH.kp0 rfl rfl (x_move hH.kp0 rfl rfl (x_move hH.kp0 rfl rfl (x_move hH.kp0 rfl rfl (x_add hH.kp0 rfl rfl rfl (by omega) (x_indexAddrS (j:=n + 8) hH.kp0 rfl rfl Fc.slb22 (by omega) (by omega) rfl ?_))))); clear hS; intro a hS
    refine r_load_cell (v:=byteV g8) hS hH.kp0 rfl (by rw [Nat.mul_one]; exact hbb.byte hH.mod (show lb[n + 8]? = some g8 from by rw [←List.getElem?_drop,hge]; rfl)) Fc.sc5 rfl ?_; clear hS; intro a hS
    refine r_indexAddrA (j:=8) hS hH.kp0 rfl rfl Fc.ar25 (by omega) (by decide) rfl ?_; clear hS; intro a hS
    refine r_store1 hS hH rfl rfl rfl (by repeat' constructor) (by repeat' constructor) Fc.sz5 (of_decide_eq_true rfl) (.inr hb14) ?_
    clear hH; intro w hH
    replace hH : Hp w0 Nobody [(b14,.cells ([byteV g0,byteV g1,byteV g2,byteV g3,byteV g4,byteV g5,byteV g6,byteV g7,byteV g8,.int .u8 0,.int .u8 0,.int .u8 0,.int .u8 0,.int .u8 0,.int .u8 0,.int .u8 0] : List Value).toArray 25 (0,0)),(b6,.cells (hcells [x0,x1,x2,x3,x4,x5,x6,x7,x8,x9,xa,xb,xc,xd,xe,xf]).toArray 25 (0,0)),(b,.cells (V.top ts.length).toArray 80 (0,0)),(V.sb,.cells V.l.toArray 77 (0,0))] w:=hH
    refine Sq.nil (blk_n (then_n (reg_plain w0 (Nobody) ?_)))
    refine r_move hS hH.kp0 rfl rfl (x_add hH.kp0 rfl rfl rfl (by omega) (x_assign hH.kp0 rfl rfl ?_)); clear hS; intro a hS
    refine Sq.nil (then_n ?_)
    refine rnd ?_
    refine c_seq (c_seq (reg_plain w0 (Nobody) ?_))
    refine r_move hS hH.kp0 rfl rfl (x_lss hH.kp0 rfl rfl rfl ?_); clear hS; intro a hS
    refine Sq.nil (then_n (c_condT hS rfl rfl (wp_skip (then_n (c_seq (wp_block (reg_plain w0 (Nobody) ?_)))))))
    refine r_move hS hH.kp0 rfl rfl (x_move hH.kp0 rfl rfl (x_move hH.kp0 rfl rfl (x_move hH.kp0 rfl rfl (x_add hH.kp0 rfl rfl rfl (by omega) (x_indexAddrS (j:=n + 9) hH.kp0 rfl rfl Fc.slb22 (by omega) (by omega) rfl ?_))))); clear hS; intro a hS
    refine r_load_cell (v:=byteV g9) hS hH.kp0 rfl (by rw [Nat.mul_one]; exact hbb.byte hH.mod (show lb[n + 9]? = some g9 from by rw [←List.getElem?_drop,hge]; rfl)) Fc.sc5 rfl ?_; clear hS; intro a hS
    refine r_indexAddrA (j:=9) hS hH.kp0 rfl rfl Fc.ar25 (by omega) (by decide) rfl ?_; clear hS; intro a hS
    refine r_store1 hS hH rfl rfl rfl (by repeat' constructor) (by repeat' constructor) Fc.sz5 (of_decide_eq_true rfl) (.inr hb14) ?_
    clear hH; intro w hH
    replace hH : Hp w0 Nobody [(b14,.cells ([byteV g0,byteV g1,byteV g2,byteV g3,byteV g4,byteV g5,byteV g6,byteV g7,byteV g8,byteV g9,.int .u8 0,.int .u8 0,.int .u8 0,.int .u8 0,.int .u8 0,.int .u8 0] : List Value).toArray 25 (0,0)),(b6,.cells (hcells [x0,x1,x2,x3,x4,x5,x6,x7,x8,x9,xa,xb,xc,xd,xe,xf]).toArray 25 (0,0)),(b,.cells (V.top ts.length).toArray 80 (0,0)),(V.sb,.cells V.l.toArray 77 (0,0))] w:=hH
    refine Sq.nil (blk_n (then_n (reg_plain w0 (Nobody) ?_)))
    refine r_move hS hH.kp0 rfl rfl (x_add hH.kp0 rfl rfl rfl (by omega) (x_assign hH.kp0 rfl rfl ?_)); clear hS; intro a hS
    refine Sq.nil (then_n ?_)
    refine rnd ?_
    refine c_seq (c_seq (reg_plain w0 (Nobody) ?_))
    refine r_move hS hH.kp0 rfl rfl (x_lss hH.kp0 rfl rfl rfl ?_); clear hS; intro a hS
    refine Sq.nil (then_n (c_condT hS rfl rfl (wp_skip (then_n (c_seq (wp_block (reg_plain w0 (Nobody) ?_)))))))
    refine r_move hS hH.kp0 rfl rfl (x_move hH.kp0 rfl rfl (x_move hH.kp0 rfl rfl (x_move hH.kp0 rfl rfl (x_add hH.kp0 rfl rfl rfl (by omega) (x_indexAddrS (j:=n + 10) hH.kp0 rfl rfl Fc.slb22 (by omega) (by omega) rfl ?_))))); clear hS; intro a hS
    refine r_load_cell (v:=byteV ga) hS hH.kp0 rfl (by rw [Nat.mul_one]; exact hbb.byte hH.mod (show lb[n + 10]? = some ga from by rw [←List.getElem?_drop,hge]; rfl)) Fc.sc5 rfl ?_; clear hS; intro a hS
    refine r_indexAddrA (j:=10) hS hH.kp0 rfl rfl Fc.ar25 (by omega) (by decide) rfl ?_; clear hS; intro a hS
    refine r_store1 hS hH rfl rfl rfl (by repeat' constructor) (by repeat' constructor) Fc.sz5 (of_decide_eq_true rfl) (.inr hb14) ?_
    clear hH; intro w hH
    replace hH : Hp w0 Nobody [(b14,.cells ([byteV g0,byteV g1,byteV g2,byteV g3,byteV g4,byteV g5,byteV g6,byteV g7,byteV g8,byteV g9,byteV ga,.int .u8 0,.int .u8 0,.int .u8 0,.int .u8 0,.int .u8 0] : List Value).toArray 25 (0,0)),(b6,.cells (hcells [x0,x1,x2,x3,x4,x5,x6,x7,x8,x9,xa,xb,xc,xd,xe,xf]).toArray 25 (0,0)),(b,.cells (V.top ts.length).toArray 80 (0,0)),(V.sb,.cells V.l.toArray 77 (0,0))] w:=hH
    refine Sq.nil (blk_n (then_n (reg_plain w0 (Nobody) ?_)))
    refine r_move hS hH.kp0 rfl rfl (x_add hH.kp0 rfl rfl rfl (by omega) (x_assign hH.kp0 rfl rfl ?_)); clear hS; intro a hS
    refine Sq.nil (then_n ?_)
    refine rnd ?_
    refine c_seq (c_seq (reg_plain w0 (Nobody) ?_))
    refine r_move hS hH.kp0 rfl rfl (x_lss hH.kp0 rfl rfl rfl ?_); clear hS; intro a hS
    refine Sq.nil (then_n (c_condT hS rfl rfl (wp_skip (then_n (c_seq (wp_block (reg_plain w0 (Nobody) ?_)))))))
    refine r_move hS hH.kp0 rfl rfl (x_move hH.kp0 rfl rfl (x_move hH.kp0 rfl rfl (x_move hH.kp0 rfl rfl (x_add hH.kp0 rfl rfl rfl (by omega) (x_indexAddrS (j:=n + 11) hH.kp0 rfl rfl Fc.slb22 (by omega) (by omega) rfl ?_))))); clear hS; intro a hS
    refine r_load_cell (v:=byteV gb) hS hH.kp0 rfl (by rw [Nat.mul_one]; exact hbb.byte hH.mod (show lb[n + 11]? = some gb from by rw [←List.getElem?_drop,hge]; rfl)) Fc.sc5 rfl ?_; clear hS; intro a hS
    refine r_indexAddrA (j:=11) hS hH.kp0 rfl rfl Fc.ar25 (by omega) (by decide) rfl ?_; clear hS; intro a hS
    refine r_store1 hS hH rfl rfl rfl (by repeat' constructor) (by repeat' constructor) Fc.sz5 (of_decide_eq_true rfl) (.inr hb14) ?_
    clear hH; intro w hH
    replace hH : Hp w0 Nobody [(b14,.cells ([byteV g0,byteV g1,byteV g2,byteV g3,byteV g4,byteV g5,byteV g6,byteV g7,byteV g8,byteV g9,byteV ga,byteV gb,.int .u8 0,.int .u8 0,.int .u8 0,.int .u8 0] : List Value).toArray 25 (0,0)),(b6,.cells (hcells [x0,x1,x2,x3,x4,x5,x6,x7,x8,x9,xa,xb,xc,xd,xe,xf]).toArray 25 (0,0)),(b,.cells (V.top ts.length).toArray 80 (0,0)),(V.sb,.cells V.l.toArray 77 (0,0))] w:=hH
    refine Sq.nil (blk_n (then_n (reg_plain w0 (Nobody) ?_)))
    refine r_move hS hH.kp0 rfl rfl (x_add hH.kp0 rfl rfl rfl (by omega) (x_assign hH.kp0 rfl rfl ?_)); clear hS; intro a hS
    refine Sq.nil (then_n ?_)
    refine rnd ?_
    refine c_seq (c_seq (reg_plain w0 (Nobody) ?_))
    refine r_move hS hH.kp0 rfl rfl (x_lss hH.kp0 rfl rfl rfl ?_); clear hS; intro a hS
    refine Sq.nil (then_n (c_condT hS rfl rfl (wp_skip (then_n (c_seq (wp_block (reg_plain w0 (Nobody) ?_)))))))
    refine r_move hS hH.kp0 rfl rfl (x_move hH.kp0 rfl rfl (x_move hH.kp0 rfl rfl (x_move hH.kp0 rfl rfl (x_add hH.kp0 rfl rfl rfl (by omega) (x_indexAddrS (j:=n + 12) hH.kp0 rfl rfl Fc.slb22 (by omega) (by omega) rfl ?_))))); clear hS; intro a hS
    refine r_load_cell (v:=byteV gc) hS hH.kp0 rfl (by rw [Nat.mul_one]; exact hbb.byte hH.mod (show lb[n + 12]? = some gc from by rw [←List.getElem?_drop,hge]; rfl)) Fc.sc5 rfl ?_; clear hS; intro a hS
    refine r_indexAddrA (j:=12) hS hH.kp0 rfl rfl Fc.ar25 (by omega) (by decide) rfl ?_; clear hS; intro a hS
    refine r_store1 hS hH rfl rfl rfl (by repeat' constructor) (by repeat' constructor) Fc.sz5 (of_decide_eq_true rfl) (.inr hb14) ?_
    clear hH; intro w hH
    replace hH : Hp w0 Nobody [(b14,.cells ([byteV g0,byteV g1,byteV g2,byteV g3,byteV g4,byteV g5,byteV g6,byteV g7,byteV g8,byteV g9,byteV ga,byteV gb,byteV gc,.int .u8 0,.int .u8 0,.int .u8 0] : List Value).toArray 25 (0,0)),(b6,.cells (hcells [x0,x1,x2,x3,x4,x5,x6,x7,x8,x9,xa,xb,xc,xd,xe,xf]).toArray 25 (0,0)),(b,.cells (V.top ts.length).toArray 80 (0,0)),(V.sb,.cells V.l.toArray 77 (0,0))] w:=hH
    refine Sq.nil (blk_n (then_n (reg_plain w0 (Nobody) ?_)))
    refine r_move hS hH.kp0 rfl rfl (x_add hH.kp0 rfl rfl rfl (by omega) (x_assign hH.kp0 rfl rfl ?_)); clear hS; intro a hS
    refine Sq.nil (then_n ?_)
    refine rnd ?_
    refine c_seq (c_seq (reg_plain w0 (Nobody) ?_))
    refine r_move hS hH.kp0 rfl rfl (x_lss hH.kp0 rfl rfl rfl ?_); clear hS; intro a hS
    refine Sq.nil (then_n (c_condT hS rfl rfl (wp_skip (then_n (c_seq (wp_block (reg_plain w0 (Nobody) ?_)))))))
    refine r_move hS hH.kp0 rfl rfl (x_move hH.kp0 rfl rfl (x_move hH.kp0 rfl rfl (x_move hH.kp0 rfl rfl (x_add hH.kp0 rfl rfl rfl (by omega) (x_indexAddrS (j:=n + 13) hH.kp0 rfl rfl Fc.slb22 (by omega) (by omega) rfl ?_))))); clear hS; intro a hS
    refine r_load_cell (v:=byteV gd) hS hH.kp0 rfl (by rw [Nat.mul_one]; exact hbb.byte hH.mod (show lb[n + 13]? = some gd from by rw [←List.getElem?_drop,hge]; rfl)) Fc.sc5 rfl ?_; clear hS; intro a hS
    refine r_indexAddrA (j:=13) hS hH.kp0 rfl rfl Fc.ar25 (by omega) (by decide) rfl ?_; clear hS; intro a hS
    refine r_store1 hS hH rfl rfl rfl (by repeat' constructor) (by repeat' constructor) Fc.sz5 (of_decide_eq_true rfl) (.inr hb14) ?_
    clear hH; intro w hH
    replace hH : Hp w0 Nobody [(b14,.cells ([byteV g0,byteV g1,byteV g2,byteV g3,byteV g4,byteV g5,byteV g6,byteV g7,byteV g8,byteV g9,byteV ga,byteV gb,byteV gc,byteV gd,.int .u8 0,.int .u8 0] : List Value).toArray 25 (0,0)),(b6,.cells (hcells [x0,x1,x2,x3,x4,x5,x6,x7,x8,x9,xa,xb,xc,xd,xe,xf]).toArray 25 (0,0)),(b,.cells (V.top ts.length).toArray 80 (0,0)),(V.sb,.cells V.l.toArray 77 (0,0))] w:=hH
    refine Sq.nil (blk_n (then_n (reg_plain w0 (Nobody) ?_)))
    refine r_move hS hH.kp0 rfl rfl (x_add hH.kp0 rfl rfl rfl (by omega) (x_assign hH.kp0 rfl rfl ?_)); clear hS; intro a hS
    refine Sq.nil (then_n ?_)
    refine rnd ?_
    refine c_seq (c_seq (reg_plain w0 (Nobody) ?_))
    refine r_move hS hH.kp0 rfl rfl (x_lss hH.kp0 rfl rfl rfl ?_); clear hS; intro a hS
    refine Sq.nil (then_n (c_condT hS rfl rfl (wp_skip (then_n (c_seq (wp_block (reg_plain w0 (Nobody) ?_)))))))
    refine r_move hS hH.kp0 rfl rfl (x_move hH.kp0 rfl rfl (x_move hH.kp0 rfl rfl (x_move hH.kp0 rfl rfl (x_add hH.kp0 rfl rfl rfl (by omega) (x_indexAddrS (j:=n + 14) hH.kp0 rfl rfl Fc.slb22 (by omega) (by omega) rfl ?_))))); clear hS; intro a hS
    refine r_load_cell (v:=byteV ge) hS hH.kp0 rfl (by rw [Nat.mul_one]; exact hbb.byte hH.mod (show lb[n + 14]? = some ge from by rw [←List.getElem?_drop,hge]; rfl)) Fc.sc5 rfl ?_; clear hS; intro a hS
    refine r_indexAddrA (j:=14) hS hH.kp0 rfl rfl Fc.ar25 (by omega) (by decide) rfl ?_; clear hS; intro a hS
    refine r_store1 hS hH rfl rfl rfl (by repeat' constructor) (by repeat' constructor) Fc.sz5 (of_decide_eq_true rfl) (.inr hb14) ?_
    clear hH; intro w hH
    replace hH : Hp w0 Nobody [(b14,.cells ([byteV g0,byteV g1,byteV g2,byteV g3,byteV g4,byteV g5,byteV g6,byteV g7,byteV g8,byteV g9,byteV ga,byteV gb,byteV gc,byteV gd,byteV ge,.int .u8 0] : List Value).toArray 25 (0,0)),(b6,.cells (hcells [x0,x1,x2,x3,x4,x5,x6,x7,x8,x9,xa,xb,xc,xd,xe,xf]).toArray 25 (0,0)),(b,.cells (V.top ts.length).toArray 80 (0,0)),(V.sb,.cells V.l.toArray 77 (0,0))] w:=hH
    refine Sq.nil (blk_n (then_n (reg_plain w0 (Nobody) ?_)))
    refine r_move hS hH.kp0 rfl rfl (x_add hH.kp0 rfl rfl rfl (by omega) (x_assign hH.kp0 rfl rfl ?_)); clear hS; intro a hS
    refine Sq.nil (then_n ?_)
    refine rnd ?_
    refine c_seq (c_seq (reg_plain w0 (Nobody) ?_))
    refine r_move hS hH.kp0 rfl rfl (x_lss hH.kp0 rfl rfl rfl ?_); clear hS; intro a hS
    refine Sq.nil (then_n (c_condT hS rfl rfl (wp_skip (then_n (c_seq (wp_block (reg_plain w0 (Nobody) ?_)))))))
    refine r_move hS hH.kp0 rfl rfl (x_move hH.kp0 rfl rfl (x_move hH.kp0 rfl rfl (x_move hH.kp0 rfl rfl (x_add hH.kp0 rfl rfl rfl (by omega) (x_indexAddrS (j:=n + 15) hH.kp0 rfl rfl Fc.slb22 (by omega) (by omega) rfl ?_))))); clear hS; intro a hS
    refine r_load_cell (v:=byteV gf) hS hH.kp0 rfl (by rw [Nat.mul_one]; exact hbb.byte hH.mod (show lb[n + 15]? = some gf from by rw [←List.getElem?_drop,hge]; rfl)) Fc.sc5 rfl ?_; clear hS; intro a hS
    refine r_indexAddrA (j:=15) hS hH.kp0 rfl rfl Fc.ar25 (by omega) (by decide) rfl ?_; clear hS; intro a hS
    refine r_store1 hS hH rfl rfl rfl (by repeat' constructor) (by repeat' constructor) Fc.sz5 (of_decide_eq_true rfl) (.inr hb14) ?_
    clear hH; intro w hH
    replace hH : Hp w0 Nobody [(b14,.cells ([byteV g0,byteV g1,byteV g2,byteV g3,byteV g4,byteV g5,byteV g6,byteV g7,byteV g8,byteV g9,byteV ga,byteV gb,byteV gc,byteV gd,byteV ge,byteV gf] : List Value).toArray 25 (0,0)),(b6,.cells (hcells [x0,x1,x2,x3,x4,x5,x6,x7,x8,x9,xa,xb,xc,xd,xe,xf]).toArray 25 (0,0)),(b,.cells (V.top ts.length).toArray 80 (0,0)),(V.sb,.cells V.l.toArray 77 (0,0))] w:=hH
    refine Sq.nil (blk_n (then_n (reg_plain w0 (Nobody) ?_)))
    refine r_move hS hH.kp0 rfl rfl (x_add hH.kp0 rfl rfl rfl (by omega) (x_assign hH.kp0 rfl rfl ?_)); clear hS; intro a hS
    refine Sq.nil (then_n ?_)
    refine rnd ?_
    refine c_seq (c_seq (reg_plain w0 (Nobody) ?_))
    refine r_move hS hH.kp0 rfl rfl (x_lss hH.kp0 rfl rfl rfl ?_); clear hS; intro a hS
    refine Sq.nil (then_n (c_condF hS rfl rfl (wp_exit (then_e (then_e (blk_hit (then_n (c_seq (reg_plain w0 (Nobody) ?_)))))))))
    refine r_move hS hH.kp0 rfl rfl (x_load_row hH (by repeat' constructor) rfl (by repeat' constructor) Fc.ag25 (by rfl) rfl ?_); clear hS; intro a hS
    refine r_call (l:=[.tmp 42,.tmp 43]) hS rfl rfl Fc.fn46 rfl ?_
    refine Calls.mono (rOf_c b V ts [g0,g1,g2,g3,g4,g5,g6,g7,g8,g9,ga,gb,gc,gd,ge,gf] rfl hm _ (hH.rin (TV:=80) (TT:=77) hri.ok rfl hri.n01 (by repeat' constructor) (by repeat' constructor))) ?_
    rintro e w1 ⟨k2,rfl,hcase2,hE⟩
    replace hH:=hH.ext hE
    refine ⟨_,rfl,hH.kp0,?_⟩
    clear hS; intro a hS
    refine r_assign hS hH.kp0 rfl rfl ?_; clear hS; intro a hS
    refine Sq.nil (then_n (c_seq (c_seq (reg_plain w0 (Nobody) ?_))))
    refine r_move hS hH.kp0 rfl rfl (x_lss hH.kp0 rfl rfl rfl ?_); clear hS; intro a hS
    refine Sq.nil (then_n ?_)
    refine c_cond hS rfl (fun hc4 => ?_) (fun hc4 => ?_)
    ·have hlt4:=of_decide_eq_true hc4
     rcases hcase2 with ⟨j,hj,hn2,hk2⟩ | ⟨hno2,hk2⟩
     ·omega
     refine c_seq (reg_plain w0 (Nobody) ?_)
     refine r_assign hS hH.kp0 rfl rfl (x_assign hH.kp0 rfl rfl ?_); clear hS; intro a hS
     refine Sq.nil (then_n (wp_ret (then_r ?_)))
     refine leave (.inl rfl) hS rfl (Res.tmp rfl (Res.tmp rfl Res.nil)) ⟨_,[],20,rfl,BsF.nil _ _,.inr ⟨i,hi,hn,.inr (.inr ⟨n,by omega,hln,.inr ⟨rfl,rfl,?_⟩⟩)⟩,hH.mod⟩
     rintro ⟨s2,t2,hR⟩
     have hs2:=at_lt hR.at_
     exact hno2 s2 hs2 (hge.symm.trans hR.name)
    ·have hge4:=of_decide_eq_false hc4
     rcases hcase2.symm with ⟨hno2,hk2⟩ | ⟨j,hj,hn2,hk2⟩
     ·omega
     subst hk2
     obtain ⟨t,ht⟩ : ∃ t,ts[j]? = some t:=⟨_,List.getElem?_eq_getElem hj⟩
     have hrow:=hri.ok.row ht
     have hsz:=hwf.sz j t ht
     refine wp_skip (then_n (c_seq (reg_plain w0 (Nobody) ?_)))
     refine r_move hS hH.kp0 rfl rfl (x_nilCheck hH.kp0 rfl rfl (x_fieldAddr hH.kp0 rfl Fc.fo80_0 rfl (x_load_sc hH (by repeat' constructor) rfl (by repeat' constructor) Fc.sc78 (by rfl) rfl (x_move hH.kp0 rfl rfl (x_indexAddrS (j:=j) hH.kp0 rfl rfl Fc.slb78 rfl (by omega) rfl ?_))))); clear hS; intro a hS
     refine r_load_at (vs:=rcells t) hS hH (by repeat' constructor) rfl (by repeat' constructor) Fc.ag77 (by rw [Nat.zero_add]; exact hrow.2) (by rw [Nat.zero_add]; exact hrow.1) rfl ?_; clear hS; intro a hS
     refine r_alloc hS hH (by repeat' constructor) Fc.zc77 rfl ?_
     clear hS hH; intro a w b17 hb17 hwb17 hS hH
     refine r_store_row (vs:=rcells t) hS hH rfl rfl (by repeat' constructor) (by repeat' constructor) Fc.sz77 (rcells_one t) (by rfl) (.inr (by assumption)) ?_; clear hH; intro w hH
     refine Sq.nil (then_n (c_seq (c_seq ?_)))
     refine reg_draw [(true,0,[]),(true,1,[]),(true,2,[]),(true,3,[]),(true,4,[]),(true,5,[]),(true,6,[]),(true,7,[]),(true,8,[]),(true,9,[]),(true,10,[]),(true,11,[]),(true,12,[]),(true,13,[]),(true,14,[]),(true,15,[]),(true,16,[]),(true,17,[]),(true,18,[]),(true,19,[]),(true,20,[]),(true,21,[]),(true,22,[]),(true,23,[]),(true,24,[]),(true,25,[]),(true,26,[]),(true,27,[]),(true,28,[]),(true,29,[]),(false,30,[]),(false,31,[]),(true,32,[]),(true,33,[])] Fc.mixed (by kernel_rfl) (by kernel_rfl) (by kernel_rfl) (by kernel_rfl) (by kernel_rfl) (by repeat (first | with_reducible exact steady_body | with_reducible apply steady_block | with_reducible apply steady_then | with_reducible apply steady_scope | exact steady_body)) hH ?_
     replace hH:=hH.drew
     refine r_fieldAddr hS trivial rfl Fc.fo77_0 rfl (x_load_scS rfl (by repeat' constructor) Fc.sc3 (by rfl) rfl (x_neq trivial rfl rfl rfl ?_)); clear hS; intro a hS
     rcases hp0 : (t.kind != 6) with _ | _
     ·refine r_move hS trivial rfl rfl (Sq.xguardYes rfl rfl hp0 (x_fieldAddr trivial rfl Fc.fo77_1 rfl (Sq.xguardYes rfl rfl hp0 (x_load_scS rfl (by repeat' constructor) Fc.sc3 (by rfl) rfl (Sq.xguardYes rfl rfl hp0 (x_move trivial rfl rfl (Sq.xguardYes rfl rfl hp0 (x_neq trivial rfl rfl rfl (x_pickF trivial rfl hp0 rfl rfl ?_))))))))); clear hS; intro a hS
      rcases hp1 : (t.a != (i : Int)) with _ | _
      ·refine r_move hS trivial rfl rfl (Sq.xguardYes rfl rfl hp1 (x_fieldAddr trivial rfl Fc.fo77_4 rfl (Sq.xguardYes rfl rfl hp1 (x_load_scS rfl (by repeat' constructor) Fc.sc3 (by rfl) rfl (Sq.xguardYes rfl rfl hp1 (x_move trivial rfl rfl (Sq.xguardYes rfl rfl hp1 (x_neq trivial rfl rfl rfl (x_pickF trivial rfl hp1 rfl rfl ?_))))))))); clear hS; intro a hS
       rcases hp2 : (t.number != nu) with _ | _
       ·refine r_move hS trivial rfl rfl (Sq.xguardYes rfl rfl hp2 (x_fieldAddr trivial rfl Fc.fo77_5 rfl (Sq.xguardYes rfl rfl hp2 (x_load_scS rfl (by repeat' constructor) Fc.sc9 (by rfl) rfl (Sq.xguardYes rfl rfl hp2 (x_move trivial rfl rfl (Sq.xguardYes rfl rfl hp2 (x_bytesStrS rfl (fun w hw => hba w hw.2) Fc.u8s22 Fc.isStr9 rfl (Sq.xguardYes rfl rfl hp2 (x_strNeq trivial rfl rfl rfl (x_pickF trivial rfl hp2 rfl rfl ?_))))))))))); clear hS; intro a hS
        rcases hp3 : (!(t.also.toList == (strOf la).toList)) with _ | _
        ·refine r_move hS trivial rfl rfl (Sq.xguardYes rfl rfl hp3 (x_move trivial rfl rfl (Sq.xguardYes rfl rfl hp3 (x_move trivial rfl rfl (Sq.xguardYes rfl rfl hp3 ?_))))); clear hS; intro a hS
         refine r_slHi (hh:=n) hS trivial rfl rfl Fc.slb22 rfl (by omega) (fun q hq => by cases hq; rfl) rfl ?_; clear hS; intro a hS
         refine Sq.guardYes hS rfl rfl hp3 ?_
         refine r_bytesStrS (l:=lb.take n) hS rfl (fun w hw => by have h9:=(hbb.pre n) w hw.2; rw [show (lb.take n).length = n from by rw [List.length_take]; omega] at h9; exact h9) Fc.u8s22 Fc.isStr9 rfl ?_; clear hS; intro a hS
         refine Sq.guardYes hS rfl rfl hp3 (r_fieldAddr hS trivial rfl Fc.fo77_6 rfl (Sq.xguardYes rfl rfl hp3 (x_load_scS rfl (by repeat' constructor) Fc.sc9 (by rfl) rfl (Sq.xguardYes rfl rfl hp3 (x_lenStr trivial rfl Fc.isStr9 rfl (Sq.xguardYes rfl rfl hp3 ?_)))))); clear hS; intro a hS
         refine r_makeSl (m:=t.bytes.size) (v0:=.int .u8 0) hS hH (by repeat' constructor) rfl rfl rfl rfl Fc.el22 Fc.zc5 (by omega) (by omega) rfl ?_
         clear hS hH; intro a w b84 hb84 hwb84 hS hH
         have hz84 : Bs w (.slice (some ⟨b84,0,none⟩) t.bytes.size t.bytes.size) (List.replicate t.bytes.size 0):=by have h9:=(BB.lit (List.replicate t.bytes.size 0) (rep_byte _) List.length_replicate).bs (hH.get (b:=b84) .here); rw [List.length_replicate] at h9; exact h9
         refine Sq.guardYes hS rfl rfl hp3 (r_bytesStr (l:=List.replicate t.bytes.size 0) hS (hH.kp (by repeat' constructor)) rfl hz84 Fc.u8s22 Fc.isStr9 rfl (Sq.xguardYes rfl rfl hp3 (x_strNeq trivial rfl rfl rfl (x_pickF trivial rfl hp3 rfl rfl ?_)))); clear hS; intro a hS
         refine Sq.nil (then_n ?_)
         refine c_cond hS rfl (fun hc5 => ?_) (fun hc5 => ?_)
         ·refine c_seq (reg_plain w0 (Nobody) ?_)
          refine r_assign hS hH.kp0 rfl rfl (x_assign hH.kp0 rfl rfl ?_); clear hS; intro a hS
          refine Sq.nil (then_n (wp_ret (then_r ?_)))
          refine leave (.inl rfl) hS rfl (Res.tmp rfl (Res.tmp rfl Res.nil)) ⟨_,[],20,rfl,BsF.nil _ _,.inr ⟨i,hi,hn,.inr (.inr ⟨n,by omega,hln,.inr ⟨rfl,rfl,?_⟩⟩)⟩,hH.mod⟩
          rintro ⟨s2,t2,hR⟩
          have hs2:=at_lt hR.at_
          have hjj : j = s2:=nm_inj (by omega) (by omega) (hn2.symm.trans (hge.symm.trans hR.name))
          have htt : t2 = t:=Option.some.inj (hR.at_.symm.trans ((congrArg (ts[·]?) (by assumption : j = s2)).symm.trans ht))
          rw [htt] at hR
          first
           | (rw [show t.kind = 6 from congrArg Tm.kind hR.term] at hp0; exact absurd hp0 (by decide))
           | (rw [show t.a = (i : Int) from congrArg Tm.a hR.term,bne_self_eq_false] at hp1; exact absurd hp1 (by decide))
           | (rw [show t.number = nu from congrArg Tm.number hR.term,bne_self_eq_false] at hp2; exact absurd hp2 (by decide))
           | (rw [show t.also = strOf la from congrArg Tm.also hR.term,beq_self_eq_true] at hp3; exact absurd hp3 (by decide))
           | (rw [hR.size,rep_of (by omega) hR.zero,beq_self_eq_true] at hc5; exact absurd hc5 (by decide))
         ·refine wp_skip (then_n (c_seq (reg_plain w0 (Nobody) ?_)))
          refine r_fieldAddr hS hH.kp0 rfl Fc.fo77_6 rfl (x_load_sc hH (by repeat' constructor) rfl (by repeat' constructor) Fc.sc9 (by rfl) rfl ?_); clear hS; intro a hS
          refine r_strBytesK hS hH (by repeat' constructor) rfl Fc.und9 Fc.und22 Fc.ui5 rfl ?_
          clear hS hH; intro a w b90 c90 l90 f90 hb90 hbw90 hl90 hc90 hS hH
          refine r_assign hS hH.kp0 rfl rfl (x_assign hH.kp0 rfl rfl ?_); clear hS; intro a hS
          refine Sq.nil (then_n (wp_ret ?_))
          have h9 : (strOf (lb.take n)).toList = (strOf (List.replicate t.bytes.size 0)).toList:=by simpa using hc5
          rw [strOf_toList,strOf_toList] at h9
          obtain ⟨h10,h11⟩:=rep_eq h9 (by omega)
          have hal : t.also = strOf la:=str_eq (by simpa using hp3)
          have hB:=BsF.of_blk (u:=byt t) (F:=fun z => z < w0.heap.size) (hH.get (b:=b90) (by repeat' constructor)) (by show ¬ b90 < _; omega) hl90 hc90
          exact leave (.inl rfl) hS rfl (Res.tmp rfl (Res.tmp rfl Res.nil)) ⟨_,byt t,0,rfl,hB,.inr ⟨i,hi,hn,.inr (.inr ⟨n,by omega,hln,.inl ⟨rfl,j,t,⟨ht,hge.trans hn2,hsl.eq ht (by simpa using hp0) (by simpa using hp1) (by simpa using hp2) hal,h10,h11⟩,rfl⟩⟩)⟩,hH.mod⟩
        ·refine r_move hS trivial rfl rfl (Sq.xguardNo rfl rfl hp3 trivial rfl (Sq.xguardNo rfl rfl hp3 trivial rfl (Sq.xguardNo rfl rfl hp3 trivial rfl (Sq.xguardNo rfl rfl hp3 trivial rfl (Sq.xguardNo rfl rfl hp3 trivial rfl (Sq.xguardNo rfl rfl hp3 trivial rfl (Sq.xguardNo rfl rfl hp3 trivial rfl (Sq.xguardNo rfl rfl hp3 (hH.kp (by repeat' constructor)) rfl (Sq.xguardNo rfl rfl hp3 (hH.kp (by repeat' constructor)) rfl (Sq.xguardNo rfl rfl hp3 trivial rfl (x_pickT trivial rfl hp3 rfl rfl ?_))))))))))); clear hS; intro a hS
         refine Sq.nil (then_n (c_condT hS rfl rfl (c_seq (reg_plain w0 (Nobody) ?_))))
         refine r_assign hS hH.kp0 rfl rfl (x_assign hH.kp0 rfl rfl ?_); clear hS; intro a hS
         refine Sq.nil (then_n (wp_ret (then_r ?_)))
         refine leave (.inl rfl) hS rfl (Res.tmp rfl (Res.tmp rfl Res.nil)) ⟨_,[],20,rfl,BsF.nil _ _,.inr ⟨i,hi,hn,.inr (.inr ⟨n,by omega,hln,.inr ⟨rfl,rfl,?_⟩⟩)⟩,hH.mod⟩
         rintro ⟨s2,t2,hR⟩
         have hs2:=at_lt hR.at_
         have hjj : j = s2:=nm_inj (by omega) (by omega) (hn2.symm.trans (hge.symm.trans hR.name))
         have htt : t2 = t:=Option.some.inj (hR.at_.symm.trans ((congrArg (ts[·]?) (by assumption : j = s2)).symm.trans ht))
         rw [htt] at hR
         first
          | (rw [show t.kind = 6 from congrArg Tm.kind hR.term] at hp0; exact absurd hp0 (by decide))
          | (rw [show t.a = (i : Int) from congrArg Tm.a hR.term,bne_self_eq_false] at hp1; exact absurd hp1 (by decide))
          | (rw [show t.number = nu from congrArg Tm.number hR.term,bne_self_eq_false] at hp2; exact absurd hp2 (by decide))
          | (rw [show t.also = strOf la from congrArg Tm.also hR.term,beq_self_eq_true] at hp3; exact absurd hp3 (by decide))
          | (rw [hR.size,rep_of (by omega) hR.zero,beq_self_eq_true] at hc5; exact absurd hc5 (by decide))
       ·refine r_move hS trivial rfl rfl (Sq.xguardNo rfl rfl hp2 trivial rfl (Sq.xguardNo rfl rfl hp2 trivial rfl (Sq.xguardNo rfl rfl hp2 trivial rfl (Sq.xguardNo rfl rfl hp2 trivial rfl (Sq.xguardNo rfl rfl hp2 trivial rfl (x_pickT trivial rfl hp2 rfl rfl (x_move trivial rfl rfl (Sq.xguardNo rfl rfl rfl trivial rfl (Sq.xguardNo rfl rfl rfl trivial rfl (Sq.xguardNo rfl rfl rfl trivial rfl (Sq.xguardNo rfl rfl rfl trivial rfl (Sq.xguardNo rfl rfl rfl trivial rfl (Sq.xguardNo rfl rfl rfl trivial rfl (Sq.xguardNo rfl rfl rfl trivial rfl (Sq.xguardNo rfl rfl rfl (hH.kp (by repeat' constructor)) rfl (Sq.xguardNo rfl rfl rfl (hH.kp (by repeat' constructor)) rfl (Sq.xguardNo rfl rfl rfl trivial rfl (x_pickT trivial rfl rfl rfl rfl ?_)))))))))))))))))); clear hS; intro a hS
        refine Sq.nil (then_n (c_condT hS rfl rfl (c_seq (reg_plain w0 (Nobody) ?_))))
        refine r_assign hS hH.kp0 rfl rfl (x_assign hH.kp0 rfl rfl ?_); clear hS; intro a hS
        refine Sq.nil (then_n (wp_ret (then_r ?_)))
        refine leave (.inl rfl) hS rfl (Res.tmp rfl (Res.tmp rfl Res.nil)) ⟨_,[],20,rfl,BsF.nil _ _,.inr ⟨i,hi,hn,.inr (.inr ⟨n,by omega,hln,.inr ⟨rfl,rfl,?_⟩⟩)⟩,hH.mod⟩
        rintro ⟨s2,t2,hR⟩
        have hs2:=at_lt hR.at_
        have hjj : j = s2:=nm_inj (by omega) (by omega) (hn2.symm.trans (hge.symm.trans hR.name))
        have htt : t2 = t:=Option.some.inj (hR.at_.symm.trans ((congrArg (ts[·]?) (by assumption : j = s2)).symm.trans ht))
        rw [htt] at hR
        first
         | (rw [show t.kind = 6 from congrArg Tm.kind hR.term] at hp0; exact absurd hp0 (by decide))
         | (rw [show t.a = (i : Int) from congrArg Tm.a hR.term,bne_self_eq_false] at hp1; exact absurd hp1 (by decide))
         | (rw [show t.number = nu from congrArg Tm.number hR.term,bne_self_eq_false] at hp2; exact absurd hp2 (by decide))
         | (rw [show t.also = strOf la from congrArg Tm.also hR.term,beq_self_eq_true] at hp3; exact absurd hp3 (by decide))
         | (rw [hR.size,rep_of (by omega) hR.zero,beq_self_eq_true] at hc5; exact absurd hc5 (by decide))
      ·refine r_move hS trivial rfl rfl (Sq.xguardNo rfl rfl hp1 trivial rfl (Sq.xguardNo rfl rfl hp1 trivial rfl (Sq.xguardNo rfl rfl hp1 trivial rfl (Sq.xguardNo rfl rfl hp1 trivial rfl (x_pickT trivial rfl hp1 rfl rfl (x_move trivial rfl rfl (Sq.xguardNo rfl rfl rfl trivial rfl (Sq.xguardNo rfl rfl rfl trivial rfl (Sq.xguardNo rfl rfl rfl trivial rfl (Sq.xguardNo rfl rfl rfl trivial rfl (Sq.xguardNo rfl rfl rfl trivial rfl (x_pickT trivial rfl rfl rfl rfl (x_move trivial rfl rfl (Sq.xguardNo rfl rfl rfl trivial rfl (Sq.xguardNo rfl rfl rfl trivial rfl (Sq.xguardNo rfl rfl rfl trivial rfl (Sq.xguardNo rfl rfl rfl trivial rfl (Sq.xguardNo rfl rfl rfl trivial rfl (Sq.xguardNo rfl rfl rfl trivial rfl (Sq.xguardNo rfl rfl rfl trivial rfl (Sq.xguardNo rfl rfl rfl (hH.kp (by repeat' constructor)) rfl (Sq.xguardNo rfl rfl rfl (hH.kp (by repeat' constructor)) rfl (Sq.xguardNo rfl rfl rfl trivial rfl ?_))))))))))))))))))))))); clear hS; intro a hS
       refine r_pickT hS trivial rfl rfl rfl rfl ?_; clear hS; intro a hS
       refine Sq.nil (then_n (c_condT hS rfl rfl (c_seq (reg_plain w0 (Nobody) ?_))))
       refine r_assign hS hH.kp0 rfl rfl (x_assign hH.kp0 rfl rfl ?_); clear hS; intro a hS
       refine Sq.nil (then_n (wp_ret (then_r ?_)))
       refine leave (.inl rfl) hS rfl (Res.tmp rfl (Res.tmp rfl Res.nil)) ⟨_,[],20,rfl,BsF.nil _ _,.inr ⟨i,hi,hn,.inr (.inr ⟨n,by omega,hln,.inr ⟨rfl,rfl,?_⟩⟩)⟩,hH.mod⟩
       rintro ⟨s2,t2,hR⟩
       have hs2:=at_lt hR.at_
       have hjj : j = s2:=nm_inj (by omega) (by omega) (hn2.symm.trans (hge.symm.trans hR.name))
       have htt : t2 = t:=Option.some.inj (hR.at_.symm.trans ((congrArg (ts[·]?) (by assumption : j = s2)).symm.trans ht))
       rw [htt] at hR
       first
        | (rw [show t.kind = 6 from congrArg Tm.kind hR.term] at hp0; exact absurd hp0 (by decide))
        | (rw [show t.a = (i : Int) from congrArg Tm.a hR.term,bne_self_eq_false] at hp1; exact absurd hp1 (by decide))
        | (rw [show t.number = nu from congrArg Tm.number hR.term,bne_self_eq_false] at hp2; exact absurd hp2 (by decide))
        | (rw [show t.also = strOf la from congrArg Tm.also hR.term,beq_self_eq_true] at hp3; exact absurd hp3 (by decide))
        | (rw [hR.size,rep_of (by omega) hR.zero,beq_self_eq_true] at hc5; exact absurd hc5 (by decide))
     ·refine r_move hS trivial rfl rfl (Sq.xguardNo rfl rfl hp0 trivial rfl (Sq.xguardNo rfl rfl hp0 trivial rfl (Sq.xguardNo rfl rfl hp0 trivial rfl (Sq.xguardNo rfl rfl hp0 trivial rfl (x_pickT trivial rfl hp0 rfl rfl (x_move trivial rfl rfl (Sq.xguardNo rfl rfl rfl trivial rfl (Sq.xguardNo rfl rfl rfl trivial rfl (Sq.xguardNo rfl rfl rfl trivial rfl (Sq.xguardNo rfl rfl rfl trivial rfl (x_pickT trivial rfl rfl rfl rfl (x_move trivial rfl rfl (Sq.xguardNo rfl rfl rfl trivial rfl (Sq.xguardNo rfl rfl rfl trivial rfl (Sq.xguardNo rfl rfl rfl trivial rfl (Sq.xguardNo rfl rfl rfl trivial rfl (Sq.xguardNo rfl rfl rfl trivial rfl (x_pickT trivial rfl rfl rfl rfl (x_move trivial rfl rfl (Sq.xguardNo rfl rfl rfl trivial rfl (Sq.xguardNo rfl rfl rfl trivial rfl (Sq.xguardNo rfl rfl rfl trivial rfl (Sq.xguardNo rfl rfl rfl trivial rfl ?_))))))))))))))))))))))); clear hS; intro a hS
      refine Sq.guardNo hS rfl rfl rfl trivial rfl (Sq.xguardNo rfl rfl rfl trivial rfl (Sq.xguardNo rfl rfl rfl trivial rfl (Sq.xguardNo rfl rfl rfl (hH.kp (by repeat' constructor)) rfl (Sq.xguardNo rfl rfl rfl (hH.kp (by repeat' constructor)) rfl (Sq.xguardNo rfl rfl rfl trivial rfl (x_pickT trivial rfl rfl rfl rfl ?_)))))); clear hS; intro a hS
      refine Sq.nil (then_n (c_condT hS rfl rfl (c_seq (reg_plain w0 (Nobody) ?_))))
      refine r_assign hS hH.kp0 rfl rfl (x_assign hH.kp0 rfl rfl ?_); clear hS; intro a hS
      refine Sq.nil (then_n (wp_ret (then_r ?_)))
      refine leave (.inl rfl) hS rfl (Res.tmp rfl (Res.tmp rfl Res.nil)) ⟨_,[],20,rfl,BsF.nil _ _,.inr ⟨i,hi,hn,.inr (.inr ⟨n,by omega,hln,.inr ⟨rfl,rfl,?_⟩⟩)⟩,hH.mod⟩
      rintro ⟨s2,t2,hR⟩
      have hs2:=at_lt hR.at_
      have hjj : j = s2:=nm_inj (by omega) (by omega) (hn2.symm.trans (hge.symm.trans hR.name))
      have htt : t2 = t:=Option.some.inj (hR.at_.symm.trans ((congrArg (ts[·]?) (by assumption : j = s2)).symm.trans ht))
      rw [htt] at hR
      first
       | (rw [show t.kind = 6 from congrArg Tm.kind hR.term] at hp0; exact absurd hp0 (by decide))
       | (rw [show t.a = (i : Int) from congrArg Tm.a hR.term,bne_self_eq_false] at hp1; exact absurd hp1 (by decide))
       | (rw [show t.number = nu from congrArg Tm.number hR.term,bne_self_eq_false] at hp2; exact absurd hp2 (by decide))
       | (rw [show t.also = strOf la from congrArg Tm.also hR.term,beq_self_eq_true] at hp3; exact absurd hp3 (by decide))
       | (rw [hR.size,rep_of (by omega) hR.zero,beq_self_eq_true] at hc5; exact absurd hc5 (by decide))

end Go.Proofs.YtcjmehononbadaaDoor
namespace Go.Proofs.YtcjmehononbadaaDoor
open Go.Sym

theorem Fc.fn68 : isFn Tryd.prog 68 = true:=by kernel_rfl
set_option maxRecDepth 100000 in
set_option maxHeartbeats 1000000 in
theorem rin_c (h : List UInt8) (hh : h.length = 16) (l : List UInt8) (hl : l.length≤1099511627776) (w0 : World) : Calls Tryd.prog 62 #[hnd h,.string (strOf l)] w0 fun e w' => ∃ rr : Bool,e = .returned (.bool rr)∧(rr = true↔∃ i,i + 16≤l.length∧(l.drop i).take 16 = h)∧Ext w0 w':=by
 refine enter Tryd.func62 rfl rfl rfl ?_
 intro a hS
 have hH:=Hp.start w0 (Nobody)
 obtain ⟨x0,x1,x2,x3,x4,x5,x6,x7,x8,x9,xa,xb,xc,xd,xe,xf,rfl⟩:=len16 hh
 refine c_seq (reg_plain w0 (Nobody) ?_)
 refine r_box hS hH (by repeat' constructor) rfl rfl rfl ?_
 clear hS hH; intro a w b2 hb2 hwb2 hS hH
 refine r_assign hS hH.kp0 rfl rfl ?_; clear hS; intro a hS
 refine Sq.nil (then_n (c_seq (c_seq (reg_plain w0 (Nobody) ?_))))
 refine r_assign hS hH.kp0 rfl rfl ?_; clear hS; intro a hS
 refine Sq.nil (then_n (wp_block ?_))
 refine c_loop (fun m a w => ∃ i : Nat,m + i = l.length + 1∧(∀ z,z < i→z + 16≤l.length→(l.drop z).take 16≠[x0,x1,x2,x3,x4,x5,x6,x7,x8,x9,xa,xb,xc,xd,xe,xf])∧St 21 (lv [(1,.string (strOf l)),(2,.pointer (some ⟨b2,0,none⟩)),(4,.bool false),(5,.int .i64 (i : Int))]) a∧Hp w0 Nobody [(b2,.cells (hcells [x0,x1,x2,x3,x4,x5,x6,x7,x8,x9,xa,xb,xc,xd,xe,xf]).toArray 25 (0,0))] w) (l.length + 1) ?_ ?_
 ·exact ⟨0,rfl,fun z hz => absurd hz (Nat.not_lt_zero z),hS.live ⟨rfl,rfl,rfl,rfl,trivial⟩,hH⟩
 clear hS hH; intro m a w hI; obtain ⟨i,hmi,hno,hS,hH⟩:=hI
 refine c_seq (c_seq (reg_plain w0 (Nobody) ?_))
 refine r_move hS hH.kp0 rfl rfl (x_add hH.kp0 rfl rfl rfl (by omega) (x_move hH.kp0 rfl rfl (x_lenStr hH.kp0 rfl Fc.isStr9 rfl ?_))); clear hS; intro a hS
 rw [show ((strOf l).size : Int) = (l.length : Int) from congrArg Nat.cast (show (strOf l).size = l.length by simp [strOf,ByteArray.size])] at hS
 refine r_leq hS hH.kp0 rfl rfl rfl ?_; clear hS; intro a hS
 refine Sq.nil (then_n ?_)
 refine c_cond hS rfl (fun hc0 => ?_) (fun hc0 => ?_)
 ·have hle : i + 16≤l.length:=by have:=of_decide_eq_true hc0; omega
  refine wp_skip (then_n (c_seq (wp_block (c_seq ?_))))
  refine reg_draw [(true,0,[]),(true,1,[]),(true,2,[]),(true,3,[]),(true,4,[]),(true,5,[]),(false,6,[]),(true,7,[])] Fc.mixed (by kernel_rfl) (by kernel_rfl) (by kernel_rfl) (by kernel_rfl) (by kernel_rfl) (by repeat (first | with_reducible exact steady_body | with_reducible apply steady_block | with_reducible apply steady_then | with_reducible apply steady_scope | exact steady_body)) hH ?_
  replace hH:=hH.drew
  refine r_move hS trivial rfl rfl (x_move trivial rfl rfl (x_move trivial rfl rfl (x_add trivial rfl rfl rfl (by omega) (x_slStr (ll:=i) (hh:=i + 16) trivial rfl rfl rfl Fc.und9 rfl rfl (by omega) (by omega) rfl ?_)))); clear hS; intro a hS
  rw [show i + 16 - i = 16 from by omega] at hS
  refine r_slArr hS trivial rfl Fc.ar25 rfl (x_bytesStr (l:=[x0,x1,x2,x3,x4,x5,x6,x7,x8,x9,xa,xb,xc,xd,xe,xf]) (hH.kp (by repeat' constructor)) rfl (Bs.handle (hH.get (b:=b2) (by repeat' constructor)) rfl) Fc.u8s22 Fc.isStr9 rfl (x_strEql trivial rfl rfl rfl ?_)); clear hS; intro a hS
  refine Sq.nil (then_n ?_)
  refine c_cond hS rfl (fun hc1 => ?_) (fun hc1 => ?_)
  ·have heq : (l.drop i).take 16 = [x0,x1,x2,x3,x4,x5,x6,x7,x8,x9,xa,xb,xc,xd,xe,xf]:=by have h9:=eq_of_beq hc1; rw [strOf_toList,strOf_toList] at h9; exact h9
   refine c_seq (reg_plain w0 (Nobody) ?_)
   refine r_assign hS hH.kp0 rfl rfl ?_; clear hS; intro a hS
   refine Sq.nil (then_n (wp_ret (blk_r (then_r (then_r (blk_r (then_r ?_)))))))
   exact leave (.inl rfl) hS rfl (Res.tmp rfl Res.nil) ⟨true,rfl,⟨fun _ => ⟨i,hle,heq⟩,fun _ => rfl⟩,hH.mod⟩
  ·have hne : (l.drop i).take 16≠[x0,x1,x2,x3,x4,x5,x6,x7,x8,x9,xa,xb,xc,xd,xe,xf]:=fun h => by rw [h,beq_self_eq_true] at hc1; cases hc1
   refine wp_skip (blk_n (then_n (reg_plain w0 (Nobody) ?_)))
   refine r_move hS hH.kp0 rfl rfl (x_add hH.kp0 rfl rfl rfl (by omega) (x_assign hH.kp0 rfl rfl ?_)); clear hS; intro a hS
   refine Sq.nil (then_n ?_)
   refine ⟨m - 1,by omega,i + 1,by omega,fun z hz hz2 => ?_,hS.live ⟨rfl,rfl,rfl,rfl,trivial⟩,hH⟩
   by_cases hzi : z = i
   ·subst hzi; exact hne
   ·exact hno z (by omega) hz2
 ·have hgt : ¬ i + 16≤l.length:=by have:=of_decide_eq_false hc0; omega
  refine wp_exit (then_e (then_e (blk_hit (then_n (c_seq (reg_plain w0 (Nobody) ?_))))))
  refine r_assign hS hH.kp0 rfl rfl ?_; clear hS; intro a hS
  refine Sq.nil (then_n (wp_ret ?_))
  exact leave (.inl rfl) hS rfl (Res.tmp rfl Res.nil) ⟨false,rfl,⟨fun h => (by cases h),fun ⟨z,h1,h2⟩ => absurd h2 (hno z (by omega) h1)⟩,hH.mod⟩

set_option maxRecDepth 100000 in
set_option maxHeartbeats 400000 in
theorem runmix_c (x : Nat) (hx : x < 18446744073709551616) (w0 : World) : Calls Tryd.prog 68 #[.int .u64 (x : Int)] w0 fun e w' => e = .returned (.int .u64 (unmixN x : Int))∧Ext w0 w':=by
  refine enter Tryd.func68 rfl rfl rfl ?_
  intro a hS
  have hH:=Hp.start w0 (Nobody)
  refine c_seq (reg_plain w0 (Nobody) ?_)
  refine r_assign hS hH.kp0 rfl rfl ?_; clear hS; intro a hS
  refine Sq.nil (then_n (c_seq (reg_plain w0 (Nobody) ?_)))
  refine r_move hS hH.kp0 rfl rfl (x_move hH.kp0 rfl rfl (x_shrN (m:=x) 31 (x >>> 31) hH.kp0 rfl rfl rfl rfl (by decide) rfl (x_xorN (m:=x) (m':=x >>> 31) (x ^^^ x >>> 31) hH.kp0 rfl rfl rfl hx (shr_lt hx) rfl (x_move hH.kp0 rfl rfl (x_shrN (m:=x) 62 (x >>> 62) hH.kp0 rfl rfl rfl rfl (by decide) rfl (x_xorN (m:=x ^^^ x >>> 31) (m':=x >>> 62) ((x ^^^ x >>> 31) ^^^ x >>> 62) hH.kp0 rfl rfl rfl (xs_lt hx) (shr_lt hx) rfl ?_)))))); clear hS; intro a hS
  obtain ⟨z1,hz1⟩ : ∃ z,((x ^^^ x >>> 31) ^^^ x >>> 62) * 3573116690164977347 % 18446744073709551616 = z:=⟨_,rfl⟩
  refine r_mulN (m:=(x ^^^ x >>> 31) ^^^ x >>> 62) (m':=3573116690164977347) z1 hS hH.kp0 rfl rfl rfl hz1 (x_assign hH.kp0 rfl rfl ?_); clear hS; intro a hS
  refine Sq.nil (then_n (c_seq (reg_plain w0 (Nobody) ?_)))
  refine r_move hS hH.kp0 rfl rfl (x_move hH.kp0 rfl rfl (x_shrN (m:=z1) 27 (z1 >>> 27) hH.kp0 rfl rfl rfl rfl (by decide) rfl ?_)); clear hS; intro a hS
  refine r_xorN (m:=z1) (m':=z1 >>> 27) (z1 ^^^ z1 >>> 27) hS hH.kp0 rfl rfl rfl (by rw [←hz1]; exact Nat.mod_lt _ (by decide)) (shr_lt (by rw [←hz1]; exact Nat.mod_lt _ (by decide))) rfl ?_; clear hS; intro a hS
  refine r_move hS hH.kp0 rfl rfl (x_shrN (m:=z1) 54 (z1 >>> 54) hH.kp0 rfl rfl rfl rfl (by decide) rfl ?_); clear hS; intro a hS
  refine r_xorN (m:=z1 ^^^ z1 >>> 27) (m':=z1 >>> 54) ((z1 ^^^ z1 >>> 27) ^^^ z1 >>> 54) hS hH.kp0 rfl rfl rfl (xs_lt (by rw [←hz1]; exact Nat.mod_lt _ (by decide))) (shr_lt (by rw [←hz1]; exact Nat.mod_lt _ (by decide))) rfl ?_; clear hS; intro a hS
  obtain ⟨z2,hz2⟩ : ∃ z,((z1 ^^^ z1 >>> 27) ^^^ z1 >>> 54) * 10871156337175269513 % 18446744073709551616 = z:=⟨_,rfl⟩
  refine r_mulN (m:=(z1 ^^^ z1 >>> 27) ^^^ z1 >>> 54) (m':=10871156337175269513) z2 hS hH.kp0 rfl rfl rfl hz2 (x_assign hH.kp0 rfl rfl ?_); clear hS; intro a hS
  refine Sq.nil (then_n (c_seq (reg_plain w0 (Nobody) ?_)))
  refine r_move hS hH.kp0 rfl rfl (x_move hH.kp0 rfl rfl (x_shrN (m:=z2) 30 (z2 >>> 30) hH.kp0 rfl rfl rfl rfl (by decide) rfl ?_)); clear hS; intro a hS
  refine r_xorN (m:=z2) (m':=z2 >>> 30) (z2 ^^^ z2 >>> 30) hS hH.kp0 rfl rfl rfl (by rw [←hz2]; exact Nat.mod_lt _ (by decide)) (shr_lt (by rw [←hz2]; exact Nat.mod_lt _ (by decide))) rfl ?_; clear hS; intro a hS
  refine r_move hS hH.kp0 rfl rfl (x_shrN (m:=z2) 60 (z2 >>> 60) hH.kp0 rfl rfl rfl rfl (by decide) rfl ?_); clear hS; intro a hS
  refine r_xorN (m:=z2 ^^^ z2 >>> 30) (m':=z2 >>> 60) ((z2 ^^^ z2 >>> 30) ^^^ z2 >>> 60) hS hH.kp0 rfl rfl rfl (xs_lt (by rw [←hz2]; exact Nat.mod_lt _ (by decide))) (shr_lt (by rw [←hz2]; exact Nat.mod_lt _ (by decide))) rfl ?_; clear hS; intro a hS
  refine r_assign hS hH.kp0 rfl rfl ?_; clear hS; intro a hS
  refine Sq.nil (then_n (c_seq (reg_plain w0 (Nobody) ?_)))
  refine r_move hS hH.kp0 rfl rfl ?_; clear hS; intro a hS
  obtain ⟨z3,hz3⟩ : ∃ z,((z2 ^^^ z2 >>> 30) ^^^ z2 >>> 60) * 17428512612931826493 % 18446744073709551616 = z:=⟨_,rfl⟩
  refine r_mulN (m:=(z2 ^^^ z2 >>> 30) ^^^ z2 >>> 60) (m':=17428512612931826493) z3 hS hH.kp0 rfl rfl rfl hz3 (x_subN (m:=z3) (m':=1) ((z3 + (18446744073709551616 - 1)) % 18446744073709551616) hH.kp0 rfl rfl rfl (by decide) rfl (x_assign hH.kp0 rfl rfl ?_)); clear hS; intro a hS
  refine Sq.nil (then_n (wp_ret ?_))
  subst hz3 hz2 hz1
  exact leave (.inl rfl) hS rfl (Res.tmp rfl Res.nil) ⟨rfl,hH.mod⟩

set_option maxRecDepth 100000 in
set_option maxHeartbeats 4000000 in
theorem rlater_c (h : List UInt8) (hh : h.length = 16) (n : Nat) (hn : n≤1000000000) (qb qo qc : Nat) (w0 : World) (hb : BsF Nobody w0 (.slice (some ⟨qb,qo,none⟩) 16 qc) h) : Calls Tryd.prog 63 #[.slice (some ⟨qb,qo,none⟩) 16 qc,.int .i64 (n : Int)] w0 fun e w' => e = .returned (.bool (laterF n h))∧Ext w0 w':=by
 refine enter Tryd.func63 rfl rfl rfl ?_
 intro a hS
 have hH:=Hp.start w0 (Nobody)
 have hqc:=hb.len.2
 refine c_seq (reg_plain w0 (Nobody) ?_)
 refine r_assign hS hH.kp0 rfl rfl ?_; clear hS; intro a hS
 refine Sq.nil (then_n (c_seq (reg_plain w0 (Nobody) ?_)))
 refine r_assign hS hH.kp0 rfl rfl ?_; clear hS; intro a hS
 refine Sq.nil (then_n (c_seq (reg_plain w0 (Nobody) ?_)))
 refine r_assign hS hH.kp0 rfl rfl ?_; clear hS; intro a hS
 refine Sq.nil (then_n (c_seq (c_seq (reg_plain w0 (Nobody) ?_))))
 refine r_assign hS hH.kp0 rfl rfl ?_; clear hS; intro a hS
 refine Sq.nil (then_n (wp_block ?_))
 refine c_loop (fun m a w => ∃ i : Nat,m + i = 8∧St 48 (lv [(0,.slice (some ⟨qb,qo,none⟩) 16 qc),(1,.int .i64 (n : Int)),(4,.bool false),(5,.int .u64 ((hv (h.take i) : Nat) : Int)),(6,.int .u64 ((hv ((h.drop 8).take i) : Nat) : Int)),(7,.int .i64 (i : Int))]) a∧Hp w0 Nobody [] w) (8) ?_ ?_
 ·exact ⟨0,rfl,hS.live ⟨rfl,rfl,rfl,rfl,rfl,rfl,trivial⟩,hH⟩
 clear hS hH; intro m a w hI; obtain ⟨i,hmi,hS,hH⟩:=hI
 refine c_seq (c_seq (reg_plain w0 (Nobody) ?_))
 refine r_move hS hH.kp0 rfl rfl (x_lss hH.kp0 rfl rfl rfl ?_); clear hS; intro a hS
 refine Sq.nil (then_n ?_)
 refine c_cond hS rfl (fun hc0 => ?_) (fun hc0 => ?_)
 ·have hlt : i < 8:=by have:=of_decide_eq_true hc0; omega
  obtain ⟨y,hy⟩ : ∃ y,h[i]? = some y:=⟨_,List.getElem?_eq_getElem (by omega)⟩
  obtain ⟨z,hz⟩ : ∃ z,(h.drop 8)[i]? = some z:=⟨_,List.getElem?_eq_getElem (by rw [List.length_drop]; omega)⟩
  refine wp_skip (then_n (c_seq (wp_block (c_seq (reg_plain w0 (Nobody) ?_)))))
  refine r_move hS hH.kp0 rfl rfl (x_mulN (m:=hv (h.take i)) (m':=256) (hv (h.take i) * 256 % 18446744073709551616) hH.kp0 rfl rfl rfl rfl (x_move hH.kp0 rfl rfl (x_move hH.kp0 rfl rfl (x_indexAddrS (j:=i) hH.kp0 rfl rfl Fc.slb22 (by omega) (by omega) rfl ?_)))); clear hS; intro a hS
  refine r_load_cell (v:=byteV y) hS hH.kp0 rfl (by rw [Nat.mul_one]; exact hb.byte hH.mod hy) Fc.sc5 rfl ?_; clear hS; intro a hS
  refine r_toU64 y.toNat hS hH.kp0 rfl Fc.ui81 Fc.us5 rfl rfl (by have:=y.toNat_lt; omega) ?_; clear hS; intro a hS
  refine r_addN (m:=hv (h.take i) * 256 % 18446744073709551616) (m':=y.toNat) ((hv (h.take i) * 256 % 18446744073709551616 + y.toNat) % 18446744073709551616) hS hH.kp0 rfl rfl rfl rfl (x_assign hH.kp0 rfl rfl ?_); clear hS; intro a hS
  refine Sq.nil (then_n (reg_plain w0 (Nobody) ?_))
  refine r_move hS hH.kp0 rfl rfl (x_mulN (m:=hv ((h.drop 8).take i)) (m':=256) (hv ((h.drop 8).take i) * 256 % 18446744073709551616) hH.kp0 rfl rfl rfl rfl (x_move hH.kp0 rfl rfl (x_move hH.kp0 rfl rfl (x_add hH.kp0 rfl rfl rfl (by omega) (x_indexAddrS (j:=8 + i) hH.kp0 rfl rfl Fc.slb22 (by omega) (by omega) rfl ?_))))); clear hS; intro a hS
  refine r_load_cell (v:=byteV z) hS hH.kp0 rfl (by rw [Nat.mul_one]; exact hb.byte hH.mod (show h[8 + i]? = some z from by rw [←List.getElem?_drop]; exact hz)) Fc.sc5 rfl ?_; clear hS; intro a hS
  refine r_toU64 z.toNat hS hH.kp0 rfl Fc.ui81 Fc.us5 rfl rfl (by have:=z.toNat_lt; omega) ?_; clear hS; intro a hS
  refine r_addN (m:=hv ((h.drop 8).take i) * 256 % 18446744073709551616) (m':=z.toNat) ((hv ((h.drop 8).take i) * 256 % 18446744073709551616 + z.toNat) % 18446744073709551616) hS hH.kp0 rfl rfl rfl rfl (x_assign hH.kp0 rfl rfl ?_); clear hS; intro a hS
  refine Sq.nil (blk_n (then_n (reg_plain w0 (Nobody) ?_)))
  refine r_move hS hH.kp0 rfl rfl (x_add hH.kp0 rfl rfl rfl (by omega) (x_assign hH.kp0 rfl rfl ?_)); clear hS; intro a hS
  refine Sq.nil (then_n ?_)
  refine ⟨m - 1,by omega,i + 1,by omega,?_,hH⟩
  rw [hv_next (show i≤7 by omega) hy,hv_next (show i≤7 by omega) hz] at hS
  exact hS.live ⟨rfl,rfl,rfl,rfl,rfl,rfl,trivial⟩
 ·have hge : i = 8:=by have:=of_decide_eq_false hc0; omega
  subst hge
  obtain ⟨X8,hX8⟩ : ∃ z,hv (h.take 8) = z:=⟨_,rfl⟩
  obtain ⟨Y8,hY8⟩ : ∃ z,hv (h.drop 8) = z:=⟨_,rfl⟩
  rw [show (h.drop 8).take 8 = h.drop 8 from List.take_of_length_le (by rw [List.length_drop]; omega),hX8,hY8] at hS
  have hX8l : X8 < 18446744073709551616:=by rw [←hX8]; exact hv_lt8 _ (by rw [List.length_take]; omega)
  refine wp_exit (then_e (then_e (blk_hit (then_n (c_seq (reg_plain w0 (Nobody) ?_))))))
  refine r_move hS hH.kp0 rfl rfl ?_; clear hS; intro a hS
  refine r_call (l:=[.tmp 29]) hS rfl rfl Fc.fn68 rfl ?_
  refine Calls.mono (runmix_c X8 hX8l _) ?_
  rintro e w1 ⟨rfl,hE⟩
  obtain ⟨U,hU⟩ : ∃ z,z = unmixN X8:=⟨_,rfl⟩
  have hUl : U < 18446744073709551616:=by rw [hU]; exact unmixN_lt _
  rw [←hU]
  replace hH:=hH.ext hE
  refine ⟨_,rfl,hH.kp0,?_⟩
  clear hS; intro a hS
  refine r_assign hS hH.kp0 rfl rfl ?_; clear hS; intro a hS
  refine Sq.nil (then_n (c_seq (reg_plain w0 (Nobody) ?_)))
  refine r_move hS hH.kp0 rfl rfl (x_rem hH.kp0 rfl rfl rfl (by decide) (x_eql hH.kp0 rfl rfl rfl ?_)); clear hS; intro a hS
  have hb2 : (Int.tmod ((U : Nat) : Int) 2 == 0) = (U % 2 == 0):=by rw [show Int.tmod ((U : Nat) : Int) 2 = ((U % 2 : Nat) : Int) from rfl]; exact int_beq _ 0
  rw [hb2] at hS
  rcases hbb : (U % 2 == 0) with _ | _
  ·refine r_move hS hH.kp0 rfl rfl (Sq.xguardNo rfl rfl hbb hH.kp0 rfl (Sq.xguardNo rfl rfl hbb hH.kp0 rfl (Sq.xguardNo rfl rfl hbb hH.kp0 rfl (Sq.xguardNo rfl rfl hbb hH.kp0 rfl (Sq.xguardNo rfl rfl hbb hH.kp0 rfl (x_pickF hH.kp0 rfl hbb rfl rfl (x_move hH.kp0 rfl rfl (Sq.xguardNo rfl rfl rfl hH.kp0 rfl (Sq.xguardNo rfl rfl rfl hH.kp0 rfl (Sq.xguardNo rfl rfl rfl hH.kp0 rfl (Sq.xguardNo rfl rfl rfl hH.kp0 rfl (Sq.xguardNo rfl rfl rfl hH.kp0 rfl (x_pickF hH.kp0 rfl rfl rfl rfl (x_assign hH.kp0 rfl rfl ?_)))))))))))))); clear hS; intro a hS
   refine Sq.nil (then_n (wp_ret ?_))
   refine leave (.inl rfl) hS rfl (Res.tmp rfl Res.nil) ⟨?_,hH.mod⟩
   unfold laterF isNameF
   rw [hX8,←hU,hbb]
   rfl
  ·refine r_move hS hH.kp0 rfl rfl (Sq.xguardYes rfl rfl hbb (x_move hH.kp0 rfl rfl (Sq.xguardYes rfl rfl hbb ?_))); clear hS; intro a hS
   obtain ⟨U1,hU1⟩ : ∃ z,(U + 1) % 18446744073709551616 = z:=⟨_,rfl⟩
   refine r_addN (m:=U) (m':=1) U1 hS hH.kp0 rfl rfl rfl hU1 (Sq.xguardYes rfl rfl hbb ?_); clear hS; intro a hS
   refine r_call (l:=[.tmp 36]) hS rfl rfl Fc.fn31 rfl ?_
   refine Calls.mono (rmix_c U1 _) ?_
   rintro e w1 ⟨rfl,hE⟩
   obtain ⟨Wm,hWm⟩ : ∃ z,z = mixN U1:=⟨_,rfl⟩
   rw [←hWm]
   replace hH:=hH.ext hE
   refine ⟨_,rfl,hH.kp0,?_⟩
   clear hS; intro a hS
   refine Sq.guardYes hS rfl rfl hbb (r_move hS hH.kp0 rfl rfl (Sq.xguardYes rfl rfl hbb (x_eql hH.kp0 rfl rfl rfl (x_pickT hH.kp0 rfl hbb rfl rfl ?_)))); clear hS; intro a hS
   rw [int_beq] at hS
   rcases hbw : (Wm == Y8) with _ | _
   ·refine r_move hS hH.kp0 rfl rfl (Sq.xguardNo rfl rfl hbw hH.kp0 rfl (Sq.xguardNo rfl rfl hbw hH.kp0 rfl (Sq.xguardNo rfl rfl hbw hH.kp0 rfl (Sq.xguardNo rfl rfl hbw hH.kp0 rfl (Sq.xguardNo rfl rfl hbw hH.kp0 rfl (x_pickF hH.kp0 rfl hbw rfl rfl (x_assign hH.kp0 rfl rfl ?_))))))); clear hS; intro a hS
    refine Sq.nil (then_n (wp_ret ?_))
    refine leave (.inl rfl) hS rfl (Res.tmp rfl Res.nil) ⟨?_,hH.mod⟩
    unfold laterF isNameF
    rw [hX8,hY8,←hU,hbb,hU1,←hWm,hbw]
    rfl
   ·refine r_move hS hH.kp0 rfl rfl (Sq.xguardYes rfl rfl hbw (x_move hH.kp0 rfl rfl (Sq.xguardYes rfl rfl hbw (x_quo hH.kp0 rfl rfl rfl (by decide) ?_)))); clear hS; intro a hS
    rw [show IntKind.u64.wrap (Int.tdiv ((U : Nat) : Int) 2) = ((U / 2 : Nat) : Int) from by rw [show Int.tdiv ((U : Nat) : Int) 2 = ((U / 2 : Nat) : Int) from rfl,wrap_u64,Nat.mod_eq_of_lt (by omega)]] at hS
    refine Sq.guardYes hS rfl rfl hbw (r_move hS hH.kp0 rfl rfl (Sq.xguardYes rfl rfl hbw (x_toU64 n hH.kp0 rfl Fc.ui81 Fc.us3 rfl rfl (by omega) (Sq.xguardYes rfl rfl hbw (x_geq hH.kp0 rfl rfl rfl ?_))))); clear hS; intro a hS
    rw [show decide (((U / 2 : Nat) : Int)≥(n : Int)) = decide (n≤U / 2) from decide_eq_decide.2 (by omega)] at hS
    refine r_pickT hS hH.kp0 rfl hbw rfl rfl (x_assign hH.kp0 rfl rfl ?_); clear hS; intro a hS
    refine Sq.nil (then_n (wp_ret ?_))
    refine leave (.inl rfl) hS rfl (Res.tmp rfl Res.nil) ⟨?_,hH.mod⟩
    unfold laterF isNameF
    rw [hX8,hY8,←hU,hbb,hU1,←hWm,hbw]
    rfl

end Go.Proofs.YtcjmehononbadaaDoor
