/- Two vaults under any calls answer alike. Part Row1: walks and lemmas of the proof. -/
import Derived.Test.YtcjmehononbadaaDoorRows
import Derived.Test.YtcjmehononbadaaDoorPart14
import Derived.Test.YtcjmehononbadaaDoorSym3
import Derived.Test.YtcjmehononbadaaDoorCards
import Derived.Test.YtcjmehononbadaaDoorTie
import Derived.WalkKit
import Derived.ProofKit
import Derived.OpenShut
import Derived.Deep.DeepHandedRow
import Derived.Deep.DeepLaidRun
import Derived.Lib.LaidTab
namespace Go.Proofs.YtcjmehononbadaaDoor.vaultPlays
open Go.ChangeShapes Go.WideShapes Go.ChangeAt Go.RowKit Go.Joins Go.Sym

theorem own : ownKnob Tryd.prog.godebug = none:=by kernel_rfl

theorem len_le {H : Type} (l : List (DataW H)) : l.length≤Rows.uptoBulkAll l:=by
  induction l with
  | nil => simp [Rows.uptoBulkAll]
  | cons x r ih =>
    have : 1≤Rows.uptoBulk x:=by
      cases x with
      | lit l => cases l <;> simp [Rows.uptoBulk]
      | nil => simp [Rows.uptoBulk]
      | ptr d => simp [Rows.uptoBulk]
      | slice elems spare => simp [Rows.uptoBulk]
      | agg parts => simp [Rows.uptoBulk]
      | iface t d => simp [Rows.uptoBulk]
      | map entries => simp [Rows.uptoBulk]
      | held h => simp [Rows.uptoBulk]
    simp only [Rows.uptoBulkAll,List.length_cons]; omega



theorem bulk_mem {H : Type} {l : List (DataW H)} {x : DataW H} (h : x∈l) : Rows.uptoBulk x≤Rows.uptoBulkAll l:=by
 induction l with
 | nil => cases h
 | cons y r ih =>
  simp only [Rows.uptoBulkAll]
  rcases List.mem_cons.1 h with rfl | h
  ·omega
  ·have:=ih h; omega
theorem ex_list {α : Type} (p : Nat→α→Prop) : ∀ (n : Nat),(∀ i,i < n→∃ x,p i x)→∃ l : List α,l.length = n∧∀ i x,l[i]? = some x→p i x
 | 0,_ => ⟨[],rfl,fun i x h => by simp at h⟩
 | n + 1,h => by
  obtain ⟨l,hl,hp⟩:=ex_list p n (fun i hi => h i (by omega))
  obtain ⟨x,hx⟩:=h n (by omega)
  refine ⟨l++[x],by simp [hl],fun i y hy => ?_⟩
  rw [List.getElem?_append] at hy
  split at hy
  ·exact hp i y hy
  ·rename_i hge
   have : i = n:=by
    have:=(List.getElem?_eq_some_iff.1 hy).1
    simp at this; omega
   subst this
   rw [hl] at hy
   simp at hy
   rw [←hy]; exact hx

section
variable {H : Type} {enc : TypeId × Value→H} {P : Program} {w : World} {base : Nat} {spare : Nat→Bool} {held : Bool}
theorem open_acts9 {t e : TypeId} {fuel : Nat} {v : Value} {x : DataW H × List MemPlace} {f0 f1 f2 f3 f4 f5 f6 f7 f8 : Field} {be : TypeId} (ht : P.underlying t = some (.slice e)) (hs : P.underlying e = some (.struct #[f0,f1,f2,f3,f4,f5,f6,f7,f8])) (hC : P.cellsOf e = 9)
  (hC0 : P.cellsOf f0.type = 1) (hC1 : P.cellsOf f1.type = 1) (hC2 : P.cellsOf f2.type = 1) (hC3 : P.cellsOf f3.type = 1) (hC4 : P.cellsOf f4.type = 1) (hC5 : P.cellsOf f5.type = 1) (hC6 : P.cellsOf f6.type = 1) (hC7 : P.cellsOf f7.type = 1) (hC8 : P.cellsOf f8.type = 1) (ho : f0.offset = 0∧f1.offset = 1∧f2.offset = 2∧f3.offset = 3∧f4.offset = 4∧f5.offset = 5∧f6.offset = 6∧f7.offset = 7∧f8.offset = 8)
  (u0 : P.underlying f0.type = some (.int .i64)) (u1 : P.underlying f1.type = some (.int .i64)) (u2 : P.underlying f2.type = some (.int .i64)) (u3 : P.underlying f3.type = some (.int .i64)) (u4 : P.underlying f4.type = some (.string)) (u5 : P.underlying f5.type = some (.int .i64)) (u6 : P.underlying f6.type = some (.slice be)) (u7 : P.underlying f7.type = some (.slice be)) (u8 : P.underlying f8.type = some (.bool)) (ub : P.underlying be = some (.int .u8)) (cb : P.cellsOf be = 1)
  (h : DataW.trod enc P w base spare held fuel t [v] = some x) : ∃ (q : Option Addr) (qc : Nat) (acs : List Ac9),v = .slice q acs.length qc∧(Rows.uptoBulk x.1≤1048576→Acs9 w q acs):=by
 obtain ⟨o0,o1,o2,o3,o4,o5,o6,o7,o8⟩:=ho
 rcases DataW.trod_slice ht h with ⟨hcs,hx⟩ | ⟨a,len,cap,elems,rest,n,_,hcs,hx,hb,hl,hm,hlen,hel,_,_⟩
 ·simp only [List.cons.injEq,and_true] at hcs
  exact ⟨none,0,[],hcs,fun _ i x hx => by simp at hx⟩
 ·simp only [List.cons.injEq,and_true] at hcs
  have hplain : 0 < len→∃ b o,a = ⟨b,o,none⟩:=by
   intro h0
   have h1:=hel 0 h0
   obtain ⟨y,hy⟩ : ∃ y,elems[0]? = some y:=⟨_,List.getElem?_eq_getElem (by omega)⟩
   rw [hy,hC,Option.bind_eq_some_iff] at h1
   obtain ⟨cs,hc1,_⟩:=h1
   obtain ⟨_,hcl,hcg⟩:=World.cells?_some hc1
   have g0:=hcg 0 (by omega)
   rw [List.getElem?_eq_getElem (by omega)] at g0
   have ea : a.add (0 * 9) = a:=by simp [Addr.add]
   rw [ea] at g0
   exact plain_addr g0
  have key : ∀ i,i < len→∃ y : Ac9,(Rows.uptoBulk x.1≤1048576→y.Fine w∧∃ b o,some a = some ⟨b,o,none⟩∧∀ j u,y.cells[j]? = some u→w.cell? ⟨b,o + i * 9 + j,none⟩ = some u):=by
   intro i hi
   have h1:=hel i hi
   obtain ⟨y,hy⟩ : ∃ y,elems[i]? = some y:=⟨_,List.getElem?_eq_getElem (by omega)⟩
   rw [hy,hC,Option.bind_eq_some_iff] at h1
   obtain ⟨cs,hc1,hc2⟩:=h1
   obtain ⟨_,hcl,hcg⟩:=World.cells?_some hc1
   obtain ⟨xs,m,_,hyx,hsz,hxl,hg⟩:=DataW.trod_struct hs hc2
   match cs,hcl,xs,hxl with
   | [c0,c1,c2,c3,c4,c5,c6,c7,c8],_,[y0,y1,y2,y3,y4,y5,y6,y7,y8],_ =>
    have t0 : DataW.trod enc P w base spare held m f0.type [c0] = some y0:=by simpa [o0,hC0] using hg 0 f0 rfl
    have t1 : DataW.trod enc P w base spare held m f1.type [c1] = some y1:=by simpa [o1,hC1] using hg 1 f1 rfl
    have t2 : DataW.trod enc P w base spare held m f2.type [c2] = some y2:=by simpa [o2,hC2] using hg 2 f2 rfl
    have t3 : DataW.trod enc P w base spare held m f3.type [c3] = some y3:=by simpa [o3,hC3] using hg 3 f3 rfl
    have t4 : DataW.trod enc P w base spare held m f4.type [c4] = some y4:=by simpa [o4,hC4] using hg 4 f4 rfl
    have t5 : DataW.trod enc P w base spare held m f5.type [c5] = some y5:=by simpa [o5,hC5] using hg 5 f5 rfl
    have t6 : DataW.trod enc P w base spare held m f6.type [c6] = some y6:=by simpa [o6,hC6] using hg 6 f6 rfl
    have t7 : DataW.trod enc P w base spare held m f7.type [c7] = some y7:=by simpa [o7,hC7] using hg 7 f7 rfl
    have t8 : DataW.trod enc P w base spare held m f8.type [c8] = some y8:=by simpa [o8,hC8] using hg 8 f8 rfl
    obtain ⟨k0,e0,_,wi0⟩:=DataW.trod_int u0 t0
    obtain ⟨k1,e1,_,wi1⟩:=DataW.trod_int u1 t1
    obtain ⟨k2,e2,_,wi2⟩:=DataW.trod_int u2 t2
    obtain ⟨k3,e3,_,wi3⟩:=DataW.trod_int u3 t3
    obtain ⟨s4,e4,_,ws4⟩:=DataW.trod_string u4 t4
    obtain ⟨k5,e5,_,wi5⟩:=DataW.trod_int u5 t5
    obtain ⟨qq6,qc6,l6,e6,hb6,hbd6⟩:=open_bs u6 ub cb t6
    obtain ⟨qq7,qc7,l7,e7,hb7,hbd7⟩:=open_bs u7 ub cb t7
    obtain ⟨k8,e8,_⟩:=DataW.trod_bool u8 t8
    simp only [List.cons.injEq,and_true] at e0 e1 e2 e3 e4 e5 e8
    subst e0 e1 e2 e3 e4 e5 e6 e7 e8
    have small : ∀ (z : DataW H × List MemPlace) (l : List UInt8),z.1∈[y0.1,y1.1,y2.1,y3.1,y4.1,y5.1,y6.1,y7.1,y8.1]→Rows.uptoBulk x.1≤1048576→(z.1 = .nil∧l = []∨∃ es sp,z.1 = .slice es sp∧es.length = l.length)→l.length≤1048576:=by
     intro z l hz hk hbd
     have hy1 : y.1∈elems.map (·.1):=List.mem_map.2 ⟨y,List.mem_of_getElem? hy,rfl⟩
     have b1:=bulk_mem hy1
     rw [hx] at hk
     simp only [Rows.uptoBulk] at hk
     have b2 : Rows.uptoBulk z.1≤Rows.uptoBulk y.1:=by
      rw [hyx]
      simp only [Rows.uptoBulk]
      have h9 : Rows.uptoBulk z.1≤Rows.uptoBulkAll (List.map (fun x => x.1) [y0,y1,y2,y3,y4,y5,y6,y7,y8]):=bulk_mem (x:=z.1) (by simpa only [List.map_cons,List.map_nil] using hz)
      omega
     rcases hbd with ⟨_,rfl⟩ | ⟨es,sp,h1,h2⟩
     ·simp
     ·rw [h1] at b2
      simp only [Rows.uptoBulk] at b2
      have:=len_le es
      omega
    refine ⟨⟨k0,k1,k2,k3,s4,k5,.slice qq6 l6.length qc6,.slice qq7 l7.length qc7,l6,l7,k8⟩,fun hk => ⟨⟨Nat.le_trans ws4 (show maxLen≤9223372036854775807 by decide),wf_i64 wi5,small y6 l6 (by simp) hk hbd6,small y7 l7 (by simp) hk hbd7,hb6,hb7⟩,?_⟩⟩
    obtain ⟨b,o,rfl⟩:=hplain (by omega)
    refine ⟨b,o,rfl,fun j u hu => ?_⟩
    have hj : j < 9:=by have:=(List.getElem?_eq_some_iff.1 hu).1; simpa [Ac9.cells] using this
    have gj:=hcg j (by omega)
    rw [add_eq,add_eq] at gj
    rw [gj]; exact hu
  obtain ⟨acs,hasl,hasp⟩:=ex_list _ len key
  exact ⟨some a,cap,acs,by rw [hasl]; exact hcs,fun hk i y hy => hasp i y hy hk⟩
end
set_option maxRecDepth 100000 in
theorem contract (H : Type) (enc : TypeId × Value→H) (W : World) (base : Nat) (args : Array Value) (ds gs : List (DataW H)) (before : List MemPlace)
    (hval : ∀ (j : Nat) t v,Tryd.f5.params[j]? = some t→args[j]? = some v→Value.okWide Tryd.prog W .any base t v)
    (hW : DataW.Whole enc Tryd.prog Tryd.f5.params.toList Rows.vaultPlaysSpec.vars false W args.toList ds gs before) (hk : Rows.uptoSmall H (ds++gs) = true) :
    Calls Tryd.prog 5 args W fun e W' => ∃ v,e = .returned v∧Rows.vaultPlaysSpec.post enc Tryd.prog Tryd.f5 false true false false W args v W':=by
  have hW':=hW
  obtain ⟨p,q,hA0,hV,rfl,hfz,hnd⟩:=hW
  have hA : DataW.TrodAll enc Tryd.prog W 0 (fun _ => true) true Tryd.f5.params.toList args.toList ds p:=hA0
  rw [Tryd.params5] at hA hval
  obtain ⟨v0,vs0,d0,ds0,p0,q0,hargs,rfl,rfl,h0,r0⟩:=trodAll_cons hA
  obtain ⟨rfl,rfl,rfl⟩:=trodAll_nil r0
  obtain rfl : args = #[v0]:=by cases args; simp_all
  obtain ⟨rfl,rfl⟩:=trodVars_none hV
  have ho0:=hv_of hval (j:=0) (t:=51) (v:=v0) rfl rfl
  have hc0 : v0.cells.toList = [v0]:=by obtain ⟨_,_,_,e⟩:=okWide_slice Tryd.underlying51 ho0; rw [e]; rfl
  obtain ⟨fu0,h0⟩:=h0
  rw [hc0] at h0
  clear hc0 ho0
  obtain ⟨qq0,qc0,as0,rfl,hac0⟩:=open_acts9 Tryd.underlying51 Tryd.underlying36 (by kernel_rfl) (by kernel_rfl) (by kernel_rfl) (by kernel_rfl) (by kernel_rfl) (by kernel_rfl) (by kernel_rfl) (by kernel_rfl) (by kernel_rfl) (by kernel_rfl) ⟨rfl,rfl,rfl,rfl,rfl,rfl,rfl,rfl,rfl⟩ Tryd.underlying3 Tryd.underlying3 Tryd.underlying3 Tryd.underlying3 Tryd.underlying9 Tryd.underlying3 Tryd.underlying22 Tryd.underlying22 Tryd.underlying4 Tryd.underlying5 (by kernel_rfl) h0
  have hsm:=hk
  simp only [Rows.uptoSmall,decide_eq_true_eq,List.append_nil,Rows.uptoBulkAll] at hsm
  refine (plays_law _ _ as0 W (hac0 (by omega))).mono fun e W' ⟨he,hE⟩ => ?_
  subst he
  exact ⟨_,rfl,post_true Fc.laid rfl rfl Tryd.underlying4 (by kernel_rfl) ⟨rfl,rfl,rfl⟩ hW' hE⟩

/-- A WORLD FOR THE WITNESS: the settled one,the listed variables' blocks holding what the text lays. -/
noncomputable def laidWorld (os : Os) : World :=
  { World.holding Tryd.prog os ⟨#[],#[],[]⟩ with heap:=(World.holding Tryd.prog os ⟨#[],#[],[]⟩).heap.mapIdx fun i o => match i,o with
      | 0,.cells _ t frozen => .cells ((Go.Pinned.utf8FirstZ.map fun (n : Nat) => Value.int .u8 (n : Int)).toArray) t frozen
      | 1,.cells _ t frozen => .cells (#[.int .u8 128,.int .u8 191,.int .u8 160,.int .u8 191,.int .u8 128,.int .u8 159,.int .u8 144,.int .u8 191,.int .u8 128,.int .u8 143,.int .u8 0,.int .u8 0,.int .u8 0,.int .u8 0,.int .u8 0,.int .u8 0,.int .u8 0,.int .u8 0,.int .u8 0,.int .u8 0,.int .u8 0,.int .u8 0,.int .u8 0,.int .u8 0,.int .u8 0,.int .u8 0,.int .u8 0,.int .u8 0,.int .u8 0,.int .u8 0,.int .u8 0,.int .u8 0]) t frozen
      | _,o => o }
set_option maxRecDepth 100000 in
theorem laid_met (os : Os) : laidMet Tryd.prog Rows.vaultPlaysUptoRow.laid ((laidWorld os).forCall (fun _ _ => 0) ⟨#[],#[.slice none 0 0],[]⟩).memory :=
  laidMet_of_run3 8 (by kernel_rfl) (by kernel_rfl) (by kernel_rfl)
set_option maxRecDepth 100000 in
theorem reads (os : Os) {H : Type} (enc : TypeId × Value→H) : ∃ places,DataW.whole enc Tryd.prog ((laidWorld os).forCall (fun _ _ => 0) ⟨#[],#[.slice none 0 0],[]⟩).memory Tryd.f5.params.toList Rows.vaultPlaysSpec.vars false (#[.slice none 0 0] : Array Value).toList 8 = some ([.nil],[],places) :=
  ⟨[],by kernel_rfl⟩
set_option maxRecDepth 100000 in
theorem lifted (os : Os) (started : os.Started) (H : Type) (enc : TypeId × Value→H) (F : Stop.Interp) :
    ReturnsInHanded {} Tryd.checked os 5 .any ((Rows.OpenSpec.upto Rows.vaultPlaysSpec).preRow enc Tryd.prog Tryd.f5 Rows.vaultPlaysUptoRow.domain false Rows.vaultPlaysUptoRow.laid) (((Rows.OpenSpec.upto Rows.vaultPlaysSpec).at F).post enc Tryd.prog Tryd.f5 false true false false):=by
  obtain ⟨places,hx⟩:=reads os enc
  refine returnsInHanded_of_row (C:=Tryd.checked) (s:=Rows.OpenSpec.upto Rows.vaultPlaysSpec) own started (by kernel_rfl) Tryd.func5
    (witness_row_at (enc:=enc) (C:=Tryd.checked) false (laidWorld os) #[.slice none 0 0] rfl (by kernel_rfl) (by kernel_rfl) (by kernel_rfl)
      (OpenSpec.preRow_of_cond 8 hx (by kernel_rfl) (fun k hk => by cases hk; kernel_rfl) (by kernel_rfl) (laid_met os))) ?_
  intro W base args ds gs before hval hW _ hcond _ hL _ _
  exact contract H enc W base args ds gs before hval hW (hcond _ rfl)

theorem said : Rows.VaultPlaysUptoSaid :=
  OpenClaim.holds_of_cond 5 Tryd.f5 rfl rfl rfl rfl rfl rfl rfl ⟨rfl,rfl,rfl,rfl,rfl⟩ rfl rfl rfl rfl rfl (by kernel_rfl) Tryd.func5 (by kernel_rfl)
    (of_decide_eq_true (by kernel_rfl)) (by unfold Func.isWrapper; first | (rw [if_pos (by decide +kernel)]; kernel_rfl) | (rw [if_neg (by decide +kernel)]; exact ⟨rfl,rfl⟩))
    (fun os started H enc _ F => by rw [OpenClaim.pre_eq_preRow]; exact lifted os started H enc F)
set_option maxRecDepth 100000 in
theorem plain (f : FuncId) (fn : Func) (hf : Tryd.pinned.checked.prog.funcNamed "caravel/caravellaw09.VaultPlays" = some f) (hfn : Tryd.pinned.checked.prog.funcs[f]? = some fn) :
    false = Tryd.pinned.checked.prog.looks []∧∀ (j : Nat) t,fn.params[j]? = some t→Tryd.pinned.checked.prog.wantsStandIn t = false:=by
  obtain rfl : f = 5:=Option.some.inj ((show Tryd.prog.funcNamed "caravel/caravellaw09.VaultPlays" = some 5 by kernel_rfl).symm.trans hf) |>.symm
  obtain rfl : fn = Tryd.f5:=(Option.some.inj (Tryd.func5.symm.trans hfn)).symm
  refine ⟨by kernel_rfl,fun j t ht => ?_⟩
  rw [Tryd.params5] at ht
  have hm:=Array.mem_of_getElem? ht
  simp only [List.mem_toArray,List.mem_cons,List.not_mem_nil,or_false] at hm
  rcases hm with rfl
  all_goals first | exact (show Tryd.prog.wantsStandIn 51 = false by kernel_rfl)
/-- THE SECOND FORM's CARD -/
theorem proved : Rows.VaultPlaysUptoCardSaid :=
  Claim7.holds_tied_plain_at .later [] _ _ _ _ said (fun _ h => by cases h) (by kernel_rfl) (fun _ h => by cases h) vaultPlaysUpto_row_tie rfl ⟨rfl,rfl⟩ (by kernel_rfl) rfl plain (by kernel_rfl)
end Go.Proofs.YtcjmehononbadaaDoor.vaultPlays
