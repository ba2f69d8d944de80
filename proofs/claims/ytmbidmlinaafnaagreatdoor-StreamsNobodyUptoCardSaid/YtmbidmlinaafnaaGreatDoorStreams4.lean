/- StreamsNobody holds of every input up to the given bulk: tables that no call made have no streams, and limits that may not be make none. Part Streams4: walks and lemmas of the proof. -/
import Derived.Test.YtmbidmlinaafnaaGreatDoorChecked
import Derived.Test.YtmbidmlinaafnaaGreatDoorSymFork
import Derived.Test.YtmbidmlinaafnaaGreatDoorSymIface
import Derived.WalkKit
import Derived.LaidEql
import Derived.Stop.Asserts
import Derived.RowKitTokens
namespace Go.Proofs.YtmbidmlinaafnaaGreatDoor
open Go.Sym Go.RowKit Go.Extern.Stop Go.Stop Go.Extern



theorem Ei.typeOf (v : Value) (w : World) : (Extern.ReflectliteType.typeOf #[.iface 41 v]).run Tryz.prog w = .ok (.iface 229 (.agg #[.pointer (some ⟨4, 41, none⟩)])) w := by kernel_rfl
def Ei.cmp : Array Value → Sem Value := Extern.ReflectliteType.method fun t => do Extern.Rtype.noPackHeld "Comparable" t; pure (.bool (← typeInfo t).comparable)
theorem Ei.comparable (w : World) : (Ei.cmp #[.agg #[.pointer (some ⟨4, 41, none⟩)]]).run Tryz.prog w = .ok (.bool true) w := by kernel_rfl
theorem Ei.methodComparable (v : Value) (w : World) : (Go.method 452 229 v "Comparable").run Tryz.prog w = .ok (261, v) w := by kernel_rfl


set_option maxRecDepth 100000 in
theorem errIs_c (w : World) : Calls Tryz.prog 26 #[.iface 41 (.int .i64 1), .iface 41 (.int .i64 1)] w fun e w' => e = .returned (.bool true) ∧ Ext w w' := by
  have h8 := @run_callFunc_extern Tryz.prog 76 _ Extern.ReflectliteType.typeOf Tryz.func76 (by kernel_rfl) (by kernel_rfl) (by kernel_rfl) (by kernel_rfl)
  have h32 := @run_callFunc_extern Tryz.prog 261 _ Ei.cmp Tryz.func261 (by kernel_rfl) (by kernel_rfl) (by kernel_rfl) (by kernel_rfl)
  have tT := Ei.typeOf
  have cT := Ei.comparable
  have mR := Ei.methodComparable
  have heq : ∀ w, (Go.binOp .eql 49 (.iface 41 (.int .i64 1)) (.iface 41 (.int .i64 1))).run Tryz.prog w = .ok (.bool true) w := fun w => by kernel_rfl
  have key : Calls Tryz.prog 26 #[.iface 41 (.int .i64 1), .iface 41 (.int .i64 1)] w fun e w' => e = .returned (.bool true) ∧ w' = w := by

    go_enter Tryz.func26, Tryz.ntmps26
    go_wp2
    refine wp_loop_rounds 1 ?_
    rw [rounds_succ]
    go_wp2
    go_ret
    exact ⟨rfl, rfl⟩
  exact key.mono fun e w' ⟨h1, h2⟩ => ⟨h1, h2 ▸ Mod.refl _ _⟩

end Go.Proofs.YtmbidmlinaafnaaGreatDoor
