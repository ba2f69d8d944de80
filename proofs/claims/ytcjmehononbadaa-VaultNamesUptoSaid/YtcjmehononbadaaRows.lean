/-
  No cell of these rows narrows 'for every input' (looked for: loops, veiled, ifaces, maps, wideKeys, modest, calm, conditions, laid).
  DERIVED. THE GIVEN ROWS OF THIS SEAT. 8 by the template 'for every input the law returns true; each argument reads behind the call as it read before'; 0 by the template 'total and deterministic' (their statements: YtcjmehononbadaaTotals.lean).
  GIVEN WITH THE SEED: the statements are not yours to turn. If you find one false, say at which input.
  Laid BY PROGRAM, IN A SANDBOX (cutbox-rows.mjs): the forced cells as the released guide's own fill.sh prints them over the translation a53aabf8db5f1959… (all of the seat's roots in one cut). By AI agents, Wed Nov 11 2026. No macro, syntax, notation, axiom, sorry.
-/
import Derived.Test.YtcjmehononbadaaChecked
import GoSem.Claim
import GoSem.ClaimJoined
import GoSem.ClaimMapViews
import Derived.JoinedTies
import Derived.KernelRfl
namespace Go.Proofs.Ytcjmehononbadaa
/- THE CELL 'sum', in the pinned program and in every row, IS THE sha256 OF THE DUMP (.gsa) THAT YtcjmehononbadaaProg.lean LOADS. Nothing in Lean hashes anything: it is a label: what it is worth is what the hold of that sum in a sandbox is worth. -/
noncomputable def Try.pinned : Pinned := { name := "ytcjmehononbadaa", sum := "a53aabf8db5f1959515f41e4fee84e10aae62b9741d388c60055930fbb6ed584", checked := Try.checked }
namespace Rows
def none {H : Type} : Left H := { results := [], args := [] }

/-- 'caravellaw12.SecretsApart': WHATEVER THE INPUT: true; the input reads as it did. -/
def secretsApartSpec : ChangeSpec := { name := "secretsApart", fn := fun _ => fun
  | [d1, d2] => { results := [.lit (.bool true)], args := [d1, d2] }
  | _ => none }
def secretsApartRow : OpenClaim := { program := "ytcjmehononbadaa", sum := "a53aabf8db5f1959515f41e4fee84e10aae62b9741d388c60055930fbb6ed584", func := "caravel/caravellaw12.SecretsApart", spec := "secretsApart", unfollowed := true, recurses := true, plainKeys := false, apart := false }
def SecretsApartSaid : Prop := secretsApartRow.holds Try.pinned (OpenSpec.ofChange secretsApartSpec)

/-- ITS FALSE NEIGHBOUR: 'it returns false'. Refute it at one input. -/
def secretsApartWrong : ChangeSpec := { name := "secretsApart", fn := fun _ => fun
  | [d1, d2] => { results := [.lit (.bool false)], args := [d1, d2] }
  | _ => none }
def SecretsApartWrongFalsely : Prop := secretsApartRow.holds Try.pinned (OpenSpec.ofChange secretsApartWrong)

/-- 'caravellaw10.ProtectKeys': WHATEVER THE INPUT: true; the input reads as it did. -/
def protectKeysSpec : ChangeSpec := { name := "protectKeys", fn := fun _ => fun
  | [d1, d2, d3] => { results := [.lit (.bool true)], args := [d1, d2, d3] }
  | _ => none }
def protectKeysRow : OpenClaim := { program := "ytcjmehononbadaa", sum := "a53aabf8db5f1959515f41e4fee84e10aae62b9741d388c60055930fbb6ed584", func := "caravel/caravellaw10.ProtectKeys", spec := "protectKeys", plainKeys := false, apart := false }
def ProtectKeysSaid : Prop := protectKeysRow.holds Try.pinned (OpenSpec.ofChange protectKeysSpec)

/-- ITS FALSE NEIGHBOUR: 'it returns false'. Refute it at one input. -/
def protectKeysWrong : ChangeSpec := { name := "protectKeys", fn := fun _ => fun
  | [d1, d2, d3] => { results := [.lit (.bool false)], args := [d1, d2, d3] }
  | _ => none }
def ProtectKeysWrongFalsely : Prop := protectKeysRow.holds Try.pinned (OpenSpec.ofChange protectKeysWrong)

/-- 'caravellaw09.VaultNames': WHATEVER THE INPUT: true; the input reads as it did. -/
def vaultNamesSpec : ChangeSpec := { name := "vaultNames", fn := fun _ => fun
  | [d1, d2] => { results := [.lit (.bool true)], args := [d1, d2] }
  | _ => none }
def vaultNamesRow : OpenClaim := { program := "ytcjmehononbadaa", sum := "a53aabf8db5f1959515f41e4fee84e10aae62b9741d388c60055930fbb6ed584", func := "caravel/caravellaw09.VaultNames", spec := "vaultNames", unfollowed := true, recurses := true, plainKeys := false, apart := false }
def VaultNamesSaid : Prop := vaultNamesRow.holds Try.pinned (OpenSpec.ofChange vaultNamesSpec)

/-- ITS FALSE NEIGHBOUR: 'it returns false'. Refute it at one input. -/
def vaultNamesWrong : ChangeSpec := { name := "vaultNames", fn := fun _ => fun
  | [d1, d2] => { results := [.lit (.bool false)], args := [d1, d2] }
  | _ => none }
def VaultNamesWrongFalsely : Prop := vaultNamesRow.holds Try.pinned (OpenSpec.ofChange vaultNamesWrong)

/-- 'caravellaw12.SecretsNobody': WHATEVER THE INPUT: true; the input reads as it did. -/
def secretsNobodySpec : ChangeSpec := { name := "secretsNobody", fn := fun _ => fun
  | [d] => { results := [.lit (.bool true)], args := [d] }
  | _ => none }
def secretsNobodyRow : OpenClaim := { program := "ytcjmehononbadaa", sum := "a53aabf8db5f1959515f41e4fee84e10aae62b9741d388c60055930fbb6ed584", func := "caravel/caravellaw12.SecretsNobody", spec := "secretsNobody", unfollowed := true, recurses := true, plainKeys := false, apart := false }
def SecretsNobodySaid : Prop := secretsNobodyRow.holds Try.pinned (OpenSpec.ofChange secretsNobodySpec)

/-- ITS FALSE NEIGHBOUR: 'it returns false'. Refute it at one input. -/
def secretsNobodyWrong : ChangeSpec := { name := "secretsNobody", fn := fun _ => fun
  | [d] => { results := [.lit (.bool false)], args := [d] }
  | _ => none }
def SecretsNobodyWrongFalsely : Prop := secretsNobodyRow.holds Try.pinned (OpenSpec.ofChange secretsNobodyWrong)

/-- 'caravellaw12.SecretsMake': WHATEVER THE INPUT: true; the input reads as it did. -/
def secretsMakeSpec : ChangeSpec := { name := "secretsMake", fn := fun _ => fun
  | [d] => { results := [.lit (.bool true)], args := [d] }
  | _ => none }
def secretsMakeRow : OpenClaim := { program := "ytcjmehononbadaa", sum := "a53aabf8db5f1959515f41e4fee84e10aae62b9741d388c60055930fbb6ed584", func := "caravel/caravellaw12.SecretsMake", spec := "secretsMake", unfollowed := true, recurses := true, plainKeys := false, apart := false }
def SecretsMakeSaid : Prop := secretsMakeRow.holds Try.pinned (OpenSpec.ofChange secretsMakeSpec)

/-- ITS FALSE NEIGHBOUR: 'it returns false'. Refute it at one input. -/
def secretsMakeWrong : ChangeSpec := { name := "secretsMake", fn := fun _ => fun
  | [d] => { results := [.lit (.bool false)], args := [d] }
  | _ => none }
def SecretsMakeWrongFalsely : Prop := secretsMakeRow.holds Try.pinned (OpenSpec.ofChange secretsMakeWrong)

/-- 'caravellaw09.VaultAgrees': WHATEVER THE INPUT: true; the input reads as it did. -/
def vaultAgreesSpec : ChangeSpec := { name := "vaultAgrees", fn := fun _ => fun
  | [d] => { results := [.lit (.bool true)], args := [d] }
  | _ => none }
def vaultAgreesRow : OpenClaim := { program := "ytcjmehononbadaa", sum := "a53aabf8db5f1959515f41e4fee84e10aae62b9741d388c60055930fbb6ed584", func := "caravel/caravellaw09.VaultAgrees", spec := "vaultAgrees", unfollowed := true, recurses := true, plainKeys := false, apart := false }
def VaultAgreesSaid : Prop := vaultAgreesRow.holds Try.pinned (OpenSpec.ofChange vaultAgreesSpec)

/-- ITS FALSE NEIGHBOUR: 'it returns false'. Refute it at one input. -/
def vaultAgreesWrong : ChangeSpec := { name := "vaultAgrees", fn := fun _ => fun
  | [d] => { results := [.lit (.bool false)], args := [d] }
  | _ => none }
def VaultAgreesWrongFalsely : Prop := vaultAgreesRow.holds Try.pinned (OpenSpec.ofChange vaultAgreesWrong)

/-- 'caravellaw10.ProtectSteps': WHATEVER THE INPUT: true; the input reads as it did. -/
def protectStepsSpec : ChangeSpec := { name := "protectSteps", fn := fun _ => fun
  | [d1, d2] => { results := [.lit (.bool true)], args := [d1, d2] }
  | _ => none }
def protectStepsRow : OpenClaim := { program := "ytcjmehononbadaa", sum := "a53aabf8db5f1959515f41e4fee84e10aae62b9741d388c60055930fbb6ed584", func := "caravel/caravellaw10.ProtectSteps", spec := "protectSteps", unfollowed := true, recurses := true, plainKeys := false, apart := false }
def ProtectStepsSaid : Prop := protectStepsRow.holds Try.pinned (OpenSpec.ofChange protectStepsSpec)

/-- ITS FALSE NEIGHBOUR: 'it returns false'. Refute it at one input. -/
def protectStepsWrong : ChangeSpec := { name := "protectSteps", fn := fun _ => fun
  | [d1, d2] => { results := [.lit (.bool false)], args := [d1, d2] }
  | _ => none }
def ProtectStepsWrongFalsely : Prop := protectStepsRow.holds Try.pinned (OpenSpec.ofChange protectStepsWrong)

/-- 'caravellaw12.SecretsKept': WHATEVER THE INPUT: true; the input reads as it did. -/
def secretsKeptSpec : ChangeSpec := { name := "secretsKept", fn := fun _ => fun
  | [d1, d2] => { results := [.lit (.bool true)], args := [d1, d2] }
  | _ => none }
def secretsKeptRow : OpenClaim := { program := "ytcjmehononbadaa", sum := "a53aabf8db5f1959515f41e4fee84e10aae62b9741d388c60055930fbb6ed584", func := "caravel/caravellaw12.SecretsKept", spec := "secretsKept", unfollowed := true, recurses := true, plainKeys := false, apart := false }
def SecretsKeptSaid : Prop := secretsKeptRow.holds Try.pinned (OpenSpec.ofChange secretsKeptSpec)

/-- ITS FALSE NEIGHBOUR: 'it returns false'. Refute it at one input. -/
def secretsKeptWrong : ChangeSpec := { name := "secretsKept", fn := fun _ => fun
  | [d1, d2] => { results := [.lit (.bool false)], args := [d1, d2] }
  | _ => none }
def SecretsKeptWrongFalsely : Prop := secretsKeptRow.holds Try.pinned (OpenSpec.ofChange secretsKeptWrong)

/- THE SECOND FORM. 'bulk': how many values and letters a reading holds, each counted each time it is reached (what is shared counts as often as it is met; a slice's spare places count too). A statement '..UptoSaid' is the law's where the arguments, and the package variables that the reading takes, are together of bulk at most 1048576: NARROWER than '..Said'. Prove '..Said' where nothing that the law and all that it calls make is longer than what came in: it says more and counts as full. Else prove '..UptoSaid'. A law counts once. -/
mutual
def uptoBulk {H : Type} : DataW H → Nat
  | .lit (.string bytes) => bytes.length + 1
  | .lit _ => 1
  | .nil => 1
  | .ptr d => uptoBulk d + 1
  | .slice elems spare => uptoBulkAll elems + uptoBulkAll spare + 1
  | .agg parts => uptoBulkAll parts + 1
  | .iface _ d => uptoBulk d + 1
  | .map entries => uptoBulkEntries entries + 1
  | .held _ => 1
def uptoBulkAll {H : Type} : List (DataW H) → Nat
  | [] => 0
  | d :: r => uptoBulk d + uptoBulkAll r
def uptoBulkEntries {H : Type} : List (Lit × DataW H) → Nat
  | [] => 0
  | x :: r => uptoBulkEntry x + uptoBulkEntries r
def uptoBulkEntry {H : Type} : Lit × DataW H → Nat
  | (.string bytes, d) => bytes.length + uptoBulk d + 1
  | (_, d) => uptoBulk d + 1
 end
def uptoSmall : (H : Type) → List (DataW H) → Bool := fun _ ds => decide (uptoBulkAll ds ≤ 1048576)
def OpenSpec.upto (s : _root_.Go.ChangeSpec) : _root_.Go.OpenSpec := { _root_.Go.OpenSpec.ofChange s with cond := some uptoSmall }

/-- 'caravellaw12.SecretsApart', WHERE WHAT IT READS IS OF BULK AT MOST 1048576: true; the input reads as it did. -/
def secretsApartUptoRow : OpenClaim := { program := "ytcjmehononbadaa", sum := "a53aabf8db5f1959515f41e4fee84e10aae62b9741d388c60055930fbb6ed584", func := "caravel/caravellaw12.SecretsApart", spec := "secretsApart", unfollowed := true, recurses := true, plainKeys := false, apart := false, narrowed := true }
def SecretsApartUptoSaid : Prop := secretsApartUptoRow.holds Try.pinned (OpenSpec.upto secretsApartSpec)

/-- 'caravellaw10.ProtectKeys', WHERE WHAT IT READS IS OF BULK AT MOST 1048576: true; the input reads as it did. -/
def protectKeysUptoRow : OpenClaim := { program := "ytcjmehononbadaa", sum := "a53aabf8db5f1959515f41e4fee84e10aae62b9741d388c60055930fbb6ed584", func := "caravel/caravellaw10.ProtectKeys", spec := "protectKeys", plainKeys := false, apart := false, narrowed := true }
def ProtectKeysUptoSaid : Prop := protectKeysUptoRow.holds Try.pinned (OpenSpec.upto protectKeysSpec)

/-- 'caravellaw09.VaultNames', WHERE WHAT IT READS IS OF BULK AT MOST 1048576: true; the input reads as it did. -/
def vaultNamesUptoRow : OpenClaim := { program := "ytcjmehononbadaa", sum := "a53aabf8db5f1959515f41e4fee84e10aae62b9741d388c60055930fbb6ed584", func := "caravel/caravellaw09.VaultNames", spec := "vaultNames", unfollowed := true, recurses := true, plainKeys := false, apart := false, narrowed := true }
def VaultNamesUptoSaid : Prop := vaultNamesUptoRow.holds Try.pinned (OpenSpec.upto vaultNamesSpec)

/-- 'caravellaw12.SecretsNobody', WHERE WHAT IT READS IS OF BULK AT MOST 1048576: true; the input reads as it did. -/
def secretsNobodyUptoRow : OpenClaim := { program := "ytcjmehononbadaa", sum := "a53aabf8db5f1959515f41e4fee84e10aae62b9741d388c60055930fbb6ed584", func := "caravel/caravellaw12.SecretsNobody", spec := "secretsNobody", unfollowed := true, recurses := true, plainKeys := false, apart := false, narrowed := true }
def SecretsNobodyUptoSaid : Prop := secretsNobodyUptoRow.holds Try.pinned (OpenSpec.upto secretsNobodySpec)

/-- 'caravellaw12.SecretsMake', WHERE WHAT IT READS IS OF BULK AT MOST 1048576: true; the input reads as it did. -/
def secretsMakeUptoRow : OpenClaim := { program := "ytcjmehononbadaa", sum := "a53aabf8db5f1959515f41e4fee84e10aae62b9741d388c60055930fbb6ed584", func := "caravel/caravellaw12.SecretsMake", spec := "secretsMake", unfollowed := true, recurses := true, plainKeys := false, apart := false, narrowed := true }
def SecretsMakeUptoSaid : Prop := secretsMakeUptoRow.holds Try.pinned (OpenSpec.upto secretsMakeSpec)

/-- 'caravellaw09.VaultAgrees', WHERE WHAT IT READS IS OF BULK AT MOST 1048576: true; the input reads as it did. -/
def vaultAgreesUptoRow : OpenClaim := { program := "ytcjmehononbadaa", sum := "a53aabf8db5f1959515f41e4fee84e10aae62b9741d388c60055930fbb6ed584", func := "caravel/caravellaw09.VaultAgrees", spec := "vaultAgrees", unfollowed := true, recurses := true, plainKeys := false, apart := false, narrowed := true }
def VaultAgreesUptoSaid : Prop := vaultAgreesUptoRow.holds Try.pinned (OpenSpec.upto vaultAgreesSpec)

/-- 'caravellaw10.ProtectSteps', WHERE WHAT IT READS IS OF BULK AT MOST 1048576: true; the input reads as it did. -/
def protectStepsUptoRow : OpenClaim := { program := "ytcjmehononbadaa", sum := "a53aabf8db5f1959515f41e4fee84e10aae62b9741d388c60055930fbb6ed584", func := "caravel/caravellaw10.ProtectSteps", spec := "protectSteps", unfollowed := true, recurses := true, plainKeys := false, apart := false, narrowed := true }
def ProtectStepsUptoSaid : Prop := protectStepsUptoRow.holds Try.pinned (OpenSpec.upto protectStepsSpec)

/-- 'caravellaw12.SecretsKept', WHERE WHAT IT READS IS OF BULK AT MOST 1048576: true; the input reads as it did. -/
def secretsKeptUptoRow : OpenClaim := { program := "ytcjmehononbadaa", sum := "a53aabf8db5f1959515f41e4fee84e10aae62b9741d388c60055930fbb6ed584", func := "caravel/caravellaw12.SecretsKept", spec := "secretsKept", unfollowed := true, recurses := true, plainKeys := false, apart := false, narrowed := true }
def SecretsKeptUptoSaid : Prop := secretsKeptUptoRow.holds Try.pinned (OpenSpec.upto secretsKeptSpec)

end Rows
end Go.Proofs.Ytcjmehononbadaa
