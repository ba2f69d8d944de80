/-
  NARROWER THAN 'FOR EVERY INPUT', by the rows' own cells (each row's printed sentence says how): HeaderOthers: laid · HeaderSplits: laid · HeaderWhole: laid · HeaderPuts: laid · HeaderBack: laid.
  DERIVED. THE GIVEN ROWS OF THIS SEAT. 5 by the template 'for every input the law returns true; each argument reads behind the call as it read before'; 0 by the template 'total and deterministic' (their statements: YtcenionnedgadaaDoorTotals.lean).
  GIVEN WITH THE SEED: the statements are not yours to turn. If you find one false, say at which input.
  Laid BY PROGRAM, IN A SANDBOX (cutbox-rows.mjs): the forced cells as the released guide's own fill.sh prints them over the translation b87fbb9b2b514c75… (all of the seat's roots in one cut). By AI agents, Wed Nov 11 2026. No macro, syntax, notation, axiom, sorry.
-/
import Derived.Test.YtcenionnedgadaaDoorChecked
import GoSem.Claim
import GoSem.ClaimJoined
import GoSem.ClaimMapViews
import Derived.JoinedTies
import Derived.KernelRfl
namespace Go.Proofs.YtcenionnedgadaaDoor
/- THE CELL 'sum', in the pinned program and in every row, IS THE sha256 OF THE DUMP (.gsa) THAT YtcenionnedgadaaDoorProg.lean LOADS. Nothing in Lean hashes anything: it is a label: what it is worth is what the hold of that sum in a sandbox is worth. -/
noncomputable def Tryd.pinned : Pinned := { name := "ytcenionnedgadaadoor", sum := "b87fbb9b2b514c7521c7204337d65a83c179d85778abd5744e75ff59b6170f93", checked := Tryd.checked }
namespace Rows
def none {H : Type} : Left H := { results := [], args := [] }

/- WHAT THE LISTED PACKAGE-LEVEL VARIABLES READ AS WHEN THE CALL BEGINS. Each datum BY PROGRAM (the guide's laid-datum.mjs) off the statement by which the dump's own 'gosem.cut.vars' lays the variable. In a bare row this is a premise. The card (YtcenionnedgadaaDoorCards.lean) ties it to the program's text. -/
def laid_caravel_octet_widths {H : Type} : DataW H := .agg [.lit (.int .i64 6), .lit (.int .i64 14), .lit (.int .i64 30), .lit (.int .i64 62)]

/-- 'caravellaw02.HeaderOthers': WHATEVER THE INPUT: true; the input reads as it did. -/
def headerOthersSpec : ChangeSpec := { name := "headerOthers", fn := fun _ => fun
  | [d1, d2, d3] => { results := [.lit (.bool true)], args := [d1, d2, d3] }
  | _ => none }
def headerOthersRow : OpenClaim := { program := "ytcenionnedgadaadoor", sum := "b87fbb9b2b514c7521c7204337d65a83c179d85778abd5744e75ff59b6170f93", func := "caravel/caravellaw02.HeaderOthers", spec := "headerOthers", named := ["caravel/octet.widths"], apart := false, laid := [("caravel/octet.widths", laid_caravel_octet_widths)] }
def HeaderOthersSaid : Prop := headerOthersRow.holds Tryd.pinned (OpenSpec.ofChange headerOthersSpec)

/-- ITS FALSE NEIGHBOUR: 'it returns false'. Refute it at one input. -/
def headerOthersWrong : ChangeSpec := { name := "headerOthers", fn := fun _ => fun
  | [d1, d2, d3] => { results := [.lit (.bool false)], args := [d1, d2, d3] }
  | _ => none }
def HeaderOthersWrongFalsely : Prop := headerOthersRow.holds Tryd.pinned (OpenSpec.ofChange headerOthersWrong)

/-- 'caravellaw02.HeaderSplits': WHATEVER THE INPUT: true; the input reads as it did. -/
def headerSplitsSpec : ChangeSpec := { name := "headerSplits", fn := fun _ => fun
  | [d1, d2] => { results := [.lit (.bool true)], args := [d1, d2] }
  | _ => none }
def headerSplitsRow : OpenClaim := { program := "ytcenionnedgadaadoor", sum := "b87fbb9b2b514c7521c7204337d65a83c179d85778abd5744e75ff59b6170f93", func := "caravel/caravellaw02.HeaderSplits", spec := "headerSplits", named := ["caravel/octet.widths"], apart := false, laid := [("caravel/octet.widths", laid_caravel_octet_widths)] }
def HeaderSplitsSaid : Prop := headerSplitsRow.holds Tryd.pinned (OpenSpec.ofChange headerSplitsSpec)

/-- ITS FALSE NEIGHBOUR: 'it returns false'. Refute it at one input. -/
def headerSplitsWrong : ChangeSpec := { name := "headerSplits", fn := fun _ => fun
  | [d1, d2] => { results := [.lit (.bool false)], args := [d1, d2] }
  | _ => none }
def HeaderSplitsWrongFalsely : Prop := headerSplitsRow.holds Tryd.pinned (OpenSpec.ofChange headerSplitsWrong)

/-- 'caravellaw02.HeaderWhole': WHATEVER THE INPUT: true; the input reads as it did. -/
def headerWholeSpec : ChangeSpec := { name := "headerWhole", fn := fun _ => fun
  | [d1, d2] => { results := [.lit (.bool true)], args := [d1, d2] }
  | _ => none }
def headerWholeRow : OpenClaim := { program := "ytcenionnedgadaadoor", sum := "b87fbb9b2b514c7521c7204337d65a83c179d85778abd5744e75ff59b6170f93", func := "caravel/caravellaw02.HeaderWhole", spec := "headerWhole", named := ["caravel/octet.widths"], apart := false, laid := [("caravel/octet.widths", laid_caravel_octet_widths)] }
def HeaderWholeSaid : Prop := headerWholeRow.holds Tryd.pinned (OpenSpec.ofChange headerWholeSpec)

/-- ITS FALSE NEIGHBOUR: 'it returns false'. Refute it at one input. -/
def headerWholeWrong : ChangeSpec := { name := "headerWhole", fn := fun _ => fun
  | [d1, d2] => { results := [.lit (.bool false)], args := [d1, d2] }
  | _ => none }
def HeaderWholeWrongFalsely : Prop := headerWholeRow.holds Tryd.pinned (OpenSpec.ofChange headerWholeWrong)

/-- 'caravellaw02.HeaderPuts': WHATEVER THE INPUT: true; the input reads as it did. -/
def headerPutsSpec : ChangeSpec := { name := "headerPuts", fn := fun _ => fun
  | [d1, d2, d3] => { results := [.lit (.bool true)], args := [d1, d2, d3] }
  | _ => none }
def headerPutsRow : OpenClaim := { program := "ytcenionnedgadaadoor", sum := "b87fbb9b2b514c7521c7204337d65a83c179d85778abd5744e75ff59b6170f93", func := "caravel/caravellaw02.HeaderPuts", spec := "headerPuts", unfollowed := true, recurses := true, named := ["caravel/octet.widths"], apart := false, laid := [("caravel/octet.widths", laid_caravel_octet_widths)] }
def HeaderPutsSaid : Prop := headerPutsRow.holds Tryd.pinned (OpenSpec.ofChange headerPutsSpec)

/-- ITS FALSE NEIGHBOUR: 'it returns false'. Refute it at one input. -/
def headerPutsWrong : ChangeSpec := { name := "headerPuts", fn := fun _ => fun
  | [d1, d2, d3] => { results := [.lit (.bool false)], args := [d1, d2, d3] }
  | _ => none }
def HeaderPutsWrongFalsely : Prop := headerPutsRow.holds Tryd.pinned (OpenSpec.ofChange headerPutsWrong)

/-- 'caravellaw02.HeaderBack': WHATEVER THE INPUT: true; the input reads as it did. -/
def headerBackSpec : ChangeSpec := { name := "headerBack", fn := fun _ => fun
  | [d1, d2, d3] => { results := [.lit (.bool true)], args := [d1, d2, d3] }
  | _ => none }
def headerBackRow : OpenClaim := { program := "ytcenionnedgadaadoor", sum := "b87fbb9b2b514c7521c7204337d65a83c179d85778abd5744e75ff59b6170f93", func := "caravel/caravellaw02.HeaderBack", spec := "headerBack", unfollowed := true, recurses := true, named := ["caravel/octet.widths"], apart := false, laid := [("caravel/octet.widths", laid_caravel_octet_widths)] }
def HeaderBackSaid : Prop := headerBackRow.holds Tryd.pinned (OpenSpec.ofChange headerBackSpec)

/-- ITS FALSE NEIGHBOUR: 'it returns false'. Refute it at one input. -/
def headerBackWrong : ChangeSpec := { name := "headerBack", fn := fun _ => fun
  | [d1, d2, d3] => { results := [.lit (.bool false)], args := [d1, d2, d3] }
  | _ => none }
def HeaderBackWrongFalsely : Prop := headerBackRow.holds Tryd.pinned (OpenSpec.ofChange headerBackWrong)

/- THE SECOND FORM. 'bulk': how many values and letters a reading holds, each counted each time it is reached (what is shared counts as often as it is met; a slice's spare places count too). A statement '..UptoSaid' is the law's where the arguments, and the package variables that the reading takes, are together of bulk at most 1048576: NARROWER than '..Said'. Prove '..Said' where nothing that the law and all that it calls make is longer than what came in: it says more and counts as full. Else prove '..UptoSaid'. A law counts once. -/
mutual
def uptoBulk {H : Type} : DataW H → Nat
  | .lit (.string bytes) => bytes.length + 1
  | .lit _ => 1
  | .nil => 1
  | .ptr d => uptoBulk d + 1
  | .slice elems spare => uptoBulkAll elems + uptoBulkAll spare + 1
  | .agg parts => uptoBulkAll parts + 1
  | .iface _ d => uptoBulk d + 1
  | .map entries => uptoBulkEntries entries + 1
  | .held _ => 1
def uptoBulkAll {H : Type} : List (DataW H) → Nat
  | [] => 0
  | d :: r => uptoBulk d + uptoBulkAll r
def uptoBulkEntries {H : Type} : List (Lit × DataW H) → Nat
  | [] => 0
  | x :: r => uptoBulkEntry x + uptoBulkEntries r
def uptoBulkEntry {H : Type} : Lit × DataW H → Nat
  | (.string bytes, d) => bytes.length + uptoBulk d + 1
  | (_, d) => uptoBulk d + 1
 end
def uptoSmall : (H : Type) → List (DataW H) → Bool := fun _ ds => decide (uptoBulkAll ds ≤ 1048576)
def OpenSpec.upto (s : _root_.Go.ChangeSpec) : _root_.Go.OpenSpec := { _root_.Go.OpenSpec.ofChange s with cond := some uptoSmall }

/-- 'caravellaw02.HeaderOthers', WHERE WHAT IT READS IS OF BULK AT MOST 1048576: true; the input reads as it did. -/
def headerOthersUptoRow : OpenClaim := { program := "ytcenionnedgadaadoor", sum := "b87fbb9b2b514c7521c7204337d65a83c179d85778abd5744e75ff59b6170f93", func := "caravel/caravellaw02.HeaderOthers", spec := "headerOthers", named := ["caravel/octet.widths"], apart := false, laid := [("caravel/octet.widths", laid_caravel_octet_widths)], narrowed := true }
def HeaderOthersUptoSaid : Prop := headerOthersUptoRow.holds Tryd.pinned (OpenSpec.upto headerOthersSpec)

/-- 'caravellaw02.HeaderSplits', WHERE WHAT IT READS IS OF BULK AT MOST 1048576: true; the input reads as it did. -/
def headerSplitsUptoRow : OpenClaim := { program := "ytcenionnedgadaadoor", sum := "b87fbb9b2b514c7521c7204337d65a83c179d85778abd5744e75ff59b6170f93", func := "caravel/caravellaw02.HeaderSplits", spec := "headerSplits", named := ["caravel/octet.widths"], apart := false, laid := [("caravel/octet.widths", laid_caravel_octet_widths)], narrowed := true }
def HeaderSplitsUptoSaid : Prop := headerSplitsUptoRow.holds Tryd.pinned (OpenSpec.upto headerSplitsSpec)

/-- 'caravellaw02.HeaderWhole', WHERE WHAT IT READS IS OF BULK AT MOST 1048576: true; the input reads as it did. -/
def headerWholeUptoRow : OpenClaim := { program := "ytcenionnedgadaadoor", sum := "b87fbb9b2b514c7521c7204337d65a83c179d85778abd5744e75ff59b6170f93", func := "caravel/caravellaw02.HeaderWhole", spec := "headerWhole", named := ["caravel/octet.widths"], apart := false, laid := [("caravel/octet.widths", laid_caravel_octet_widths)], narrowed := true }
def HeaderWholeUptoSaid : Prop := headerWholeUptoRow.holds Tryd.pinned (OpenSpec.upto headerWholeSpec)

/-- 'caravellaw02.HeaderPuts', WHERE WHAT IT READS IS OF BULK AT MOST 1048576: true; the input reads as it did. -/
def headerPutsUptoRow : OpenClaim := { program := "ytcenionnedgadaadoor", sum := "b87fbb9b2b514c7521c7204337d65a83c179d85778abd5744e75ff59b6170f93", func := "caravel/caravellaw02.HeaderPuts", spec := "headerPuts", unfollowed := true, recurses := true, named := ["caravel/octet.widths"], apart := false, laid := [("caravel/octet.widths", laid_caravel_octet_widths)], narrowed := true }
def HeaderPutsUptoSaid : Prop := headerPutsUptoRow.holds Tryd.pinned (OpenSpec.upto headerPutsSpec)

/-- 'caravellaw02.HeaderBack', WHERE WHAT IT READS IS OF BULK AT MOST 1048576: true; the input reads as it did. -/
def headerBackUptoRow : OpenClaim := { program := "ytcenionnedgadaadoor", sum := "b87fbb9b2b514c7521c7204337d65a83c179d85778abd5744e75ff59b6170f93", func := "caravel/caravellaw02.HeaderBack", spec := "headerBack", unfollowed := true, recurses := true, named := ["caravel/octet.widths"], apart := false, laid := [("caravel/octet.widths", laid_caravel_octet_widths)], narrowed := true }
def HeaderBackUptoSaid : Prop := headerBackUptoRow.holds Tryd.pinned (OpenSpec.upto headerBackSpec)

end Rows
end Go.Proofs.YtcenionnedgadaaDoor
