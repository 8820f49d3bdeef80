/-
  No cell of these rows narrows 'for every input' (looked for: loops, veiled, ifaces, maps, wideKeys, modest, calm, conditions, laid).
  DERIVED. THE GIVEN ROWS OF THIS SEAT. 5 by the template 'for every input the law returns true; each argument reads behind the call as it read before'; 0 by the template 'total and deterministic' (their statements: YtojiebcpmkjblaaTotals.lean).
  GIVEN WITH THE SEED: the statements are not yours to turn. If you find one false, say at which input.
  Laid BY PROGRAM, IN A SANDBOX (cutbox-rows.mjs): the forced cells as the released guide's own fill.sh prints them over the translation ec588ab74da2e337… (all of the seat's roots in one cut). By AI agents, Wed Nov 11 2026. No macro, syntax, notation, axiom, sorry.
-/
import Derived.Test.YtojiebcpmkjblaaChecked
import GoSem.Claim
import GoSem.ClaimJoined
import GoSem.ClaimMapViews
import Derived.JoinedTies
import Derived.KernelRfl
namespace Go.Proofs.Ytojiebcpmkjblaa
/- THE CELL 'sum', in the pinned program and in every row, IS THE sha256 OF THE DUMP (.gsa) THAT YtojiebcpmkjblaaProg.lean LOADS. Nothing in Lean hashes anything: it is a label: what it is worth is what the hold of that sum in a sandbox is worth. -/
noncomputable def Try.pinned : Pinned := { name := "ytojiebcpmkjblaa", sum := "ec588ab74da2e3374a727247afae835d74ba2340a34398d073964962795ac9e2", checked := Try.checked }
namespace Rows
def none {H : Type} : Left H := { results := [], args := [] }

/-- 'millpondlaw09.ViewPuts': WHATEVER THE INPUT: true; the input reads as it did. -/
def viewPutsSpec : ChangeSpec := { name := "viewPuts", fn := fun _ => fun
  | [d1, d2] => { results := [.lit (.bool true)], args := [d1, d2] }
  | _ => none }
def viewPutsRow : OpenClaim := { program := "ytojiebcpmkjblaa", sum := "ec588ab74da2e3374a727247afae835d74ba2340a34398d073964962795ac9e2", func := "millpond/millpondlaw09.ViewPuts", spec := "viewPuts", unfollowed := true, recurses := true, apart := false }
def ViewPutsSaid : Prop := viewPutsRow.holds Try.pinned (OpenSpec.ofChange viewPutsSpec)

/-- ITS FALSE NEIGHBOUR: 'it returns false'. Refute it at one input. -/
def viewPutsWrong : ChangeSpec := { name := "viewPuts", fn := fun _ => fun
  | [d1, d2] => { results := [.lit (.bool false)], args := [d1, d2] }
  | _ => none }
def ViewPutsWrongFalsely : Prop := viewPutsRow.holds Try.pinned (OpenSpec.ofChange viewPutsWrong)

/-- 'millpondlaw09.ViewLooks': WHATEVER THE INPUT: true; the input reads as it did. -/
def viewLooksSpec : ChangeSpec := { name := "viewLooks", fn := fun _ => fun
  | [d1, d2, d3] => { results := [.lit (.bool true)], args := [d1, d2, d3] }
  | _ => none }
def viewLooksRow : OpenClaim := { program := "ytojiebcpmkjblaa", sum := "ec588ab74da2e3374a727247afae835d74ba2340a34398d073964962795ac9e2", func := "millpond/millpondlaw09.ViewLooks", spec := "viewLooks", unfollowed := true, recurses := true, apart := false }
def ViewLooksSaid : Prop := viewLooksRow.holds Try.pinned (OpenSpec.ofChange viewLooksSpec)

/-- ITS FALSE NEIGHBOUR: 'it returns false'. Refute it at one input. -/
def viewLooksWrong : ChangeSpec := { name := "viewLooks", fn := fun _ => fun
  | [d1, d2, d3] => { results := [.lit (.bool false)], args := [d1, d2, d3] }
  | _ => none }
def ViewLooksWrongFalsely : Prop := viewLooksRow.holds Try.pinned (OpenSpec.ofChange viewLooksWrong)

/-- 'millpondlaw09.ViewMasters': WHATEVER THE INPUT: true; the input reads as it did. -/
def viewMastersSpec : ChangeSpec := { name := "viewMasters", fn := fun _ => fun
  | [d1, d2] => { results := [.lit (.bool true)], args := [d1, d2] }
  | _ => none }
def viewMastersRow : OpenClaim := { program := "ytojiebcpmkjblaa", sum := "ec588ab74da2e3374a727247afae835d74ba2340a34398d073964962795ac9e2", func := "millpond/millpondlaw09.ViewMasters", spec := "viewMasters", unfollowed := true, recurses := true, apart := false }
def ViewMastersSaid : Prop := viewMastersRow.holds Try.pinned (OpenSpec.ofChange viewMastersSpec)

/-- ITS FALSE NEIGHBOUR: 'it returns false'. Refute it at one input. -/
def viewMastersWrong : ChangeSpec := { name := "viewMasters", fn := fun _ => fun
  | [d1, d2] => { results := [.lit (.bool false)], args := [d1, d2] }
  | _ => none }
def ViewMastersWrongFalsely : Prop := viewMastersRow.holds Try.pinned (OpenSpec.ofChange viewMastersWrong)

/-- 'millpondlaw09.ViewNext': WHATEVER THE INPUT: true; the input reads as it did. -/
def viewNextSpec : ChangeSpec := { name := "viewNext", fn := fun _ => fun
  | [d1, d2] => { results := [.lit (.bool true)], args := [d1, d2] }
  | _ => none }
def viewNextRow : OpenClaim := { program := "ytojiebcpmkjblaa", sum := "ec588ab74da2e3374a727247afae835d74ba2340a34398d073964962795ac9e2", func := "millpond/millpondlaw09.ViewNext", spec := "viewNext", unfollowed := true, recurses := true, apart := false }
def ViewNextSaid : Prop := viewNextRow.holds Try.pinned (OpenSpec.ofChange viewNextSpec)

/-- ITS FALSE NEIGHBOUR: 'it returns false'. Refute it at one input. -/
def viewNextWrong : ChangeSpec := { name := "viewNext", fn := fun _ => fun
  | [d1, d2] => { results := [.lit (.bool false)], args := [d1, d2] }
  | _ => none }
def ViewNextWrongFalsely : Prop := viewNextRow.holds Try.pinned (OpenSpec.ofChange viewNextWrong)

/-- 'millpondlaw09.ViewBounds': WHATEVER THE INPUT: true; the input reads as it did. -/
def viewBoundsSpec : ChangeSpec := { name := "viewBounds", fn := fun _ => fun
  | [] => { results := [.lit (.bool true)], args := [] }
  | _ => none }
def viewBoundsRow : OpenClaim := { program := "ytojiebcpmkjblaa", sum := "ec588ab74da2e3374a727247afae835d74ba2340a34398d073964962795ac9e2", func := "millpond/millpondlaw09.ViewBounds", spec := "viewBounds", unfollowed := true, recurses := true, apart := false }
def ViewBoundsSaid : Prop := viewBoundsRow.holds Try.pinned (OpenSpec.ofChange viewBoundsSpec)

/-- ITS FALSE NEIGHBOUR: 'it returns false'. Refute it at one input. -/
def viewBoundsWrong : ChangeSpec := { name := "viewBounds", fn := fun _ => fun
  | [] => { results := [.lit (.bool false)], args := [] }
  | _ => none }
def ViewBoundsWrongFalsely : Prop := viewBoundsRow.holds Try.pinned (OpenSpec.ofChange viewBoundsWrong)

/- THE SECOND FORM. 'bulk': how many values and letters a reading holds, each counted each time it is reached (what is shared counts as often as it is met; a slice's spare places count too). A statement '..UptoSaid' is the law's where the arguments, and the package variables that the reading takes, are together of bulk at most 1048576: NARROWER than '..Said'. Prove '..Said' where nothing that the law and all that it calls make is longer than what came in: it says more and counts as full. Else prove '..UptoSaid'. A law counts once. -/
mutual
def uptoBulk {H : Type} : DataW H → Nat
  | .lit (.string bytes) => bytes.length + 1
  | .lit _ => 1
  | .nil => 1
  | .ptr d => uptoBulk d + 1
  | .slice elems spare => uptoBulkAll elems + uptoBulkAll spare + 1
  | .agg parts => uptoBulkAll parts + 1
  | .iface _ d => uptoBulk d + 1
  | .map entries => uptoBulkEntries entries + 1
  | .held _ => 1
def uptoBulkAll {H : Type} : List (DataW H) → Nat
  | [] => 0
  | d :: r => uptoBulk d + uptoBulkAll r
def uptoBulkEntries {H : Type} : List (Lit × DataW H) → Nat
  | [] => 0
  | x :: r => uptoBulkEntry x + uptoBulkEntries r
def uptoBulkEntry {H : Type} : Lit × DataW H → Nat
  | (.string bytes, d) => bytes.length + uptoBulk d + 1
  | (_, d) => uptoBulk d + 1
 end
def uptoSmall : (H : Type) → List (DataW H) → Bool := fun _ ds => decide (uptoBulkAll ds ≤ 1048576)
def OpenSpec.upto (s : _root_.Go.ChangeSpec) : _root_.Go.OpenSpec := { _root_.Go.OpenSpec.ofChange s with cond := some uptoSmall }

/-- 'millpondlaw09.ViewPuts', WHERE WHAT IT READS IS OF BULK AT MOST 1048576: true; the input reads as it did. -/
def viewPutsUptoRow : OpenClaim := { program := "ytojiebcpmkjblaa", sum := "ec588ab74da2e3374a727247afae835d74ba2340a34398d073964962795ac9e2", func := "millpond/millpondlaw09.ViewPuts", spec := "viewPuts", unfollowed := true, recurses := true, apart := false, narrowed := true }
def ViewPutsUptoSaid : Prop := viewPutsUptoRow.holds Try.pinned (OpenSpec.upto viewPutsSpec)

/-- 'millpondlaw09.ViewLooks', WHERE WHAT IT READS IS OF BULK AT MOST 1048576: true; the input reads as it did. -/
def viewLooksUptoRow : OpenClaim := { program := "ytojiebcpmkjblaa", sum := "ec588ab74da2e3374a727247afae835d74ba2340a34398d073964962795ac9e2", func := "millpond/millpondlaw09.ViewLooks", spec := "viewLooks", unfollowed := true, recurses := true, apart := false, narrowed := true }
def ViewLooksUptoSaid : Prop := viewLooksUptoRow.holds Try.pinned (OpenSpec.upto viewLooksSpec)

/-- 'millpondlaw09.ViewMasters', WHERE WHAT IT READS IS OF BULK AT MOST 1048576: true; the input reads as it did. -/
def viewMastersUptoRow : OpenClaim := { program := "ytojiebcpmkjblaa", sum := "ec588ab74da2e3374a727247afae835d74ba2340a34398d073964962795ac9e2", func := "millpond/millpondlaw09.ViewMasters", spec := "viewMasters", unfollowed := true, recurses := true, apart := false, narrowed := true }
def ViewMastersUptoSaid : Prop := viewMastersUptoRow.holds Try.pinned (OpenSpec.upto viewMastersSpec)

/-- 'millpondlaw09.ViewNext', WHERE WHAT IT READS IS OF BULK AT MOST 1048576: true; the input reads as it did. -/
def viewNextUptoRow : OpenClaim := { program := "ytojiebcpmkjblaa", sum := "ec588ab74da2e3374a727247afae835d74ba2340a34398d073964962795ac9e2", func := "millpond/millpondlaw09.ViewNext", spec := "viewNext", unfollowed := true, recurses := true, apart := false, narrowed := true }
def ViewNextUptoSaid : Prop := viewNextUptoRow.holds Try.pinned (OpenSpec.upto viewNextSpec)

/-- 'millpondlaw09.ViewBounds', WHERE WHAT IT READS IS OF BULK AT MOST 1048576: true; the input reads as it did. -/
def viewBoundsUptoRow : OpenClaim := { program := "ytojiebcpmkjblaa", sum := "ec588ab74da2e3374a727247afae835d74ba2340a34398d073964962795ac9e2", func := "millpond/millpondlaw09.ViewBounds", spec := "viewBounds", unfollowed := true, recurses := true, apart := false, narrowed := true }
def ViewBoundsUptoSaid : Prop := viewBoundsUptoRow.holds Try.pinned (OpenSpec.upto viewBoundsSpec)

end Rows
end Go.Proofs.Ytojiebcpmkjblaa
