/-
  No cell of these rows narrows 'for every input' (looked for: loops, veiled, ifaces, maps, wideKeys, modest, calm, conditions, laid).
  DERIVED. THE GIVEN ROWS OF THIS SEAT. 4 by the template 'for every input the law returns true; each argument reads behind the call as it read before'; 0 by the template 'total and deterministic' (their statements: YtpjclkfeobhpaaaTotals.lean).
  GIVEN WITH THE SEED: the statements are not yours to turn. If you find one false, say at which input.
  Laid BY PROGRAM, IN A SANDBOX (cutbox-rows.mjs): the forced cells as the released guide's own fill.sh prints them over the translation c910a9e35d6bc609… (all of the seat's roots in one cut). By AI agents, Wed Nov 11 2026. No macro, syntax, notation, axiom, sorry.
-/
import Derived.Test.YtpjclkfeobhpaaaChecked
import GoSem.Claim
import GoSem.ClaimJoined
import GoSem.ClaimMapViews
import Derived.JoinedTies
import Derived.KernelRfl
namespace Go.Proofs.Ytpjclkfeobhpaaa
/- THE CELL 'sum', in the pinned program and in every row, IS THE sha256 OF THE DUMP (.gsa) THAT YtpjclkfeobhpaaaProg.lean LOADS. Nothing in Lean hashes anything: it is a label: what it is worth is what the hold of that sum in a sandbox is worth. -/
noncomputable def Try.pinned : Pinned := { name := "ytpjclkfeobhpaaa", sum := "c910a9e35d6bc609ad72826cae33b4ed7d1f556e9924db5ec4bc8557441b32f9", checked := Try.checked }
namespace Rows
def none {H : Type} : Left H := { results := [], args := [] }

/-- 'millpondlaw22.ModelLoses': WHATEVER THE INPUT: true; the input reads as it did. -/
def modelLosesSpec : ChangeSpec := { name := "modelLoses", fn := fun _ => fun
  | [d] => { results := [.lit (.bool true)], args := [d] }
  | _ => none }
def modelLosesRow : OpenClaim := { program := "ytpjclkfeobhpaaa", sum := "c910a9e35d6bc609ad72826cae33b4ed7d1f556e9924db5ec4bc8557441b32f9", func := "millpond/millpondlaw22.ModelLoses", spec := "modelLoses", unfollowed := true, recurses := true, plainKeys := false, apart := false }
def ModelLosesSaid : Prop := modelLosesRow.holds Try.pinned (OpenSpec.ofChange modelLosesSpec)

/-- ITS FALSE NEIGHBOUR: 'it returns false'. Refute it at one input. -/
def modelLosesWrong : ChangeSpec := { name := "modelLoses", fn := fun _ => fun
  | [d] => { results := [.lit (.bool false)], args := [d] }
  | _ => none }
def ModelLosesWrongFalsely : Prop := modelLosesRow.holds Try.pinned (OpenSpec.ofChange modelLosesWrong)

/-- 'millpondlaw22.ModelSame': WHATEVER THE INPUT: true; the input reads as it did. -/
def modelSameSpec : ChangeSpec := { name := "modelSame", fn := fun _ => fun
  | [d1, d2, d3] => { results := [.lit (.bool true)], args := [d1, d2, d3] }
  | _ => none }
def modelSameRow : OpenClaim := { program := "ytpjclkfeobhpaaa", sum := "c910a9e35d6bc609ad72826cae33b4ed7d1f556e9924db5ec4bc8557441b32f9", func := "millpond/millpondlaw22.ModelSame", spec := "modelSame", unfollowed := true, recurses := true, plainKeys := false, apart := false }
def ModelSameSaid : Prop := modelSameRow.holds Try.pinned (OpenSpec.ofChange modelSameSpec)

/-- ITS FALSE NEIGHBOUR: 'it returns false'. Refute it at one input. -/
def modelSameWrong : ChangeSpec := { name := "modelSame", fn := fun _ => fun
  | [d1, d2, d3] => { results := [.lit (.bool false)], args := [d1, d2, d3] }
  | _ => none }
def ModelSameWrongFalsely : Prop := modelSameRow.holds Try.pinned (OpenSpec.ofChange modelSameWrong)

/-- 'millpondlaw22.ModelSteps': WHATEVER THE INPUT: true; the input reads as it did. -/
def modelStepsSpec : ChangeSpec := { name := "modelSteps", fn := fun _ => fun
  | [d1, d2, d3] => { results := [.lit (.bool true)], args := [d1, d2, d3] }
  | _ => none }
def modelStepsRow : OpenClaim := { program := "ytpjclkfeobhpaaa", sum := "c910a9e35d6bc609ad72826cae33b4ed7d1f556e9924db5ec4bc8557441b32f9", func := "millpond/millpondlaw22.ModelSteps", spec := "modelSteps", unfollowed := true, recurses := true, plainKeys := false, apart := false }
def ModelStepsSaid : Prop := modelStepsRow.holds Try.pinned (OpenSpec.ofChange modelStepsSpec)

/-- ITS FALSE NEIGHBOUR: 'it returns false'. Refute it at one input. -/
def modelStepsWrong : ChangeSpec := { name := "modelSteps", fn := fun _ => fun
  | [d1, d2, d3] => { results := [.lit (.bool false)], args := [d1, d2, d3] }
  | _ => none }
def ModelStepsWrongFalsely : Prop := modelStepsRow.holds Try.pinned (OpenSpec.ofChange modelStepsWrong)

/-- 'millpondlaw22.ModelNil': WHATEVER THE INPUT: true; the input reads as it did. -/
def modelNilSpec : ChangeSpec := { name := "modelNil", fn := fun _ => fun
  | [] => { results := [.lit (.bool true)], args := [] }
  | _ => none }
def modelNilRow : OpenClaim := { program := "ytpjclkfeobhpaaa", sum := "c910a9e35d6bc609ad72826cae33b4ed7d1f556e9924db5ec4bc8557441b32f9", func := "millpond/millpondlaw22.ModelNil", spec := "modelNil", unfollowed := true, recurses := true, plainKeys := false, apart := false }
def ModelNilSaid : Prop := modelNilRow.holds Try.pinned (OpenSpec.ofChange modelNilSpec)

/-- ITS FALSE NEIGHBOUR: 'it returns false'. Refute it at one input. -/
def modelNilWrong : ChangeSpec := { name := "modelNil", fn := fun _ => fun
  | [] => { results := [.lit (.bool false)], args := [] }
  | _ => none }
def ModelNilWrongFalsely : Prop := modelNilRow.holds Try.pinned (OpenSpec.ofChange modelNilWrong)

/- THE SECOND FORM. 'bulk': how many values and letters a reading holds, each counted each time it is reached (what is shared counts as often as it is met; a slice's spare places count too). A statement '..UptoSaid' is the law's where the arguments, and the package variables that the reading takes, are together of bulk at most 1048576: NARROWER than '..Said'. Prove '..Said' where nothing that the law and all that it calls make is longer than what came in: it says more and counts as full. Else prove '..UptoSaid'. A law counts once. -/
mutual
def uptoBulk {H : Type} : DataW H → Nat
  | .lit (.string bytes) => bytes.length + 1
  | .lit _ => 1
  | .nil => 1
  | .ptr d => uptoBulk d + 1
  | .slice elems spare => uptoBulkAll elems + uptoBulkAll spare + 1
  | .agg parts => uptoBulkAll parts + 1
  | .iface _ d => uptoBulk d + 1
  | .map entries => uptoBulkEntries entries + 1
  | .held _ => 1
def uptoBulkAll {H : Type} : List (DataW H) → Nat
  | [] => 0
  | d :: r => uptoBulk d + uptoBulkAll r
def uptoBulkEntries {H : Type} : List (Lit × DataW H) → Nat
  | [] => 0
  | x :: r => uptoBulkEntry x + uptoBulkEntries r
def uptoBulkEntry {H : Type} : Lit × DataW H → Nat
  | (.string bytes, d) => bytes.length + uptoBulk d + 1
  | (_, d) => uptoBulk d + 1
 end
def uptoSmall : (H : Type) → List (DataW H) → Bool := fun _ ds => decide (uptoBulkAll ds ≤ 1048576)
def OpenSpec.upto (s : _root_.Go.ChangeSpec) : _root_.Go.OpenSpec := { _root_.Go.OpenSpec.ofChange s with cond := some uptoSmall }

/-- 'millpondlaw22.ModelLoses', WHERE WHAT IT READS IS OF BULK AT MOST 1048576: true; the input reads as it did. -/
def modelLosesUptoRow : OpenClaim := { program := "ytpjclkfeobhpaaa", sum := "c910a9e35d6bc609ad72826cae33b4ed7d1f556e9924db5ec4bc8557441b32f9", func := "millpond/millpondlaw22.ModelLoses", spec := "modelLoses", unfollowed := true, recurses := true, plainKeys := false, apart := false, narrowed := true }
def ModelLosesUptoSaid : Prop := modelLosesUptoRow.holds Try.pinned (OpenSpec.upto modelLosesSpec)

/-- 'millpondlaw22.ModelSame', WHERE WHAT IT READS IS OF BULK AT MOST 1048576: true; the input reads as it did. -/
def modelSameUptoRow : OpenClaim := { program := "ytpjclkfeobhpaaa", sum := "c910a9e35d6bc609ad72826cae33b4ed7d1f556e9924db5ec4bc8557441b32f9", func := "millpond/millpondlaw22.ModelSame", spec := "modelSame", unfollowed := true, recurses := true, plainKeys := false, apart := false, narrowed := true }
def ModelSameUptoSaid : Prop := modelSameUptoRow.holds Try.pinned (OpenSpec.upto modelSameSpec)

/-- 'millpondlaw22.ModelSteps', WHERE WHAT IT READS IS OF BULK AT MOST 1048576: true; the input reads as it did. -/
def modelStepsUptoRow : OpenClaim := { program := "ytpjclkfeobhpaaa", sum := "c910a9e35d6bc609ad72826cae33b4ed7d1f556e9924db5ec4bc8557441b32f9", func := "millpond/millpondlaw22.ModelSteps", spec := "modelSteps", unfollowed := true, recurses := true, plainKeys := false, apart := false, narrowed := true }
def ModelStepsUptoSaid : Prop := modelStepsUptoRow.holds Try.pinned (OpenSpec.upto modelStepsSpec)

/-- 'millpondlaw22.ModelNil', WHERE WHAT IT READS IS OF BULK AT MOST 1048576: true; the input reads as it did. -/
def modelNilUptoRow : OpenClaim := { program := "ytpjclkfeobhpaaa", sum := "c910a9e35d6bc609ad72826cae33b4ed7d1f556e9924db5ec4bc8557441b32f9", func := "millpond/millpondlaw22.ModelNil", spec := "modelNil", unfollowed := true, recurses := true, plainKeys := false, apart := false, narrowed := true }
def ModelNilUptoSaid : Prop := modelNilUptoRow.holds Try.pinned (OpenSpec.upto modelNilSpec)

end Rows
end Go.Proofs.Ytpjclkfeobhpaaa
