/-
  No cell of these rows narrows 'for every input' (looked for: loops, veiled, ifaces, maps, wideKeys, modest, calm, conditions, laid).
  DERIVED. THE GIVEN ROWS OF THIS SEAT. 5 by the template 'for every input the law returns true; each argument reads behind the call as it read before'; 0 by the template 'total and deterministic' (their statements: YtmaijpjjopechaaTotals.lean).
  GIVEN WITH THE SEED: the statements are not yours to turn. If you find one false, say at which input.
  Laid BY PROGRAM, IN A SANDBOX (cutbox-rows.mjs): the forced cells as the released guide's own fill.sh prints them over the translation 79525fbf70d54734… (all of the seat's roots in one cut). By AI agents, Wed Nov 11 2026. No macro, syntax, notation, axiom, sorry.
-/
import Derived.Test.YtmaijpjjopechaaChecked
import GoSem.Claim
import GoSem.ClaimJoined
import GoSem.ClaimMapViews
import Derived.JoinedTies
import Derived.KernelRfl
namespace Go.Proofs.Ytmaijpjjopechaa
/- THE CELL 'sum', in the pinned program and in every row, IS THE sha256 OF THE DUMP (.gsa) THAT YtmaijpjjopechaaProg.lean LOADS. Nothing in Lean hashes anything: it is a label: what it is worth is what the hold of that sum in a sandbox is worth. -/
noncomputable def Try.pinned : Pinned := { name := "ytmaijpjjopechaa", sum := "79525fbf70d54734a34d5124b735a0a86121165ae0095e97ac65dc7c5158cc0e", checked := Try.checked }
namespace Rows
def none {H : Type} : Left H := { results := [], args := [] }

/-- 'millpondlaw02.DeviceOf': WHATEVER THE INPUT: true; the input reads as it did. -/
def deviceOfSpec : ChangeSpec := { name := "deviceOf", fn := fun _ => fun
  | [d1, d2] => { results := [.lit (.bool true)], args := [d1, d2] }
  | _ => none }
def deviceOfRow : OpenClaim := { program := "ytmaijpjjopechaa", sum := "79525fbf70d54734a34d5124b735a0a86121165ae0095e97ac65dc7c5158cc0e", func := "millpond/millpondlaw02.DeviceOf", spec := "deviceOf", unfollowed := true, recurses := true, apart := false }
def DeviceOfSaid : Prop := deviceOfRow.holds Try.pinned (OpenSpec.ofChange deviceOfSpec)

/-- ITS FALSE NEIGHBOUR: 'it returns false'. Refute it at one input. -/
def deviceOfWrong : ChangeSpec := { name := "deviceOf", fn := fun _ => fun
  | [d1, d2] => { results := [.lit (.bool false)], args := [d1, d2] }
  | _ => none }
def DeviceOfWrongFalsely : Prop := deviceOfRow.holds Try.pinned (OpenSpec.ofChange deviceOfWrong)

/-- 'millpondlaw02.DeviceSame': WHATEVER THE INPUT: true; the input reads as it did. -/
def deviceSameSpec : ChangeSpec := { name := "deviceSame", fn := fun _ => fun
  | [d1, d2, d3] => { results := [.lit (.bool true)], args := [d1, d2, d3] }
  | _ => none }
def deviceSameRow : OpenClaim := { program := "ytmaijpjjopechaa", sum := "79525fbf70d54734a34d5124b735a0a86121165ae0095e97ac65dc7c5158cc0e", func := "millpond/millpondlaw02.DeviceSame", spec := "deviceSame", unfollowed := true, recurses := true, apart := false }
def DeviceSameSaid : Prop := deviceSameRow.holds Try.pinned (OpenSpec.ofChange deviceSameSpec)

/-- ITS FALSE NEIGHBOUR: 'it returns false'. Refute it at one input. -/
def deviceSameWrong : ChangeSpec := { name := "deviceSame", fn := fun _ => fun
  | [d1, d2, d3] => { results := [.lit (.bool false)], args := [d1, d2, d3] }
  | _ => none }
def DeviceSameWrongFalsely : Prop := deviceSameRow.holds Try.pinned (OpenSpec.ofChange deviceSameWrong)

/-- 'millpondlaw02.DeviceCut': WHATEVER THE INPUT: true; the input reads as it did. -/
def deviceCutSpec : ChangeSpec := { name := "deviceCut", fn := fun _ => fun
  | [d1, d2, d3] => { results := [.lit (.bool true)], args := [d1, d2, d3] }
  | _ => none }
def deviceCutRow : OpenClaim := { program := "ytmaijpjjopechaa", sum := "79525fbf70d54734a34d5124b735a0a86121165ae0095e97ac65dc7c5158cc0e", func := "millpond/millpondlaw02.DeviceCut", spec := "deviceCut", unfollowed := true, recurses := true, apart := false }
def DeviceCutSaid : Prop := deviceCutRow.holds Try.pinned (OpenSpec.ofChange deviceCutSpec)

/-- ITS FALSE NEIGHBOUR: 'it returns false'. Refute it at one input. -/
def deviceCutWrong : ChangeSpec := { name := "deviceCut", fn := fun _ => fun
  | [d1, d2, d3] => { results := [.lit (.bool false)], args := [d1, d2, d3] }
  | _ => none }
def DeviceCutWrongFalsely : Prop := deviceCutRow.holds Try.pinned (OpenSpec.ofChange deviceCutWrong)

/-- 'millpondlaw02.DeviceSteps': WHATEVER THE INPUT: true; the input reads as it did. -/
def deviceStepsSpec : ChangeSpec := { name := "deviceSteps", fn := fun _ => fun
  | [d1, d2, d3] => { results := [.lit (.bool true)], args := [d1, d2, d3] }
  | _ => none }
def deviceStepsRow : OpenClaim := { program := "ytmaijpjjopechaa", sum := "79525fbf70d54734a34d5124b735a0a86121165ae0095e97ac65dc7c5158cc0e", func := "millpond/millpondlaw02.DeviceSteps", spec := "deviceSteps", unfollowed := true, recurses := true, apart := false }
def DeviceStepsSaid : Prop := deviceStepsRow.holds Try.pinned (OpenSpec.ofChange deviceStepsSpec)

/-- ITS FALSE NEIGHBOUR: 'it returns false'. Refute it at one input. -/
def deviceStepsWrong : ChangeSpec := { name := "deviceSteps", fn := fun _ => fun
  | [d1, d2, d3] => { results := [.lit (.bool false)], args := [d1, d2, d3] }
  | _ => none }
def DeviceStepsWrongFalsely : Prop := deviceStepsRow.holds Try.pinned (OpenSpec.ofChange deviceStepsWrong)

/-- 'millpondlaw02.DeviceNil': WHATEVER THE INPUT: true; the input reads as it did. -/
def deviceNilSpec : ChangeSpec := { name := "deviceNil", fn := fun _ => fun
  | [] => { results := [.lit (.bool true)], args := [] }
  | _ => none }
def deviceNilRow : OpenClaim := { program := "ytmaijpjjopechaa", sum := "79525fbf70d54734a34d5124b735a0a86121165ae0095e97ac65dc7c5158cc0e", func := "millpond/millpondlaw02.DeviceNil", spec := "deviceNil", unfollowed := true, recurses := true, apart := false }
def DeviceNilSaid : Prop := deviceNilRow.holds Try.pinned (OpenSpec.ofChange deviceNilSpec)

/-- ITS FALSE NEIGHBOUR: 'it returns false'. Refute it at one input. -/
def deviceNilWrong : ChangeSpec := { name := "deviceNil", fn := fun _ => fun
  | [] => { results := [.lit (.bool false)], args := [] }
  | _ => none }
def DeviceNilWrongFalsely : Prop := deviceNilRow.holds Try.pinned (OpenSpec.ofChange deviceNilWrong)

/- THE SECOND FORM. 'bulk': how many values and letters a reading holds, each counted each time it is reached (what is shared counts as often as it is met; a slice's spare places count too). A statement '..UptoSaid' is the law's where the arguments, and the package variables that the reading takes, are together of bulk at most 1048576: NARROWER than '..Said'. Prove '..Said' where nothing that the law and all that it calls make is longer than what came in: it says more and counts as full. Else prove '..UptoSaid'. A law counts once. -/
mutual
def uptoBulk {H : Type} : DataW H → Nat
  | .lit (.string bytes) => bytes.length + 1
  | .lit _ => 1
  | .nil => 1
  | .ptr d => uptoBulk d + 1
  | .slice elems spare => uptoBulkAll elems + uptoBulkAll spare + 1
  | .agg parts => uptoBulkAll parts + 1
  | .iface _ d => uptoBulk d + 1
  | .map entries => uptoBulkEntries entries + 1
  | .held _ => 1
def uptoBulkAll {H : Type} : List (DataW H) → Nat
  | [] => 0
  | d :: r => uptoBulk d + uptoBulkAll r
def uptoBulkEntries {H : Type} : List (Lit × DataW H) → Nat
  | [] => 0
  | x :: r => uptoBulkEntry x + uptoBulkEntries r
def uptoBulkEntry {H : Type} : Lit × DataW H → Nat
  | (.string bytes, d) => bytes.length + uptoBulk d + 1
  | (_, d) => uptoBulk d + 1
 end
def uptoSmall : (H : Type) → List (DataW H) → Bool := fun _ ds => decide (uptoBulkAll ds ≤ 1048576)
def OpenSpec.upto (s : _root_.Go.ChangeSpec) : _root_.Go.OpenSpec := { _root_.Go.OpenSpec.ofChange s with cond := some uptoSmall }

/-- 'millpondlaw02.DeviceOf', WHERE WHAT IT READS IS OF BULK AT MOST 1048576: true; the input reads as it did. -/
def deviceOfUptoRow : OpenClaim := { program := "ytmaijpjjopechaa", sum := "79525fbf70d54734a34d5124b735a0a86121165ae0095e97ac65dc7c5158cc0e", func := "millpond/millpondlaw02.DeviceOf", spec := "deviceOf", unfollowed := true, recurses := true, apart := false, narrowed := true }
def DeviceOfUptoSaid : Prop := deviceOfUptoRow.holds Try.pinned (OpenSpec.upto deviceOfSpec)

/-- 'millpondlaw02.DeviceSame', WHERE WHAT IT READS IS OF BULK AT MOST 1048576: true; the input reads as it did. -/
def deviceSameUptoRow : OpenClaim := { program := "ytmaijpjjopechaa", sum := "79525fbf70d54734a34d5124b735a0a86121165ae0095e97ac65dc7c5158cc0e", func := "millpond/millpondlaw02.DeviceSame", spec := "deviceSame", unfollowed := true, recurses := true, apart := false, narrowed := true }
def DeviceSameUptoSaid : Prop := deviceSameUptoRow.holds Try.pinned (OpenSpec.upto deviceSameSpec)

/-- 'millpondlaw02.DeviceCut', WHERE WHAT IT READS IS OF BULK AT MOST 1048576: true; the input reads as it did. -/
def deviceCutUptoRow : OpenClaim := { program := "ytmaijpjjopechaa", sum := "79525fbf70d54734a34d5124b735a0a86121165ae0095e97ac65dc7c5158cc0e", func := "millpond/millpondlaw02.DeviceCut", spec := "deviceCut", unfollowed := true, recurses := true, apart := false, narrowed := true }
def DeviceCutUptoSaid : Prop := deviceCutUptoRow.holds Try.pinned (OpenSpec.upto deviceCutSpec)

/-- 'millpondlaw02.DeviceSteps', WHERE WHAT IT READS IS OF BULK AT MOST 1048576: true; the input reads as it did. -/
def deviceStepsUptoRow : OpenClaim := { program := "ytmaijpjjopechaa", sum := "79525fbf70d54734a34d5124b735a0a86121165ae0095e97ac65dc7c5158cc0e", func := "millpond/millpondlaw02.DeviceSteps", spec := "deviceSteps", unfollowed := true, recurses := true, apart := false, narrowed := true }
def DeviceStepsUptoSaid : Prop := deviceStepsUptoRow.holds Try.pinned (OpenSpec.upto deviceStepsSpec)

/-- 'millpondlaw02.DeviceNil', WHERE WHAT IT READS IS OF BULK AT MOST 1048576: true; the input reads as it did. -/
def deviceNilUptoRow : OpenClaim := { program := "ytmaijpjjopechaa", sum := "79525fbf70d54734a34d5124b735a0a86121165ae0095e97ac65dc7c5158cc0e", func := "millpond/millpondlaw02.DeviceNil", spec := "deviceNil", unfollowed := true, recurses := true, apart := false, narrowed := true }
def DeviceNilUptoSaid : Prop := deviceNilUptoRow.holds Try.pinned (OpenSpec.upto deviceNilSpec)

end Rows
end Go.Proofs.Ytmaijpjjopechaa
