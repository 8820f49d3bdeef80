/-
  No cell of these rows narrows 'for every input' (looked for: loops, veiled, ifaces, maps, wideKeys, modest, calm, conditions, laid).
  DERIVED. THE GIVEN ROWS OF THIS SEAT. 4 by the template 'for every input the law returns true; each argument reads behind the call as it read before'; 0 by the template 'total and deterministic' (their statements: YtifbkofianklaaaTotals.lean).
  GIVEN WITH THE SEED: the statements are not yours to turn. If you find one false, say at which input.
  Laid BY PROGRAM, IN A SANDBOX (cutbox-rows.mjs): the forced cells as the released guide's own fill.sh prints them over the translation c124ddbe4685cb55… (all of the seat's roots in one cut). By AI agents, Wed Nov 11 2026. No macro, syntax, notation, axiom, sorry.
-/
import Derived.Test.YtifbkofianklaaaChecked
import GoSem.Claim
import GoSem.ClaimJoined
import GoSem.ClaimMapViews
import Derived.JoinedTies
import Derived.KernelRfl
namespace Go.Proofs.Ytifbkofianklaaa
/- THE CELL 'sum', in the pinned program and in every row, IS THE sha256 OF THE DUMP (.gsa) THAT YtifbkofianklaaaProg.lean LOADS. Nothing in Lean hashes anything: it is a label: what it is worth is what the hold of that sum in a sandbox is worth. -/
noncomputable def Try.pinned : Pinned := { name := "ytifbkofianklaaa", sum := "c124ddbe4685cb55a5a698d30b3854079b113486b8ae4c5dc25f83db6ac89a33", checked := Try.checked }
namespace Rows
def none {H : Type} : Left H := { results := [], args := [] }

/-- 'millpondlaw08.SessionOrder': WHATEVER THE INPUT: true; the input reads as it did. -/
def sessionOrderSpec : ChangeSpec := { name := "sessionOrder", fn := fun _ => fun
  | [d1, d2] => { results := [.lit (.bool true)], args := [d1, d2] }
  | _ => none }
def sessionOrderRow : OpenClaim := { program := "ytifbkofianklaaa", sum := "c124ddbe4685cb55a5a698d30b3854079b113486b8ae4c5dc25f83db6ac89a33", func := "millpond/millpondlaw08.SessionOrder", spec := "sessionOrder", unfollowed := true, recurses := true, apart := false }
def SessionOrderSaid : Prop := sessionOrderRow.holds Try.pinned (OpenSpec.ofChange sessionOrderSpec)

/-- ITS FALSE NEIGHBOUR: 'it returns false'. Refute it at one input. -/
def sessionOrderWrong : ChangeSpec := { name := "sessionOrder", fn := fun _ => fun
  | [d1, d2] => { results := [.lit (.bool false)], args := [d1, d2] }
  | _ => none }
def SessionOrderWrongFalsely : Prop := sessionOrderRow.holds Try.pinned (OpenSpec.ofChange sessionOrderWrong)

/-- 'millpondlaw08.SessionLost': WHATEVER THE INPUT: true; the input reads as it did. -/
def sessionLostSpec : ChangeSpec := { name := "sessionLost", fn := fun _ => fun
  | [d1, d2] => { results := [.lit (.bool true)], args := [d1, d2] }
  | _ => none }
def sessionLostRow : OpenClaim := { program := "ytifbkofianklaaa", sum := "c124ddbe4685cb55a5a698d30b3854079b113486b8ae4c5dc25f83db6ac89a33", func := "millpond/millpondlaw08.SessionLost", spec := "sessionLost", unfollowed := true, recurses := true, apart := false }
def SessionLostSaid : Prop := sessionLostRow.holds Try.pinned (OpenSpec.ofChange sessionLostSpec)

/-- ITS FALSE NEIGHBOUR: 'it returns false'. Refute it at one input. -/
def sessionLostWrong : ChangeSpec := { name := "sessionLost", fn := fun _ => fun
  | [d1, d2] => { results := [.lit (.bool false)], args := [d1, d2] }
  | _ => none }
def SessionLostWrongFalsely : Prop := sessionLostRow.holds Try.pinned (OpenSpec.ofChange sessionLostWrong)

/-- 'millpondlaw08.SessionTwice': WHATEVER THE INPUT: true; the input reads as it did. -/
def sessionTwiceSpec : ChangeSpec := { name := "sessionTwice", fn := fun _ => fun
  | [d1, d2] => { results := [.lit (.bool true)], args := [d1, d2] }
  | _ => none }
def sessionTwiceRow : OpenClaim := { program := "ytifbkofianklaaa", sum := "c124ddbe4685cb55a5a698d30b3854079b113486b8ae4c5dc25f83db6ac89a33", func := "millpond/millpondlaw08.SessionTwice", spec := "sessionTwice", unfollowed := true, recurses := true, apart := false }
def SessionTwiceSaid : Prop := sessionTwiceRow.holds Try.pinned (OpenSpec.ofChange sessionTwiceSpec)

/-- ITS FALSE NEIGHBOUR: 'it returns false'. Refute it at one input. -/
def sessionTwiceWrong : ChangeSpec := { name := "sessionTwice", fn := fun _ => fun
  | [d1, d2] => { results := [.lit (.bool false)], args := [d1, d2] }
  | _ => none }
def SessionTwiceWrongFalsely : Prop := sessionTwiceRow.holds Try.pinned (OpenSpec.ofChange sessionTwiceWrong)

/-- 'millpondlaw08.SessionNil': WHATEVER THE INPUT: true; the input reads as it did. -/
def sessionNilSpec : ChangeSpec := { name := "sessionNil", fn := fun _ => fun
  | [] => { results := [.lit (.bool true)], args := [] }
  | _ => none }
def sessionNilRow : OpenClaim := { program := "ytifbkofianklaaa", sum := "c124ddbe4685cb55a5a698d30b3854079b113486b8ae4c5dc25f83db6ac89a33", func := "millpond/millpondlaw08.SessionNil", spec := "sessionNil", unfollowed := true, recurses := true, apart := false }
def SessionNilSaid : Prop := sessionNilRow.holds Try.pinned (OpenSpec.ofChange sessionNilSpec)

/-- ITS FALSE NEIGHBOUR: 'it returns false'. Refute it at one input. -/
def sessionNilWrong : ChangeSpec := { name := "sessionNil", fn := fun _ => fun
  | [] => { results := [.lit (.bool false)], args := [] }
  | _ => none }
def SessionNilWrongFalsely : Prop := sessionNilRow.holds Try.pinned (OpenSpec.ofChange sessionNilWrong)

/- THE SECOND FORM. 'bulk': how many values and letters a reading holds, each counted each time it is reached (what is shared counts as often as it is met; a slice's spare places count too). A statement '..UptoSaid' is the law's where the arguments, and the package variables that the reading takes, are together of bulk at most 1048576: NARROWER than '..Said'. Prove '..Said' where nothing that the law and all that it calls make is longer than what came in: it says more and counts as full. Else prove '..UptoSaid'. A law counts once. -/
mutual
def uptoBulk {H : Type} : DataW H → Nat
  | .lit (.string bytes) => bytes.length + 1
  | .lit _ => 1
  | .nil => 1
  | .ptr d => uptoBulk d + 1
  | .slice elems spare => uptoBulkAll elems + uptoBulkAll spare + 1
  | .agg parts => uptoBulkAll parts + 1
  | .iface _ d => uptoBulk d + 1
  | .map entries => uptoBulkEntries entries + 1
  | .held _ => 1
def uptoBulkAll {H : Type} : List (DataW H) → Nat
  | [] => 0
  | d :: r => uptoBulk d + uptoBulkAll r
def uptoBulkEntries {H : Type} : List (Lit × DataW H) → Nat
  | [] => 0
  | x :: r => uptoBulkEntry x + uptoBulkEntries r
def uptoBulkEntry {H : Type} : Lit × DataW H → Nat
  | (.string bytes, d) => bytes.length + uptoBulk d + 1
  | (_, d) => uptoBulk d + 1
 end
def uptoSmall : (H : Type) → List (DataW H) → Bool := fun _ ds => decide (uptoBulkAll ds ≤ 1048576)
def OpenSpec.upto (s : _root_.Go.ChangeSpec) : _root_.Go.OpenSpec := { _root_.Go.OpenSpec.ofChange s with cond := some uptoSmall }

/-- 'millpondlaw08.SessionOrder', WHERE WHAT IT READS IS OF BULK AT MOST 1048576: true; the input reads as it did. -/
def sessionOrderUptoRow : OpenClaim := { program := "ytifbkofianklaaa", sum := "c124ddbe4685cb55a5a698d30b3854079b113486b8ae4c5dc25f83db6ac89a33", func := "millpond/millpondlaw08.SessionOrder", spec := "sessionOrder", unfollowed := true, recurses := true, apart := false, narrowed := true }
def SessionOrderUptoSaid : Prop := sessionOrderUptoRow.holds Try.pinned (OpenSpec.upto sessionOrderSpec)

/-- 'millpondlaw08.SessionLost', WHERE WHAT IT READS IS OF BULK AT MOST 1048576: true; the input reads as it did. -/
def sessionLostUptoRow : OpenClaim := { program := "ytifbkofianklaaa", sum := "c124ddbe4685cb55a5a698d30b3854079b113486b8ae4c5dc25f83db6ac89a33", func := "millpond/millpondlaw08.SessionLost", spec := "sessionLost", unfollowed := true, recurses := true, apart := false, narrowed := true }
def SessionLostUptoSaid : Prop := sessionLostUptoRow.holds Try.pinned (OpenSpec.upto sessionLostSpec)

/-- 'millpondlaw08.SessionTwice', WHERE WHAT IT READS IS OF BULK AT MOST 1048576: true; the input reads as it did. -/
def sessionTwiceUptoRow : OpenClaim := { program := "ytifbkofianklaaa", sum := "c124ddbe4685cb55a5a698d30b3854079b113486b8ae4c5dc25f83db6ac89a33", func := "millpond/millpondlaw08.SessionTwice", spec := "sessionTwice", unfollowed := true, recurses := true, apart := false, narrowed := true }
def SessionTwiceUptoSaid : Prop := sessionTwiceUptoRow.holds Try.pinned (OpenSpec.upto sessionTwiceSpec)

/-- 'millpondlaw08.SessionNil', WHERE WHAT IT READS IS OF BULK AT MOST 1048576: true; the input reads as it did. -/
def sessionNilUptoRow : OpenClaim := { program := "ytifbkofianklaaa", sum := "c124ddbe4685cb55a5a698d30b3854079b113486b8ae4c5dc25f83db6ac89a33", func := "millpond/millpondlaw08.SessionNil", spec := "sessionNil", unfollowed := true, recurses := true, apart := false, narrowed := true }
def SessionNilUptoSaid : Prop := sessionNilUptoRow.holds Try.pinned (OpenSpec.upto sessionNilSpec)

end Rows
end Go.Proofs.Ytifbkofianklaaa
