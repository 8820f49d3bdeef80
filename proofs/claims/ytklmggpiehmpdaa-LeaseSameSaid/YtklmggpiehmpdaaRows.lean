/-
  No cell of these rows narrows 'for every input' (looked for: loops, veiled, ifaces, maps, wideKeys, modest, calm, conditions, laid).
  DERIVED. THE GIVEN ROWS OF THIS SEAT. 5 by the template 'for every input the law returns true; each argument reads behind the call as it read before'; 0 by the template 'total and deterministic' (their statements: YtklmggpiehmpdaaTotals.lean).
  GIVEN WITH THE SEED: the statements are not yours to turn. If you find one false, say at which input.
  Laid BY PROGRAM, IN A SANDBOX (cutbox-rows.mjs): the forced cells as the released guide's own fill.sh prints them over the translation 1ba75892bb9eb4dd… (all of the seat's roots in one cut). By AI agents, Wed Nov 11 2026. No macro, syntax, notation, axiom, sorry.
-/
import Derived.Test.YtklmggpiehmpdaaChecked
import GoSem.Claim
import GoSem.ClaimJoined
import GoSem.ClaimMapViews
import Derived.JoinedTies
import Derived.KernelRfl
namespace Go.Proofs.Ytklmggpiehmpdaa
/- THE CELL 'sum', in the pinned program and in every row, IS THE sha256 OF THE DUMP (.gsa) THAT YtklmggpiehmpdaaProg.lean LOADS. Nothing in Lean hashes anything: it is a label: what it is worth is what the hold of that sum in a sandbox is worth. -/
noncomputable def Try.pinned : Pinned := { name := "ytklmggpiehmpdaa", sum := "1ba75892bb9eb4dd82ce9a85cd5b698d45e25ef877d6e1eade907a1923c3f249", checked := Try.checked }
namespace Rows
def none {H : Type} : Left H := { results := [], args := [] }

/-- 'millpondlaw10.LeasePuts': WHATEVER THE INPUT: true; the input reads as it did. -/
def leasePutsSpec : ChangeSpec := { name := "leasePuts", fn := fun _ => fun
  | [d1, d2] => { results := [.lit (.bool true)], args := [d1, d2] }
  | _ => none }
def leasePutsRow : OpenClaim := { program := "ytklmggpiehmpdaa", sum := "1ba75892bb9eb4dd82ce9a85cd5b698d45e25ef877d6e1eade907a1923c3f249", func := "millpond/millpondlaw10.LeasePuts", spec := "leasePuts", unfollowed := true, recurses := true, apart := false }
def LeasePutsSaid : Prop := leasePutsRow.holds Try.pinned (OpenSpec.ofChange leasePutsSpec)

/-- ITS FALSE NEIGHBOUR: 'it returns false'. Refute it at one input. -/
def leasePutsWrong : ChangeSpec := { name := "leasePuts", fn := fun _ => fun
  | [d1, d2] => { results := [.lit (.bool false)], args := [d1, d2] }
  | _ => none }
def LeasePutsWrongFalsely : Prop := leasePutsRow.holds Try.pinned (OpenSpec.ofChange leasePutsWrong)

/-- 'millpondlaw10.LeaseLives': WHATEVER THE INPUT: true; the input reads as it did. -/
def leaseLivesSpec : ChangeSpec := { name := "leaseLives", fn := fun _ => fun
  | [d1, d2, d3] => { results := [.lit (.bool true)], args := [d1, d2, d3] }
  | _ => none }
def leaseLivesRow : OpenClaim := { program := "ytklmggpiehmpdaa", sum := "1ba75892bb9eb4dd82ce9a85cd5b698d45e25ef877d6e1eade907a1923c3f249", func := "millpond/millpondlaw10.LeaseLives", spec := "leaseLives", unfollowed := true, recurses := true, apart := false }
def LeaseLivesSaid : Prop := leaseLivesRow.holds Try.pinned (OpenSpec.ofChange leaseLivesSpec)

/-- ITS FALSE NEIGHBOUR: 'it returns false'. Refute it at one input. -/
def leaseLivesWrong : ChangeSpec := { name := "leaseLives", fn := fun _ => fun
  | [d1, d2, d3] => { results := [.lit (.bool false)], args := [d1, d2, d3] }
  | _ => none }
def LeaseLivesWrongFalsely : Prop := leaseLivesRow.holds Try.pinned (OpenSpec.ofChange leaseLivesWrong)

/-- 'millpondlaw10.LeaseWatches': WHATEVER THE INPUT: true; the input reads as it did. -/
def leaseWatchesSpec : ChangeSpec := { name := "leaseWatches", fn := fun _ => fun
  | [d1, d2] => { results := [.lit (.bool true)], args := [d1, d2] }
  | _ => none }
def leaseWatchesRow : OpenClaim := { program := "ytklmggpiehmpdaa", sum := "1ba75892bb9eb4dd82ce9a85cd5b698d45e25ef877d6e1eade907a1923c3f249", func := "millpond/millpondlaw10.LeaseWatches", spec := "leaseWatches", unfollowed := true, recurses := true, apart := false }
def LeaseWatchesSaid : Prop := leaseWatchesRow.holds Try.pinned (OpenSpec.ofChange leaseWatchesSpec)

/-- ITS FALSE NEIGHBOUR: 'it returns false'. Refute it at one input. -/
def leaseWatchesWrong : ChangeSpec := { name := "leaseWatches", fn := fun _ => fun
  | [d1, d2] => { results := [.lit (.bool false)], args := [d1, d2] }
  | _ => none }
def LeaseWatchesWrongFalsely : Prop := leaseWatchesRow.holds Try.pinned (OpenSpec.ofChange leaseWatchesWrong)

/-- 'millpondlaw10.LeaseSame': WHATEVER THE INPUT: true; the input reads as it did. -/
def leaseSameSpec : ChangeSpec := { name := "leaseSame", fn := fun _ => fun
  | [d1, d2, d3] => { results := [.lit (.bool true)], args := [d1, d2, d3] }
  | _ => none }
def leaseSameRow : OpenClaim := { program := "ytklmggpiehmpdaa", sum := "1ba75892bb9eb4dd82ce9a85cd5b698d45e25ef877d6e1eade907a1923c3f249", func := "millpond/millpondlaw10.LeaseSame", spec := "leaseSame", unfollowed := true, recurses := true, apart := false }
def LeaseSameSaid : Prop := leaseSameRow.holds Try.pinned (OpenSpec.ofChange leaseSameSpec)

/-- ITS FALSE NEIGHBOUR: 'it returns false'. Refute it at one input. -/
def leaseSameWrong : ChangeSpec := { name := "leaseSame", fn := fun _ => fun
  | [d1, d2, d3] => { results := [.lit (.bool false)], args := [d1, d2, d3] }
  | _ => none }
def LeaseSameWrongFalsely : Prop := leaseSameRow.holds Try.pinned (OpenSpec.ofChange leaseSameWrong)

/-- 'millpondlaw10.LeaseNil': WHATEVER THE INPUT: true; the input reads as it did. -/
def leaseNilSpec : ChangeSpec := { name := "leaseNil", fn := fun _ => fun
  | [] => { results := [.lit (.bool true)], args := [] }
  | _ => none }
def leaseNilRow : OpenClaim := { program := "ytklmggpiehmpdaa", sum := "1ba75892bb9eb4dd82ce9a85cd5b698d45e25ef877d6e1eade907a1923c3f249", func := "millpond/millpondlaw10.LeaseNil", spec := "leaseNil", unfollowed := true, recurses := true, apart := false }
def LeaseNilSaid : Prop := leaseNilRow.holds Try.pinned (OpenSpec.ofChange leaseNilSpec)

/-- ITS FALSE NEIGHBOUR: 'it returns false'. Refute it at one input. -/
def leaseNilWrong : ChangeSpec := { name := "leaseNil", fn := fun _ => fun
  | [] => { results := [.lit (.bool false)], args := [] }
  | _ => none }
def LeaseNilWrongFalsely : Prop := leaseNilRow.holds Try.pinned (OpenSpec.ofChange leaseNilWrong)

/- THE SECOND FORM. 'bulk': how many values and letters a reading holds, each counted each time it is reached (what is shared counts as often as it is met; a slice's spare places count too). A statement '..UptoSaid' is the law's where the arguments, and the package variables that the reading takes, are together of bulk at most 1048576: NARROWER than '..Said'. Prove '..Said' where nothing that the law and all that it calls make is longer than what came in: it says more and counts as full. Else prove '..UptoSaid'. A law counts once. -/
mutual
def uptoBulk {H : Type} : DataW H → Nat
  | .lit (.string bytes) => bytes.length + 1
  | .lit _ => 1
  | .nil => 1
  | .ptr d => uptoBulk d + 1
  | .slice elems spare => uptoBulkAll elems + uptoBulkAll spare + 1
  | .agg parts => uptoBulkAll parts + 1
  | .iface _ d => uptoBulk d + 1
  | .map entries => uptoBulkEntries entries + 1
  | .held _ => 1
def uptoBulkAll {H : Type} : List (DataW H) → Nat
  | [] => 0
  | d :: r => uptoBulk d + uptoBulkAll r
def uptoBulkEntries {H : Type} : List (Lit × DataW H) → Nat
  | [] => 0
  | x :: r => uptoBulkEntry x + uptoBulkEntries r
def uptoBulkEntry {H : Type} : Lit × DataW H → Nat
  | (.string bytes, d) => bytes.length + uptoBulk d + 1
  | (_, d) => uptoBulk d + 1
 end
def uptoSmall : (H : Type) → List (DataW H) → Bool := fun _ ds => decide (uptoBulkAll ds ≤ 1048576)
def OpenSpec.upto (s : _root_.Go.ChangeSpec) : _root_.Go.OpenSpec := { _root_.Go.OpenSpec.ofChange s with cond := some uptoSmall }

/-- 'millpondlaw10.LeasePuts', WHERE WHAT IT READS IS OF BULK AT MOST 1048576: true; the input reads as it did. -/
def leasePutsUptoRow : OpenClaim := { program := "ytklmggpiehmpdaa", sum := "1ba75892bb9eb4dd82ce9a85cd5b698d45e25ef877d6e1eade907a1923c3f249", func := "millpond/millpondlaw10.LeasePuts", spec := "leasePuts", unfollowed := true, recurses := true, apart := false, narrowed := true }
def LeasePutsUptoSaid : Prop := leasePutsUptoRow.holds Try.pinned (OpenSpec.upto leasePutsSpec)

/-- 'millpondlaw10.LeaseLives', WHERE WHAT IT READS IS OF BULK AT MOST 1048576: true; the input reads as it did. -/
def leaseLivesUptoRow : OpenClaim := { program := "ytklmggpiehmpdaa", sum := "1ba75892bb9eb4dd82ce9a85cd5b698d45e25ef877d6e1eade907a1923c3f249", func := "millpond/millpondlaw10.LeaseLives", spec := "leaseLives", unfollowed := true, recurses := true, apart := false, narrowed := true }
def LeaseLivesUptoSaid : Prop := leaseLivesUptoRow.holds Try.pinned (OpenSpec.upto leaseLivesSpec)

/-- 'millpondlaw10.LeaseWatches', WHERE WHAT IT READS IS OF BULK AT MOST 1048576: true; the input reads as it did. -/
def leaseWatchesUptoRow : OpenClaim := { program := "ytklmggpiehmpdaa", sum := "1ba75892bb9eb4dd82ce9a85cd5b698d45e25ef877d6e1eade907a1923c3f249", func := "millpond/millpondlaw10.LeaseWatches", spec := "leaseWatches", unfollowed := true, recurses := true, apart := false, narrowed := true }
def LeaseWatchesUptoSaid : Prop := leaseWatchesUptoRow.holds Try.pinned (OpenSpec.upto leaseWatchesSpec)

/-- 'millpondlaw10.LeaseSame', WHERE WHAT IT READS IS OF BULK AT MOST 1048576: true; the input reads as it did. -/
def leaseSameUptoRow : OpenClaim := { program := "ytklmggpiehmpdaa", sum := "1ba75892bb9eb4dd82ce9a85cd5b698d45e25ef877d6e1eade907a1923c3f249", func := "millpond/millpondlaw10.LeaseSame", spec := "leaseSame", unfollowed := true, recurses := true, apart := false, narrowed := true }
def LeaseSameUptoSaid : Prop := leaseSameUptoRow.holds Try.pinned (OpenSpec.upto leaseSameSpec)

/-- 'millpondlaw10.LeaseNil', WHERE WHAT IT READS IS OF BULK AT MOST 1048576: true; the input reads as it did. -/
def leaseNilUptoRow : OpenClaim := { program := "ytklmggpiehmpdaa", sum := "1ba75892bb9eb4dd82ce9a85cd5b698d45e25ef877d6e1eade907a1923c3f249", func := "millpond/millpondlaw10.LeaseNil", spec := "leaseNil", unfollowed := true, recurses := true, apart := false, narrowed := true }
def LeaseNilUptoSaid : Prop := leaseNilUptoRow.holds Try.pinned (OpenSpec.upto leaseNilSpec)

end Rows
end Go.Proofs.Ytklmggpiehmpdaa
