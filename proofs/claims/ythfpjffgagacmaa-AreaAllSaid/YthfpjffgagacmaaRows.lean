/-
  No cell of these rows narrows 'for every input' (looked for: loops, veiled, ifaces, maps, wideKeys, modest, calm, conditions, laid).
  DERIVED. THE GIVEN ROWS OF THIS SEAT. 9 by the template 'for every input the law returns true; each argument reads behind the call as it read before'; 0 by the template 'total and deterministic' (their statements: YthfpjffgagacmaaTotals.lean).
  GIVEN WITH THE SEED: the statements are not yours to turn. If you find one false, say at which input.
  Laid BY PROGRAM, IN A SANDBOX (cutbox-rows.mjs): the forced cells as the released guide's own fill.sh prints them over the translation 8d1322a41963c74b… (all of the seat's roots in one cut). By AI agents, Wed Nov 11 2026. No macro, syntax, notation, axiom, sorry.
-/
import Derived.Test.YthfpjffgagacmaaChecked
import GoSem.Claim
import GoSem.ClaimJoined
import GoSem.ClaimMapViews
import Derived.JoinedTies
import Derived.KernelRfl
namespace Go.Proofs.Ythfpjffgagacmaa
/- THE CELL 'sum', in the pinned program and in every row, IS THE sha256 OF THE DUMP (.gsa) THAT YthfpjffgagacmaaProg.lean LOADS. Nothing in Lean hashes anything: it is a label: what it is worth is what the hold of that sum in a sandbox is worth. -/
noncomputable def Try.pinned : Pinned := { name := "ythfpjffgagacmaa", sum := "8d1322a41963c74b01722eaea40e8dbc776d2dd3f302ba8fd6b8a26610c79e61", checked := Try.checked }
namespace Rows
def none {H : Type} : Left H := { results := [], args := [] }

/-- 'millpondlaw05.AreaWhere': WHATEVER THE INPUT: true; the input reads as it did. -/
def areaWhereSpec : ChangeSpec := { name := "areaWhere", fn := fun _ => fun
  | [d1, d2] => { results := [.lit (.bool true)], args := [d1, d2] }
  | _ => none }
def areaWhereRow : OpenClaim := { program := "ythfpjffgagacmaa", sum := "8d1322a41963c74b01722eaea40e8dbc776d2dd3f302ba8fd6b8a26610c79e61", func := "millpond/millpondlaw05.AreaWhere", spec := "areaWhere", apart := false }
def AreaWhereSaid : Prop := areaWhereRow.holds Try.pinned (OpenSpec.ofChange areaWhereSpec)

/-- ITS FALSE NEIGHBOUR: 'it returns false'. Refute it at one input. -/
def areaWhereWrong : ChangeSpec := { name := "areaWhere", fn := fun _ => fun
  | [d1, d2] => { results := [.lit (.bool false)], args := [d1, d2] }
  | _ => none }
def AreaWhereWrongFalsely : Prop := areaWhereRow.holds Try.pinned (OpenSpec.ofChange areaWhereWrong)

/-- 'millpondlaw05.AreaApart': WHATEVER THE INPUT: true; the input reads as it did. -/
def areaApartSpec : ChangeSpec := { name := "areaApart", fn := fun _ => fun
  | [d1, d2, d3] => { results := [.lit (.bool true)], args := [d1, d2, d3] }
  | _ => none }
def areaApartRow : OpenClaim := { program := "ythfpjffgagacmaa", sum := "8d1322a41963c74b01722eaea40e8dbc776d2dd3f302ba8fd6b8a26610c79e61", func := "millpond/millpondlaw05.AreaApart", spec := "areaApart", apart := false }
def AreaApartSaid : Prop := areaApartRow.holds Try.pinned (OpenSpec.ofChange areaApartSpec)

/-- ITS FALSE NEIGHBOUR: 'it returns false'. Refute it at one input. -/
def areaApartWrong : ChangeSpec := { name := "areaApart", fn := fun _ => fun
  | [d1, d2, d3] => { results := [.lit (.bool false)], args := [d1, d2, d3] }
  | _ => none }
def AreaApartWrongFalsely : Prop := areaApartRow.holds Try.pinned (OpenSpec.ofChange areaApartWrong)

/-- 'millpondlaw05.AreaBounds': WHATEVER THE INPUT: true; the input reads as it did. -/
def areaBoundsSpec : ChangeSpec := { name := "areaBounds", fn := fun _ => fun
  | [] => { results := [.lit (.bool true)], args := [] }
  | _ => none }
def areaBoundsRow : OpenClaim := { program := "ythfpjffgagacmaa", sum := "8d1322a41963c74b01722eaea40e8dbc776d2dd3f302ba8fd6b8a26610c79e61", func := "millpond/millpondlaw05.AreaBounds", spec := "areaBounds", apart := false }
def AreaBoundsSaid : Prop := areaBoundsRow.holds Try.pinned (OpenSpec.ofChange areaBoundsSpec)

/-- ITS FALSE NEIGHBOUR: 'it returns false'. Refute it at one input. -/
def areaBoundsWrong : ChangeSpec := { name := "areaBounds", fn := fun _ => fun
  | [] => { results := [.lit (.bool false)], args := [] }
  | _ => none }
def AreaBoundsWrongFalsely : Prop := areaBoundsRow.holds Try.pinned (OpenSpec.ofChange areaBoundsWrong)

/-- 'millpondlaw04.RecordRuns': WHATEVER THE INPUT: true; the input reads as it did. -/
def recordRunsSpec : ChangeSpec := { name := "recordRuns", fn := fun _ => fun
  | [d1, d2] => { results := [.lit (.bool true)], args := [d1, d2] }
  | _ => none }
def recordRunsRow : OpenClaim := { program := "ythfpjffgagacmaa", sum := "8d1322a41963c74b01722eaea40e8dbc776d2dd3f302ba8fd6b8a26610c79e61", func := "millpond/millpondlaw04.RecordRuns", spec := "recordRuns", unfollowed := true, recurses := true, apart := false }
def RecordRunsSaid : Prop := recordRunsRow.holds Try.pinned (OpenSpec.ofChange recordRunsSpec)

/-- ITS FALSE NEIGHBOUR: 'it returns false'. Refute it at one input. -/
def recordRunsWrong : ChangeSpec := { name := "recordRuns", fn := fun _ => fun
  | [d1, d2] => { results := [.lit (.bool false)], args := [d1, d2] }
  | _ => none }
def RecordRunsWrongFalsely : Prop := recordRunsRow.holds Try.pinned (OpenSpec.ofChange recordRunsWrong)

/-- 'millpondlaw04.RecordBounds': WHATEVER THE INPUT: true; the input reads as it did. -/
def recordBoundsSpec : ChangeSpec := { name := "recordBounds", fn := fun _ => fun
  | [] => { results := [.lit (.bool true)], args := [] }
  | _ => none }
def recordBoundsRow : OpenClaim := { program := "ythfpjffgagacmaa", sum := "8d1322a41963c74b01722eaea40e8dbc776d2dd3f302ba8fd6b8a26610c79e61", func := "millpond/millpondlaw04.RecordBounds", spec := "recordBounds", unfollowed := true, recurses := true, apart := false }
def RecordBoundsSaid : Prop := recordBoundsRow.holds Try.pinned (OpenSpec.ofChange recordBoundsSpec)

/-- ITS FALSE NEIGHBOUR: 'it returns false'. Refute it at one input. -/
def recordBoundsWrong : ChangeSpec := { name := "recordBounds", fn := fun _ => fun
  | [] => { results := [.lit (.bool false)], args := [] }
  | _ => none }
def RecordBoundsWrongFalsely : Prop := recordBoundsRow.holds Try.pinned (OpenSpec.ofChange recordBoundsWrong)

/-- 'millpondlaw05.AreaAll': WHATEVER THE INPUT: true; the input reads as it did. -/
def areaAllSpec : ChangeSpec := { name := "areaAll", fn := fun _ => fun
  | [d1, d2] => { results := [.lit (.bool true)], args := [d1, d2] }
  | _ => none }
def areaAllRow : OpenClaim := { program := "ythfpjffgagacmaa", sum := "8d1322a41963c74b01722eaea40e8dbc776d2dd3f302ba8fd6b8a26610c79e61", func := "millpond/millpondlaw05.AreaAll", spec := "areaAll", unfollowed := true, recurses := true, apart := false }
def AreaAllSaid : Prop := areaAllRow.holds Try.pinned (OpenSpec.ofChange areaAllSpec)

/-- ITS FALSE NEIGHBOUR: 'it returns false'. Refute it at one input. -/
def areaAllWrong : ChangeSpec := { name := "areaAll", fn := fun _ => fun
  | [d1, d2] => { results := [.lit (.bool false)], args := [d1, d2] }
  | _ => none }
def AreaAllWrongFalsely : Prop := areaAllRow.holds Try.pinned (OpenSpec.ofChange areaAllWrong)

/-- 'millpondlaw04.RecordPuts': WHATEVER THE INPUT: true; the input reads as it did. -/
def recordPutsSpec : ChangeSpec := { name := "recordPuts", fn := fun _ => fun
  | [d1, d2] => { results := [.lit (.bool true)], args := [d1, d2] }
  | _ => none }
def recordPutsRow : OpenClaim := { program := "ythfpjffgagacmaa", sum := "8d1322a41963c74b01722eaea40e8dbc776d2dd3f302ba8fd6b8a26610c79e61", func := "millpond/millpondlaw04.RecordPuts", spec := "recordPuts", unfollowed := true, recurses := true, apart := false }
def RecordPutsSaid : Prop := recordPutsRow.holds Try.pinned (OpenSpec.ofChange recordPutsSpec)

/-- ITS FALSE NEIGHBOUR: 'it returns false'. Refute it at one input. -/
def recordPutsWrong : ChangeSpec := { name := "recordPuts", fn := fun _ => fun
  | [d1, d2] => { results := [.lit (.bool false)], args := [d1, d2] }
  | _ => none }
def RecordPutsWrongFalsely : Prop := recordPutsRow.holds Try.pinned (OpenSpec.ofChange recordPutsWrong)

/-- 'millpondlaw04.RecordGets': WHATEVER THE INPUT: true; the input reads as it did. -/
def recordGetsSpec : ChangeSpec := { name := "recordGets", fn := fun _ => fun
  | [d] => { results := [.lit (.bool true)], args := [d] }
  | _ => none }
def recordGetsRow : OpenClaim := { program := "ythfpjffgagacmaa", sum := "8d1322a41963c74b01722eaea40e8dbc776d2dd3f302ba8fd6b8a26610c79e61", func := "millpond/millpondlaw04.RecordGets", spec := "recordGets", unfollowed := true, recurses := true, apart := false }
def RecordGetsSaid : Prop := recordGetsRow.holds Try.pinned (OpenSpec.ofChange recordGetsSpec)

/-- ITS FALSE NEIGHBOUR: 'it returns false'. Refute it at one input. -/
def recordGetsWrong : ChangeSpec := { name := "recordGets", fn := fun _ => fun
  | [d] => { results := [.lit (.bool false)], args := [d] }
  | _ => none }
def RecordGetsWrongFalsely : Prop := recordGetsRow.holds Try.pinned (OpenSpec.ofChange recordGetsWrong)

/-- 'millpondlaw04.RecordTorn': WHATEVER THE INPUT: true; the input reads as it did. -/
def recordTornSpec : ChangeSpec := { name := "recordTorn", fn := fun _ => fun
  | [d1, d2, d3] => { results := [.lit (.bool true)], args := [d1, d2, d3] }
  | _ => none }
def recordTornRow : OpenClaim := { program := "ythfpjffgagacmaa", sum := "8d1322a41963c74b01722eaea40e8dbc776d2dd3f302ba8fd6b8a26610c79e61", func := "millpond/millpondlaw04.RecordTorn", spec := "recordTorn", unfollowed := true, recurses := true, apart := false }
def RecordTornSaid : Prop := recordTornRow.holds Try.pinned (OpenSpec.ofChange recordTornSpec)

/-- ITS FALSE NEIGHBOUR: 'it returns false'. Refute it at one input. -/
def recordTornWrong : ChangeSpec := { name := "recordTorn", fn := fun _ => fun
  | [d1, d2, d3] => { results := [.lit (.bool false)], args := [d1, d2, d3] }
  | _ => none }
def RecordTornWrongFalsely : Prop := recordTornRow.holds Try.pinned (OpenSpec.ofChange recordTornWrong)

/- THE SECOND FORM. 'bulk': how many values and letters a reading holds, each counted each time it is reached (what is shared counts as often as it is met; a slice's spare places count too). A statement '..UptoSaid' is the law's where the arguments, and the package variables that the reading takes, are together of bulk at most 1048576: NARROWER than '..Said'. Prove '..Said' where nothing that the law and all that it calls make is longer than what came in: it says more and counts as full. Else prove '..UptoSaid'. A law counts once. -/
mutual
def uptoBulk {H : Type} : DataW H → Nat
  | .lit (.string bytes) => bytes.length + 1
  | .lit _ => 1
  | .nil => 1
  | .ptr d => uptoBulk d + 1
  | .slice elems spare => uptoBulkAll elems + uptoBulkAll spare + 1
  | .agg parts => uptoBulkAll parts + 1
  | .iface _ d => uptoBulk d + 1
  | .map entries => uptoBulkEntries entries + 1
  | .held _ => 1
def uptoBulkAll {H : Type} : List (DataW H) → Nat
  | [] => 0
  | d :: r => uptoBulk d + uptoBulkAll r
def uptoBulkEntries {H : Type} : List (Lit × DataW H) → Nat
  | [] => 0
  | x :: r => uptoBulkEntry x + uptoBulkEntries r
def uptoBulkEntry {H : Type} : Lit × DataW H → Nat
  | (.string bytes, d) => bytes.length + uptoBulk d + 1
  | (_, d) => uptoBulk d + 1
 end
def uptoSmall : (H : Type) → List (DataW H) → Bool := fun _ ds => decide (uptoBulkAll ds ≤ 1048576)
def OpenSpec.upto (s : _root_.Go.ChangeSpec) : _root_.Go.OpenSpec := { _root_.Go.OpenSpec.ofChange s with cond := some uptoSmall }

/-- 'millpondlaw05.AreaWhere', WHERE WHAT IT READS IS OF BULK AT MOST 1048576: true; the input reads as it did. -/
def areaWhereUptoRow : OpenClaim := { program := "ythfpjffgagacmaa", sum := "8d1322a41963c74b01722eaea40e8dbc776d2dd3f302ba8fd6b8a26610c79e61", func := "millpond/millpondlaw05.AreaWhere", spec := "areaWhere", apart := false, narrowed := true }
def AreaWhereUptoSaid : Prop := areaWhereUptoRow.holds Try.pinned (OpenSpec.upto areaWhereSpec)

/-- 'millpondlaw05.AreaApart', WHERE WHAT IT READS IS OF BULK AT MOST 1048576: true; the input reads as it did. -/
def areaApartUptoRow : OpenClaim := { program := "ythfpjffgagacmaa", sum := "8d1322a41963c74b01722eaea40e8dbc776d2dd3f302ba8fd6b8a26610c79e61", func := "millpond/millpondlaw05.AreaApart", spec := "areaApart", apart := false, narrowed := true }
def AreaApartUptoSaid : Prop := areaApartUptoRow.holds Try.pinned (OpenSpec.upto areaApartSpec)

/-- 'millpondlaw05.AreaBounds', WHERE WHAT IT READS IS OF BULK AT MOST 1048576: true; the input reads as it did. -/
def areaBoundsUptoRow : OpenClaim := { program := "ythfpjffgagacmaa", sum := "8d1322a41963c74b01722eaea40e8dbc776d2dd3f302ba8fd6b8a26610c79e61", func := "millpond/millpondlaw05.AreaBounds", spec := "areaBounds", apart := false, narrowed := true }
def AreaBoundsUptoSaid : Prop := areaBoundsUptoRow.holds Try.pinned (OpenSpec.upto areaBoundsSpec)

/-- 'millpondlaw04.RecordRuns', WHERE WHAT IT READS IS OF BULK AT MOST 1048576: true; the input reads as it did. -/
def recordRunsUptoRow : OpenClaim := { program := "ythfpjffgagacmaa", sum := "8d1322a41963c74b01722eaea40e8dbc776d2dd3f302ba8fd6b8a26610c79e61", func := "millpond/millpondlaw04.RecordRuns", spec := "recordRuns", unfollowed := true, recurses := true, apart := false, narrowed := true }
def RecordRunsUptoSaid : Prop := recordRunsUptoRow.holds Try.pinned (OpenSpec.upto recordRunsSpec)

/-- 'millpondlaw04.RecordBounds', WHERE WHAT IT READS IS OF BULK AT MOST 1048576: true; the input reads as it did. -/
def recordBoundsUptoRow : OpenClaim := { program := "ythfpjffgagacmaa", sum := "8d1322a41963c74b01722eaea40e8dbc776d2dd3f302ba8fd6b8a26610c79e61", func := "millpond/millpondlaw04.RecordBounds", spec := "recordBounds", unfollowed := true, recurses := true, apart := false, narrowed := true }
def RecordBoundsUptoSaid : Prop := recordBoundsUptoRow.holds Try.pinned (OpenSpec.upto recordBoundsSpec)

/-- 'millpondlaw05.AreaAll', WHERE WHAT IT READS IS OF BULK AT MOST 1048576: true; the input reads as it did. -/
def areaAllUptoRow : OpenClaim := { program := "ythfpjffgagacmaa", sum := "8d1322a41963c74b01722eaea40e8dbc776d2dd3f302ba8fd6b8a26610c79e61", func := "millpond/millpondlaw05.AreaAll", spec := "areaAll", unfollowed := true, recurses := true, apart := false, narrowed := true }
def AreaAllUptoSaid : Prop := areaAllUptoRow.holds Try.pinned (OpenSpec.upto areaAllSpec)

/-- 'millpondlaw04.RecordPuts', WHERE WHAT IT READS IS OF BULK AT MOST 1048576: true; the input reads as it did. -/
def recordPutsUptoRow : OpenClaim := { program := "ythfpjffgagacmaa", sum := "8d1322a41963c74b01722eaea40e8dbc776d2dd3f302ba8fd6b8a26610c79e61", func := "millpond/millpondlaw04.RecordPuts", spec := "recordPuts", unfollowed := true, recurses := true, apart := false, narrowed := true }
def RecordPutsUptoSaid : Prop := recordPutsUptoRow.holds Try.pinned (OpenSpec.upto recordPutsSpec)

/-- 'millpondlaw04.RecordGets', WHERE WHAT IT READS IS OF BULK AT MOST 1048576: true; the input reads as it did. -/
def recordGetsUptoRow : OpenClaim := { program := "ythfpjffgagacmaa", sum := "8d1322a41963c74b01722eaea40e8dbc776d2dd3f302ba8fd6b8a26610c79e61", func := "millpond/millpondlaw04.RecordGets", spec := "recordGets", unfollowed := true, recurses := true, apart := false, narrowed := true }
def RecordGetsUptoSaid : Prop := recordGetsUptoRow.holds Try.pinned (OpenSpec.upto recordGetsSpec)

/-- 'millpondlaw04.RecordTorn', WHERE WHAT IT READS IS OF BULK AT MOST 1048576: true; the input reads as it did. -/
def recordTornUptoRow : OpenClaim := { program := "ythfpjffgagacmaa", sum := "8d1322a41963c74b01722eaea40e8dbc776d2dd3f302ba8fd6b8a26610c79e61", func := "millpond/millpondlaw04.RecordTorn", spec := "recordTorn", unfollowed := true, recurses := true, apart := false, narrowed := true }
def RecordTornUptoSaid : Prop := recordTornUptoRow.holds Try.pinned (OpenSpec.upto recordTornSpec)

end Rows
end Go.Proofs.Ythfpjffgagacmaa
