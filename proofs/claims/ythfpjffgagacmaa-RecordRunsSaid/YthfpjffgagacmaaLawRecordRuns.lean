/- How many records follow one another, from one on, is what the chapter says, as the reference counts them; the records stay as they are. No condition. -/
import Derived.Test.YthfpjffgagacmaaRows
import Derived.Test.YthfpjffgagacmaaTr3
import Derived.WalkKit
import Derived.ProofKit
import Derived.OpenShut
import Derived.ShutString
import Derived.ChangeOld
import Derived.Below
import Derived.SizedLaws
namespace Go.Proofs.Ythfpjffgagacmaa.recordRuns
open Go.Am Go.Am.T
set_option linter.unusedVariables false

theorem tr6 : trF Try.prog am FMode.auto Try.f6 = some am6 := by kernel_rfl

theorem tr25 : trF Try.prog am FMode.pure Try.f25 = some am25 := by kernel_rfl

theorem tr26 : trF Try.prog am FMode.look Try.f26 = some am26 := by kernel_rfl

theorem tr27 : trF Try.prog am FMode.pure Try.f27 = some am27 := by kernel_rfl

theorem tr28 : trF Try.prog am FMode.pure Try.f28 = some am28 := by kernel_rfl

theorem tr29 : trF Try.prog am FMode.look Try.f29 = some am29 := by kernel_rfl

theorem tr30 : trF Try.prog am FMode.pure Try.f30 = some am30 := by kernel_rfl

theorem tr31 : trF Try.prog am FMode.pure Try.f31 = some am31 := by kernel_rfl

theorem tr32 : trF Try.prog am FMode.pure Try.f32 = some am32 := by kernel_rfl

theorem tr35 : trF Try.prog am FMode.pure Try.f35 = some am35 := by kernel_rfl

theorem tr38 : trF Try.prog am FMode.pure Try.f38 = some am38 := by kernel_rfl

theorem tr54 : trF Try.prog am FMode.pure Try.f54 = some am54 := by kernel_rfl

theorem tr55 : trF Try.prog am FMode.pure Try.f55 = some am55 := by kernel_rfl

theorem tr56 : trF Try.prog am FMode.keep Try.f56 = some am56 := by kernel_rfl

theorem tr57 : trF Try.prog am FMode.pure Try.f57 = some am57 := by kernel_rfl

theorem tr59 : trF Try.prog am FMode.keep Try.f59 = some am59 := by kernel_rfl

theorem tr61 : trF Try.prog am FMode.pure Try.f61 = some am61 := by kernel_rfl

theorem tr67 : trF Try.prog am FMode.keep Try.f67 = some am67 := by kernel_rfl

theorem tr68 : trF Try.prog am FMode.keep Try.f68 = some am68 := by kernel_rfl

theorem trAll : TrAll Try.prog am am 0 := ⟨⟨Try.f6, rfl, tr6⟩, ⟨Try.f25, rfl, tr25⟩, ⟨Try.f26, rfl, tr26⟩, ⟨Try.f27, rfl, tr27⟩, ⟨Try.f28, rfl, tr28⟩, ⟨Try.f29, rfl, tr29⟩, ⟨Try.f30, rfl, tr30⟩, ⟨Try.f31, rfl, tr31⟩, ⟨Try.f32, rfl, tr32⟩, ⟨Try.f35, rfl, tr35⟩, ⟨Try.f38, rfl, tr38⟩, ⟨Try.f54, rfl, tr54⟩, ⟨Try.f55, rfl, tr55⟩, ⟨Try.f56, rfl, tr56⟩, ⟨Try.f57, rfl, tr57⟩, ⟨Try.f59, rfl, tr59⟩, ⟨Try.f61, rfl, tr61⟩, ⟨Try.f67, rfl, tr67⟩, ⟨Try.f68, rfl, tr68⟩, trivial⟩


open Go.ChangeShapes Go.WideShapes Go.ChangeAt Go.RowKit

theorem own : ownKnob Try.prog.godebug = none := by kernel_rfl
theorem laid : laidOutB Try.prog = true := by kernel_rfl

theorem hlt {H : Type} {enc : TypeId × Value → H} {W : World} {t : TypeId} {v : Value} {d : DataW H} {ps : List MemPlace} (h : DataW.Trod enc Try.prog W 0 (fun _ => true) true t v d ps) : ∀ x ∈ ps, x.block < W.heap.size := by
  obtain ⟨fuel, h⟩ := h
  exact DataW.trod_lt fuel t _ _ h

theorem shape0 : shP Try.prog 12 2 = some (i64Sh) := by kernel_rfl
theorem agg0 : aggB Try.prog 2 = false := by kernel_rfl
theorem shape1 : shP Try.prog 12 45 = some (.sl true 101 recSh) := by kernel_rfl
theorem agg1 : aggB Try.prog 45 = false := by kernel_rfl

set_option maxRecDepth 100000 in
theorem lifted (os : Os) (started : os.Started) (H : Type) (enc : TypeId × Value → H) :
    ReturnsInHanded {} Try.checked os 6 .any (Rows.recordRunsSpec.pre6 enc Try.prog Try.f6 Rows.recordRunsRow.domain false) (Rows.recordRunsSpec.post enc Try.prog Try.f6 false true false false) := by
  refine returnsInHanded_of_change (C := Try.checked) own started (by kernel_rfl) Try.func6
    (ChangeSpec.witness6 (enc := enc) (C := Try.checked) false ⟨#[], #[.int .i64 0, .slice none 0 0], []⟩ 8 (by kernel_rfl) (by kernel_rfl) (by kernel_rfl) (by kernel_rfl)) ?_
  intro W base args ds gs before hval0 hW hcnd _
  have hW' := hW
  obtain ⟨p, q, hA0, hV, rfl, hfz, hnd⟩ := hW
  have hA : DataW.TrodAll enc Try.prog W 0 (fun _ => true) true Try.f6.params.toList args.toList ds p := hA0
  rw [Try.params6] at hA
  obtain ⟨v0, v1, d0, d1, p0, p1, rfl, rfl, rfl, h0, h1⟩ := trodAll_two hA
  obtain ⟨rfl, rfl⟩ := trodVars_none hV
  obtain ⟨u0, r0, i0⟩ := param_in shape0 (hval0 0 2 v0 (by rw [Try.params6]; rfl) rfl) h0
  rw [agg0] at i0
  obtain ⟨u1, r1, i1⟩ := param_in shape1 (hval0 1 45 v1 (by rw [Try.params6]; rfl) rfl) h1
  rw [agg1] at i1
  obtain ⟨N, n, hr⟩ := runsRecordRuns i0 i1
  have walk := law_from Try.checked.mixed (trProg_of trAll) hr W #[v0, v1] rfl (fun i c h => by
    match i, h with
    | 0, h => cases h; exact r0
    | 1, h => cases h; exact r1
    | i + 2, h => simp at h)
  refine walk.mono fun e W' ⟨he, bel⟩ => ?_
  subst he
  exact ⟨_, rfl, _, _, _, [], _, [], hW', trodAll_mk1 (shut_bool Try.underlying4 _), trodAll_mk2 (Below.trod laid (by kernel_rfl) (of_decide_eq_true (by kernel_rfl)) h0 bel (hlt h0)) (Below.trod laid (by kernel_rfl) (of_decide_eq_true (by kernel_rfl)) h1 bel (hlt h1)), rfl, bel.frame _, fun h => by cases h⟩

theorem over : Rows.recordRunsRow.holds Try.pinned (OpenSpec.ofChange Rows.recordRunsSpec) :=
  OpenClaim.holds_of_wide 6 Try.f6 rfl rfl rfl rfl rfl rfl rfl ⟨rfl, rfl, rfl, rfl, rfl⟩ rfl rfl rfl rfl rfl (by kernel_rfl) Try.func6 (by kernel_rfl)
    (of_decide_eq_true (by kernel_rfl)) (by unfold Func.isWrapper; first | (rw [if_pos (by decide +kernel)]; kernel_rfl) | (rw [if_neg (by decide +kernel)]; exact ⟨rfl, rfl⟩))
    (fun os started H enc _ => lifted os started H enc)

theorem proved : Rows.RecordRunsSaid := over
#print axioms proved
end Go.Proofs.Ythfpjffgagacmaa.recordRuns
namespace Go.Proofs.Ythfpjffgagacmaa
theorem recordRuns_holds : Rows.RecordRunsSaid := recordRuns.proved
end Go.Proofs.Ythfpjffgagacmaa
