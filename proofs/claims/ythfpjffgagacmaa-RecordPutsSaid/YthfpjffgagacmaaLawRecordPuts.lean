/- What the program puts into sectors is what the reference puts, and what comes back out of them is what went in, records and heads. No condition. -/
import Derived.Test.YthfpjffgagacmaaRows
import Derived.Test.YthfpjffgagacmaaTq9
import Derived.WalkKit
import Derived.ProofKit
import Derived.OpenShut
import Derived.ShutString
import Derived.ChangeOld
import Derived.Below
import Derived.SizedLaws
namespace Go.Proofs.Ythfpjffgagacmaa.recordPuts
open Go.Am Go.Am.T
set_option linter.unusedVariables false

theorem tr6 : trF Try.prog am FMode.auto Try.f6 = some am6 := by kernel_rfl

theorem tr9 : trF Try.prog am FMode.pure Try.f9 = some am9 := by kernel_rfl

theorem tr10 : trF Try.prog am FMode.pure Try.f10 = some am10 := by kernel_rfl

theorem tr25 : trF Try.prog am FMode.pure Try.f25 = some am25 := by kernel_rfl

theorem tr26 : trF Try.prog am FMode.look Try.f26 = some am26 := by kernel_rfl

theorem tr27 : trF Try.prog am FMode.pure Try.f27 = some am27 := by kernel_rfl

theorem tr28 : trF Try.prog am FMode.pure Try.f28 = some am28 := by kernel_rfl

theorem tr29 : trF Try.prog am FMode.look Try.f29 = some am29 := by kernel_rfl

theorem tr30 : trF Try.prog am FMode.pure Try.f30 = some am30 := by kernel_rfl

theorem tr31 : trF Try.prog am FMode.pure Try.f31 = some am31 := by kernel_rfl

theorem tr32 : trF Try.prog am FMode.pure Try.f32 = some am32 := by kernel_rfl

theorem tr34 : trF Try.prog am FMode.pure Try.f34 = some am34 := by kernel_rfl

theorem tr35 : trF Try.prog am FMode.pure Try.f35 = some am35 := by kernel_rfl

theorem tr36 : trF Try.prog am FMode.pure Try.f36 = some am36 := by kernel_rfl

theorem tr37 : trF Try.prog am FMode.pure Try.f37 = some am37 := by kernel_rfl

theorem tr38 : trF Try.prog am FMode.pure Try.f38 = some am38 := by kernel_rfl

theorem tr39 : trF Try.prog am FMode.pure Try.f39 = some am39 := by kernel_rfl

theorem tr40 : trF Try.prog am FMode.pure Try.f40 = some am40 := by kernel_rfl

theorem tr41 : trF Try.prog am FMode.pure Try.f41 = some am41 := by kernel_rfl

theorem tr42 : trF Try.prog am FMode.pure Try.f42 = some am42 := by kernel_rfl

theorem tr43 : trF Try.prog am FMode.pure Try.f43 = some am43 := by kernel_rfl

theorem tr44 : trF Try.prog am FMode.pure Try.f44 = some am44 := by kernel_rfl

theorem tr54 : trF Try.prog am FMode.pure Try.f54 = some am54 := by kernel_rfl

theorem tr55 : trF Try.prog am FMode.pure Try.f55 = some am55 := by kernel_rfl

theorem tr56 : trF Try.prog am FMode.keep Try.f56 = some am56 := by kernel_rfl

theorem tr57 : trF Try.prog am FMode.pure Try.f57 = some am57 := by kernel_rfl

theorem tr59 : trF Try.prog am FMode.keep Try.f59 = some am59 := by kernel_rfl

theorem tr60 : trF Try.prog am FMode.keep Try.f60 = some am60 := by kernel_rfl

theorem tr61 : trF Try.prog am FMode.pure Try.f61 = some am61 := by kernel_rfl

theorem tr62 : trF Try.prog am FMode.pure Try.f62 = some am62 := by kernel_rfl

theorem tr63 : trF Try.prog am FMode.pure Try.f63 = some am63 := by kernel_rfl

theorem tr67 : trF Try.prog am FMode.keep Try.f67 = some am67 := by kernel_rfl

theorem tr68 : trF Try.prog am FMode.keep Try.f68 = some am68 := by kernel_rfl

theorem trAll : TrAll Try.prog am am 0 := ⟨⟨Try.f6, rfl, tr6⟩, ⟨Try.f9, rfl, tr9⟩, ⟨Try.f10, rfl, tr10⟩, ⟨Try.f25, rfl, tr25⟩, ⟨Try.f26, rfl, tr26⟩, ⟨Try.f27, rfl, tr27⟩, ⟨Try.f28, rfl, tr28⟩, ⟨Try.f29, rfl, tr29⟩, ⟨Try.f30, rfl, tr30⟩, ⟨Try.f31, rfl, tr31⟩, ⟨Try.f32, rfl, tr32⟩, ⟨Try.f34, rfl, tr34⟩, ⟨Try.f35, rfl, tr35⟩, ⟨Try.f36, rfl, tr36⟩, ⟨Try.f37, rfl, tr37⟩, ⟨Try.f38, rfl, tr38⟩, ⟨Try.f39, rfl, tr39⟩, ⟨Try.f40, rfl, tr40⟩, ⟨Try.f41, rfl, tr41⟩, ⟨Try.f42, rfl, tr42⟩, ⟨Try.f43, rfl, tr43⟩, ⟨Try.f44, rfl, tr44⟩, ⟨Try.f54, rfl, tr54⟩, ⟨Try.f55, rfl, tr55⟩, ⟨Try.f56, rfl, tr56⟩, ⟨Try.f57, rfl, tr57⟩, ⟨Try.f59, rfl, tr59⟩, ⟨Try.f60, rfl, tr60⟩, ⟨Try.f61, rfl, tr61⟩, ⟨Try.f62, rfl, tr62⟩, ⟨Try.f63, rfl, tr63⟩, ⟨Try.f67, rfl, tr67⟩, ⟨Try.f68, rfl, tr68⟩, trivial⟩


open Go.ChangeShapes Go.WideShapes Go.ChangeAt Go.RowKit

theorem own : ownKnob Try.prog.godebug = none := by kernel_rfl
theorem laid : laidOutB Try.prog = true := by kernel_rfl

theorem hlt {H : Type} {enc : TypeId × Value → H} {W : World} {t : TypeId} {v : Value} {d : DataW H} {ps : List MemPlace} (h : DataW.Trod enc Try.prog W 0 (fun _ => true) true t v d ps) : ∀ x ∈ ps, x.block < W.heap.size := by
  obtain ⟨fuel, h⟩ := h
  exact DataW.trod_lt fuel t _ _ h

theorem shape0 : shP Try.prog 12 49 = some (recSh) := by kernel_rfl
theorem agg0 : aggB Try.prog 49 = true := by kernel_rfl
theorem shape1 : shP Try.prog 12 63 = some (headSh) := by kernel_rfl
theorem agg1 : aggB Try.prog 63 = true := by kernel_rfl

set_option maxRecDepth 100000 in
theorem lifted (os : Os) (started : os.Started) (H : Type) (enc : TypeId × Value → H) :
    ReturnsInHanded {} Try.checked os 9 .any (Rows.recordPutsSpec.pre6 enc Try.prog Try.f9 Rows.recordPutsRow.domain false) (Rows.recordPutsSpec.post enc Try.prog Try.f9 false true false false) := by
  refine returnsInHanded_of_change (C := Try.checked) own started (by kernel_rfl) Try.func9
    (ChangeSpec.witness6 (enc := enc) (C := Try.checked) false ⟨#[], #[.agg (Array.replicate 5 (.int .i64 0) ++ Array.replicate 96 (.int .u8 0)), .agg #[.int .i64 0, .int .i64 0]], []⟩ 8 (by kernel_rfl) (by kernel_rfl) (by kernel_rfl) (by kernel_rfl)) ?_
  intro W base args ds gs before hval0 hW hcnd _
  have hW' := hW
  obtain ⟨p, q, hA0, hV, rfl, hfz, hnd⟩ := hW
  have hA : DataW.TrodAll enc Try.prog W 0 (fun _ => true) true Try.f9.params.toList args.toList ds p := hA0
  rw [Try.params9] at hA
  obtain ⟨v0, v1, d0, d1, p0, p1, rfl, rfl, rfl, h0, h1⟩ := trodAll_two hA
  obtain ⟨rfl, rfl⟩ := trodVars_none hV
  obtain ⟨u0, r0, i0⟩ := param_in shape0 (hval0 0 49 v0 (by rw [Try.params9]; rfl) rfl) h0
  rw [agg0] at i0
  obtain ⟨u1, r1, i1⟩ := param_in shape1 (hval0 1 63 v1 (by rw [Try.params9]; rfl) rfl) h1
  rw [agg1] at i1
  obtain ⟨N, n, hr⟩ := runsRecordPuts i0 i1
  have walk := law_from Try.checked.mixed (trProg_of trAll) hr W #[v0, v1] rfl (fun i c h => by
    match i, h with
    | 0, h => cases h; exact r0
    | 1, h => cases h; exact r1
    | i + 2, h => simp at h)
  refine walk.mono fun e W' ⟨he, bel⟩ => ?_
  subst he
  exact ⟨_, rfl, _, _, _, [], _, [], hW', trodAll_mk1 (shut_bool Try.underlying4 _), trodAll_mk2 (Below.trod laid (by kernel_rfl) (of_decide_eq_true (by kernel_rfl)) h0 bel (hlt h0)) (Below.trod laid (by kernel_rfl) (of_decide_eq_true (by kernel_rfl)) h1 bel (hlt h1)), rfl, bel.frame _, fun h => by cases h⟩

theorem over : Rows.recordPutsRow.holds Try.pinned (OpenSpec.ofChange Rows.recordPutsSpec) :=
  OpenClaim.holds_of_wide 9 Try.f9 rfl rfl rfl rfl rfl rfl rfl ⟨rfl, rfl, rfl, rfl, rfl⟩ rfl rfl rfl rfl rfl (by kernel_rfl) Try.func9 (by kernel_rfl)
    (of_decide_eq_true (by kernel_rfl)) (by unfold Func.isWrapper; first | (rw [if_pos (by decide +kernel)]; kernel_rfl) | (rw [if_neg (by decide +kernel)]; exact ⟨rfl, rfl⟩))
    (fun os started H enc _ => lifted os started H enc)

theorem proved : Rows.RecordPutsSaid := over
#print axioms proved
end Go.Proofs.Ythfpjffgagacmaa.recordPuts
namespace Go.Proofs.Ythfpjffgagacmaa
theorem recordPuts_holds : Rows.RecordPutsSaid := recordPuts.proved
end Go.Proofs.Ythfpjffgagacmaa
