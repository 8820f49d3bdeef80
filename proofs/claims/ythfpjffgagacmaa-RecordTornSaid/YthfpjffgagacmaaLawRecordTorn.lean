/- A torn write of a record is never taken for a whole one, nor a record's sector for a page's or a head's. No condition. -/
import Derived.Test.YthfpjffgagacmaaRows
import Derived.Test.YthfpjffgagacmaaTs5
import Derived.WalkKit
import Derived.ProofKit
import Derived.OpenShut
import Derived.ShutString
import Derived.ChangeOld
import Derived.Below
import Derived.SizedLaws
namespace Go.Proofs.Ythfpjffgagacmaa.recordTorn
open Go.Am Go.Am.T
set_option linter.unusedVariables false

theorem tr6 : trF Try.prog am FMode.auto Try.f6 = some am6 := by kernel_rfl

theorem tr9 : trF Try.prog am FMode.pure Try.f9 = some am9 := by kernel_rfl

theorem tr10 : trF Try.prog am FMode.pure Try.f10 = some am10 := by kernel_rfl

theorem tr11 : trF Try.prog am FMode.pure Try.f11 = some am11 := by kernel_rfl

theorem tr25 : trF Try.prog am FMode.pure Try.f25 = some am25 := by kernel_rfl

theorem tr26 : trF Try.prog am FMode.look Try.f26 = some am26 := by kernel_rfl

theorem tr27 : trF Try.prog am FMode.pure Try.f27 = some am27 := by kernel_rfl

theorem tr28 : trF Try.prog am FMode.pure Try.f28 = some am28 := by kernel_rfl

theorem tr29 : trF Try.prog am FMode.look Try.f29 = some am29 := by kernel_rfl

theorem tr30 : trF Try.prog am FMode.pure Try.f30 = some am30 := by kernel_rfl

theorem tr31 : trF Try.prog am FMode.pure Try.f31 = some am31 := by kernel_rfl

theorem tr32 : trF Try.prog am FMode.pure Try.f32 = some am32 := by kernel_rfl

theorem tr34 : trF Try.prog am FMode.pure Try.f34 = some am34 := by kernel_rfl

theorem tr35 : trF Try.prog am FMode.pure Try.f35 = some am35 := by kernel_rfl

theorem tr36 : trF Try.prog am FMode.pure Try.f36 = some am36 := by kernel_rfl

theorem tr37 : trF Try.prog am FMode.pure Try.f37 = some am37 := by kernel_rfl

theorem tr38 : trF Try.prog am FMode.pure Try.f38 = some am38 := by kernel_rfl

theorem tr39 : trF Try.prog am FMode.pure Try.f39 = some am39 := by kernel_rfl

theorem tr40 : trF Try.prog am FMode.pure Try.f40 = some am40 := by kernel_rfl

theorem tr41 : trF Try.prog am FMode.pure Try.f41 = some am41 := by kernel_rfl

theorem tr42 : trF Try.prog am FMode.pure Try.f42 = some am42 := by kernel_rfl

theorem tr43 : trF Try.prog am FMode.pure Try.f43 = some am43 := by kernel_rfl

theorem tr44 : trF Try.prog am FMode.pure Try.f44 = some am44 := by kernel_rfl

theorem tr45 : trF Try.prog am FMode.pure Try.f45 = some am45 := by kernel_rfl

theorem tr46 : trF Try.prog am FMode.pure Try.f46 = some am46 := by kernel_rfl

theorem tr47 : trF Try.prog am FMode.pure Try.f47 = some am47 := by kernel_rfl

theorem tr48 : trF Try.prog am FMode.pure Try.f48 = some am48 := by kernel_rfl

theorem tr54 : trF Try.prog am FMode.pure Try.f54 = some am54 := by kernel_rfl

theorem tr55 : trF Try.prog am FMode.pure Try.f55 = some am55 := by kernel_rfl

theorem tr56 : trF Try.prog am FMode.keep Try.f56 = some am56 := by kernel_rfl

theorem tr57 : trF Try.prog am FMode.pure Try.f57 = some am57 := by kernel_rfl

theorem tr59 : trF Try.prog am FMode.keep Try.f59 = some am59 := by kernel_rfl

theorem tr60 : trF Try.prog am FMode.keep Try.f60 = some am60 := by kernel_rfl

theorem tr61 : trF Try.prog am FMode.pure Try.f61 = some am61 := by kernel_rfl

theorem tr62 : trF Try.prog am FMode.pure Try.f62 = some am62 := by kernel_rfl

theorem tr63 : trF Try.prog am FMode.pure Try.f63 = some am63 := by kernel_rfl

theorem tr64 : trF Try.prog am FMode.pure Try.f64 = some am64 := by kernel_rfl

theorem tr65 : trF Try.prog am FMode.pure Try.f65 = some am65 := by kernel_rfl

theorem tr66 : trF Try.prog am FMode.pure Try.f66 = some am66 := by kernel_rfl

theorem tr67 : trF Try.prog am FMode.keep Try.f67 = some am67 := by kernel_rfl

theorem tr68 : trF Try.prog am FMode.keep Try.f68 = some am68 := by kernel_rfl

theorem tr69 : trF Try.prog am FMode.pure Try.f69 = some am69 := by kernel_rfl

theorem tr70 : trF Try.prog am FMode.pure Try.f70 = some am70 := by kernel_rfl

theorem tr71 : trF Try.prog am FMode.pure Try.f71 = some am71 := by kernel_rfl

theorem trAll : TrAll Try.prog am am 0 := ⟨⟨Try.f6, rfl, tr6⟩, ⟨Try.f9, rfl, tr9⟩, ⟨Try.f10, rfl, tr10⟩, ⟨Try.f11, rfl, tr11⟩, ⟨Try.f25, rfl, tr25⟩, ⟨Try.f26, rfl, tr26⟩, ⟨Try.f27, rfl, tr27⟩, ⟨Try.f28, rfl, tr28⟩, ⟨Try.f29, rfl, tr29⟩, ⟨Try.f30, rfl, tr30⟩, ⟨Try.f31, rfl, tr31⟩, ⟨Try.f32, rfl, tr32⟩, ⟨Try.f34, rfl, tr34⟩, ⟨Try.f35, rfl, tr35⟩, ⟨Try.f36, rfl, tr36⟩, ⟨Try.f37, rfl, tr37⟩, ⟨Try.f38, rfl, tr38⟩, ⟨Try.f39, rfl, tr39⟩, ⟨Try.f40, rfl, tr40⟩, ⟨Try.f41, rfl, tr41⟩, ⟨Try.f42, rfl, tr42⟩, ⟨Try.f43, rfl, tr43⟩, ⟨Try.f44, rfl, tr44⟩, ⟨Try.f45, rfl, tr45⟩, ⟨Try.f46, rfl, tr46⟩, ⟨Try.f47, rfl, tr47⟩, ⟨Try.f48, rfl, tr48⟩, ⟨Try.f54, rfl, tr54⟩, ⟨Try.f55, rfl, tr55⟩, ⟨Try.f56, rfl, tr56⟩, ⟨Try.f57, rfl, tr57⟩, ⟨Try.f59, rfl, tr59⟩, ⟨Try.f60, rfl, tr60⟩, ⟨Try.f61, rfl, tr61⟩, ⟨Try.f62, rfl, tr62⟩, ⟨Try.f63, rfl, tr63⟩, ⟨Try.f64, rfl, tr64⟩, ⟨Try.f65, rfl, tr65⟩, ⟨Try.f66, rfl, tr66⟩, ⟨Try.f67, rfl, tr67⟩, ⟨Try.f68, rfl, tr68⟩, ⟨Try.f69, rfl, tr69⟩, ⟨Try.f70, rfl, tr70⟩, ⟨Try.f71, rfl, tr71⟩, trivial⟩


open Go.ChangeShapes Go.WideShapes Go.ChangeAt Go.RowKit

theorem own : ownKnob Try.prog.godebug = none := by kernel_rfl
theorem laid : laidOutB Try.prog = true := by kernel_rfl

theorem hlt {H : Type} {enc : TypeId × Value → H} {W : World} {t : TypeId} {v : Value} {d : DataW H} {ps : List MemPlace} (h : DataW.Trod enc Try.prog W 0 (fun _ => true) true t v d ps) : ∀ x ∈ ps, x.block < W.heap.size := by
  obtain ⟨fuel, h⟩ := h
  exact DataW.trod_lt fuel t _ _ h

theorem shape0 : shP Try.prog 12 49 = some (recSh) := by kernel_rfl
theorem agg0 : aggB Try.prog 49 = true := by kernel_rfl
theorem shape1 : shP Try.prog 12 49 = some (recSh) := by kernel_rfl
theorem agg1 : aggB Try.prog 49 = true := by kernel_rfl
theorem shape2 : shP Try.prog 12 86 = some (pageSh) := by kernel_rfl
theorem agg2 : aggB Try.prog 86 = true := by kernel_rfl

set_option maxRecDepth 100000 in
theorem lifted (os : Os) (started : os.Started) (H : Type) (enc : TypeId × Value → H) :
    ReturnsInHanded {} Try.checked os 11 .any (Rows.recordTornSpec.pre6 enc Try.prog Try.f11 Rows.recordTornRow.domain false) (Rows.recordTornSpec.post enc Try.prog Try.f11 false true false false) := by
  refine returnsInHanded_of_change (C := Try.checked) own started (by kernel_rfl) Try.func11
    (ChangeSpec.witness6 (enc := enc) (C := Try.checked) false ⟨#[], #[.agg (Array.replicate 5 (.int .i64 0) ++ Array.replicate 96 (.int .u8 0)), .agg (Array.replicate 5 (.int .i64 0) ++ Array.replicate 96 (.int .u8 0)), .agg (#[.int .i64 0] ++ Array.replicate 96 (.int .u8 0))], []⟩ 8 (by kernel_rfl) (by kernel_rfl) (by kernel_rfl) (by kernel_rfl)) ?_
  intro W base args ds gs before hval0 hW hcnd _
  have hW' := hW
  obtain ⟨p, q, hA0, hV, rfl, hfz, hnd⟩ := hW
  have hA : DataW.TrodAll enc Try.prog W 0 (fun _ => true) true Try.f11.params.toList args.toList ds p := hA0
  rw [Try.params11] at hA
  obtain ⟨v0, v1, v2, d0, d1, d2, p0, p1, p2, rfl, rfl, rfl, h0, h1, h2⟩ := trodAll_three hA
  obtain ⟨rfl, rfl⟩ := trodVars_none hV
  obtain ⟨u0, r0, i0⟩ := param_in shape0 (hval0 0 49 v0 (by rw [Try.params11]; rfl) rfl) h0
  rw [agg0] at i0
  obtain ⟨u1, r1, i1⟩ := param_in shape1 (hval0 1 49 v1 (by rw [Try.params11]; rfl) rfl) h1
  rw [agg1] at i1
  obtain ⟨u2, r2, i2⟩ := param_in shape2 (hval0 2 86 v2 (by rw [Try.params11]; rfl) rfl) h2
  rw [agg2] at i2
  obtain ⟨N, n, hr⟩ := runsRecordTorn i0 i1 i2
  have walk := law_from Try.checked.mixed (trProg_of trAll) hr W #[v0, v1, v2] rfl (fun i c h => by
    match i, h with
    | 0, h => cases h; exact r0
    | 1, h => cases h; exact r1
    | 2, h => cases h; exact r2
    | i + 3, h => simp at h)
  refine walk.mono fun e W' ⟨he, bel⟩ => ?_
  subst he
  exact ⟨_, rfl, _, _, _, [], _, [], hW', trodAll_mk1 (shut_bool Try.underlying4 _), trodAll_mk3 (Below.trod laid (by kernel_rfl) (of_decide_eq_true (by kernel_rfl)) h0 bel (hlt h0)) (Below.trod laid (by kernel_rfl) (of_decide_eq_true (by kernel_rfl)) h1 bel (hlt h1)) (Below.trod laid (by kernel_rfl) (of_decide_eq_true (by kernel_rfl)) h2 bel (hlt h2)), rfl, bel.frame _, fun h => by cases h⟩

theorem over : Rows.recordTornRow.holds Try.pinned (OpenSpec.ofChange Rows.recordTornSpec) :=
  OpenClaim.holds_of_wide 11 Try.f11 rfl rfl rfl rfl rfl rfl rfl ⟨rfl, rfl, rfl, rfl, rfl⟩ rfl rfl rfl rfl rfl (by kernel_rfl) Try.func11 (by kernel_rfl)
    (of_decide_eq_true (by kernel_rfl)) (by unfold Func.isWrapper; first | (rw [if_pos (by decide +kernel)]; kernel_rfl) | (rw [if_neg (by decide +kernel)]; exact ⟨rfl, rfl⟩))
    (fun os started H enc _ => lifted os started H enc)

theorem proved : Rows.RecordTornSaid := over
#print axioms proved
end Go.Proofs.Ythfpjffgagacmaa.recordTorn
namespace Go.Proofs.Ythfpjffgagacmaa
theorem recordTorn_holds : Rows.RecordTornSaid := recordTorn.proved
end Go.Proofs.Ythfpjffgagacmaa
