/- all sectors of a job are gone over, rising, each with what lies there; left early, once more No condition. -/
import Derived.Test.YthfpjffgagacmaaRows
import Derived.Test.YthfpjffgagacmaaTx2
import Derived.WalkKit
import Derived.ProofKit
import Derived.OpenShut
import Derived.ShutString
import Derived.ChangeOld
import Derived.Below
import Derived.SizedLaws
namespace Go.Proofs.Ythfpjffgagacmaa.areaAll
open Go.Am Go.Am.T
set_option linter.unusedVariables false

theorem tr3 : trF Try.prog am FMode.look 3 Try.f3 = some am3 := by kernel_rfl

theorem tr8 : trF Try.prog am FMode.pure 8 Try.f8 = some am8 := by kernel_rfl

theorem tr12 : trF Try.prog am FMode.pure 12 Try.f12 = some am12 := by kernel_rfl

theorem tr13 : trF Try.prog am FMode.pure 13 Try.f13 = some am13 := by kernel_rfl

theorem tr14 : trF Try.prog am FMode.pure 14 Try.f14 = some am14 := by kernel_rfl

theorem tr15 : trF Try.prog am FMode.pure 15 Try.f15 = some am15 := by kernel_rfl

theorem tr16 : trF Try.prog am FMode.pure 16 Try.f16 = some am16 := by kernel_rfl

theorem tr17 : trF Try.prog am FMode.pure 17 Try.f17 = some am17 := by kernel_rfl

theorem tr18 : trF Try.prog am FMode.pure 18 Try.f18 = some am18 := by kernel_rfl

theorem tr19 : trF Try.prog am FMode.pure 19 Try.f19 = some am19 := by kernel_rfl

theorem tr20 : trF Try.prog am FMode.pure 20 Try.f20 = some am20 := by kernel_rfl

theorem tr21 : trF Try.prog am FMode.pure 21 Try.f21 = some am21 := by kernel_rfl

theorem tr22 : trF Try.prog am FMode.pure 22 Try.f22 = some am22 := by kernel_rfl

theorem tr23 : trF Try.prog am FMode.pure 23 Try.f23 = some am23 := by kernel_rfl

theorem tr24 : trF Try.prog am FMode.pure 24 Try.f24 = some am24 := by kernel_rfl

theorem tr33 : trF Try.prog am FMode.keep 33 Try.f33 = some am33 := by kernel_rfl

theorem tr49 : trF Try.prog am FMode.pure 49 Try.f49 = some am49 := by kernel_rfl

theorem tr50 : trF Try.prog am FMode.pure 50 Try.f50 = some am50 := by kernel_rfl

theorem tr51 : trF Try.prog am FMode.pure 51 Try.f51 = some am51 := by kernel_rfl

theorem tr52 : trF Try.prog am FMode.pure 52 Try.f52 = some am52 := by kernel_rfl

theorem tr53 : trF Try.prog am FMode.pure 53 Try.f53 = some am53 := by kernel_rfl

theorem tr58 : trF Try.prog am FMode.keep 58 Try.f58 = some am58 := by kernel_rfl

theorem trAll : TrAll Try.prog am am 0 := ⟨⟨Try.f3, rfl, tr3⟩, ⟨Try.f8, rfl, tr8⟩, ⟨Try.f12, rfl, tr12⟩, ⟨Try.f13, rfl, tr13⟩, ⟨Try.f14, rfl, tr14⟩, ⟨Try.f15, rfl, tr15⟩, ⟨Try.f16, rfl, tr16⟩, ⟨Try.f17, rfl, tr17⟩, ⟨Try.f18, rfl, tr18⟩, ⟨Try.f19, rfl, tr19⟩, ⟨Try.f20, rfl, tr20⟩, ⟨Try.f21, rfl, tr21⟩, ⟨Try.f22, rfl, tr22⟩, ⟨Try.f23, rfl, tr23⟩, ⟨Try.f24, rfl, tr24⟩, ⟨Try.f33, rfl, tr33⟩, ⟨Try.f49, rfl, tr49⟩, ⟨Try.f50, rfl, tr50⟩, ⟨Try.f51, rfl, tr51⟩, ⟨Try.f52, rfl, tr52⟩, ⟨Try.f53, rfl, tr53⟩, ⟨Try.f58, rfl, tr58⟩, trivial⟩


open Go.ChangeShapes Go.WideShapes Go.ChangeAt Go.RowKit

theorem own : ownKnob Try.prog.godebug = none := by kernel_rfl
theorem laid : laidOutB Try.prog = true := by kernel_rfl

theorem hlt {H : Type} {enc : TypeId × Value → H} {W : World} {t : TypeId} {v : Value} {d : DataW H} {ps : List MemPlace} (h : DataW.Trod enc Try.prog W 0 (fun _ => true) true t v d ps) : ∀ x ∈ ps, x.block < W.heap.size := by
  obtain ⟨fuel, h⟩ := h
  exact DataW.trod_lt fuel t _ _ h

theorem shape0 : shP Try.prog 12 23 = some (jobSh) := by kernel_rfl
theorem agg0 : aggB Try.prog 23 = true := by kernel_rfl
theorem shape1 : shP Try.prog 12 3 = some (i64S) := by kernel_rfl
theorem agg1 : aggB Try.prog 3 = false := by kernel_rfl

set_option maxRecDepth 100000 in
theorem lifted (os : Os) (started : os.Started) (H : Type) (enc : TypeId × Value → H) :
    ReturnsInHanded {} Try.checked os 8 .any (Rows.areaAllSpec.pre6 enc Try.prog Try.f8 Rows.areaAllRow.domain false) (Rows.areaAllSpec.post enc Try.prog Try.f8 false true false false) := by
  refine returnsInHanded_of_change (C := Try.checked) own started (by kernel_rfl) Try.func8
    (ChangeSpec.witness6 (enc := enc) (C := Try.checked) false ⟨#[], #[.agg (Array.replicate 5 (.int .i64 0)), .int .i64 0], []⟩ 8 (by kernel_rfl) (by kernel_rfl) (by kernel_rfl) (by kernel_rfl)) ?_
  intro W base args ds gs before hval0 hW hcnd _
  have hW' := hW
  obtain ⟨p, q, hA0, hV, rfl, hfz, hnd⟩ := hW
  have hA : DataW.TrodAll enc Try.prog W 0 (fun _ => true) true Try.f8.params.toList args.toList ds p := hA0
  rw [Try.params8] at hA
  obtain ⟨v0, v1, d0, d1, p0, p1, rfl, rfl, rfl, h0, h1⟩ := trodAll_two hA
  obtain ⟨rfl, rfl⟩ := trodVars_none hV
  obtain ⟨u0, r0, i0⟩ := param_in shape0 (hval0 0 23 v0 (by rw [Try.params8]; rfl) rfl) h0
  rw [agg0] at i0
  obtain ⟨u1, r1, i1⟩ := param_in shape1 (hval0 1 3 v1 (by rw [Try.params8]; rfl) rfl) h1
  rw [agg1] at i1
  obtain ⟨N, n, hr⟩ := runsAreaAll i0 i1
  have walk := law_from Try.checked.mixed (trProg_of trAll) hr W #[v0, v1] rfl (fun i c h => by
    match i, h with
    | 0, h => cases h; exact r0
    | 1, h => cases h; exact r1
    | i + 2, h => simp at h)
  refine walk.mono fun e W' ⟨he, bel⟩ => ?_
  subst he
  exact ⟨_, rfl, _, _, _, [], _, [], hW', trodAll_mk1 (shut_bool Try.underlying4 _), trodAll_mk2 (Below.trod laid (by kernel_rfl) (of_decide_eq_true (by kernel_rfl)) h0 bel (hlt h0)) (Below.trod laid (by kernel_rfl) (of_decide_eq_true (by kernel_rfl)) h1 bel (hlt h1)), rfl, bel.frame _, fun h => by cases h⟩

theorem over : Rows.areaAllRow.holds Try.pinned (OpenSpec.ofChange Rows.areaAllSpec) :=
  OpenClaim.holds_of_wide 8 Try.f8 rfl rfl rfl rfl rfl rfl rfl ⟨rfl, rfl, rfl, rfl, rfl⟩ rfl rfl rfl rfl rfl (by kernel_rfl) Try.func8 (by kernel_rfl)
    (of_decide_eq_true (by kernel_rfl)) (by unfold Func.isWrapper; first | (rw [if_pos (by decide +kernel)]; kernel_rfl) | (rw [if_neg (by decide +kernel)]; exact ⟨rfl, rfl⟩))
    (fun os started H enc _ => lifted os started H enc)

theorem proved : Rows.AreaAllSaid := over
#print axioms proved
end Go.Proofs.Ythfpjffgagacmaa.areaAll
namespace Go.Proofs.Ythfpjffgagacmaa
theorem areaAll_holds : Rows.AreaAllSaid := areaAll.proved
end Go.Proofs.Ythfpjffgagacmaa
