/- A model, under any writes, flushes and losses, has just the writes that the chapter says, and refuses what it says. No condition. -/
import Derived.Test.YtpjclkfeobhpaaaRows
import Derived.Test.YtpjclkfeobhpaaaK5
import Derived.WalkKit
import Derived.ProofKit
import Derived.OpenShut
import Derived.ShutString
import Derived.ChangeOld
import Derived.Below
import Derived.SizedLaws
namespace Go.Proofs.Ytpjclkfeobhpaaa.modelSteps
open Go.Am Go.Am.T
set_option linter.unusedVariables false

theorem tr5 : trF Try.prog am FMode.auto 5 Try.f5 = some am5 := by kernel_rfl

theorem tr7 : trF Try.prog am FMode.pure 7 Try.f7 = some am7 := by kernel_rfl

theorem tr8 : trF Try.prog am FMode.keep 8 Try.f8 = some am8 := by kernel_rfl

theorem tr9 : trF Try.prog am FMode.pure 9 Try.f9 = some am9 := by kernel_rfl

theorem tr10 : trF Try.prog am FMode.keep 10 Try.f10 = some am10 := by kernel_rfl

theorem tr11 : trF Try.prog am FMode.keep 11 Try.f11 = some am11 := by kernel_rfl

theorem tr12 : trF Try.prog am FMode.keep 12 Try.f12 = some am12 := by kernel_rfl

theorem tr13 : trF Try.prog am FMode.keep 13 Try.f13 = some am13 := by kernel_rfl

theorem tr15 : trF Try.prog am FMode.keep 15 Try.f15 = some am15 := by kernel_rfl

theorem tr16 : trF Try.prog am FMode.keep 16 Try.f16 = some am16 := by kernel_rfl

theorem tr17 : trF Try.prog am FMode.keep 17 Try.f17 = some am17 := by kernel_rfl

theorem tr19 : trF Try.prog am FMode.keep 19 Try.f19 = some am19 := by kernel_rfl

theorem tr20 : trF Try.prog am FMode.pure 20 Try.f20 = some am20 := by kernel_rfl

theorem tr21 : trF Try.prog am FMode.keep 21 Try.f21 = some am21 := by kernel_rfl

theorem tr23 : trF Try.prog am FMode.keep 23 Try.f23 = some am23 := by kernel_rfl

theorem tr24 : trF Try.prog am FMode.keep 24 Try.f24 = some am24 := by kernel_rfl

theorem tr25 : trF Try.prog am FMode.pure 25 Try.f25 = some am25 := by kernel_rfl

theorem tr26 : trF Try.prog am FMode.keep 26 Try.f26 = some am26 := by kernel_rfl

theorem tr27 : trF Try.prog am FMode.keep 27 Try.f27 = some am27 := by kernel_rfl

theorem tr28 : trF Try.prog am FMode.keep 28 Try.f28 = some am28 := by kernel_rfl

theorem tr29 : trF Try.prog am FMode.keep 29 Try.f29 = some am29 := by kernel_rfl

theorem tr30 : trF Try.prog am FMode.keep 30 Try.f30 = some am30 := by kernel_rfl

theorem tr31 : trF Try.prog am FMode.keep 31 Try.f31 = some am31 := by kernel_rfl

theorem tr32 : trF Try.prog am FMode.keep 32 Try.f32 = some am32 := by kernel_rfl

theorem tr33 : trF Try.prog am FMode.keep 33 Try.f33 = some am33 := by kernel_rfl

theorem tr34 : trF Try.prog am FMode.look 34 Try.f34 = some am34 := by kernel_rfl

theorem tr35 : trF Try.prog am FMode.look 35 Try.f35 = some am35 := by kernel_rfl

theorem tr36 : trF Try.prog am FMode.look 36 Try.f36 = some am36 := by kernel_rfl

theorem tr37 : trF Try.prog am FMode.keep 37 Try.f37 = some am37 := by kernel_rfl

theorem tr38 : trF Try.prog am FMode.keep 38 Try.f38 = some am38 := by kernel_rfl

theorem tr39 : trF Try.prog am FMode.keep 39 Try.f39 = some am39 := by kernel_rfl

theorem tr40 : trF Try.prog am FMode.keep 40 Try.f40 = some am40 := by kernel_rfl

theorem tr41 : trF Try.prog am FMode.keep 41 Try.f41 = some am41 := by kernel_rfl

theorem tr42 : trF Try.prog am FMode.look 42 Try.f42 = some am42 := by kernel_rfl

theorem tr43 : trF Try.prog am FMode.look 43 Try.f43 = some am43 := by kernel_rfl

theorem tr44 : trF Try.prog am FMode.keep 44 Try.f44 = some am44 := by kernel_rfl

theorem tr45 : trF Try.prog am FMode.keep 45 Try.f45 = some am45 := by kernel_rfl

theorem tr46 : trF Try.prog am FMode.pure 46 Try.f46 = some am46 := by kernel_rfl

theorem tr47 : trF Try.prog am FMode.keep 47 Try.f47 = some am47 := by kernel_rfl

theorem tr48 : trF Try.prog am FMode.pure 48 Try.f48 = some am48 := by kernel_rfl

theorem tr49 : trF Try.prog am FMode.keep 49 Try.f49 = some am49 := by kernel_rfl

theorem tr50 : trF Try.prog am FMode.pure 50 Try.f50 = some am50 := by kernel_rfl

theorem tr51 : trF Try.prog am FMode.keep 51 Try.f51 = some am51 := by kernel_rfl

theorem tr52 : trF Try.prog am FMode.keep 52 Try.f52 = some am52 := by kernel_rfl

theorem trAll : TrAll Try.prog am am 0 := ⟨⟨Try.f5, rfl, .inl tr5⟩, ⟨Try.f7, rfl, .inl tr7⟩, ⟨Try.f8, rfl, .inl tr8⟩, ⟨Try.f9, rfl, .inl tr9⟩, ⟨Try.f10, rfl, .inl tr10⟩, ⟨Try.f11, rfl, .inl tr11⟩, ⟨Try.f12, rfl, .inl tr12⟩, ⟨Try.f13, rfl, .inl tr13⟩, ⟨Try.f15, rfl, .inl tr15⟩, ⟨Try.f16, rfl, .inl tr16⟩, ⟨Try.f17, rfl, .inl tr17⟩, ⟨Try.f19, rfl, .inl tr19⟩, ⟨Try.f20, rfl, .inl tr20⟩, ⟨Try.f21, rfl, .inl tr21⟩, ⟨Try.f23, rfl, .inl tr23⟩, ⟨Try.f24, rfl, .inl tr24⟩, ⟨Try.f25, rfl, .inl tr25⟩, ⟨Try.f26, rfl, .inl tr26⟩, ⟨Try.f27, rfl, .inl tr27⟩, ⟨Try.f28, rfl, .inl tr28⟩, ⟨Try.f29, rfl, .inl tr29⟩, ⟨Try.f30, rfl, .inl tr30⟩, ⟨Try.f31, rfl, .inl tr31⟩, ⟨Try.f32, rfl, .inl tr32⟩, ⟨Try.f33, rfl, .inl tr33⟩, ⟨Try.f34, rfl, .inl tr34⟩, ⟨Try.f35, rfl, .inl tr35⟩, ⟨Try.f36, rfl, .inl tr36⟩, ⟨Try.f37, rfl, .inl tr37⟩, ⟨Try.f38, rfl, .inl tr38⟩, ⟨Try.f39, rfl, .inl tr39⟩, ⟨Try.f40, rfl, .inl tr40⟩, ⟨Try.f41, rfl, .inl tr41⟩, ⟨Try.f42, rfl, .inl tr42⟩, ⟨Try.f43, rfl, .inl tr43⟩, ⟨Try.f44, rfl, .inl tr44⟩, ⟨Try.f45, rfl, .inl tr45⟩, ⟨Try.f46, rfl, .inl tr46⟩, ⟨Try.f47, rfl, .inl tr47⟩, ⟨Try.f48, rfl, .inl tr48⟩, ⟨Try.f49, rfl, .inl tr49⟩, ⟨Try.f50, rfl, .inl tr50⟩, ⟨Try.f51, rfl, .inl tr51⟩, ⟨Try.f52, rfl, .inl tr52⟩, trivial⟩


open Go.ChangeShapes Go.WideShapes Go.ChangeAt Go.RowKit

theorem own : ownKnob Try.prog.godebug = none := by kernel_rfl
theorem laid : laidOutB Try.prog = true := by kernel_rfl

theorem hlt {H : Type} {enc : TypeId × Value → H} {W : World} {t : TypeId} {v : Value} {d : DataW H} {ps : List MemPlace} (h : DataW.Trod enc Try.prog W 0 (fun _ => true) true t v d ps) : ∀ x ∈ ps, x.block < W.heap.size := by
  obtain ⟨fuel, h⟩ := h
  exact DataW.trod_lt fuel t _ _ h

theorem shape0 : shP Try.prog 12 3 = some (.int .i64) := by kernel_rfl
theorem agg0 : aggB Try.prog 3 = false := by kernel_rfl
theorem shape1 : shP Try.prog 12 22 = some (.sl true 101 stSh) := by kernel_rfl
theorem agg1 : aggB Try.prog 22 = false := by kernel_rfl
theorem shape2 : shP Try.prog 12 3 = some (.int .i64) := by kernel_rfl
theorem agg2 : aggB Try.prog 3 = false := by kernel_rfl

set_option maxRecDepth 100000 in
theorem lifted (os : Os) (started : os.Started) (H : Type) (enc : TypeId × Value → H) :
    ReturnsInHanded {} Try.checked os 5 .any (Rows.modelStepsSpec.pre6 enc Try.prog Try.f5 Rows.modelStepsRow.domain false) (Rows.modelStepsSpec.post enc Try.prog Try.f5 false true false false) := by
  refine returnsInHanded_of_change (C := Try.checked) own started (by kernel_rfl) Try.func5
    (ChangeSpec.witness6 (enc := enc) (C := Try.checked) false ⟨#[], #[.int .i64 0, .slice none 0 0, .int .i64 0], []⟩ 8 (by kernel_rfl) (by kernel_rfl) (by kernel_rfl) (by kernel_rfl)) ?_
  intro W base args ds gs before hval0 hW hcnd _
  have hW' := hW
  obtain ⟨p, q, hA0, hV, rfl, hfz, hnd⟩ := hW
  have hA : DataW.TrodAll enc Try.prog W 0 (fun _ => true) true Try.f5.params.toList args.toList ds p := hA0
  rw [Try.params5] at hA
  obtain ⟨v0, v1, v2, d0, d1, d2, p0, p1, p2, rfl, rfl, rfl, h0, h1, h2⟩ := trodAll_three hA
  obtain ⟨rfl, rfl⟩ := trodVars_none hV
  obtain ⟨u0, r0, i0⟩ := param_in (fun _ => rfl) shape0 (hval0 0 3 v0 (by rw [Try.params5]; rfl) rfl) h0
  rw [agg0] at i0
  obtain ⟨u1, r1, i1⟩ := param_in (fun _ => rfl) shape1 (hval0 1 22 v1 (by rw [Try.params5]; rfl) rfl) h1
  rw [agg1] at i1
  obtain ⟨u2, r2, i2⟩ := param_in (fun _ => rfl) shape2 (hval0 2 3 v2 (by rw [Try.params5]; rfl) rfl) h2
  rw [agg2] at i2
  obtain ⟨N, n, hr⟩ := runsModelSteps i0 i1 i2
  have walk := law_from Try.checked.mixed (trProg_of trAll) hr W #[v0, v1, v2] rfl (fun i c h => by
    match i, h with
    | 0, h => cases h; exact r0
    | 1, h => cases h; exact r1
    | 2, h => cases h; exact r2
    | i + 3, h => simp at h)
  refine walk.mono fun e W' ⟨he, bel⟩ => ?_
  subst he
  exact ⟨_, rfl, _, _, _, [], _, [], hW', trodAll_mk1 (shut_bool Try.underlying4 _), trodAll_mk3 (Below.trod laid (by kernel_rfl) (of_decide_eq_true (by kernel_rfl)) h0 bel (hlt h0)) (Below.trod laid (by kernel_rfl) (of_decide_eq_true (by kernel_rfl)) h1 bel (hlt h1)) (Below.trod laid (by kernel_rfl) (of_decide_eq_true (by kernel_rfl)) h2 bel (hlt h2)), rfl, bel.frame _, fun h => by cases h⟩

theorem over : Rows.modelStepsRow.holds Try.pinned (OpenSpec.ofChange Rows.modelStepsSpec) :=
  OpenClaim.holds_of_wide 5 Try.f5 rfl rfl rfl rfl rfl rfl rfl ⟨rfl, rfl, rfl, rfl, rfl⟩ rfl rfl rfl rfl rfl (by kernel_rfl) Try.func5 (by kernel_rfl)
    (of_decide_eq_true (by kernel_rfl)) (by unfold Func.isWrapper; first | (rw [if_pos (by decide +kernel)]; kernel_rfl) | (rw [if_neg (by decide +kernel)]; exact ⟨rfl, rfl⟩))
    (fun os started H enc _ => lifted os started H enc)

theorem proved : Rows.ModelStepsSaid := over
#print axioms proved
end Go.Proofs.Ytpjclkfeobhpaaa.modelSteps
namespace Go.Proofs.Ytpjclkfeobhpaaa
theorem modelSteps_holds : Rows.ModelStepsSaid := modelSteps.proved
end Go.Proofs.Ytpjclkfeobhpaaa
