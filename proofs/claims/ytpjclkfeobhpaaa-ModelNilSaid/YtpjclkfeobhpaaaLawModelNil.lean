/- A closed sentence: models that are not there; as many writes as may be, and one more. No condition. -/
import Derived.Test.YtpjclkfeobhpaaaRows
import Derived.Test.YtpjclkfeobhpaaaK4
import Derived.WalkKit
import Derived.ProofKit
import Derived.OpenShut
import Derived.ShutString
import Derived.ChangeOld
import Derived.Below
import Derived.SizedLaws
namespace Go.Proofs.Ytpjclkfeobhpaaa.modelNil
open Go.Am Go.Am.T
set_option linter.unusedVariables false

theorem tr6 : trF Try.prog am FMode.pure 6 Try.f6 = some am6 := by kernel_rfl

theorem tr7 : trF Try.prog am FMode.pure 7 Try.f7 = some am7 := by kernel_rfl

theorem tr8 : trF Try.prog am FMode.keep 8 Try.f8 = some am8 := by kernel_rfl

theorem tr9 : trF Try.prog am FMode.pure 9 Try.f9 = some am9 := by kernel_rfl

theorem tr10 : trF Try.prog am FMode.keep 10 Try.f10 = some am10 := by kernel_rfl

theorem tr11 : trF Try.prog am FMode.keep 11 Try.f11 = some am11 := by kernel_rfl

theorem tr12 : trF Try.prog am FMode.keep 12 Try.f12 = some am12 := by kernel_rfl

theorem tr13 : trF Try.prog am FMode.keep 13 Try.f13 = some am13 := by kernel_rfl

theorem tr14 : trF Try.prog am FMode.keep 14 Try.f14 = some am14 := by kernel_rfl

theorem tr17 : trF Try.prog am FMode.keep 17 Try.f17 = some am17 := by kernel_rfl

theorem tr20 : trF Try.prog am FMode.pure 20 Try.f20 = some am20 := by kernel_rfl

theorem tr21 : trF Try.prog am FMode.keep 21 Try.f21 = some am21 := by kernel_rfl

theorem tr22 : trF Try.prog am FMode.keep 22 Try.f22 = some am22 := by kernel_rfl

theorem tr23 : trF Try.prog am FMode.keep 23 Try.f23 = some am23 := by kernel_rfl

theorem tr24 : trF Try.prog am FMode.keep 24 Try.f24 = some am24 := by kernel_rfl

theorem tr25 : trF Try.prog am FMode.pure 25 Try.f25 = some am25 := by kernel_rfl

theorem tr26 : trF Try.prog am FMode.keep 26 Try.f26 = some am26 := by kernel_rfl

theorem tr27 : trF Try.prog am FMode.keep 27 Try.f27 = some am27 := by kernel_rfl

theorem tr28 : trF Try.prog am FMode.keep 28 Try.f28 = some am28 := by kernel_rfl

theorem tr29 : trF Try.prog am FMode.keep 29 Try.f29 = some am29 := by kernel_rfl

theorem tr30 : trF Try.prog am FMode.keep 30 Try.f30 = some am30 := by kernel_rfl

theorem tr34 : trF Try.prog am FMode.look 34 Try.f34 = some am34 := by kernel_rfl

theorem tr35 : trF Try.prog am FMode.look 35 Try.f35 = some am35 := by kernel_rfl

theorem tr39 : trF Try.prog am FMode.keep 39 Try.f39 = some am39 := by kernel_rfl

theorem tr41 : trF Try.prog am FMode.keep 41 Try.f41 = some am41 := by kernel_rfl

theorem tr45 : trF Try.prog am FMode.keep 45 Try.f45 = some am45 := by kernel_rfl

theorem tr46 : trF Try.prog am FMode.pure 46 Try.f46 = some am46 := by kernel_rfl

theorem tr47 : trF Try.prog am FMode.keep 47 Try.f47 = some am47 := by kernel_rfl

theorem tr48 : trF Try.prog am FMode.pure 48 Try.f48 = some am48 := by kernel_rfl

theorem tr49 : trF Try.prog am FMode.keep 49 Try.f49 = some am49 := by kernel_rfl

theorem tr51 : trF Try.prog am FMode.keep 51 Try.f51 = some am51 := by kernel_rfl

theorem tr52 : trF Try.prog am FMode.keep 52 Try.f52 = some am52 := by kernel_rfl

theorem trAll : TrAll Try.prog am am 0 := ⟨⟨Try.f6, rfl, .inl tr6⟩, ⟨Try.f7, rfl, .inl tr7⟩, ⟨Try.f8, rfl, .inl tr8⟩, ⟨Try.f9, rfl, .inl tr9⟩, ⟨Try.f10, rfl, .inl tr10⟩, ⟨Try.f11, rfl, .inl tr11⟩, ⟨Try.f12, rfl, .inl tr12⟩, ⟨Try.f13, rfl, .inl tr13⟩, ⟨Try.f14, rfl, .inl tr14⟩, ⟨Try.f17, rfl, .inl tr17⟩, ⟨Try.f20, rfl, .inl tr20⟩, ⟨Try.f21, rfl, .inl tr21⟩, ⟨Try.f22, rfl, .inl tr22⟩, ⟨Try.f23, rfl, .inl tr23⟩, ⟨Try.f24, rfl, .inl tr24⟩, ⟨Try.f25, rfl, .inl tr25⟩, ⟨Try.f26, rfl, .inl tr26⟩, ⟨Try.f27, rfl, .inl tr27⟩, ⟨Try.f28, rfl, .inl tr28⟩, ⟨Try.f29, rfl, .inl tr29⟩, ⟨Try.f30, rfl, .inl tr30⟩, ⟨Try.f34, rfl, .inl tr34⟩, ⟨Try.f35, rfl, .inl tr35⟩, ⟨Try.f39, rfl, .inl tr39⟩, ⟨Try.f41, rfl, .inl tr41⟩, ⟨Try.f45, rfl, .inl tr45⟩, ⟨Try.f46, rfl, .inl tr46⟩, ⟨Try.f47, rfl, .inl tr47⟩, ⟨Try.f48, rfl, .inl tr48⟩, ⟨Try.f49, rfl, .inl tr49⟩, ⟨Try.f51, rfl, .inl tr51⟩, ⟨Try.f52, rfl, .inl tr52⟩, trivial⟩


open Go.ChangeShapes Go.WideShapes Go.ChangeAt Go.RowKit

theorem own : ownKnob Try.prog.godebug = none := by kernel_rfl
theorem laid : laidOutB Try.prog = true := by kernel_rfl

theorem walk (w : World) : Calls Try.prog 6 #[] w fun e w' => e = .returned (.bool true) ∧ Below w.heap.size w w' :=
  law_from Try.checked.mixed (trProg_of trAll) runsModelNil w #[] rfl (fun i c h => by simp at h)

set_option maxRecDepth 100000 in
theorem lifted (os : Os) (started : os.Started) (H : Type) (enc : TypeId × Value → H) :
    ReturnsInHanded {} Try.checked os 6 .any (Rows.modelNilSpec.pre6 enc Try.prog Try.f6 Rows.modelNilRow.domain false) (Rows.modelNilSpec.post enc Try.prog Try.f6 false true false false) := by
  refine returnsInHanded_of_change (C := Try.checked) own started (by kernel_rfl) Try.func6
    (ChangeSpec.witness6 (enc := enc) (C := Try.checked) false ⟨#[], #[], []⟩ 8 (by kernel_rfl) (by kernel_rfl) (by kernel_rfl) (by kernel_rfl)) ?_
  intro W base args ds gs before hval0 hW hcnd _
  have hW' := hW
  obtain ⟨p, q, hA0, hV, rfl, hfz, hnd⟩ := hW
  have hA : DataW.TrodAll enc Try.prog W 0 (fun _ => true) true Try.f6.params.toList args.toList ds p := hA0
  rw [Try.params6] at hA
  obtain ⟨rfl, rfl, rfl⟩ := trodAll_none hA
  obtain ⟨rfl, rfl⟩ := trodVars_none hV
  refine (walk W).mono fun e W' ⟨he, bel⟩ => ?_
  subst he
  exact ⟨_, rfl, _, _, _, [], _, [], hW', trodAll_mk1 (shut_bool Try.underlying4 _), trodAll_mk0, rfl, bel.frame _, fun h => by cases h⟩

theorem over : Rows.modelNilRow.holds Try.pinned (OpenSpec.ofChange Rows.modelNilSpec) :=
  OpenClaim.holds_of_wide 6 Try.f6 rfl rfl rfl rfl rfl rfl rfl ⟨rfl, rfl, rfl, rfl, rfl⟩ rfl rfl rfl rfl rfl (by kernel_rfl) Try.func6 (by kernel_rfl)
    (of_decide_eq_true (by kernel_rfl)) (by unfold Func.isWrapper; first | (rw [if_pos (by decide +kernel)]; kernel_rfl) | (rw [if_neg (by decide +kernel)]; exact ⟨rfl, rfl⟩))
    (fun os started H enc _ => lifted os started H enc)

theorem proved : Rows.ModelNilSaid := over
#print axioms proved
end Go.Proofs.Ytpjclkfeobhpaaa.modelNil
namespace Go.Proofs.Ytpjclkfeobhpaaa
theorem modelNil_holds : Rows.ModelNilSaid := modelNil.proved
end Go.Proofs.Ytpjclkfeobhpaaa
