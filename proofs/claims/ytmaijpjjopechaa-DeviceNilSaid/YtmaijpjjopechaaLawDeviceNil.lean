/- A closed sentence: devices that are not there, zero ones; sizes and epochs at their bounds. No condition. -/
import Derived.Test.YtmaijpjjopechaaRows
import Derived.Test.YtmaijpjjopechaaK3
import Derived.WalkKit
import Derived.ProofKit
import Derived.OpenShut
import Derived.ShutString
import Derived.ChangeOld
import Derived.Below
import Derived.SizedLaws
namespace Go.Proofs.Ytmaijpjjopechaa.deviceNil
open Go.Am Go.Am.T
set_option linter.unusedVariables false

theorem tr7 : trF Try.prog am FMode.pure 7 Try.f7 = some am7 := by kernel_rfl

theorem tr8 : trF Try.prog am FMode.pure 8 Try.f8 = some am8 := by kernel_rfl

theorem tr9 : trF Try.prog am FMode.keep 9 Try.f9 = some am9 := by kernel_rfl

theorem tr11 : trF Try.prog am FMode.pure 11 Try.f11 = some am11 := by kernel_rfl

theorem tr15 : trF Try.prog am FMode.keep 15 Try.f15 = some am15 := by kernel_rfl

theorem tr17 : trF Try.prog am FMode.look 17 Try.f17 = some am17 := by kernel_rfl

theorem tr19 : trF Try.prog am FMode.look 19 Try.f19 = some am19 := by kernel_rfl

theorem tr20 : trF Try.prog am FMode.keep 20 Try.f20 = some am20 := by kernel_rfl

theorem tr21 : trF Try.prog am FMode.keep 21 Try.f21 = some am21 := by kernel_rfl

theorem tr22 : trF Try.prog am FMode.keep 22 Try.f22 = some am22 := by kernel_rfl

theorem tr23 : trF Try.prog am FMode.pure 23 Try.f23 = some am23 := by kernel_rfl

theorem tr24 : trF Try.prog am FMode.keep 24 Try.f24 = some am24 := by kernel_rfl

theorem tr25 : trF Try.prog am FMode.keep 25 Try.f25 = some am25 := by kernel_rfl

theorem tr26 : trF Try.prog am FMode.look 26 Try.f26 = some am26 := by kernel_rfl

theorem tr27 : trF Try.prog am FMode.keep 27 Try.f27 = some am27 := by kernel_rfl

theorem tr28 : trF Try.prog am FMode.keep 28 Try.f28 = some am28 := by kernel_rfl

theorem tr29 : trF Try.prog am FMode.keep 29 Try.f29 = some am29 := by kernel_rfl

theorem tr30 : trF Try.prog am FMode.keep 30 Try.f30 = some am30 := by kernel_rfl

theorem tr31 : trF Try.prog am FMode.pure 31 Try.f31 = some am31 := by kernel_rfl

theorem tr32 : trF Try.prog am FMode.look 32 Try.f32 = some am32 := by kernel_rfl

theorem tr33 : trF Try.prog am FMode.look 33 Try.f33 = some am33 := by kernel_rfl

theorem tr34 : trF Try.prog am FMode.look 34 Try.f34 = some am34 := by kernel_rfl

theorem tr35 : trF Try.prog am FMode.keep 35 Try.f35 = some am35 := by kernel_rfl

theorem tr38 : trF Try.prog am FMode.look 38 Try.f38 = some am38 := by kernel_rfl

theorem tr41 : trF Try.prog am FMode.keep 41 Try.f41 = some am41 := by kernel_rfl

theorem tr48 : trF Try.prog am FMode.look 48 Try.f48 = some am48 := by kernel_rfl

theorem tr49 : trF Try.prog am FMode.look 49 Try.f49 = some am49 := by kernel_rfl

theorem tr50 : trF Try.prog am FMode.look 50 Try.f50 = some am50 := by kernel_rfl

theorem tr51 : trF Try.prog am FMode.auto 51 Try.f51 = some am51 := by kernel_rfl

theorem tr52 : trF Try.prog am FMode.look 52 Try.f52 = some am52 := by kernel_rfl

theorem tr53 : trF Try.prog am FMode.keep 53 Try.f53 = some am53 := by kernel_rfl

theorem tr54 : trF Try.prog am FMode.keep 54 Try.f54 = some am54 := by kernel_rfl

theorem tr55 : trF Try.prog am FMode.keep 55 Try.f55 = some am55 := by kernel_rfl

theorem tr56 : trF Try.prog am FMode.keep 56 Try.f56 = some am56 := by kernel_rfl

theorem tr57 : trF Try.prog am FMode.keep 57 Try.f57 = some am57 := by kernel_rfl

theorem tr58 : trF Try.prog am FMode.keep 58 Try.f58 = some am58 := by kernel_rfl

theorem tr59 : trF Try.prog am FMode.keep 59 Try.f59 = some am59 := by kernel_rfl

theorem trAll : TrAll Try.prog am am 0 := ⟨⟨Try.f7, rfl, .inl tr7⟩, ⟨Try.f8, rfl, .inl tr8⟩, ⟨Try.f9, rfl, .inl tr9⟩, ⟨Try.f11, rfl, .inl tr11⟩, ⟨Try.f15, rfl, .inl tr15⟩, ⟨Try.f17, rfl, .inl tr17⟩, ⟨Try.f19, rfl, .inl tr19⟩, ⟨Try.f20, rfl, .inl tr20⟩, ⟨Try.f21, rfl, .inl tr21⟩, ⟨Try.f22, rfl, .inl tr22⟩, ⟨Try.f23, rfl, .inl tr23⟩, ⟨Try.f24, rfl, .inl tr24⟩, ⟨Try.f25, rfl, .inl tr25⟩, ⟨Try.f26, rfl, .inl tr26⟩, ⟨Try.f27, rfl, .inl tr27⟩, ⟨Try.f28, rfl, .inl tr28⟩, ⟨Try.f29, rfl, .inl tr29⟩, ⟨Try.f30, rfl, .inl tr30⟩, ⟨Try.f31, rfl, .inl tr31⟩, ⟨Try.f32, rfl, .inl tr32⟩, ⟨Try.f33, rfl, .inl tr33⟩, ⟨Try.f34, rfl, .inl tr34⟩, ⟨Try.f35, rfl, .inl tr35⟩, ⟨Try.f38, rfl, .inl tr38⟩, ⟨Try.f41, rfl, .inl tr41⟩, ⟨Try.f48, rfl, .inl tr48⟩, ⟨Try.f49, rfl, .inl tr49⟩, ⟨Try.f50, rfl, .inl tr50⟩, ⟨Try.f51, rfl, .inl tr51⟩, ⟨Try.f52, rfl, .inl tr52⟩, ⟨Try.f53, rfl, .inl tr53⟩, ⟨Try.f54, rfl, .inl tr54⟩, ⟨Try.f55, rfl, .inl tr55⟩, ⟨Try.f56, rfl, .inl tr56⟩, ⟨Try.f57, rfl, .inl tr57⟩, ⟨Try.f58, rfl, .inl tr58⟩, ⟨Try.f59, rfl, .inl tr59⟩, trivial⟩


open Go.ChangeShapes Go.WideShapes Go.ChangeAt Go.RowKit

theorem own : ownKnob Try.prog.godebug = none := by kernel_rfl
theorem laid : laidOutB Try.prog = true := by kernel_rfl

theorem walk (w : World) : Calls Try.prog 7 #[] w fun e w' => e = .returned (.bool true) ∧ Below w.heap.size w w' :=
  law_from Try.checked.mixed (trProg_of trAll) runsDeviceNil w #[] rfl (fun i c h => by simp at h)

set_option maxRecDepth 100000 in
theorem lifted (os : Os) (started : os.Started) (H : Type) (enc : TypeId × Value → H) :
    ReturnsInHanded {} Try.checked os 7 .any (Rows.deviceNilSpec.pre6 enc Try.prog Try.f7 Rows.deviceNilRow.domain false) (Rows.deviceNilSpec.post enc Try.prog Try.f7 false true false false) := by
  refine returnsInHanded_of_change (C := Try.checked) own started (by kernel_rfl) Try.func7
    (ChangeSpec.witness6 (enc := enc) (C := Try.checked) false ⟨#[], #[], []⟩ 8 (by kernel_rfl) (by kernel_rfl) (by kernel_rfl) (by kernel_rfl)) ?_
  intro W base args ds gs before hval0 hW hcnd _
  have hW' := hW
  obtain ⟨p, q, hA0, hV, rfl, hfz, hnd⟩ := hW
  have hA : DataW.TrodAll enc Try.prog W 0 (fun _ => true) true Try.f7.params.toList args.toList ds p := hA0
  rw [Try.params7] at hA
  obtain ⟨rfl, rfl, rfl⟩ := trodAll_none hA
  obtain ⟨rfl, rfl⟩ := trodVars_none hV
  refine (walk W).mono fun e W' ⟨he, bel⟩ => ?_
  subst he
  exact ⟨_, rfl, _, _, _, [], _, [], hW', trodAll_mk1 (shut_bool Try.underlying4 _), trodAll_mk0, rfl, bel.frame _, fun h => by cases h⟩

theorem over : Rows.deviceNilRow.holds Try.pinned (OpenSpec.ofChange Rows.deviceNilSpec) :=
  OpenClaim.holds_of_wide 7 Try.f7 rfl rfl rfl rfl rfl rfl rfl ⟨rfl, rfl, rfl, rfl, rfl⟩ rfl rfl rfl rfl rfl (by kernel_rfl) Try.func7 (by kernel_rfl)
    (of_decide_eq_true (by kernel_rfl)) (by unfold Func.isWrapper; first | (rw [if_pos (by decide +kernel)]; kernel_rfl) | (rw [if_neg (by decide +kernel)]; exact ⟨rfl, rfl⟩))
    (fun os started H enc _ => lifted os started H enc)

theorem proved : Rows.DeviceNilSaid := over
#print axioms proved
end Go.Proofs.Ytmaijpjjopechaa.deviceNil
namespace Go.Proofs.Ytmaijpjjopechaa
theorem deviceNil_holds : Rows.DeviceNilSaid := deviceNil.proved
end Go.Proofs.Ytmaijpjjopechaa
