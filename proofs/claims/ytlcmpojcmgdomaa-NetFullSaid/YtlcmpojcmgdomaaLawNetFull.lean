/- As many letters as may be, and one more; the longest one; nets that are not there, as the closed law NetFull says. No condition. -/
import Derived.Test.YtlcmpojcmgdomaaRows
import Derived.Test.YtlcmpojcmgdomaaK3
import Derived.WalkKit
import Derived.ProofKit
import Derived.OpenShut
import Derived.ShutString
import Derived.ChangeOld
import Derived.Below
import Derived.SizedLaws
namespace Go.Proofs.Ytlcmpojcmgdomaa.netFull
open Go.Am Go.Am.T
set_option linter.unusedVariables false

theorem tr6 : trF Try.prog am FMode.pure 6 Try.f6 = some am6 := by kernel_rfl

theorem tr7 : trF Try.prog am FMode.pure 7 Try.f7 = some am7 := by kernel_rfl

theorem tr9 : trF Try.prog am FMode.keep 9 Try.f9 = some am9 := by kernel_rfl

theorem tr10 : trF Try.prog am FMode.pure 10 Try.f10 = some am10 := by kernel_rfl

theorem tr11 : trF Try.prog am FMode.keep 11 Try.f11 = some am11 := by kernel_rfl

theorem tr12 : trF Try.prog am FMode.keep 12 Try.f12 = some am12 := by kernel_rfl

theorem tr13 : trF Try.prog am FMode.keep 13 Try.f13 = some am13 := by kernel_rfl

theorem tr15 : trF Try.prog am FMode.keep 15 Try.f15 = some am15 := by kernel_rfl

theorem tr16 : trF Try.prog am FMode.keep 16 Try.f16 = some am16 := by kernel_rfl

theorem tr20 : trF Try.prog am FMode.keep 20 Try.f20 = some am20 := by kernel_rfl

theorem tr22 : trF Try.prog am FMode.look 22 Try.f22 = some am22 := by kernel_rfl

theorem tr23 : trF Try.prog am FMode.keep 23 Try.f23 = some am23 := by kernel_rfl

theorem tr24 : trF Try.prog am FMode.keep 24 Try.f24 = some am24 := by kernel_rfl

theorem tr25 : trF Try.prog am FMode.keep 25 Try.f25 = some am25 := by kernel_rfl

theorem tr26 : trF Try.prog am FMode.keep 26 Try.f26 = some am26 := by kernel_rfl

theorem tr27 : trF Try.prog am FMode.keep 27 Try.f27 = some am27 := by kernel_rfl

theorem tr28 : trF Try.prog am FMode.keep 28 Try.f28 = some am28 := by kernel_rfl

theorem tr29 : trF Try.prog am FMode.keep 29 Try.f29 = some am29 := by kernel_rfl

theorem tr30 : trF Try.prog am FMode.auto 30 Try.f30 = some am30 := by kernel_rfl

theorem tr35 : trF Try.prog am FMode.keep 35 Try.f35 = some am35 := by kernel_rfl

theorem tr38 : trF Try.prog am FMode.keep 38 Try.f38 = some am38 := by kernel_rfl

theorem tr41 : trF Try.prog am FMode.keep 41 Try.f41 = some am41 := by kernel_rfl

theorem tr42 : trF Try.prog am FMode.keep 42 Try.f42 = some am42 := by kernel_rfl

theorem tr43 : trF Try.prog am FMode.keep 43 Try.f43 = some am43 := by kernel_rfl

theorem tr44 : trF Try.prog am FMode.look 44 Try.f44 = some am44 := by kernel_rfl

theorem tr45 : trF Try.prog am FMode.look 45 Try.f45 = some am45 := by kernel_rfl

theorem tr46 : trF Try.prog am FMode.auto 46 Try.f46 = some am46 := by kernel_rfl

theorem tr49 : trF Try.prog am FMode.auto 49 Try.f49 = some am49 := by kernel_rfl

theorem tr50 : trF Try.prog am FMode.auto 50 Try.f50 = some am50 := by kernel_rfl

theorem tr51 : trF Try.prog am FMode.keep 51 Try.f51 = some am51 := by kernel_rfl

theorem tr52 : trF Try.prog am FMode.keep 52 Try.f52 = some am52 := by kernel_rfl

theorem trAll : TrAll Try.prog am am 0 := ⟨⟨Try.f6, rfl, .inl tr6⟩, ⟨Try.f7, rfl, .inl tr7⟩, ⟨Try.f9, rfl, .inl tr9⟩, ⟨Try.f10, rfl, .inl tr10⟩, ⟨Try.f11, rfl, .inl tr11⟩, ⟨Try.f12, rfl, .inl tr12⟩, ⟨Try.f13, rfl, .inl tr13⟩, ⟨Try.f15, rfl, .inl tr15⟩, ⟨Try.f16, rfl, .inl tr16⟩, ⟨Try.f20, rfl, .inl tr20⟩, ⟨Try.f22, rfl, .inl tr22⟩, ⟨Try.f23, rfl, .inl tr23⟩, ⟨Try.f24, rfl, .inl tr24⟩, ⟨Try.f25, rfl, .inl tr25⟩, ⟨Try.f26, rfl, .inl tr26⟩, ⟨Try.f27, rfl, .inl tr27⟩, ⟨Try.f28, rfl, .inl tr28⟩, ⟨Try.f29, rfl, .inl tr29⟩, ⟨Try.f30, rfl, .inl tr30⟩, ⟨Try.f35, rfl, .inl tr35⟩, ⟨Try.f38, rfl, .inl tr38⟩, ⟨Try.f41, rfl, .inl tr41⟩, ⟨Try.f42, rfl, .inl tr42⟩, ⟨Try.f43, rfl, .inl tr43⟩, ⟨Try.f44, rfl, .inl tr44⟩, ⟨Try.f45, rfl, .inl tr45⟩, ⟨Try.f46, rfl, .inl tr46⟩, ⟨Try.f49, rfl, .inl tr49⟩, ⟨Try.f50, rfl, .inl tr50⟩, ⟨Try.f51, rfl, .inl tr51⟩, ⟨Try.f52, rfl, .inl tr52⟩, trivial⟩


open Go.ChangeShapes Go.WideShapes Go.ChangeAt Go.RowKit

theorem own : ownKnob Try.prog.godebug = none := by kernel_rfl
theorem laid : laidOutB Try.prog = true := by kernel_rfl

theorem walk (w : World) : Calls Try.prog 6 #[] w fun e w' => e = .returned (.bool true) ∧ Below w.heap.size w w' :=
  law_from Try.checked.mixed (trProg_of trAll) runsNetFull w #[] rfl (fun i c h => by simp at h)

set_option maxRecDepth 100000 in
theorem lifted (os : Os) (started : os.Started) (H : Type) (enc : TypeId × Value → H) :
    ReturnsInHanded {} Try.checked os 6 .any (Rows.netFullSpec.pre6 enc Try.prog Try.f6 Rows.netFullRow.domain false) (Rows.netFullSpec.post enc Try.prog Try.f6 false true false false) := by
  refine returnsInHanded_of_change (C := Try.checked) own started (by kernel_rfl) Try.func6
    (ChangeSpec.witness6 (enc := enc) (C := Try.checked) false ⟨#[], #[], []⟩ 8 (by kernel_rfl) (by kernel_rfl) (by kernel_rfl) (by kernel_rfl)) ?_
  intro W base args ds gs before hval0 hW hcnd _
  have hW' := hW
  obtain ⟨p, q, hA0, hV, rfl, hfz, hnd⟩ := hW
  have hA : DataW.TrodAll enc Try.prog W 0 (fun _ => true) true Try.f6.params.toList args.toList ds p := hA0
  rw [Try.params6] at hA
  obtain ⟨rfl, rfl, rfl⟩ := trodAll_none hA
  obtain ⟨rfl, rfl⟩ := trodVars_none hV
  refine (walk W).mono fun e W' ⟨he, bel⟩ => ?_
  subst he
  exact ⟨_, rfl, _, _, _, [], _, [], hW', trodAll_mk1 (shut_bool Try.underlying4 _), trodAll_mk0, rfl, bel.frame _, fun h => by cases h⟩

theorem over : Rows.netFullRow.holds Try.pinned (OpenSpec.ofChange Rows.netFullSpec) :=
  OpenClaim.holds_of_wide 6 Try.f6 rfl rfl rfl rfl rfl rfl rfl ⟨rfl, rfl, rfl, rfl, rfl⟩ rfl rfl rfl rfl rfl (by kernel_rfl) Try.func6 (by kernel_rfl)
    (of_decide_eq_true (by kernel_rfl)) (by unfold Func.isWrapper; first | (rw [if_pos (by decide +kernel)]; kernel_rfl) | (rw [if_neg (by decide +kernel)]; exact ⟨rfl, rfl⟩))
    (fun os started H enc _ => lifted os started H enc)

theorem proved : Rows.NetFullSaid := over
#print axioms proved
end Go.Proofs.Ytlcmpojcmgdomaa.netFull
namespace Go.Proofs.Ytlcmpojcmgdomaa
theorem netFull_holds : Rows.NetFullSaid := netFull.proved
end Go.Proofs.Ytlcmpojcmgdomaa
