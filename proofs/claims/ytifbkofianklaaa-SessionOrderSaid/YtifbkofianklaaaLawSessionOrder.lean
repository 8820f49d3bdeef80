/- what comes out is what was sent, in its order, and all of it in the end No condition. -/
import Derived.Test.YtifbkofianklaaaRows
import Derived.Test.YtifbkofianklaaaK4
import Derived.WalkKit
import Derived.ProofKit
import Derived.OpenShut
import Derived.ShutString
import Derived.ChangeOld
import Derived.Below
import Derived.SizedLaws
namespace Go.Proofs.Ytifbkofianklaaa.sessionOrder
open Go.Am Go.Am.T
set_option linter.unusedVariables false

theorem tr3 : trFf Try.prog am FMode.auto 3 Try.f3 = some am3 := by kernel_rfl

theorem tr4 : trFf Try.prog am FMode.auto 4 Try.f4 = some am4 := by kernel_rfl

theorem tr5 : trF Try.prog am FMode.auto 5 Try.f5 = some am5 := by kernel_rfl

theorem tr7 : trF Try.prog am FMode.keep 7 Try.f7 = some am7 := by kernel_rfl

theorem tr8 : trF Try.prog am FMode.pure 8 Try.f8 = some am8 := by kernel_rfl

theorem tr9 : trF Try.prog am FMode.pure 9 Try.f9 = some am9 := by kernel_rfl

theorem tr10 : trF Try.prog am FMode.keep 10 Try.f10 = some am10 := by kernel_rfl

theorem tr11 : trF Try.prog am FMode.keep 11 Try.f11 = some am11 := by kernel_rfl

theorem tr12 : trF Try.prog am FMode.keep 12 Try.f12 = some am12 := by kernel_rfl

theorem tr13 : trF Try.prog am FMode.keep 13 Try.f13 = some am13 := by kernel_rfl

theorem tr14 : trF Try.prog am FMode.look 14 Try.f14 = some am14 := by kernel_rfl

theorem tr15 : trF Try.prog am FMode.look 15 Try.f15 = some am15 := by kernel_rfl

theorem tr16 : trF Try.prog am FMode.keep 16 Try.f16 = some am16 := by kernel_rfl

theorem tr17 : trF Try.prog am FMode.look 17 Try.f17 = some am17 := by kernel_rfl

theorem tr18 : trF Try.prog am FMode.keep 18 Try.f18 = some am18 := by kernel_rfl

theorem tr19 : trF Try.prog am FMode.look 19 Try.f19 = some am19 := by kernel_rfl

theorem tr20 : trF Try.prog am FMode.keep 20 Try.f20 = some am20 := by kernel_rfl

theorem tr21 : trF Try.prog am FMode.pure 21 Try.f21 = some am21 := by kernel_rfl

theorem tr22 : trF Try.prog am FMode.look 22 Try.f22 = some am22 := by kernel_rfl

theorem tr23 : trF Try.prog am FMode.auto 23 Try.f23 = some am23 := by kernel_rfl

theorem tr24 : trF Try.prog am FMode.keep 24 Try.f24 = some am24 := by kernel_rfl

theorem tr25 : trF Try.prog am FMode.keep 25 Try.f25 = some am25 := by kernel_rfl

theorem tr26 : trF Try.prog am FMode.look 26 Try.f26 = some am26 := by kernel_rfl

theorem tr27 : trF Try.prog am FMode.keep 27 Try.f27 = some am27 := by kernel_rfl

theorem trAll : TrAll Try.prog am am 0 := ⟨⟨Try.f3, rfl, .inr tr3⟩, ⟨Try.f4, rfl, .inr tr4⟩, ⟨Try.f5, rfl, .inl tr5⟩, ⟨Try.f7, rfl, .inl tr7⟩, ⟨Try.f8, rfl, .inl tr8⟩, ⟨Try.f9, rfl, .inl tr9⟩, ⟨Try.f10, rfl, .inl tr10⟩, ⟨Try.f11, rfl, .inl tr11⟩, ⟨Try.f12, rfl, .inl tr12⟩, ⟨Try.f13, rfl, .inl tr13⟩, ⟨Try.f14, rfl, .inl tr14⟩, ⟨Try.f15, rfl, .inl tr15⟩, ⟨Try.f16, rfl, .inl tr16⟩, ⟨Try.f17, rfl, .inl tr17⟩, ⟨Try.f18, rfl, .inl tr18⟩, ⟨Try.f19, rfl, .inl tr19⟩, ⟨Try.f20, rfl, .inl tr20⟩, ⟨Try.f21, rfl, .inl tr21⟩, ⟨Try.f22, rfl, .inl tr22⟩, ⟨Try.f23, rfl, .inl tr23⟩, ⟨Try.f24, rfl, .inl tr24⟩, ⟨Try.f25, rfl, .inl tr25⟩, ⟨Try.f26, rfl, .inl tr26⟩, ⟨Try.f27, rfl, .inl tr27⟩, trivial⟩


open Go.ChangeShapes Go.WideShapes Go.ChangeAt Go.RowKit

theorem own : ownKnob Try.prog.godebug = none := by kernel_rfl
theorem laid : laidOutB Try.prog = true := by kernel_rfl

theorem hlt {H : Type} {enc : TypeId × Value → H} {W : World} {t : TypeId} {v : Value} {d : DataW H} {ps : List MemPlace} (h : DataW.Trod enc Try.prog W 0 (fun _ => true) true t v d ps) : ∀ x ∈ ps, x.block < W.heap.size := by
  obtain ⟨fuel, h⟩ := h
  exact DataW.trod_lt fuel t _ _ h

theorem shape0 : shP Try.prog 12 2 = some (.int .i64) := by kernel_rfl
theorem agg0 : aggB Try.prog 2 = false := by kernel_rfl
theorem shape1 : shP Try.prog 12 22 = some (mvsSh) := by kernel_rfl
theorem agg1 : aggB Try.prog 22 = false := by kernel_rfl

set_option maxRecDepth 100000 in
theorem lifted (os : Os) (started : os.Started) (H : Type) (enc : TypeId × Value → H) :
    ReturnsInHanded {} Try.checked os 3 .any (Rows.sessionOrderSpec.pre6 enc Try.prog Try.f3 Rows.sessionOrderRow.domain false) (Rows.sessionOrderSpec.post enc Try.prog Try.f3 false true false false) := by
  refine returnsInHanded_of_change (C := Try.checked) own started (by kernel_rfl) Try.func3
    (ChangeSpec.witness6 (enc := enc) (C := Try.checked) false ⟨#[], #[.int .i64 0, .slice none 0 0], []⟩ 8 (by kernel_rfl) (by kernel_rfl) (by kernel_rfl) (by kernel_rfl)) ?_
  intro W base args ds gs before hval0 hW hcnd _
  have hW' := hW
  obtain ⟨p, q, hA0, hV, rfl, hfz, hnd⟩ := hW
  have hA : DataW.TrodAll enc Try.prog W 0 (fun _ => true) true Try.f3.params.toList args.toList ds p := hA0
  rw [Try.params3] at hA
  obtain ⟨v0, v1, d0, d1, p0, p1, rfl, rfl, rfl, h0, h1⟩ := trodAll_two hA
  obtain ⟨rfl, rfl⟩ := trodVars_none hV
  obtain ⟨u0, r0, i0⟩ := param_in (fun _ => rfl) shape0 (hval0 0 2 v0 (by rw [Try.params3]; rfl) rfl) h0
  rw [agg0] at i0
  obtain ⟨u1, r1, i1⟩ := param_in (fun _ => rfl) shape1 (hval0 1 22 v1 (by rw [Try.params3]; rfl) rfl) h1
  rw [agg1] at i1
  obtain ⟨N, n, hr⟩ := runsSessionOrder i0 i1
  have walk := law_from Try.checked.mixed (trProg_of trAll) hr W #[v0, v1] rfl (fun i c h => by
    match i, h with
    | 0, h => cases h; exact r0
    | 1, h => cases h; exact r1
    | i + 2, h => simp at h)
  refine walk.mono fun e W' ⟨he, bel⟩ => ?_
  subst he
  exact ⟨_, rfl, _, _, _, [], _, [], hW', trodAll_mk1 (shut_bool Try.underlying4 _), trodAll_mk2 (Below.trod laid (by kernel_rfl) (of_decide_eq_true (by kernel_rfl)) h0 bel (hlt h0)) (Below.trod laid (by kernel_rfl) (of_decide_eq_true (by kernel_rfl)) h1 bel (hlt h1)), rfl, bel.frame _, fun h => by cases h⟩

theorem over : Rows.sessionOrderRow.holds Try.pinned (OpenSpec.ofChange Rows.sessionOrderSpec) :=
  OpenClaim.holds_of_wide 3 Try.f3 rfl rfl rfl rfl rfl rfl rfl ⟨rfl, rfl, rfl, rfl, rfl⟩ rfl rfl rfl rfl rfl (by kernel_rfl) Try.func3 (by kernel_rfl)
    (of_decide_eq_true (by kernel_rfl)) (by unfold Func.isWrapper; first | (rw [if_pos (by decide +kernel)]; kernel_rfl) | (rw [if_neg (by decide +kernel)]; exact ⟨rfl, rfl⟩))
    (fun os started H enc _ => lifted os started H enc)

theorem proved : Rows.SessionOrderSaid := over
#print axioms proved
end Go.Proofs.Ytifbkofianklaaa.sessionOrder
namespace Go.Proofs.Ytifbkofianklaaa
theorem sessionOrder_holds : Rows.SessionOrderSaid := sessionOrder.proved
end Go.Proofs.Ytifbkofianklaaa
