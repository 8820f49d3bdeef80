/- a datagram that comes twice changes nothing the second time, but that an answer is owed No condition. -/
import Derived.Test.YtifbkofianklaaaRows
import Derived.Test.YtifbkofianklaaaTyb
import Derived.WalkKit
import Derived.ProofKit
import Derived.OpenShut
import Derived.ShutString
import Derived.ChangeOld
import Derived.Below
import Derived.SizedLaws
namespace Go.Proofs.Ytifbkofianklaaa.sessionTwice
open Go.Am Go.Am.T
set_option linter.unusedVariables false

theorem tr5 : trF Try.prog am FMode.auto 5 Try.f5 = some am5 := by kernel_rfl

theorem tr7 : trF Try.prog am FMode.keep 7 Try.f7 = some am7 := by kernel_rfl

theorem tr9 : trF Try.prog am FMode.pure 9 Try.f9 = some am9 := by kernel_rfl

theorem tr10 : trF Try.prog am FMode.keep 10 Try.f10 = some am10 := by kernel_rfl

theorem tr11 : trF Try.prog am FMode.keep 11 Try.f11 = some am11 := by kernel_rfl

theorem tr12 : trF Try.prog am FMode.keep 12 Try.f12 = some am12 := by kernel_rfl

theorem tr15 : trF Try.prog am FMode.look 15 Try.f15 = some am15 := by kernel_rfl

theorem tr16 : trF Try.prog am FMode.keep 16 Try.f16 = some am16 := by kernel_rfl

theorem tr17 : trF Try.prog am FMode.look 17 Try.f17 = some am17 := by kernel_rfl

theorem tr18 : trF Try.prog am FMode.keep 18 Try.f18 = some am18 := by kernel_rfl

theorem tr19 : trF Try.prog am FMode.look 19 Try.f19 = some am19 := by kernel_rfl

theorem tr20 : trF Try.prog am FMode.keep 20 Try.f20 = some am20 := by kernel_rfl

theorem tr21 : trF Try.prog am FMode.pure 21 Try.f21 = some am21 := by kernel_rfl

theorem tr22 : trF Try.prog am FMode.look 22 Try.f22 = some am22 := by kernel_rfl

theorem tr23 : trF Try.prog am FMode.auto 23 Try.f23 = some am23 := by kernel_rfl

theorem tr24 : trF Try.prog am FMode.keep 24 Try.f24 = some am24 := by kernel_rfl

theorem tr25 : trF Try.prog am FMode.keep 25 Try.f25 = some am25 := by kernel_rfl

theorem tr26 : trF Try.prog am FMode.look 26 Try.f26 = some am26 := by kernel_rfl

theorem tr27 : trF Try.prog am FMode.keep 27 Try.f27 = some am27 := by kernel_rfl

theorem trAll : TrAll Try.prog am am 0 := ⟨⟨Try.f5, rfl, tr5⟩, ⟨Try.f7, rfl, tr7⟩, ⟨Try.f9, rfl, tr9⟩, ⟨Try.f10, rfl, tr10⟩, ⟨Try.f11, rfl, tr11⟩, ⟨Try.f12, rfl, tr12⟩, ⟨Try.f15, rfl, tr15⟩, ⟨Try.f16, rfl, tr16⟩, ⟨Try.f17, rfl, tr17⟩, ⟨Try.f18, rfl, tr18⟩, ⟨Try.f19, rfl, tr19⟩, ⟨Try.f20, rfl, tr20⟩, ⟨Try.f21, rfl, tr21⟩, ⟨Try.f22, rfl, tr22⟩, ⟨Try.f23, rfl, tr23⟩, ⟨Try.f24, rfl, tr24⟩, ⟨Try.f25, rfl, tr25⟩, ⟨Try.f26, rfl, tr26⟩, ⟨Try.f27, rfl, tr27⟩, trivial⟩


open Go.ChangeShapes Go.WideShapes Go.ChangeAt Go.RowKit

theorem own : ownKnob Try.prog.godebug = none := by kernel_rfl
theorem laid : laidOutB Try.prog = true := by kernel_rfl

theorem hlt {H : Type} {enc : TypeId × Value → H} {W : World} {t : TypeId} {v : Value} {d : DataW H} {ps : List MemPlace} (h : DataW.Trod enc Try.prog W 0 (fun _ => true) true t v d ps) : ∀ x ∈ ps, x.block < W.heap.size := by
  obtain ⟨fuel, h⟩ := h
  exact DataW.trod_lt fuel t _ _ h

theorem shape0 : shP Try.prog 12 32 = some (bysSh) := by kernel_rfl
theorem agg0 : aggB Try.prog 32 = false := by kernel_rfl
theorem shape1 : shP Try.prog 12 42 = some (dgSh) := by kernel_rfl
theorem agg1 : aggB Try.prog 42 = true := by kernel_rfl

set_option maxRecDepth 100000 in
theorem lifted (os : Os) (started : os.Started) (H : Type) (enc : TypeId × Value → H) :
    ReturnsInHanded {} Try.checked os 5 .any (Rows.sessionTwiceSpec.pre6 enc Try.prog Try.f5 Rows.sessionTwiceRow.domain false) (Rows.sessionTwiceSpec.post enc Try.prog Try.f5 false true false false) := by
  refine returnsInHanded_of_change (C := Try.checked) own started (by kernel_rfl) Try.func5
    (ChangeSpec.witness6 (enc := enc) (C := Try.checked) false ⟨#[], #[.slice none 0 0, .agg #[.int .i64 0, .int .i64 0, .int .i64 0, .int .i64 0, .int .i64 0, .slice none 0 0]], []⟩ 8 (by kernel_rfl) (by kernel_rfl) (by kernel_rfl) (by kernel_rfl)) ?_
  intro W base args ds gs before hval0 hW hcnd _
  have hW' := hW
  obtain ⟨p, q, hA0, hV, rfl, hfz, hnd⟩ := hW
  have hA : DataW.TrodAll enc Try.prog W 0 (fun _ => true) true Try.f5.params.toList args.toList ds p := hA0
  rw [Try.params5] at hA
  obtain ⟨v0, v1, d0, d1, p0, p1, rfl, rfl, rfl, h0, h1⟩ := trodAll_two hA
  obtain ⟨rfl, rfl⟩ := trodVars_none hV
  obtain ⟨u0, r0, i0⟩ := param_in (fun _ => rfl) shape0 (hval0 0 32 v0 (by rw [Try.params5]; rfl) rfl) h0
  rw [agg0] at i0
  obtain ⟨u1, r1, i1⟩ := param_in (fun _ => rfl) shape1 (hval0 1 42 v1 (by rw [Try.params5]; rfl) rfl) h1
  rw [agg1] at i1
  obtain ⟨N, n, hr⟩ := runsSessionTwice i0 i1
  have walk := law_from Try.checked.mixed (trProg_of trAll) hr W #[v0, v1] rfl (fun i c h => by
    match i, h with
    | 0, h => cases h; exact r0
    | 1, h => cases h; exact r1
    | i + 2, h => simp at h)
  refine walk.mono fun e W' ⟨he, bel⟩ => ?_
  subst he
  exact ⟨_, rfl, _, _, _, [], _, [], hW', trodAll_mk1 (shut_bool Try.underlying4 _), trodAll_mk2 (Below.trod laid (by kernel_rfl) (of_decide_eq_true (by kernel_rfl)) h0 bel (hlt h0)) (Below.trod laid (by kernel_rfl) (of_decide_eq_true (by kernel_rfl)) h1 bel (hlt h1)), rfl, bel.frame _, fun h => by cases h⟩

theorem over : Rows.sessionTwiceRow.holds Try.pinned (OpenSpec.ofChange Rows.sessionTwiceSpec) :=
  OpenClaim.holds_of_wide 5 Try.f5 rfl rfl rfl rfl rfl rfl rfl ⟨rfl, rfl, rfl, rfl, rfl⟩ rfl rfl rfl rfl rfl (by kernel_rfl) Try.func5 (by kernel_rfl)
    (of_decide_eq_true (by kernel_rfl)) (by unfold Func.isWrapper; first | (rw [if_pos (by decide +kernel)]; kernel_rfl) | (rw [if_neg (by decide +kernel)]; exact ⟨rfl, rfl⟩))
    (fun os started H enc _ => lifted os started H enc)

theorem proved : Rows.SessionTwiceSaid := over
#print axioms proved
end Go.Proofs.Ytifbkofianklaaa.sessionTwice
namespace Go.Proofs.Ytifbkofianklaaa
theorem sessionTwice_holds : Rows.SessionTwiceSaid := sessionTwice.proved
end Go.Proofs.Ytifbkofianklaaa
