/- each page has one master, a member, and the shares differ by one at most, behind any steps No condition. -/
import Derived.Test.YtojiebcpmkjblaaRows
import Derived.Test.YtojiebcpmkjblaaTwa
import Derived.WalkKit
import Derived.ProofKit
import Derived.OpenShut
import Derived.ShutString
import Derived.ChangeOld
import Derived.Below
import Derived.SizedLaws
namespace Go.Proofs.Ytojiebcpmkjblaa.viewMasters
open Go.Am Go.Am.T
set_option linter.unusedVariables false

theorem tr4 : trF Try.prog am FMode.pure 4 Try.f4 = some am4 := by kernel_rfl

theorem tr5 : trF Try.prog am FMode.auto 5 Try.f5 = some am5 := by kernel_rfl

theorem tr6 : trF Try.prog am FMode.pure 6 Try.f6 = some am6 := by kernel_rfl

theorem tr8 : trF Try.prog am FMode.pure 8 Try.f8 = some am8 := by kernel_rfl

theorem tr9 : trF Try.prog am FMode.pure 9 Try.f9 = some am9 := by kernel_rfl

theorem tr11 : trF Try.prog am FMode.pure 11 Try.f11 = some am11 := by kernel_rfl

theorem tr12 : trF Try.prog am FMode.pure 12 Try.f12 = some am12 := by kernel_rfl

theorem tr13 : trF Try.prog am FMode.pure 13 Try.f13 = some am13 := by kernel_rfl

theorem tr14 : trF Try.prog am FMode.pure 14 Try.f14 = some am14 := by kernel_rfl

theorem tr16 : trF Try.prog am FMode.pure 16 Try.f16 = some am16 := by kernel_rfl

theorem tr17 : trF Try.prog am FMode.pure 17 Try.f17 = some am17 := by kernel_rfl

theorem tr18 : trF Try.prog am FMode.pure 18 Try.f18 = some am18 := by kernel_rfl

theorem tr19 : trF Try.prog am FMode.pure 19 Try.f19 = some am19 := by kernel_rfl

theorem tr20 : trF Try.prog am FMode.pure 20 Try.f20 = some am20 := by kernel_rfl

theorem tr21 : trF Try.prog am FMode.look 21 Try.f21 = some am21 := by kernel_rfl

theorem tr22 : trF Try.prog am FMode.pure 22 Try.f22 = some am22 := by kernel_rfl

theorem tr23 : trF Try.prog am FMode.pure 23 Try.f23 = some am23 := by kernel_rfl

theorem tr24 : trF Try.prog am FMode.keep 24 Try.f24 = some am24 := by kernel_rfl

theorem tr25 : trF Try.prog am FMode.pure 25 Try.f25 = some am25 := by kernel_rfl

theorem tr26 : trF Try.prog am FMode.pure 26 Try.f26 = some am26 := by kernel_rfl

theorem tr27 : trF Try.prog am FMode.pure 27 Try.f27 = some am27 := by kernel_rfl

theorem tr28 : trF Try.prog am FMode.pure 28 Try.f28 = some am28 := by kernel_rfl

theorem tr29 : trF Try.prog am FMode.pure 29 Try.f29 = some am29 := by kernel_rfl

theorem tr30 : trF Try.prog am FMode.pure 30 Try.f30 = some am30 := by kernel_rfl

theorem tr31 : trF Try.prog am FMode.pure 31 Try.f31 = some am31 := by kernel_rfl

theorem tr32 : trF Try.prog am FMode.pure 32 Try.f32 = some am32 := by kernel_rfl

theorem tr33 : trF Try.prog am FMode.keep 33 Try.f33 = some am33 := by kernel_rfl

theorem tr34 : trF Try.prog am FMode.look 34 Try.f34 = some am34 := by kernel_rfl

theorem tr35 : trF Try.prog am FMode.pure 35 Try.f35 = some am35 := by kernel_rfl

theorem tr36 : trF Try.prog am FMode.keep 36 Try.f36 = some am36 := by kernel_rfl

theorem tr37 : trF Try.prog am FMode.pure 37 Try.f37 = some am37 := by kernel_rfl

theorem tr38 : trF Try.prog am FMode.pure 38 Try.f38 = some am38 := by kernel_rfl

theorem trAll : TrAll Try.prog am am 0 := ⟨⟨Try.f4, rfl, tr4⟩, ⟨Try.f5, rfl, tr5⟩, ⟨Try.f6, rfl, tr6⟩, ⟨Try.f8, rfl, tr8⟩, ⟨Try.f9, rfl, tr9⟩, ⟨Try.f11, rfl, tr11⟩, ⟨Try.f12, rfl, tr12⟩, ⟨Try.f13, rfl, tr13⟩, ⟨Try.f14, rfl, tr14⟩, ⟨Try.f16, rfl, tr16⟩, ⟨Try.f17, rfl, tr17⟩, ⟨Try.f18, rfl, tr18⟩, ⟨Try.f19, rfl, tr19⟩, ⟨Try.f20, rfl, tr20⟩, ⟨Try.f21, rfl, tr21⟩, ⟨Try.f22, rfl, tr22⟩, ⟨Try.f23, rfl, tr23⟩, ⟨Try.f24, rfl, tr24⟩, ⟨Try.f25, rfl, tr25⟩, ⟨Try.f26, rfl, tr26⟩, ⟨Try.f27, rfl, tr27⟩, ⟨Try.f28, rfl, tr28⟩, ⟨Try.f29, rfl, tr29⟩, ⟨Try.f30, rfl, tr30⟩, ⟨Try.f31, rfl, tr31⟩, ⟨Try.f32, rfl, tr32⟩, ⟨Try.f33, rfl, tr33⟩, ⟨Try.f34, rfl, tr34⟩, ⟨Try.f35, rfl, tr35⟩, ⟨Try.f36, rfl, tr36⟩, ⟨Try.f37, rfl, tr37⟩, ⟨Try.f38, rfl, tr38⟩, trivial⟩


open Go.ChangeShapes Go.WideShapes Go.ChangeAt Go.RowKit

theorem own : ownKnob Try.prog.godebug = none := by kernel_rfl
theorem laid : laidOutB Try.prog = true := by kernel_rfl

theorem hlt {H : Type} {enc : TypeId × Value → H} {W : World} {t : TypeId} {v : Value} {d : DataW H} {ps : List MemPlace} (h : DataW.Trod enc Try.prog W 0 (fun _ => true) true t v d ps) : ∀ x ∈ ps, x.block < W.heap.size := by
  obtain ⟨fuel, h⟩ := h
  exact DataW.trod_lt fuel t _ _ h

theorem shape0 : shP Try.prog 12 26 = some (viewSh) := by kernel_rfl
theorem agg0 : aggB Try.prog 26 = true := by kernel_rfl
theorem shape1 : shP Try.prog 12 55 = some ((.sl true 5 askSh)) := by kernel_rfl
theorem agg1 : aggB Try.prog 55 = false := by kernel_rfl

set_option maxRecDepth 100000 in
theorem lifted (os : Os) (started : os.Started) (H : Type) (enc : TypeId × Value → H) :
    ReturnsInHanded {} Try.checked os 5 .any (Rows.viewMastersSpec.pre6 enc Try.prog Try.f5 Rows.viewMastersRow.domain false) (Rows.viewMastersSpec.post enc Try.prog Try.f5 false true false false) := by
  refine returnsInHanded_of_change (C := Try.checked) own started (by kernel_rfl) Try.func5
    (ChangeSpec.witness6 (enc := enc) (C := Try.checked) false ⟨#[], #[.agg (#[.int .i64 0, .bool false, .int .i64 0] ++ #[.bool false, .int .i64 0, .bool false, .int .i64 0, .bool false, .int .i64 0, .bool false, .int .i64 0, .bool false, .int .i64 0, .bool false, .int .i64 0, .bool false, .int .i64 0, .bool false, .int .i64 0]), .slice none 0 0], []⟩ 8 (by kernel_rfl) (by kernel_rfl) (by kernel_rfl) (by kernel_rfl)) ?_
  intro W base args ds gs before hval0 hW hcnd _
  have hW' := hW
  obtain ⟨p, q, hA0, hV, rfl, hfz, hnd⟩ := hW
  have hA : DataW.TrodAll enc Try.prog W 0 (fun _ => true) true Try.f5.params.toList args.toList ds p := hA0
  rw [Try.params5] at hA
  obtain ⟨v0, v1, d0, d1, p0, p1, rfl, rfl, rfl, h0, h1⟩ := trodAll_two hA
  obtain ⟨rfl, rfl⟩ := trodVars_none hV
  obtain ⟨u0, r0, i0⟩ := param_in shape0 (hval0 0 26 v0 (by rw [Try.params5]; rfl) rfl) h0
  rw [agg0] at i0
  obtain ⟨u1, r1, i1⟩ := param_in shape1 (hval0 1 55 v1 (by rw [Try.params5]; rfl) rfl) h1
  rw [agg1] at i1
  obtain ⟨N, n, hr⟩ := runsViewMasters i0 i1
  have walk := law_from Try.checked.mixed (trProg_of trAll) hr W #[v0, v1] rfl (fun i c h => by
    match i, h with
    | 0, h => cases h; exact r0
    | 1, h => cases h; exact r1
    | i + 2, h => simp at h)
  refine walk.mono fun e W' ⟨he, bel⟩ => ?_
  subst he
  exact ⟨_, rfl, _, _, _, [], _, [], hW', trodAll_mk1 (shut_bool Try.underlying4 _), trodAll_mk2 (Below.trod laid (by kernel_rfl) (of_decide_eq_true (by kernel_rfl)) h0 bel (hlt h0)) (Below.trod laid (by kernel_rfl) (of_decide_eq_true (by kernel_rfl)) h1 bel (hlt h1)), rfl, bel.frame _, fun h => by cases h⟩

theorem over : Rows.viewMastersRow.holds Try.pinned (OpenSpec.ofChange Rows.viewMastersSpec) :=
  OpenClaim.holds_of_wide 5 Try.f5 rfl rfl rfl rfl rfl rfl rfl ⟨rfl, rfl, rfl, rfl, rfl⟩ rfl rfl rfl rfl rfl (by kernel_rfl) Try.func5 (by kernel_rfl)
    (of_decide_eq_true (by kernel_rfl)) (by unfold Func.isWrapper; first | (rw [if_pos (by decide +kernel)]; kernel_rfl) | (rw [if_neg (by decide +kernel)]; exact ⟨rfl, rfl⟩))
    (fun os started H enc _ => lifted os started H enc)

theorem proved : Rows.ViewMastersSaid := over
#print axioms proved
end Go.Proofs.Ytojiebcpmkjblaa.viewMasters
namespace Go.Proofs.Ytojiebcpmkjblaa
theorem viewMasters_holds : Rows.ViewMastersSaid := viewMasters.proved
end Go.Proofs.Ytojiebcpmkjblaa
