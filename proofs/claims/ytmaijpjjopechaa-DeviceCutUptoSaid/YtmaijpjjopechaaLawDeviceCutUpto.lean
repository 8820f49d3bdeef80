/- A write that is cut anywhere has written its first sectors, and no others, as the law DeviceCut says. Where what is read is of bulk at most 1048576. -/
import Derived.Test.YtmaijpjjopechaaRows
import Derived.Test.YtmaijpjjopechaaK5
import Derived.WalkKit
import Derived.ProofKit
import Derived.OpenShut
import Derived.JoinedCond
import Derived.ShutString
import Derived.ChangeOld
import Derived.Below
import Derived.SizedLaws
namespace Go.Proofs.Ytmaijpjjopechaa.deviceCutUpto
open Go.Am Go.Am.T
set_option linter.unusedVariables false

theorem tr5 : trF Try.prog am FMode.auto 5 Try.f5 = some am5 := by kernel_rfl

theorem tr8 : trF Try.prog am FMode.pure 8 Try.f8 = some am8 := by kernel_rfl

theorem tr9 : trF Try.prog am FMode.keep 9 Try.f9 = some am9 := by kernel_rfl

theorem tr10 : trF Try.prog am FMode.keep 10 Try.f10 = some am10 := by kernel_rfl

theorem tr11 : trF Try.prog am FMode.pure 11 Try.f11 = some am11 := by kernel_rfl

theorem tr13 : trF Try.prog am FMode.look 13 Try.f13 = some am13 := by kernel_rfl

theorem tr14 : trF Try.prog am FMode.keep 14 Try.f14 = some am14 := by kernel_rfl

theorem tr15 : trF Try.prog am FMode.keep 15 Try.f15 = some am15 := by kernel_rfl

theorem tr16 : trF Try.prog am FMode.keep 16 Try.f16 = some am16 := by kernel_rfl

theorem tr17 : trF Try.prog am FMode.look 17 Try.f17 = some am17 := by kernel_rfl

theorem tr19 : trF Try.prog am FMode.look 19 Try.f19 = some am19 := by kernel_rfl

theorem tr20 : trF Try.prog am FMode.keep 20 Try.f20 = some am20 := by kernel_rfl

theorem tr21 : trF Try.prog am FMode.keep 21 Try.f21 = some am21 := by kernel_rfl

theorem tr22 : trF Try.prog am FMode.keep 22 Try.f22 = some am22 := by kernel_rfl

theorem tr23 : trF Try.prog am FMode.pure 23 Try.f23 = some am23 := by kernel_rfl

theorem tr24 : trF Try.prog am FMode.keep 24 Try.f24 = some am24 := by kernel_rfl

theorem tr25 : trF Try.prog am FMode.keep 25 Try.f25 = some am25 := by kernel_rfl

theorem tr26 : trF Try.prog am FMode.look 26 Try.f26 = some am26 := by kernel_rfl

theorem tr27 : trF Try.prog am FMode.keep 27 Try.f27 = some am27 := by kernel_rfl

theorem tr29 : trF Try.prog am FMode.keep 29 Try.f29 = some am29 := by kernel_rfl

theorem tr30 : trF Try.prog am FMode.keep 30 Try.f30 = some am30 := by kernel_rfl

theorem tr31 : trF Try.prog am FMode.pure 31 Try.f31 = some am31 := by kernel_rfl

theorem tr32 : trF Try.prog am FMode.look 32 Try.f32 = some am32 := by kernel_rfl

theorem tr35 : trF Try.prog am FMode.keep 35 Try.f35 = some am35 := by kernel_rfl

theorem tr36 : trF Try.prog am FMode.keep 36 Try.f36 = some am36 := by kernel_rfl

theorem tr37 : trF Try.prog am FMode.look 37 Try.f37 = some am37 := by kernel_rfl

theorem tr41 : trF Try.prog am FMode.keep 41 Try.f41 = some am41 := by kernel_rfl

theorem tr42 : trF Try.prog am FMode.keep 42 Try.f42 = some am42 := by kernel_rfl

theorem tr43 : trF Try.prog am FMode.keep 43 Try.f43 = some am43 := by kernel_rfl

theorem tr44 : trF Try.prog am FMode.keep 44 Try.f44 = some am44 := by kernel_rfl

theorem tr45 : trF Try.prog am FMode.keep 45 Try.f45 = some am45 := by kernel_rfl

theorem tr46 : trF Try.prog am FMode.keep 46 Try.f46 = some am46 := by kernel_rfl

theorem tr47 : trF Try.prog am FMode.keep 47 Try.f47 = some am47 := by kernel_rfl

theorem tr48 : trF Try.prog am FMode.look 48 Try.f48 = some am48 := by kernel_rfl

theorem tr49 : trF Try.prog am FMode.look 49 Try.f49 = some am49 := by kernel_rfl

theorem tr50 : trF Try.prog am FMode.look 50 Try.f50 = some am50 := by kernel_rfl

theorem tr51 : trF Try.prog am FMode.auto 51 Try.f51 = some am51 := by kernel_rfl

theorem tr52 : trF Try.prog am FMode.look 52 Try.f52 = some am52 := by kernel_rfl

theorem tr53 : trF Try.prog am FMode.keep 53 Try.f53 = some am53 := by kernel_rfl

theorem tr54 : trF Try.prog am FMode.keep 54 Try.f54 = some am54 := by kernel_rfl

theorem tr55 : trF Try.prog am FMode.keep 55 Try.f55 = some am55 := by kernel_rfl

theorem tr56 : trF Try.prog am FMode.keep 56 Try.f56 = some am56 := by kernel_rfl

theorem tr57 : trF Try.prog am FMode.keep 57 Try.f57 = some am57 := by kernel_rfl

theorem tr58 : trF Try.prog am FMode.keep 58 Try.f58 = some am58 := by kernel_rfl

theorem tr59 : trF Try.prog am FMode.keep 59 Try.f59 = some am59 := by kernel_rfl

theorem tr60 : trF Try.prog am FMode.look 60 Try.f60 = some am60 := by kernel_rfl

theorem tr61 : trF Try.prog am FMode.keep 61 Try.f61 = some am61 := by kernel_rfl

theorem trAll : TrAll Try.prog am am 0 := ⟨⟨Try.f5, rfl, .inl tr5⟩, ⟨Try.f8, rfl, .inl tr8⟩, ⟨Try.f9, rfl, .inl tr9⟩, ⟨Try.f10, rfl, .inl tr10⟩, ⟨Try.f11, rfl, .inl tr11⟩, ⟨Try.f13, rfl, .inl tr13⟩, ⟨Try.f14, rfl, .inl tr14⟩, ⟨Try.f15, rfl, .inl tr15⟩, ⟨Try.f16, rfl, .inl tr16⟩, ⟨Try.f17, rfl, .inl tr17⟩, ⟨Try.f19, rfl, .inl tr19⟩, ⟨Try.f20, rfl, .inl tr20⟩, ⟨Try.f21, rfl, .inl tr21⟩, ⟨Try.f22, rfl, .inl tr22⟩, ⟨Try.f23, rfl, .inl tr23⟩, ⟨Try.f24, rfl, .inl tr24⟩, ⟨Try.f25, rfl, .inl tr25⟩, ⟨Try.f26, rfl, .inl tr26⟩, ⟨Try.f27, rfl, .inl tr27⟩, ⟨Try.f29, rfl, .inl tr29⟩, ⟨Try.f30, rfl, .inl tr30⟩, ⟨Try.f31, rfl, .inl tr31⟩, ⟨Try.f32, rfl, .inl tr32⟩, ⟨Try.f35, rfl, .inl tr35⟩, ⟨Try.f36, rfl, .inl tr36⟩, ⟨Try.f37, rfl, .inl tr37⟩, ⟨Try.f41, rfl, .inl tr41⟩, ⟨Try.f42, rfl, .inl tr42⟩, ⟨Try.f43, rfl, .inl tr43⟩, ⟨Try.f44, rfl, .inl tr44⟩, ⟨Try.f45, rfl, .inl tr45⟩, ⟨Try.f46, rfl, .inl tr46⟩, ⟨Try.f47, rfl, .inl tr47⟩, ⟨Try.f48, rfl, .inl tr48⟩, ⟨Try.f49, rfl, .inl tr49⟩, ⟨Try.f50, rfl, .inl tr50⟩, ⟨Try.f51, rfl, .inl tr51⟩, ⟨Try.f52, rfl, .inl tr52⟩, ⟨Try.f53, rfl, .inl tr53⟩, ⟨Try.f54, rfl, .inl tr54⟩, ⟨Try.f55, rfl, .inl tr55⟩, ⟨Try.f56, rfl, .inl tr56⟩, ⟨Try.f57, rfl, .inl tr57⟩, ⟨Try.f58, rfl, .inl tr58⟩, ⟨Try.f59, rfl, .inl tr59⟩, ⟨Try.f60, rfl, .inl tr60⟩, ⟨Try.f61, rfl, .inl tr61⟩, trivial⟩


open Go.ChangeShapes Go.WideShapes Go.ChangeAt Go.RowKit

theorem own : ownKnob Try.prog.godebug = none := by kernel_rfl
theorem laid : laidOutB Try.prog = true := by kernel_rfl

theorem hlt {H : Type} {enc : TypeId × Value → H} {W : World} {t : TypeId} {v : Value} {d : DataW H} {ps : List MemPlace} (h : DataW.Trod enc Try.prog W 0 (fun _ => true) true t v d ps) : ∀ x ∈ ps, x.block < W.heap.size := by
  obtain ⟨fuel, h⟩ := h
  exact DataW.trod_lt fuel t _ _ h

theorem shape0 : shP Try.prog 12 35 = some (stpsSh) := by kernel_rfl
theorem agg0 : aggB Try.prog 35 = false := by kernel_rfl
theorem shape1 : shP Try.prog 12 41 = some (rowSh) := by kernel_rfl
theorem agg1 : aggB Try.prog 41 = false := by kernel_rfl
theorem shape2 : shP Try.prog 12 3 = some (.int .i64) := by kernel_rfl
theorem agg2 : aggB Try.prog 3 = false := by kernel_rfl

mutual
theorem bulk_d {H : Type} : ∀ d : DataW H, Rows.uptoBulk d = bulkD d
  | .lit l => by cases l <;> rfl
  | .nil => rfl
  | .ptr d => by simp only [Rows.uptoBulk, bulkD, bulk_d d]
  | .slice e s => by simp only [Rows.uptoBulk, bulkD, bulk_a e, bulk_a s]
  | .agg l => by simp only [Rows.uptoBulk, bulkD, bulk_a l]
  | .iface _ d => by simp only [Rows.uptoBulk, bulkD, bulk_d d]
  | .map l => by simp only [Rows.uptoBulk, bulkD, bulk_e l]
  | .held _ => rfl
theorem bulk_a {H : Type} : ∀ l : List (DataW H), Rows.uptoBulkAll l = bulkAllD l
  | [] => rfl
  | d :: r => by simp only [Rows.uptoBulkAll, bulkAllD, bulk_d d, bulk_a r]
theorem bulk_e {H : Type} : ∀ l : List (Lit × DataW H), Rows.uptoBulkEntries l = bulkEntriesD l
  | [] => rfl
  | x :: r => by simp only [Rows.uptoBulkEntries, bulkEntriesD, bulk_x x, bulk_e r]
theorem bulk_x {H : Type} : ∀ x : Lit × DataW H, Rows.uptoBulkEntry x = bulkEntryD x
  | (l, d) => by cases l <;> simp only [Rows.uptoBulkEntry, bulkEntryD, bulk_d d]
end

set_option maxRecDepth 100000 in
theorem lifted (os : Os) (started : os.Started) (H : Type) (enc : TypeId × Value → H) (F : Stop.Interp) :
    ReturnsInHanded {} Try.checked os 5 .any ((Rows.OpenSpec.upto Rows.deviceCutSpec).pre6 enc Try.prog Try.f5 Rows.deviceCutUptoRow.domain false) (((Rows.OpenSpec.upto Rows.deviceCutSpec).at F).post enc Try.prog Try.f5 false true false false) := by
  refine returnsInHanded_of_cond (C := Try.checked) (s := Rows.OpenSpec.upto Rows.deviceCutSpec) (k := Rows.uptoSmall) rfl own started (by kernel_rfl) Try.func5
    (OpenSpec.witness (enc := enc) (C := Try.checked) (s := Rows.OpenSpec.upto Rows.deviceCutSpec) (k := Rows.uptoSmall) rfl false ⟨#[], #[.slice none 0 0, .slice none 0 0, .int .i64 0], []⟩ 8 (by kernel_rfl) (by kernel_rfl) (by kernel_rfl)
      (x := ([.nil, .nil, .lit (.int .i64 0)], [], [])) (by kernel_rfl) rfl (by kernel_rfl)) ?_
  intro W base args ds gs before hval0 hW _ hk _
  have hW' := hW
  obtain ⟨p, q, hA0, hV, rfl, hfz, hnd⟩ := hW
  have hA : DataW.TrodAll enc Try.prog W 0 (fun _ => true) true Try.f5.params.toList args.toList ds p := hA0
  rw [Try.params5] at hA
  obtain ⟨v0, v1, v2, d0, d1, d2, p0, p1, p2, rfl, rfl, rfl, h0, h1, h2⟩ := trodAll_three hA
  obtain ⟨rfl, rfl⟩ := trodVars_none hV
  have hbulk := of_decide_eq_true hk
  rw [bulk_a] at hbulk
  simp only [bulkAllD, List.append_nil] at hbulk
  obtain ⟨u0, r0, i0⟩ := param_inM (M := 1048576) (fun _ => rfl) shape0 (hval0 0 35 v0 (by rw [Try.params5]; rfl) rfl) h0 (by omega)
  rw [agg0] at i0
  obtain ⟨u1, r1, i1⟩ := param_inM (M := 1048576) (fun _ => rfl) shape1 (hval0 1 41 v1 (by rw [Try.params5]; rfl) rfl) h1 (by omega)
  rw [agg1] at i1
  obtain ⟨u2, r2, i2⟩ := param_inM (M := 1048576) (fun _ => rfl) shape2 (hval0 2 3 v2 (by rw [Try.params5]; rfl) rfl) h2 (by omega)
  rw [agg2] at i2
  obtain ⟨N, n, hr⟩ := runsDeviceCut i0 i1 i2
  have walk := law_from Try.checked.mixed (trProg_of trAll) hr W #[v0, v1, v2] rfl (fun i c h => by
    match i, h with
    | 0, h => cases h; exact r0
    | 1, h => cases h; exact r1
    | 2, h => cases h; exact r2
    | i + 3, h => simp at h)
  refine walk.mono fun e W' ⟨he, bel⟩ => ?_
  subst he
  exact ⟨_, rfl, _, _, _, [], _, [], hW', trodAll_mk1 (shut_bool Try.underlying4 _), trodAll_mk3 (Below.trod laid (by kernel_rfl) (of_decide_eq_true (by kernel_rfl)) h0 bel (hlt h0)) (Below.trod laid (by kernel_rfl) (of_decide_eq_true (by kernel_rfl)) h1 bel (hlt h1)) (Below.trod laid (by kernel_rfl) (of_decide_eq_true (by kernel_rfl)) h2 bel (hlt h2)), rfl, bel.frame _, fun h => by cases h⟩

theorem over : Rows.deviceCutUptoRow.holds Try.pinned (Rows.OpenSpec.upto Rows.deviceCutSpec) :=
  OpenClaim.holds_of_cond 5 Try.f5 rfl rfl rfl rfl rfl rfl rfl ⟨rfl, rfl, rfl, rfl, rfl⟩ rfl rfl rfl rfl rfl (by kernel_rfl) Try.func5 (by kernel_rfl)
    (of_decide_eq_true (by kernel_rfl)) (by unfold Func.isWrapper; first | (rw [if_pos (by decide +kernel)]; kernel_rfl) | (rw [if_neg (by decide +kernel)]; exact ⟨rfl, rfl⟩))
    (fun os started H enc _ F => lifted os started H enc F)

theorem proved : Rows.DeviceCutUptoSaid := over
#print axioms proved
end Go.Proofs.Ytmaijpjjopechaa.deviceCutUpto
namespace Go.Proofs.Ytmaijpjjopechaa
theorem deviceCutUpto_holds : Rows.DeviceCutUptoSaid := deviceCutUpto.proved
end Go.Proofs.Ytmaijpjjopechaa
