/- What a net delivers was sent, with these bytes, each letter once and each number once, as the law NetOnce says. Where what is read is of bulk at most 1048576. -/
import Derived.Test.YtlcmpojcmgdomaaRows
import Derived.Test.YtlcmpojcmgdomaaK3
import Derived.WalkKit
import Derived.ProofKit
import Derived.OpenShut
import Derived.JoinedCond
import Derived.ShutString
import Derived.ChangeOld
import Derived.Below
import Derived.SizedLaws
namespace Go.Proofs.Ytlcmpojcmgdomaa.netOnceUpto
open Go.Am Go.Am.T
set_option linter.unusedVariables false

theorem tr3 : trF Try.prog am FMode.auto 3 Try.f3 = some am3 := by kernel_rfl

theorem tr7 : trF Try.prog am FMode.pure 7 Try.f7 = some am7 := by kernel_rfl

theorem tr8 : trF Try.prog am FMode.look 8 Try.f8 = some am8 := by kernel_rfl

theorem tr9 : trF Try.prog am FMode.keep 9 Try.f9 = some am9 := by kernel_rfl

theorem tr10 : trF Try.prog am FMode.pure 10 Try.f10 = some am10 := by kernel_rfl

theorem tr11 : trF Try.prog am FMode.keep 11 Try.f11 = some am11 := by kernel_rfl

theorem tr12 : trF Try.prog am FMode.keep 12 Try.f12 = some am12 := by kernel_rfl

theorem tr13 : trF Try.prog am FMode.keep 13 Try.f13 = some am13 := by kernel_rfl

theorem tr14 : trF Try.prog am FMode.look 14 Try.f14 = some am14 := by kernel_rfl

theorem tr15 : trF Try.prog am FMode.keep 15 Try.f15 = some am15 := by kernel_rfl

theorem tr16 : trF Try.prog am FMode.keep 16 Try.f16 = some am16 := by kernel_rfl

theorem tr23 : trF Try.prog am FMode.keep 23 Try.f23 = some am23 := by kernel_rfl

theorem tr24 : trF Try.prog am FMode.keep 24 Try.f24 = some am24 := by kernel_rfl

theorem tr25 : trF Try.prog am FMode.keep 25 Try.f25 = some am25 := by kernel_rfl

theorem tr26 : trF Try.prog am FMode.keep 26 Try.f26 = some am26 := by kernel_rfl

theorem tr27 : trF Try.prog am FMode.keep 27 Try.f27 = some am27 := by kernel_rfl

theorem tr28 : trF Try.prog am FMode.keep 28 Try.f28 = some am28 := by kernel_rfl

theorem tr29 : trF Try.prog am FMode.keep 29 Try.f29 = some am29 := by kernel_rfl

theorem tr30 : trF Try.prog am FMode.auto 30 Try.f30 = some am30 := by kernel_rfl

theorem tr38 : trF Try.prog am FMode.keep 38 Try.f38 = some am38 := by kernel_rfl

theorem tr41 : trF Try.prog am FMode.keep 41 Try.f41 = some am41 := by kernel_rfl

theorem tr46 : trF Try.prog am FMode.auto 46 Try.f46 = some am46 := by kernel_rfl

theorem tr50 : trF Try.prog am FMode.auto 50 Try.f50 = some am50 := by kernel_rfl

theorem tr51 : trF Try.prog am FMode.keep 51 Try.f51 = some am51 := by kernel_rfl

theorem trAll : TrAll Try.prog am am 0 := ⟨⟨Try.f3, rfl, .inl tr3⟩, ⟨Try.f7, rfl, .inl tr7⟩, ⟨Try.f8, rfl, .inl tr8⟩, ⟨Try.f9, rfl, .inl tr9⟩, ⟨Try.f10, rfl, .inl tr10⟩, ⟨Try.f11, rfl, .inl tr11⟩, ⟨Try.f12, rfl, .inl tr12⟩, ⟨Try.f13, rfl, .inl tr13⟩, ⟨Try.f14, rfl, .inl tr14⟩, ⟨Try.f15, rfl, .inl tr15⟩, ⟨Try.f16, rfl, .inl tr16⟩, ⟨Try.f23, rfl, .inl tr23⟩, ⟨Try.f24, rfl, .inl tr24⟩, ⟨Try.f25, rfl, .inl tr25⟩, ⟨Try.f26, rfl, .inl tr26⟩, ⟨Try.f27, rfl, .inl tr27⟩, ⟨Try.f28, rfl, .inl tr28⟩, ⟨Try.f29, rfl, .inl tr29⟩, ⟨Try.f30, rfl, .inl tr30⟩, ⟨Try.f38, rfl, .inl tr38⟩, ⟨Try.f41, rfl, .inl tr41⟩, ⟨Try.f46, rfl, .inl tr46⟩, ⟨Try.f50, rfl, .inl tr50⟩, ⟨Try.f51, rfl, .inl tr51⟩, trivial⟩


open Go.ChangeShapes Go.WideShapes Go.ChangeAt Go.RowKit

theorem own : ownKnob Try.prog.godebug = none := by kernel_rfl
theorem laid : laidOutB Try.prog = true := by kernel_rfl

theorem hlt {H : Type} {enc : TypeId × Value → H} {W : World} {t : TypeId} {v : Value} {d : DataW H} {ps : List MemPlace} (h : DataW.Trod enc Try.prog W 0 (fun _ => true) true t v d ps) : ∀ x ∈ ps, x.block < W.heap.size := by
  obtain ⟨fuel, h⟩ := h
  exact DataW.trod_lt fuel t _ _ h

theorem shape0 : shP Try.prog 12 22 = some (stpsSh) := by kernel_rfl
theorem agg0 : aggB Try.prog 22 = false := by kernel_rfl

mutual
theorem bulk_d {H : Type} : ∀ d : DataW H, Rows.uptoBulk d = bulkD d
  | .lit l => by cases l <;> rfl
  | .nil => rfl
  | .ptr d => by simp only [Rows.uptoBulk, bulkD, bulk_d d]
  | .slice e s => by simp only [Rows.uptoBulk, bulkD, bulk_a e, bulk_a s]
  | .agg l => by simp only [Rows.uptoBulk, bulkD, bulk_a l]
  | .iface _ d => by simp only [Rows.uptoBulk, bulkD, bulk_d d]
  | .map l => by simp only [Rows.uptoBulk, bulkD, bulk_e l]
  | .held _ => rfl
theorem bulk_a {H : Type} : ∀ l : List (DataW H), Rows.uptoBulkAll l = bulkAllD l
  | [] => rfl
  | d :: r => by simp only [Rows.uptoBulkAll, bulkAllD, bulk_d d, bulk_a r]
theorem bulk_e {H : Type} : ∀ l : List (Lit × DataW H), Rows.uptoBulkEntries l = bulkEntriesD l
  | [] => rfl
  | x :: r => by simp only [Rows.uptoBulkEntries, bulkEntriesD, bulk_x x, bulk_e r]
theorem bulk_x {H : Type} : ∀ x : Lit × DataW H, Rows.uptoBulkEntry x = bulkEntryD x
  | (l, d) => by cases l <;> simp only [Rows.uptoBulkEntry, bulkEntryD, bulk_d d]
end

set_option maxRecDepth 100000 in
theorem lifted (os : Os) (started : os.Started) (H : Type) (enc : TypeId × Value → H) (F : Stop.Interp) :
    ReturnsInHanded {} Try.checked os 3 .any ((Rows.OpenSpec.upto Rows.netOnceSpec).pre6 enc Try.prog Try.f3 Rows.netOnceUptoRow.domain false) (((Rows.OpenSpec.upto Rows.netOnceSpec).at F).post enc Try.prog Try.f3 false true false false) := by
  refine returnsInHanded_of_cond (C := Try.checked) (s := Rows.OpenSpec.upto Rows.netOnceSpec) (k := Rows.uptoSmall) rfl own started (by kernel_rfl) Try.func3
    (OpenSpec.witness (enc := enc) (C := Try.checked) (s := Rows.OpenSpec.upto Rows.netOnceSpec) (k := Rows.uptoSmall) rfl false ⟨#[], #[.slice none 0 0], []⟩ 8 (by kernel_rfl) (by kernel_rfl) (by kernel_rfl)
      (x := ([.nil], [], [])) (by kernel_rfl) rfl (by kernel_rfl)) ?_
  intro W base args ds gs before hval0 hW _ hk _
  have hW' := hW
  obtain ⟨p, q, hA0, hV, rfl, hfz, hnd⟩ := hW
  have hA : DataW.TrodAll enc Try.prog W 0 (fun _ => true) true Try.f3.params.toList args.toList ds p := hA0
  rw [Try.params3] at hA
  obtain ⟨v0, d0, rfl, rfl, h0⟩ := trodAll_one hA
  obtain ⟨rfl, rfl⟩ := trodVars_none hV
  have hbulk := of_decide_eq_true hk
  rw [bulk_a] at hbulk
  simp only [bulkAllD, List.append_nil] at hbulk
  obtain ⟨u0, r0, i0⟩ := param_inM (M := 1048576) (fun _ => rfl) shape0 (hval0 0 22 v0 (by rw [Try.params3]; rfl) rfl) h0 (by omega)
  rw [agg0] at i0
  obtain ⟨N, n, hr⟩ := runsNetOnce i0
  have walk := law_from Try.checked.mixed (trProg_of trAll) hr W #[v0] rfl (fun i c h => by
    match i, h with
    | 0, h => cases h; exact r0
    | i + 1, h => simp at h)
  refine walk.mono fun e W' ⟨he, bel⟩ => ?_
  subst he
  exact ⟨_, rfl, _, _, _, [], _, [], hW', trodAll_mk1 (shut_bool Try.underlying4 _), trodAll_mk1 (Below.trod laid (by kernel_rfl) (of_decide_eq_true (by kernel_rfl)) h0 bel (hlt h0)), rfl, bel.frame _, fun h => by cases h⟩

theorem over : Rows.netOnceUptoRow.holds Try.pinned (Rows.OpenSpec.upto Rows.netOnceSpec) :=
  OpenClaim.holds_of_cond 3 Try.f3 rfl rfl rfl rfl rfl rfl rfl ⟨rfl, rfl, rfl, rfl, rfl⟩ rfl rfl rfl rfl rfl (by kernel_rfl) Try.func3 (by kernel_rfl)
    (of_decide_eq_true (by kernel_rfl)) (by unfold Func.isWrapper; first | (rw [if_pos (by decide +kernel)]; kernel_rfl) | (rw [if_neg (by decide +kernel)]; exact ⟨rfl, rfl⟩))
    (fun os started H enc _ F => lifted os started H enc F)

theorem proved : Rows.NetOnceUptoSaid := over
#print axioms proved
end Go.Proofs.Ytlcmpojcmgdomaa.netOnceUpto
namespace Go.Proofs.Ytlcmpojcmgdomaa
theorem netOnceUpto_holds : Rows.NetOnceUptoSaid := netOnceUpto.proved
end Go.Proofs.Ytlcmpojcmgdomaa
