import Derived.Test.YthfpjffgagacmaaTr2
import Derived.Test.YthfpjffgagacmaaAb2
set_option linter.unusedVariables false
set_option linter.unusedSimpArgs false
namespace Go.Am.T

def i64Sh : Sh := .int .i64
def recSh : Sh := .pair (.int .i64) (.pair (.int .i64) (.pair (.int .i64) (.pair (.int .i64) (.pair (.int .i64) (.pair (.arr 96 (.int .u8)) .unit)))))

/-- Within what the types say. -/
structure Rec.In (r : Rec) : Prop where
  ok : r.Ok
  bytes : Bytes r.body
  node : -9223372036854775808 ≤ r.node ∧ r.node ≤ 9223372036854775807
  epoch : -9223372036854775808 ≤ r.epoch ∧ r.epoch ≤ 9223372036854775807
  page : -9223372036854775808 ≤ r.page ∧ r.page ≤ 9223372036854775807
  psn : -9223372036854775808 ≤ r.psn ∧ r.psn ≤ 9223372036854775807

theorem rec_in {u : List V} (h : InSh recSh u) : ∃ r : Rec, u = r.cs ∧ r.In := by
  obtain ⟨u1, v1, rfl, h1, u2, v2, rfl, h2, u3, v3, rfl, h3, u4, v4, rfl, h4, u5, v5, rfl, h5, u6, v6, rfl, h6, rfl⟩ := h
  obtain ⟨a, rfl, ha⟩ := in_i64 h1
  obtain ⟨b, rfl, hb⟩ := in_i64 h2
  obtain ⟨c, rfl, hc⟩ := in_i64 h3
  obtain ⟨d, rfl, hd⟩ := in_i64 h4
  obtain ⟨e, rfl, he⟩ := in_i64 h5
  obtain ⟨l, rfl, hl, hby⟩ := in_bytes h6
  exact ⟨⟨a, b, c, d, e, l⟩, by simp [Rec.cs], ⟨⟨hl, hc⟩, hby, ha, hb, hd, he⟩⟩

theorem runsRecordRuns {u1 u2 : V} (h1 : InP false i64Sh u1) (h2 : InP false (.sl true 101 recSh) u2) : ∃ N n, callA am N n 6 [u1, u2] [] = some (.bool true, []) := by
  obtain ⟨a, ha, -⟩ := in_i64 h1
  cases ha
  obtain ⟨A, hl, hA⟩ := slice_in (f := Rec.cs) (fun u hu => rec_in hu) h2
  exact ⟨1000, 30, runs_spec (by omega) (by omega) a u2 A (fun r hr => (hA r hr).ok) hl []⟩
end Go.Am.T
