import Derived.Test.YthfpjffgagacmaaTi
import Derived.Test.YthfpjffgagacmaaAb1
set_option linter.unusedVariables false
set_option linter.unusedSimpArgs false
namespace Go.Am.T

def i64S : Sh := .int .i64
def jobSh : Sh := .pair i64S (.pair i64S (.pair i64S (.pair i64S (.pair i64S .unit))))
def askSh : Sh := .pair i64S (.pair i64S (.pair i64S (.pair i64S .unit)))

theorem inInt {vs : List V} (h : InSh i64S vs) : ∃ n, vs = [.int .i64 n] ∧ -9223372036854775808 ≤ n ∧ n ≤ 9223372036854775807 := by
  obtain ⟨n, rfl, hw⟩ := h
  exact ⟨n, rfl, by simpa using bounds_i64 hw⟩

theorem job_in {u : V} (h : InP true jobSh u) : ∃ a b c d e, u = .agg [.int .i64 a, .int .i64 b, .int .i64 c, .int .i64 d, .int .i64 e] := by
  obtain ⟨cs, rfl, u1, v1, rfl, h1, u2, v2, rfl, h2, u3, v3, rfl, h3, u4, v4, rfl, h4, u5, v5, rfl, h5, rfl⟩ := h
  obtain ⟨a, rfl, -⟩ := inInt h1
  obtain ⟨b, rfl, -⟩ := inInt h2
  obtain ⟨c, rfl, -⟩ := inInt h3
  obtain ⟨d, rfl, -⟩ := inInt h4
  obtain ⟨e, rfl, -⟩ := inInt h5
  exact ⟨a, b, c, d, e, rfl⟩

theorem ask_in {u : List V} (h : InSh askSh u) : ∃ x : Ask, u = x.v.cells := by
  obtain ⟨u1, v1, rfl, h1, u2, v2, rfl, h2, u3, v3, rfl, h3, u4, v4, rfl, h4, rfl⟩ := h
  obtain ⟨a, rfl, -⟩ := inInt h1
  obtain ⟨b, rfl, -⟩ := inInt h2
  obtain ⟨c, rfl, -⟩ := inInt h3
  obtain ⟨d, rfl, -⟩ := inInt h4
  exact ⟨⟨a, b, c, d⟩, rfl⟩

theorem list_in {α : Type} {f : α → V} {S : Sh} (hf : ∀ a, ∃ cs, f a = .agg cs) (h1 : ∀ u, InSh S u → ∃ a, u = (f a).cells) : ∀ (us : List (List V)), (∀ u ∈ us, InSh S u) → ∃ A : List α, us.map (elemV true) = A.map f
  | [], _ => ⟨[], rfl⟩
  | u :: us, h => by
    obtain ⟨A, hA⟩ := list_in hf h1 us (fun v hv => h v (by simp [hv]))
    obtain ⟨a, rfl⟩ := h1 u (h u (by simp))
    refine ⟨a :: A, ?_⟩
    obtain ⟨cs, hcs⟩ := hf a
    rw [List.map_cons, List.map_cons, hA, hcs]
    rfl

theorem runsAreaWhere {u1 u2 : V} (h1 : InP true jobSh u1) (h2 : InP false (.sl true 4 askSh) u2) : ∃ N n, callA am N n 3 [u1, u2] [] = some (.bool true, []) := by
  have hfl := h2.free
  obtain ⟨a, b, c, d, e, rfl⟩ := job_in h1
  rcases h2 with h2 | ⟨us, k, h2, -, -, hus⟩
  · cases h2
    exact ⟨2000, 30, law_spec (by omega) (by omega) a b c d e .nils [] hfl rfl (by simp) (fun i => rfl) []⟩
  · cases h2
    obtain ⟨A, hA⟩ := list_in (f := Ask.v) (fun a => ⟨_, rfl⟩) (fun u hu => ask_in hu) us (fun u hu => (hus u hu).2)
    rw [hA] at hfl ⊢
    refine ⟨2000, 30, law_spec (by omega) (by omega) a b c d e _ A hfl (by simp [lenA]) (by simp) (fun i => ?_) []⟩
    simp only [iaddrSA, indexedI, List.length_map, Int.natCast_nonneg, ↓reduceIte, Int.ofNat_lt, Int.toNat_natCast]
    by_cases hlt : i < A.length
    · simp [hlt]
    · simp [hlt]
end Go.Am.T
