/- What came in, in handier words: rows of numbers; lists of elements. -/
import Derived.Test.YtifbkofianklaaaAb1
import Derived.Test.YtifbkofianklaaaAw4
set_option linter.unusedVariables false
set_option linter.unusedSimpArgs false
namespace Go.Am

theorem in_i64 {vs : List V} (h : InSh (.int .i64) vs) : ∃ n, vs = [.int .i64 n] ∧ -9223372036854775808 ≤ n ∧ n ≤ 9223372036854775807 := by
  obtain ⟨n, rfl, hw⟩ := h
  exact ⟨n, rfl, by simpa using bounds_i64 hw⟩

theorem in_u8 {vs : List V} (h : InSh (.int .u8) vs) : ∃ n, vs = [.int .u8 n] ∧ 0 ≤ n ∧ n ≤ 255 := by
  obtain ⟨n, rfl, hw⟩ := h
  exact ⟨n, rfl, by simpa using bounds_u8 hw⟩

theorem in_bool {vs : List V} (h : InSh .bool vs) : ∃ b, vs = [.bool b] := h

/-- Bytes as they are in values. -/
def Bytes (l : List Int) : Prop := ∀ x ∈ l, 0 ≤ x ∧ x ≤ 255

theorem in_bytes {n : Nat} {vs : List V} (h : InSh (.arr n (.int .u8)) vs) : ∃ l : List Int, vs = l.map (V.int .u8) ∧ l.length = n ∧ Bytes l := by
  obtain ⟨us, hn, rfl, hu⟩ := h
  subst hn
  induction us with
  | nil => exact ⟨[], rfl, rfl, fun x hx => by cases hx⟩
  | cons u us ih =>
    obtain ⟨l, h1, h2, h3⟩ := ih (fun v hv => hu v (by simp [hv]))
    obtain ⟨x, rfl, hx⟩ := in_u8 (hu u (by simp))
    refine ⟨x :: l, by rw [List.flatten_cons, h1]; rfl, by simp [h2], fun y hy => ?_⟩
    rcases List.mem_cons.1 hy with rfl | hy
    · exact hx
    · exact h3 y hy

/-- A list of elements that came in, each of them an 'f a'. -/
theorem in_list {α : Type} {f : α → List V} {S : Sh} {ok : α → Prop} (h1 : ∀ u, InSh S u → ∃ a, u = f a ∧ ok a) : ∀ (us : List (List V)), (∀ u ∈ us, InSh S u) → ∃ A : List α, us = A.map f ∧ ∀ a ∈ A, ok a
  | [], _ => ⟨[], rfl, fun a h => by cases h⟩
  | u :: us, h => by
    obtain ⟨A, hA, hk⟩ := in_list h1 us (fun v hv => h v (by simp [hv]))
    obtain ⟨a, rfl, ha⟩ := h1 u (h u (by simp))
    refine ⟨a :: A, by rw [List.map_cons, hA], fun b hb => ?_⟩
    rcases List.mem_cons.1 hb with rfl | hb
    · exact ha
    · exact hk b hb

/-- A slice of aggregates that came in. -/
theorem slice_in {α : Type} {f : α → List V} {S : Sh} {s : Nat} {ok : α → Prop} (h1 : ∀ u, InSh S u → ∃ a, u = f a ∧ ok a) {v : V} (h : InP false (.sl true s S) v) : ∃ A : List α, IsL v s (A.map f) ∧ ∀ a ∈ A, ok a := by
  have hfree := InP.free h
  rcases h with h | ⟨us, c, h, -, -, hu⟩
  · cases h
    exact ⟨[], isL_nils s, fun a h => by cases h⟩
  · cases h
    obtain ⟨A, hA, hk⟩ := in_list h1 us (fun u hu' => (hu u hu').2)
    refine ⟨A, isL_sl (by simpa [V.free] using hfree) ?_, hk⟩
    rw [List.map_map, ← hA]
    exact (List.map_congr_left (fun u _ => rfl)).trans (List.map_id us)

end Go.Am
