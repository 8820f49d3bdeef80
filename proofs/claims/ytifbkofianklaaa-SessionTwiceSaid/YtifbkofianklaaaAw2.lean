/- The walk's small laws: what is free of objects, what a result is as a whole, numbers that fit, loops that are unrolled. -/
import Derived.Test.YtifbkofianklaaaAw1
set_option linter.unusedVariables false
set_option linter.unusedSimpArgs false
namespace Go.Am

theorem freeL_cons (v : V) (l : List V) : V.freeL (v :: l) = (v.free && V.freeL l) := by rfl
theorem freeL_nil : V.freeL [] = true := by rfl
theorem free_int (k : IntKind) (n : Int) : (V.int k n).free = true := rfl
theorem free_bool (n : Bool) : (V.bool n).free = true := rfl
theorem free_str (n : List UInt8) : (V.str n).free = true := rfl
theorem free_nils : V.nils.free = true := rfl
theorem free_agg (l : List V) : (V.agg l).free = V.freeL l := rfl
theorem free_tup (l : List V) : (V.tup l).free = V.freeL l := rfl
theorem free_sl (l : List V) (s : Nat) (c : Option Nat) : (V.sl l s c).free = V.freeL l := rfl

theorem freeL_append (a b : List V) : V.freeL (a ++ b) = (V.freeL a && V.freeL b) := by
  induction a with
  | nil => simp [freeL_nil]
  | cons x a ih => simp [freeL_cons, ih, Bool.and_assoc]

theorem freeL_map {α : Type} (f : α → V) (h : ∀ a, (f a).free = true) (l : List α) : V.freeL (l.map f) = true := by
  induction l with
  | nil => rfl
  | cons a l ih => simp [freeL_cons, h, ih]

theorem shut_plain {get : Nat → Option Ob} {d : Nat} {v : V} (h : v.free = true) : V.shut get (d + 1) v = some v := by
  simp [V.shut, h]
theorem shut_int {get : Nat → Option Ob} {d : Nat} {k : IntKind} {n : Int} : V.shut get (d + 1) (.int k n) = some (.int k n) := shut_plain rfl
theorem shut_bool {get : Nat → Option Ob} {d : Nat} {b : Bool} : V.shut get (d + 1) (.bool b) = some (.bool b) := shut_plain rfl

theorem opt_bind_some {α β : Type} (a : α) (f : α → Option β) : Option.bind (some a) f = f a := rfl
theorem opt_bind_none {α β : Type} (f : α → Option β) : Option.bind none f = none := rfl
theorem opt_map_some {α β : Type} (a : α) (f : α → β) : Option.map f (some a) = some (f a) := rfl
theorem opt_map_none {α β : Type} (f : α → β) : Option.map f none = none := rfl

theorem wrap64_eq (n : Int) : IntKind.i64.wrap n = if n % 18446744073709551616 ≥ 9223372036854775808 then n % 18446744073709551616 - 18446744073709551616 else n % 18446744073709551616 := by
  unfold IntKind.wrap
  simp [IntKind.bits, IntKind.signed]

theorem wrap64 {n : Int} (h1 : -9223372036854775808 ≤ n) (h2 : n ≤ 9223372036854775807) : IntKind.i64.wrap n = n := by
  rw [wrap64_eq]
  split <;> omega

theorem wrap8_eq (n : Int) : IntKind.u8.wrap n = n % 256 := by
  unfold IntKind.wrap
  simp [IntKind.bits, IntKind.signed]

theorem wrap8 {n : Int} (h1 : 0 ≤ n) (h2 : n ≤ 255) : IntKind.u8.wrap n = n := by
  rw [wrap8_eq]
  omega

/-! ### Slices as a whole -/

/-- An element as it lies in a slice of elements of s cells. -/
def ElemOk' (s : Nat) (e : V) : Prop := e.cells.length = s ∧ wrapV e.cells = e ∧ (∀ c ∈ e.cells, c.free = true ∧ c.oneCell = true)

theorem mapM_free {get : Nat → Option Ob} {d : Nat} : ∀ {l : List V}, (∀ c ∈ l, c.free = true) → l.mapM (V.shut get (d + 1)) = some l
  | [], _ => rfl
  | c :: l, h => by
    rw [List.mapM_cons, shut_plain (h c (by simp)), mapM_free (fun c hc => h c (by simp [hc]))]
    rfl

theorem flat_chunk (s : Nat) (hs : 0 < s) : ∀ (L : List V), (∀ e ∈ L, ElemOk' s e) → ((List.range L.length).map fun i => wrapV (((L.flatMap V.cells).drop (i * s)).take s)) = L
  | [], _ => rfl
  | e :: L, h => by
    obtain ⟨h1, h2, h3⟩ := h e (by simp)
    have ih := flat_chunk s hs L (fun e he => h e (by simp [he]))
    rw [List.length_cons, List.range_succ_eq_map, List.map_cons, List.map_map]
    have e0 : wrapV ((((e :: L).flatMap V.cells).drop (0 * s)).take s) = e := by
      simp only [Nat.zero_mul, List.drop_zero, List.flatMap_cons]
      rw [List.take_append_of_le_length (by omega), List.take_of_length_le (by omega), h2]
    have e1 : (List.range L.length).map ((fun i => wrapV ((((e :: L).flatMap V.cells).drop (i * s)).take s)) ∘ Nat.succ) = (List.range L.length).map fun i => wrapV (((L.flatMap V.cells).drop (i * s)).take s) := by
      apply List.map_congr_left
      intro i _
      simp only [Function.comp, List.flatMap_cons, Nat.succ_eq_add_one]
      rw [show (i + 1) * s = e.cells.length + i * s by rw [h1, Nat.succ_mul]; omega, List.drop_append, List.drop_eq_nil_of_le (by omega), List.nil_append]
      congr 3
      omega
    rw [e0, e1, ih]

theorem shut_view {get : Nat → Option Ob} {d o ver off len s : Nat} {cap : Option Nat} {L : List V} (hs : 0 < s) (hL : ∀ e ∈ L, ElemOk' s e) (hlen : len = L.length)
    (hl : loadA get (len * s) (.ptr o ver off) = some (L.flatMap V.cells)) : V.shut get (d + 2) (.view o ver off len s cap) = some (.sl L s cap) := by
  have hf : ∀ c ∈ L.flatMap V.cells, c.free = true ∧ c.oneCell = true := by
    intro c hc
    obtain ⟨e, he, hc⟩ := List.mem_flatMap.1 hc
    exact (hL e he).2.2 c hc
  have hm : (L.flatMap V.cells).mapM (V.shut get (d + 1)) = some (L.flatMap V.cells) := mapM_free (fun c hc => (hf c hc).1)
  have e : V.shut get (d + 2) (.view o ver off len s cap) = match loadA get (len * s) (.ptr o ver off) with
      | some cs => match cs.mapM (V.shut get (d + 1)) with
        | some cs => if cs.all V.oneCell then some (.sl ((List.range len).map fun i => wrapV ((cs.drop (i * s)).take s)) s cap) else none
        | none => none
      | none => none := rfl
  rw [e, hl]
  simp only [hm]
  rw [if_pos (by rw [List.all_eq_true]; exact fun c hc => (hf c hc).2)]
  subst hlen
  rw [flat_chunk s hs L hL]

/-! ### Loops, unrolled -/

def sxL (E : Env) : Nat → ACode → List V → Heap → Post → Prop
  | 0, _, _, _, _ => False
  | m + 1, b, t, h, Q => sx E b t h fun e t h => match e with | .norm => sxL E m b t h Q | e => Q e t h

def lpQ (E : Env) (m : Nat) (b : ACode) (Q : Post) : Post := fun e t h => match e with | .norm => sxL E m b t h Q | e => Q e t h

theorem sxL_succ {E : Env} {m : Nat} {b : ACode} {t : List V} {h : Heap} {Q : Post} : sxL E (m + 1) b t h Q = sx E b t h (lpQ E m b Q) := rfl
theorem lpQ_norm {E : Env} {m : Nat} {b : ACode} {Q : Post} {t : List V} {h : Heap} : lpQ E m b Q .norm t h = sxL E m b t h Q := rfl
theorem lpQ_exit {E : Env} {m i : Nat} {b : ACode} {Q : Post} {t : List V} {h : Heap} : lpQ E m b Q (.exit i) t h = Q (.exit i) t h := rfl
theorem lpQ_ret {E : Env} {m : Nat} {b : ACode} {Q : Post} {t : List V} {h : Heap} : lpQ E m b Q .ret t h = Q .ret t h := rfl

theorem sx_unroll {E : Env} (m : Nat) {b : ACode} {t : List V} {h : Heap} {Q : Post} (hm : m ≤ E.N) (H : sxL E m b t h Q) : sx E (.loop [] [] b) t h Q := by
  show wp E (.loop [] [] b) t h Q
  unfold wp
  simp only [exec]
  have key : ∀ (m n : Nat) (t : List V) (h : Heap), m ≤ n → sxL E m b t h Q →
      match loopN (exec E.pureF E.call E.N E.fb b) (fun t h => (clear [] t, killA E.fb [] h)) n t h with | some (e, t', h') => Q e t' h' | none => False := by
    intro m
    induction m with
    | zero => intro n t h _ H; exact H.elim
    | succ m ih =>
      intro n t h hmn H
      obtain ⟨n, rfl⟩ : ∃ k, n = k + 1 := ⟨n - 1, by omega⟩
      have H' := sx_wp H
      unfold wp at H'
      simp only [loopN, clear, killA, List.foldl]
      cases he : exec E.pureF E.call E.N E.fb b t h with
      | none => rw [he] at H'; exact H'
      | some r =>
        obtain ⟨e, t', h'⟩ := r
        rw [he] at H'
        cases e with
        | norm => exact ih n t' h' (by omega) H'
        | _ => exact H'
  exact key m E.N t h hm H

/-- A loop by a statement about its rounds. -/
theorem sx_loop {E : Env} {b : ACode} {t : List V} {h : Heap} {Q : Post} (I : Nat → List V → Heap → Prop) (k : Nat) (hk : k < E.N) (h0 : I 0 t h)
    (hs : ∀ i t h, i ≤ k → I i t h → sx E b t h (loopQ i k I Q)) : sx E (.loop [] [] b) t h Q :=
  wp_loop I k hk h0 fun i t h hi hI => sx_wp (hs i t h hi hI)

/-- A loop whose state at the head of each round is known. -/
theorem sx_rounds {E : Env} {b : ACode} {Q : Post} (k : Nat) (T : Nat → List V) (H : Nat → Heap) (hk : k < E.N)
    (hs : ∀ i, i < k → sx E b (T i) (H i) fun e t h => e = .norm ∧ t = T (i + 1) ∧ h = H (i + 1)) (he : sx E b (T k) (H k) fun e t h => match e with | .norm => False | e => Q e t h) :
    sx E (.loop [] [] b) (T 0) (H 0) Q := by
  refine wp_loop (fun i t h => t = T i ∧ h = H i) k hk ⟨rfl, rfl⟩ fun i t h hi hI => ?_
  obtain ⟨rfl, rfl⟩ := hI
  by_cases hlt : i < k
  · refine wp_mono (sx_wp (hs i hlt)) fun e t h he => ?_
    obtain ⟨rfl, rfl, rfl⟩ := he
    exact ⟨hlt, rfl, rfl⟩
  · have : i = k := by omega
    subst this
    refine wp_mono (sx_wp he) fun e t h he => ?_
    cases e with
    | norm => exact he.elim
    | _ => exact he

theorem sx_mono {E : Env} {c : ACode} {t : List V} {h : Heap} {Q Q' : Post} (H : sx E c t h Q) (hQ : ∀ e t h, Q e t h → Q' e t h) : wp E c t h Q' := wp_mono (sx_wp H) hQ

end Go.Am
