import Derived.Test.YtojiebcpmkjblaaTw7
set_option linter.unusedVariables false
set_option linter.unusedSimpArgs false
set_option maxRecDepth 10000
namespace Go.Am.T
attribute [local congr] selV_congr impB_congr

/-! ### The shares -/

theorem memP_inj {M : List (Bool × Int)} : ∀ {m q i : Nat} {e : Int}, (memP M m)[q]? = some (i, e) → q = (memP M i).length
  | 0, q, i, e, h => by simp [memP] at h
  | m + 1, q, i, e, h => by
    by_cases hk : q < (memP M m).length
    · simp only [memP] at h
      rw [List.getElem?_append_left hk] at h
      exact memP_inj h
    · simp only [memP] at h
      rw [List.getElem?_append_right (by omega)] at h
      by_cases hb : (M.getD m (false, 0)).1 = true
      · rw [if_pos hb] at h
        have hl := (List.getElem?_eq_some_iff.1 h).1
        have hm := List.mem_of_getElem? h
        simp only [List.mem_singleton, Prod.mk.injEq] at hm
        obtain ⟨rfl, rfl⟩ := hm
        simp at hl
        omega
      · rw [if_neg hb] at h
        simp at h

/-- How many of the first k pages have remainder j. -/
def cnt (c j : Nat) : Nat → Nat
  | 0 => 0
  | k + 1 => cnt c j k + (if k % c = j then 1 else 0)

theorem isMast_in {v : Vw} (hm : mayV v = true) {a : Nat} (ha : a < 8) (hb : (v.M.getD a (false, 0)).1 = true) (k : Nat) : isMast v (a : Int) k = decide (k % (mems v).length = (memP v.M a).length) := by
  have e : mems v = memP v.M 8 := by simp [mems, hm]
  obtain ⟨h1, h2⟩ := memP_get hb 8 ha
  rw [← e] at h1 h2
  have hc : 0 < (mems v).length := by omega
  have hmod : k % (mems v).length < (mems v).length := Nat.mod_lt _ hc
  have hk : (mems v)[k % (mems v).length]? = some ((mems v)[k % (mems v).length]) := List.getElem?_eq_getElem hmod
  have em : mastV v (k : Int) = ((((mems v)[k % (mems v).length]).1 : Int), true) := by
    unfold mastV
    rw [if_neg (by omega), Int.toNat_natCast, List.getD_eq_getElem?_getD, hk]; rfl
  unfold isMast
  rw [em, Bool.eq_iff_iff]
  simp only [Bool.true_and, beq_iff_eq, decide_eq_true_eq]
  generalize (mems v)[k % (mems v).length] = z at hk
  obtain ⟨i, ep⟩ := z
  constructor
  · intro h
    have : i = a := by simp only at h; omega
    subst this
    rw [e] at hk ⊢
    exact memP_inj hk
  · intro h
    rw [h, h1] at hk
    simp only [Option.some.injEq, Prod.mk.injEq] at hk
    simp only
    omega

theorem isMast_out {v : Vw} (hm : mayV v = true) {a : Nat} (hb : (v.M.getD a (false, 0)).1 = false) (k : Nat) : isMast v (a : Int) k = false := by
  have e : mems v = memP v.M 8 := by simp [mems, hm]
  unfold isMast mastV
  by_cases h0 : (mems v).length = 0 ∨ (k : Int) < 0
  · rw [if_pos h0]; rfl
  · rw [if_neg h0, Int.toNat_natCast]
    have hmod : k % (mems v).length < (mems v).length := Nat.mod_lt _ (by omega)
    have hk : (mems v)[k % (mems v).length]? = some ((mems v)[k % (mems v).length]) := List.getElem?_eq_getElem hmod
    rw [List.getD_eq_getElem?_getD, hk]
    generalize (mems v)[k % (mems v).length] = z at hk
    obtain ⟨i, ep⟩ := z
    obtain ⟨-, h2⟩ := mems_at hk
    simp only [Option.getD_some, Bool.true_and, beq_eq_false_iff_ne, ne_eq]
    intro h
    have : i = a := by omega
    subst this
    rw [h2] at hb
    cases hb

theorem pagP_cnt {v : Vw} {a c j : Nat} (h : ∀ k, isMast v (a : Int) k = decide (k % c = j)) : ∀ k, (pagP v (a : Int) k).length = cnt c j k
  | 0 => rfl
  | k + 1 => by
    simp only [pagP, cnt, List.length_append, pagP_cnt h k, h k]
    by_cases hj : k % c = j <;> simp [hj]

theorem pagP_none {v : Vw} {a : Nat} (h : ∀ k, isMast v (a : Int) k = false) : ∀ k, (pagP v (a : Int) k).length = 0
  | 0 => rfl
  | k + 1 => by simp [pagP, h k, pagP_none h k]

/-- How many of the sixteen pages node a is the master of. -/
def share (v : Vw) (a : Nat) : Nat := bif (v.M.getD a (false, 0)).1 then cnt (mems v).length (memP v.M a).length 16 else 0

theorem pages_share {v : Vw} (hm : mayV v = true) {a : Nat} (ha : a < 8) : (pagesV v (a : Int) 16).length = share v a := by
  unfold pagesV share
  rw [if_pos (by decide), show (16 : Int).toNat = 16 from rfl]
  cases hb : (v.M.getD a (false, 0)).1 with
  | true => exact pagP_cnt (isMast_in hm ha hb) 16
  | false => exact pagP_none (isMast_out hm hb) 16

/-- The least, the greatest and the sum of the first r shares. -/
def sLo (c : Nat) : Nat → Nat
  | 0 => 16
  | r + 1 => min (sLo c r) (cnt c r 16)
def sHi (c : Nat) : Nat → Nat
  | 0 => 0
  | r + 1 => max (sHi c r) (cnt c r 16)
def sSum (c : Nat) : Nat → Nat
  | 0 => 0
  | r + 1 => sSum c r + cnt c r 16

theorem shares_fair : ∀ c, c < 9 → 0 < c → sSum c c = 16 ∧ sHi c c ≤ sLo c c + 1 ∧ sLo c c ≤ 16 ∧ sHi c c ≤ 16 := by decide

theorem cnt_le (c j : Nat) : ∀ k, cnt c j k ≤ k
  | 0 => Nat.le_refl _
  | k + 1 => by
    have := cnt_le c j k
    simp only [cnt]
    split <;> omega
theorem sLo_le (c : Nat) : ∀ r, sLo c r ≤ 16
  | 0 => Nat.le_refl _
  | r + 1 => by have := sLo_le c r; simp only [sLo]; omega
theorem sHi_le (c : Nat) : ∀ r, sHi c r ≤ 16
  | 0 => Nat.zero_le _
  | r + 1 => by have := sHi_le c r; have := cnt_le c r 16; simp only [sHi]; omega
theorem sSum_le (c : Nat) : ∀ r, sSum c r ≤ 16 * r
  | 0 => Nat.zero_le _
  | r + 1 => by have := sSum_le c r; have := cnt_le c r 16; simp only [sSum]; omega

/-! ### The next view may be -/

theorem may_split {v : Vw} (h : mayV v = true) : (v = firstV ∨ (badH v = false ∧ (v.M.getD v.fou.toNat (false, 0)).1 = true)) ∧ (∀ m ∈ v.M, badM m = false) ∧ 0 ≤ v.num ∧ v.num ≤ 4611686018427387904 := by
  unfold mayV at h
  simp only [Bool.or_eq_true, decide_eq_true_eq, Bool.and_eq_true, Bool.not_eq_true', List.all_eq_true] at h
  rcases h with rfl | ⟨h1, h2, h3⟩
  · refine ⟨.inl rfl, fun m hm => ?_, by decide, by decide⟩
    have : m = (false, 0) := List.eq_of_mem_replicate hm
    subst this
    rfl
  · refine ⟨.inr ⟨h1, h2⟩, h3, ?_, ?_⟩ <;>
    · simp only [badH, Bool.or_eq_false_iff, decide_eq_false_iff_not] at h1
      omega

theorem mem_set_or {α : Type} {l : List α} {k : Nat} {a x : α} (h : x ∈ l.set k a) : x ∈ l ∨ x = a := by
  rcases List.mem_or_eq_of_mem_set h with h | h
  · exact .inl h
  · exact .inr h

/-- A next view: what the law asks of it. -/
structure NextOk (v w : Vw) : Prop where
  may : mayV w = true
  num : w.num = v.num + 1
  opn : w.opn = false
  fou : 0 ≤ w.fou ∧ w.fou < 8
  mem : (w.M.getD w.fou.toNat (false, 0)).1 = true

theorem next_ok {v : Vw} (h : mayV v = true) {f : Nat} (hf : f < 8) {k : Nat} {m : Bool × Int} (hm : badM m = false) (hin : ((v.M.set k m).getD f (false, 0)).1 = true) (h0 : (nextV (v.put k m) (f : Int)).2 = 0) : NextOk v (nextV (v.put k m) (f : Int)).1 := by
  obtain ⟨-, h2, h3, h4⟩ := may_split h
  have e : nextV (v.put k m) (f : Int) = (⟨v.num + 1, false, f, v.M.set k m⟩, 0) := by
    unfold nextV at h0 ⊢
    by_cases hc : ((v.put k m).num == 4611686018427387904) = true
    · rw [if_pos hc] at h0
      cases h0
    · rw [if_neg hc]
      have hc' : v.num ≠ 4611686018427387904 := by simpa [Vw.put] using hc
      have w : IntKind.i64.wrap (v.num + 1) = v.num + 1 := wrap64 (by omega) (by omega)
      simp only [Vw.put, w]
  rw [e]
  have hc' : v.num ≠ 4611686018427387904 := by
    intro hc
    unfold nextV at e
    rw [if_pos (by simp [Vw.put, hc])] at e
    have := congrArg Prod.snd e
    cases this
  refine ⟨?_, rfl, rfl, ⟨by simp only; omega, by simp only; omega⟩, by simpa using hin⟩
  unfold mayV
  have hb : badH ⟨v.num + 1, false, f, v.M.set k m⟩ = false := by
    simp only [badH, Bool.or_eq_false_iff, decide_eq_false_iff_not]
    omega
  rw [hb]
  simp only [Int.toNat_natCast, hin, Bool.not_false, Bool.true_and, Bool.or_eq_true, List.all_eq_true, Bool.not_eq_true']
  refine .inr fun x hx => ?_
  rcases mem_set_or hx with hx | rfl
  · exact h2 x hx
  · exact hm

theorem join_ok {v : Vw} (hv : v.M.length = 8) (h : mayV v = true) (x e : Int) (h0 : (joinV v x e).2 = 0) : NextOk v (joinV v x e).1 := by
  unfold joinV at h0 ⊢
  rw [if_neg (by simp [h])] at h0 ⊢
  by_cases hn : nodeV x e = false
  · rw [if_pos hn] at h0
    cases h0
  · rw [if_neg hn] at h0 ⊢
    have hn' : nodeV x e = true := by simpa using hn
    obtain ⟨b1, b2, b3, b4⟩ := nodeV_bounds hn'
    obtain ⟨k, rfl⟩ := Int.eq_ofNat_of_zero_le b1
    simp only [Int.toNat_natCast] at h0 ⊢
    by_cases ht : ((v.M.getD k (false, 0)).1 && decide ((v.M.getD k (false, 0)).2 ≥ e)) = true
    · rw [if_pos ht] at h0
      cases h0
    · rw [if_neg ht] at h0 ⊢
      refine next_ok h (by omega) ?_ ?_ h0
      · simp only [badM, Bool.true_and, Bool.not_true, Bool.false_and, Bool.or_false, Bool.or_eq_false_iff, decide_eq_false_iff_not]
        omega
      · rw [List.getD_eq_getElem?_getD, List.getElem?_set_self (by omega)]; rfl

theorem out_ok {v : Vw} (hv : v.M.length = 8) (h : mayV v = true) (f x : Int) (h0 : (outV v f x).2 = 0) : NextOk v (outV v f x).1 := by
  unfold outV at h0 ⊢
  rw [if_neg (by simp [h])] at h0 ⊢
  by_cases hn : (!nodeV f 1 || (!nodeV x 1 || f == x)) = true
  · rw [if_pos hn] at h0
    cases h0
  · rw [if_neg hn] at h0 ⊢
    simp only [Bool.or_eq_true, Bool.not_eq_true', not_or, Bool.not_eq_false, beq_iff_eq] at hn
    obtain ⟨n1, n2, n3⟩ := hn
    obtain ⟨b1, b2, -, -⟩ := nodeV_bounds n1
    obtain ⟨c1, c2, -, -⟩ := nodeV_bounds n2
    obtain ⟨a, rfl⟩ := Int.eq_ofNat_of_zero_le b1
    obtain ⟨k, rfl⟩ := Int.eq_ofNat_of_zero_le c1
    simp only [Int.toNat_natCast] at h0 ⊢
    by_cases ht : (!(v.M.getD a (false, 0)).1 || !(v.M.getD k (false, 0)).1) = true
    · rw [if_pos ht] at h0
      cases h0
    · rw [if_neg ht] at h0 ⊢
      simp only [Bool.or_eq_true, Bool.not_eq_true', not_or, Bool.not_eq_false] at ht
      refine next_ok h (by omega) rfl ?_ h0
      rw [List.getD_eq_getElem?_getD, List.getElem?_set_ne (by omega), ← List.getD_eq_getElem?_getD]
      exact ht.1

end Go.Am.T
