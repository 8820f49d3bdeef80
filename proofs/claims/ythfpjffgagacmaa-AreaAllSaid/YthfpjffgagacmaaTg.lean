import Derived.Test.YthfpjffgagacmaaTf
set_option linter.unusedVariables false
set_option linter.unusedSimpArgs false
namespace Go.Am.T

/-! ### The plain law: the list and the places -/

theorem recsL_get (x : Int) (l : Nat) : ∀ t, t < 2 * l → (recsL x l)[t]? = some ⟨4, x, ((t / 2 : Nat) : Int), ((t % 2 : Nat) : Int)⟩ := by
  induction l with
  | zero => intro t ht; omega
  | succ l ih =>
    intro t ht
    rw [recsL_succ]
    by_cases h : t < 2 * l
    · rw [List.getElem?_append_left (by rw [recsL_length]; exact h), ih t h]
    · rw [List.getElem?_append_right (by rw [recsL_length]; omega), recsL_length]
      by_cases h2 : t = 2 * l
      · subst h2
        simp
      · have : t = 2 * l + 1 := by omega
        subst this
        have e1 : (2 * l + 1) / 2 = l := by omega
        have e2 : (2 * l + 1) % 2 = 1 := by omega
        rw [show 2 * l + 1 - 2 * l = 1 by omega, e1, e2]
        rfl

def nodeAt (l t : Nat) : Pl := if t % (1 + 2 * l) = 0 then ⟨3, ((t / (1 + 2 * l) : Nat) : Int), 0, 0⟩ else ⟨4, ((t / (1 + 2 * l) : Nat) : Int), (((t % (1 + 2 * l) - 1) / 2 : Nat) : Int), (((t % (1 + 2 * l) - 1) % 2 : Nat) : Int)⟩

theorem nodesL_get (l n : Nat) : ∀ t, t < n * (1 + 2 * l) → (nodesL n l)[t]? = some (nodeAt l t) := by
  induction n with
  | zero => intro t ht; omega
  | succ n ih =>
    intro t ht
    rw [nodesL_succ]
    by_cases h : t < n * (1 + 2 * l)
    · rw [List.getElem?_append_left (by rw [nodesL_length]; exact h), ih t h]
    · rw [List.getElem?_append_right (by rw [nodesL_length]; omega), nodesL_length]
      rw [Nat.add_mul, Nat.one_mul] at ht
      obtain ⟨r, rfl⟩ : ∃ r, t = n * (1 + 2 * l) + r := ⟨t - n * (1 + 2 * l), by omega⟩
      have hr : r < 1 + 2 * l := by omega
      have e1 : (n * (1 + 2 * l) + r) / (1 + 2 * l) = n := by
        rw [Nat.mul_comm, Nat.mul_add_div (by omega), Nat.div_eq_of_lt hr]; rfl
      have e2 : (n * (1 + 2 * l) + r) % (1 + 2 * l) = r := by
        rw [Nat.mul_comm, Nat.mul_add_mod, Nat.mod_eq_of_lt hr]
      rw [Nat.add_sub_cancel_left]
      unfold nodeAt
      rw [e1, e2]
      cases r with
      | zero => rfl
      | succ r =>
        rw [List.getElem?_cons_succ, recsL_get _ _ _ (by omega), if_neg (by omega)]
        rfl

theorem pagesL_get (p : Nat) : ∀ t, t < 2 * p → (pagesL p)[t]? = some ⟨5, 0, ((t / 2 : Nat) : Int), ((t % 2 : Nat) : Int)⟩ := by
  induction p with
  | zero => intro t ht; omega
  | succ l ih =>
    intro t ht
    rw [pagesL_succ]
    by_cases h : t < 2 * l
    · rw [List.getElem?_append_left (by rw [pagesL_length]; exact h), ih t h]
    · rw [List.getElem?_append_right (by rw [pagesL_length]; omega), pagesL_length]
      by_cases h2 : t = 2 * l
      · subst h2
        simp
      · have : t = 2 * l + 1 := by omega
        subst this
        have e1 : (2 * l + 1) / 2 = l := by omega
        have e2 : (2 * l + 1) % 2 = 1 := by omega
        rw [show 2 * l + 1 - 2 * l = 1 by omega, e1, e2]
        rfl

theorem leases_get (t : Nat) (h : t < 9) : leasesL[t]? = some (if t < 1 then ⟨1, 0, 0, 0⟩ else ⟨2, (t : Int) - 1, 0, 0⟩) := by
  match t, h with
  | 0, _ => rfl
  | 1, _ => rfl
  | 2, _ => rfl
  | 3, _ => rfl
  | 4, _ => rfl
  | 5, _ => rfl
  | 6, _ => rfl
  | 7, _ => rfl
  | 8, _ => rfl

theorem listS_get {a b d : Int} (ha : 2 ≤ a) (hb : 1 ≤ b) (hd : 2 ≤ d) (s : Nat) : (listS a b d)[s]? = ofS a b d s := by
  obtain ⟨n, rfl⟩ := Int.eq_ofNat_of_zero_le (show 0 ≤ a by omega)
  obtain ⟨p, rfl⟩ := Int.eq_ofNat_of_zero_le (show 0 ≤ b by omega)
  obtain ⟨l, rfl⟩ := Int.eq_ofNat_of_zero_le (show 0 ≤ d by omega)
  have hE : endLog (n : Int) (l : Int) = ((9 + n * (1 + 2 * l) : Nat) : Int) := by simp [endLog]
  unfold listS ofS
  rw [hE]
  simp only [Int.toNat_natCast]
  by_cases s1 : s < 9
  · rw [List.getElem?_append_left (by simp [leasesL]; omega), List.getElem?_append_left (by simp [leasesL]; omega), leases_get s s1]
    by_cases s0 : s < 1
    · rw [if_pos s0, if_pos (by omega)]
    · rw [if_neg s0, if_neg (by omega), if_pos (by omega)]
  · rw [if_neg (by omega), if_neg (by omega)]
    by_cases s2 : s < 9 + n * (1 + 2 * l)
    · rw [if_pos (by omega), List.getElem?_append_left (by simp [leasesL, nodesL_length]; omega), List.getElem?_append_right (by simp [leasesL]; omega)]
      rw [show leasesL.length = 9 from rfl, nodesL_get l n (s - 9) (by omega)]
      have e : (s : Int) - 9 = ((s - 9 : Nat) : Int) := by omega
      have e' : (1 : Int) + 2 * (l : Int) = ((1 + 2 * l : Nat) : Int) := by omega
      rw [e, e']
      have t1 : ((s - 9 : Nat) : Int).tmod ((1 + 2 * l : Nat) : Int) = (((s - 9) % (1 + 2 * l) : Nat) : Int) := rfl
      have t2 : ((s - 9 : Nat) : Int).tdiv ((1 + 2 * l : Nat) : Int) = (((s - 9) / (1 + 2 * l) : Nat) : Int) := rfl
      rw [t1, t2]
      unfold nodeAt
      generalize (s - 9) % (1 + 2 * l) = r
      by_cases hr : r = 0
      · subst hr; simp
      · obtain ⟨r, rfl⟩ : ∃ k, r = k + 1 := ⟨r - 1, by omega⟩
        rw [if_neg hr, if_neg (by omega)]
        have e3 : ((r + 1 : Nat) : Int) - 1 = (r : Int) := by omega
        rw [e3]
        rfl
    · rw [if_neg (by omega), List.getElem?_append_right (by simp [leasesL, nodesL_length]; omega)]
      have hlen : (leasesL ++ nodesL n l).length = 9 + n * (1 + 2 * l) := by simp [leasesL, nodesL_length]; omega
      rw [hlen]
      by_cases s3 : s < 9 + n * (1 + 2 * l) + 2 * p
      · rw [if_pos (by omega), pagesL_get _ _ (by omega)]
        have e : (s : Int) - ((9 + n * (1 + 2 * l) : Nat) : Int) = ((s - (9 + n * (1 + 2 * l)) : Nat) : Int) := by omega
        rw [e]
        rfl
      · rw [if_neg (by omega), List.getElem?_eq_none (by rw [pagesL_length]; omega)]

/-- The sector of a place. -/
def posS (a d : Int) (p : Pl) : Int :=
  if p.k = 1 then 0 else if p.k = 2 then 1 + p.n else if p.k = 3 then 9 + p.n * (1 + 2 * d) else if p.k = 4 then 9 + p.n * (1 + 2 * d) + 1 + 2 * p.i + p.h else endLog a d + 2 * p.i + p.h

theorem ofS_pos {a b d s : Int} (hs : 0 ≤ s) (hd : 2 ≤ d) {p : Pl} (h : ofS a b d s = some p) : posS a d p = s := by
  unfold ofS at h
  split at h
  · cases h; simp [posS]; omega
  · split at h
    · cases h; simp [posS]; omega
    · split at h
      · have hdm := Int.mul_tdiv_add_tmod (s - 9) (1 + 2 * d)
        rw [Int.mul_comm] at hdm
        split at h
        · rename_i hz
          cases h
          simp only [posS]
          rw [hz] at hdm
          simp
          omega
        · rename_i hz
          cases h
          simp only [posS]
          have := Int.mul_tdiv_add_tmod ((s - 9).tmod (1 + 2 * d) - 1) 2
          simp
          omega
      · split at h
        · cases h
          simp only [posS]
          have := Int.mul_tdiv_add_tmod (s - endLog a d) 2
          simp
          omega
        · cases h

theorem atS_of {a b d : Int} (ha : 2 ≤ a) (hb : 1 ≤ b) (hd : 2 ≤ d) {x : Pl} {s : Int} (hs : 0 ≤ s) (h : ofS a b d s = some x) : atS (listS a b d) x = .tup [.int .i64 s, .int .i64 0] := by
  obtain ⟨n, rfl⟩ := Int.eq_ofNat_of_zero_le hs
  refine atS_found (i := n) (fun j hj e => ?_) (by rw [listS_get ha hb hd]; exact h)
  rw [listS_get ha hb hd] at e
  have := ofS_pos (by omega) hd h
  have := ofS_pos (by omega) hd e
  omega

theorem atS_not {a b d : Int} (ha : 2 ≤ a) (hb : 1 ≤ b) (hd : 2 ≤ d) {x : Pl} (h : ∀ s, 0 ≤ s → ofS a b d s ≠ some x) : atS (listS a b d) x = .tup [.int .i64 0, .int .i64 2] := by
  refine atS_none fun j _ e => ?_
  rw [listS_get ha hb hd] at e
  exact h j (by omega) e

end Go.Am.T
