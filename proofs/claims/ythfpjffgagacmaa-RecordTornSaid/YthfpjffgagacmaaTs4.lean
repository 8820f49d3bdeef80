import Derived.Test.YthfpjffgagacmaaTs3
set_option linter.unusedVariables false
set_option linter.unusedSimpArgs false
set_option maxRecDepth 10000
namespace Go.Am.T
attribute [local congr] selV_congr impB_congr

/-! ### Torn writes, as plain law -/

def head5 (r : Rec) : Int × Int × Int × Int × Int := (r.node, r.epoch, r.lsn, r.page, r.psn)

theorem said_head {r : Rec} (hm : mayR r = true) (i : Nat) (X : List Int) : head5 (saidR (secI r i) X) = head5 r := by
  obtain ⟨b1, b2, b3, b4, b5, b6, b7, b8, b9, b10⟩ := mayR_bounds hm
  have e1 : (secI r i).getD 1 0 = 16 * r.node + r.page := rfl
  have e2 : num4 (secI r i) 2 = ((bytI r.epoch 3 * 256 + bytI r.epoch 2) * 256 + bytI r.epoch 1) * 256 + bytI r.epoch 0 := rfl
  have e3 : num4 (secI r i) 6 = ((bytI r.lsn 3 * 256 + bytI r.lsn 2) * 256 + bytI r.lsn 1) * 256 + bytI r.lsn 0 := rfl
  have e4 : num4 (secI r i) 10 = ((bytI r.psn 3 * 256 + bytI r.psn 2) * 256 + bytI r.psn 1) * 256 + bytI r.psn 0 := rfl
  simp only [head5, saidR]
  rw [e1, e2, e3, e4, bytI_sum (by omega) b6, bytI_sum (by omega) b8, bytI_sum (by omega) b10, show (16 * r.node + r.page) / 16 = r.node by omega, show (16 * r.node + r.page) % 16 = r.page by omega]

theorem mixed {r q : Rec} (hr : r.Ok) (hq : q.Ok) (br : Bytes (secI r 0)) (mr : mayR r = true) (mq : mayR q = true) (hd : head5 r ≠ head5 q) : getR (secI r 0) (secI q 1) = none := by
  rw [getR_eq (secI_length hr (by omega)) (secI_length hq (by omega)) br]
  split
  · rename_i hm
    split
    · split
      · rename_i h1
        refine absurd ?_ hd
        rw [← said_head mr 0 (secI q 1), ← said_head hm 1 [], h1, said_head mq]
      · rfl
    · rfl
  · rfl

theorem mixed' {r q : Rec} (hr : r.Ok) (hq : q.Ok) (bq : Bytes (secI q 0)) (mr : mayR r = true) (mq : mayR q = true) (hd : head5 r ≠ head5 q) : getR (secI q 0) (secI r 1) = none :=
  mixed hq hr bq mq mr (Ne.symm hd)

theorem takeHd_sec (r : Rec) {i : Nat} (hi : i < 2) : takeHd (secI r i) = none := by
  unfold takeHd
  rw [if_neg]
  intro h
  have h2 := congrArg (fun l => l.getD 0 0) h.2
  have h3 : (secI r i).getD 0 0 = 177 + i := rfl
  have h4 : ∀ a b, (hdI a b).getD 0 0 = 0 ∨ (hdI a b).getD 0 0 = 179 := by
    intro a b
    unfold hdI
    split
    · exact .inl rfl
    · split
      · exact .inr rfl
      · exact .inl rfl
  rcases h4 (if secI r i = List.replicate 64 0 then 1 else num4 (secI r i) 5) (num4 (secI r i) 1) with h5 | h5 <;>
  · rw [h5, h3] at h2
    omega

theorem pgI_bytes (p m : Int) {body : List Int} (hb : Bytes body) {i : Nat} (hi : i < 2) : Bytes (pgI p m body i) := by
  intro x hx
  simp only [pgI, List.mem_cons, List.mem_append] at hx
  rcases hx with rfl | rfl | rfl | rfl | rfl | rfl | hx | hx
  · omega
  · omega
  all_goals first | exact bytI_in _ _ | skip
  · exact hb x (List.mem_of_mem_drop (List.mem_of_mem_take hx))
  · rw [List.eq_of_mem_replicate hx]; decide

theorem stampR_page (p m : Int) (body : List Int) : stampR (pgI p m body 0) = none := by
  have h3 : (pgI p m body 0).getD 0 0 = 161 := rfl
  unfold stampR
  rw [if_neg (c := secI _ 0 = _) (fun h => by have := secI_tag (saidR (pgI p m body 0) (pgI p m body 0)) 0; rw [h, h3] at this; omega),
    if_neg (c := secI _ 1 = _) (fun h => by have := secI_tag (saidR (pgI p m body 0) (pgI p m body 0)) 1; rw [h, h3] at this; omega), ite_self]

theorem getR_page (p m : Int) {body : List Int} (hB : body.length = 96) (hb : Bytes body) : getR (pgI p m body 0) (pgI p m body 1) = none := by
  have h3 : (pgI p m body 0).getD 0 0 = 161 := rfl
  rw [getR_eq (pgI_length hB (by omega)) (pgI_length hB (by omega)) (pgI_bytes p m hb (by omega))]
  rw [if_neg (c := secI _ 0 = _) (fun h => by have := secI_tag (saidR (pgI p m body 0) (pgI p m body 1)) 0; rw [h, h3] at this; omega), ite_self]

def Rec.with (q r : Rec) : Rec := { q with body := r.body }

theorem with_set {q r : Rec} (hq : q.Ok) (hr : r.Ok) : setRange q.cs 5 (r.body.map (V.int .u8)) = (q.with r).cs := by
  simp only [Rec.cs, sr_succ, Rec.with]
  rw [sr_all (by simp [hq.body, hr.body])]

theorem eq_with {q r : Rec} (hr : r.Ok) : eqCells [.i .i64, .i .i64, .i .i64, .i .i64, .i .i64, .i .u8, .i .u8, .i .u8, .i .u8, .i .u8, .i .u8, .i .u8, .i .u8, .i .u8, .i .u8, .i .u8, .i .u8, .i .u8, .i .u8, .i .u8, .i .u8, .i .u8, .i .u8, .i .u8, .i .u8, .i .u8, .i .u8, .i .u8, .i .u8, .i .u8, .i .u8, .i .u8, .i .u8, .i .u8, .i .u8, .i .u8, .i .u8, .i .u8, .i .u8, .i .u8, .i .u8, .i .u8, .i .u8, .i .u8, .i .u8, .i .u8, .i .u8, .i .u8, .i .u8, .i .u8, .i .u8, .i .u8, .i .u8, .i .u8, .i .u8, .i .u8, .i .u8, .i .u8, .i .u8, .i .u8, .i .u8, .i .u8, .i .u8, .i .u8, .i .u8, .i .u8, .i .u8, .i .u8, .i .u8, .i .u8, .i .u8, .i .u8, .i .u8, .i .u8, .i .u8, .i .u8, .i .u8, .i .u8, .i .u8, .i .u8, .i .u8, .i .u8, .i .u8, .i .u8, .i .u8, .i .u8, .i .u8, .i .u8, .i .u8, .i .u8, .i .u8, .i .u8, .i .u8, .i .u8, .i .u8, .i .u8, .i .u8, .i .u8, .i .u8, .i .u8, .i .u8] (q.with r).cs r.cs = some (decide (head5 r = head5 q)) := by
  have h : eqCells (List.replicate 96 (.i .u8)) (r.body.map (V.int .u8)) (r.body.map (V.int .u8)) = some true := by
    rw [eqCells_ints hr.body hr.body, decide_eq_true rfl]
  have e : eqCells (.i .i64 :: .i .i64 :: .i .i64 :: .i .i64 :: .i .i64 :: List.replicate 96 (.i .u8)) (q.with r).cs r.cs = some (decide (head5 r = head5 q)) := by
    simp only [Rec.cs, Rec.with, eqCells, eqCell, ↓reduceIte, h]
    congr 1
    rw [Bool.eq_iff_iff]
    simp only [head5, Bool.and_eq_true, beq_iff_eq, decide_eq_true_eq, Prod.mk.injEq, and_true]
    constructor
    · rintro ⟨h1, h2, h3, h4, h5⟩; exact ⟨h1.symm, h2.symm, h3.symm, h4.symm, h5.symm⟩
    · rintro ⟨h1, h2, h3, h4, h5⟩; exact ⟨h1.symm, h2.symm, h3.symm, h4.symm, h5.symm⟩
  exact e
end Go.Am.T
