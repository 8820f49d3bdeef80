import Derived.Test.YtojiebcpmkjblaaTa
import Derived.Test.YtojiebcpmkjblaaAw8
import Derived.Test.YtojiebcpmkjblaaAb2
set_option linter.unusedVariables false
set_option linter.unusedSimpArgs false
set_option maxRecDepth 10000
namespace Go.Am.T
attribute [local congr] selV_congr impB_congr

/-- The k lowest bytes of a number, the highest first. -/
def be : Nat → Int → List Int
  | 0, _ => []
  | k + 1, n => n / 256 ^ k % 256 :: be k n

theorem be_length : ∀ (k : Nat) (n : Int), (be k n).length = k
  | 0, _ => rfl
  | k + 1, n => by rw [be, List.length_cons, be_length k n]

theorem be_bytes : ∀ (k : Nat) (n : Int), Bytes (be k n)
  | 0, _ => fun x hx => by cases hx
  | k + 1, n => fun x hx => by
    rcases List.mem_cons.1 hx with rfl | hx
    · omega
    · exact be_bytes k n x hx

/-- One byte more. -/
def num1 (a c : Int) : Int := IntKind.i64.wrap (a * 256 + c)
def numF (l : List Int) : Int := l.foldl num1 0

theorem num_be {n : Int} (h0 : 0 ≤ n) (h1 : n ≤ 9223372036854775807) : ∀ (k : Nat), (be k n).foldl num1 (n / 256 ^ k) = n
  | 0 => by simp [be]
  | k + 1 => by
    have e : num1 (n / 256 ^ (k + 1)) (n / 256 ^ k % 256) = n / 256 ^ k := by
      have h2 : n / 256 ^ (k + 1) = n / 256 ^ k / 256 := by rw [Int.pow_succ, ← Int.ediv_ediv_of_nonneg (Int.pow_nonneg (by decide))]
      have h3 : 0 ≤ n / 256 ^ k := Int.ediv_nonneg h0 (Int.pow_nonneg (by decide))
      have h4 : n / 256 ^ k ≤ n := Int.ediv_le_self _ h0
      have h5 : n / 256 ^ k / 256 * 256 + n / 256 ^ k % 256 = n / 256 ^ k := by omega
      unfold num1
      rw [h2, h5, wrap64 (by omega) (by omega)]
    rw [be, List.foldl_cons, e]
    exact num_be h0 h1 k

theorem numF_be {n : Int} {k : Nat} (h0 : 0 ≤ n) (h1 : n ≤ 9223372036854775807) (h2 : n < 256 ^ k) : numF (be k n) = n := by
  have h3 : n / 256 ^ k = 0 := Int.ediv_eq_zero_of_lt h0 h2
  have := num_be h0 h1 k
  rw [h3] at this
  exact this

def orI (x y : Int) : Int := IntKind.i64.wrap (((BitVec.ofInt IntKind.i64.bits x) ||| (BitVec.ofInt IntKind.i64.bits y)).toNat : Int)

theorem or_byte (a : Int) {c : Int} (hc : 0 ≤ c ∧ c ≤ 255) : orI (IntKind.i64.wrap (a * 2 ^ 8)) c = num1 a c := by
  have hb : IntKind.i64.bits = 64 := rfl
  unfold orI num1
  rw [hb]
  have e1 : (BitVec.ofInt 64 (IntKind.i64.wrap (a * 2 ^ 8))).toNat = 2 ^ 8 * (a % 72057594037927936).toNat := by
    rw [BitVec.toNat_ofInt, wrap64_eq]
    split <;> omega
  have e2 : (BitVec.ofInt 64 c).toNat = c.toNat := by
    rw [BitVec.toNat_ofInt]
    omega
  rw [BitVec.toNat_or, e1, e2, ← Nat.two_pow_add_eq_or_of_lt (by omega)]
  rw [wrap64_eq, wrap64_eq]
  have : ((2 ^ 8 * (a % 72057594037927936).toNat + c.toNat : Nat) : Int) % 18446744073709551616 = (a * 256 + c) % 18446744073709551616 := by omega
  rw [this]

/-! ### A row of cells, written from the back -/

theorem sr_nil' {cs : List V} {k : Nat} : setRange cs k [] = cs := by simp [setRange]

theorem sr_front {cs bs : List V} {x : V} {k : Nat} (h : k + 1 + bs.length ≤ cs.length) : setRange (setRange cs (k + 1) bs) k [x] = setRange cs k (x :: bs) := by
  obtain ⟨A, y, rest, rfl, hA⟩ : ∃ A y rest, cs = A ++ y :: rest ∧ A.length = k := by
    refine ⟨cs.take k, cs[k]'(by omega), cs.drop (k + 1), ?_, by simp; omega⟩
    rw [List.getElem_cons_drop, List.take_append_drop]
  have e1 := blk_set hA (y :: rest) 1 bs
  have e2 := blk_set hA (y :: setRange rest 0 bs) 0 [x]
  have e3 := blk_set hA (y :: rest) 0 (x :: bs)
  rw [show k + 1 = 1 + k by omega, e1, sr_succ]
  rw [Nat.zero_add] at e2 e3
  rw [e2, e3, sr_cons, sr_cons, sr_nil]

theorem set_same {h : Heap} {o : Nat} {x : Ob} (ho : h[o]? = some x) : h.set o x = h := by
  apply List.ext_getElem?
  intro i
  by_cases e : i = o
  · subst e
    rw [List.getElem?_set_self (List.getElem?_eq_some_iff.1 ho).1, ho]
  · rw [List.getElem?_set_ne (Ne.symm e)]

theorem lt_of_get {h : Heap} {o : Nat} {x : Ob} (ho : h[o]? = some x) : o < h.length := (List.getElem?_eq_some_iff.1 ho).1

theorem fdivP (n : Int) (i : Nat) : n.fdiv (2 ^ (8 * i)) = n / 256 ^ i := by
  rw [Int.fdiv_eq_ediv_of_nonneg _ (Int.pow_nonneg (by decide)), Int.pow_mul]
  rfl

theorem wrap_wrap_add (a c : Int) : IntKind.i64.wrap (IntKind.i64.wrap a + c) = IntKind.i64.wrap (a + c) := by
  rw [wrap64_eq (IntKind.i64.wrap a + c), wrap64_eq (a + c), wrap64_eq a]
  have : ((if a % 18446744073709551616 ≥ 9223372036854775808 then a % 18446744073709551616 - 18446744073709551616 else a % 18446744073709551616) + c) % 18446744073709551616 = (a + c) % 18446744073709551616 := by
    split <;> omega
  rw [this]

theorem numF_take {S : List Int} {i : Nat} (h : i < S.length) : num1 (numF (S.take i)) (S.getD i 0) = numF (S.take (i + 1)) := by
  have hg : S.getD i 0 = S[i] := by simp [List.getD_eq_getElem?_getD, h]
  rw [List.take_add_one, List.getElem?_eq_getElem h, hg]
  simp only [numF, Option.toList_some, List.foldl_append, List.foldl_cons, List.foldl_nil]

theorem be4 (n : Int) : be 4 n = [n / 256 ^ 3 % 256, n / 256 ^ 2 % 256, n / 256 ^ 1 % 256, n / 256 ^ 0 % 256] := rfl
theorem be8 (n : Int) : be 8 n = [n / 256 ^ 7 % 256, n / 256 ^ 6 % 256, n / 256 ^ 5 % 256, n / 256 ^ 4 % 256, n / 256 ^ 3 % 256, n / 256 ^ 2 % 256, n / 256 ^ 1 % 256, n / 256 ^ 0 % 256] := rfl

theorem fd0 (n : Int) : n.fdiv (2 ^ 0) = n / 256 ^ 0 := fdivP n 0
theorem fd1 (n : Int) : n.fdiv (2 ^ 8) = n / 256 ^ 1 := fdivP n 1
theorem fd2 (n : Int) : n.fdiv (2 ^ 16) = n / 256 ^ 2 := fdivP n 2
theorem fd3 (n : Int) : n.fdiv (2 ^ 24) = n / 256 ^ 3 := fdivP n 3
theorem fd4 (n : Int) : n.fdiv (2 ^ 32) = n / 256 ^ 4 := fdivP n 4
theorem fd5 (n : Int) : n.fdiv (2 ^ 40) = n / 256 ^ 5 := fdivP n 5
theorem fd6 (n : Int) : n.fdiv (2 ^ 48) = n / 256 ^ 6 := fdivP n 6
theorem fd7 (n : Int) : n.fdiv (2 ^ 56) = n / 256 ^ 7 := fdivP n 7
theorem mb0 : min 0 IntKind.i64.bits = 0 := rfl
theorem mb1 : min 8 IntKind.i64.bits = 8 := rfl
theorem mb2 : min 16 IntKind.i64.bits = 16 := rfl
theorem mb3 : min 24 IntKind.i64.bits = 24 := rfl
theorem mb4 : min 32 IntKind.i64.bits = 32 := rfl
theorem mb5 : min 40 IntKind.i64.bits = 40 := rfl
theorem mb6 : min 48 IntKind.i64.bits = 48 := rfl
theorem mb7 : min 56 IntKind.i64.bits = 56 := rfl

/-- A slice of bytes, as a whole. -/
def bsl (S : List Int) (cap : Option Nat) : V := .sl (S.map (V.int .u8)) 1 cap

theorem u8s_view {h : Heap} {o ver off len : Nat} {cap : Option Nat} {S : List Int} (ho : h[o]? = some ⟨ver, .var (S.map (V.int .u8))⟩) (hl : off + len ≤ S.length) :
    V.shut (fun o => h[o]?) sealDepth (.view o ver off len 1 cap) = some (bsl ((S.drop off).take len) cap) := by
  refine shut_view (L := ((S.drop off).take len).map (V.int .u8)) (by decide) ?_ (by simp; omega) ?_
  · intro e he
    obtain ⟨x, -, rfl⟩ := List.mem_map.1 he
    exact ⟨rfl, rfl, fun c hc => by cases hc with | head => exact ⟨rfl, rfl⟩ | tail _ h => cases h⟩
  · have e1 : ((List.take len (List.drop off S)).map (V.int .u8)).flatMap V.cells = (List.take len (List.drop off S)).map (V.int .u8) := by
      generalize List.take len (List.drop off S) = T
      induction T with
      | nil => rfl
      | cons x T ih => rw [List.map_cons, List.flatMap_cons, ih]; rfl
    rw [e1]
    simp only [loadA, cellsAt, ho, ↓reduceIte, Nat.mul_one, List.length_map]
    rw [if_pos hl, ← List.map_drop, ← List.map_take]

theorem eqCells_ints {k : IntKind} : ∀ {n : Nat} {A B : List Int}, A.length = n → B.length = n → eqCells (List.replicate n (.i k)) (A.map (V.int k)) (B.map (V.int k)) = some (decide (A = B))
  | 0, [], [], _, _ => rfl
  | n + 1, a :: A, b :: B, h1, h2 => by
    simp only [List.replicate, List.map_cons, eqCells, eqCell, ↓reduceIte, eqCells_ints (k := k) (n := n) (A := A) (B := B) (by simpa using h1) (by simpa using h2), Option.some.injEq]
    rw [Bool.eq_iff_iff]
    simp

theorem eq64 {A B : List Int} (hA : A.length = 64) (hB : B.length = 64) : eqCells [.i .u8, .i .u8, .i .u8, .i .u8, .i .u8, .i .u8, .i .u8, .i .u8, .i .u8, .i .u8, .i .u8, .i .u8, .i .u8, .i .u8, .i .u8, .i .u8, .i .u8, .i .u8, .i .u8, .i .u8, .i .u8, .i .u8, .i .u8, .i .u8, .i .u8, .i .u8, .i .u8, .i .u8, .i .u8, .i .u8, .i .u8, .i .u8, .i .u8, .i .u8, .i .u8, .i .u8, .i .u8, .i .u8, .i .u8, .i .u8, .i .u8, .i .u8, .i .u8, .i .u8, .i .u8, .i .u8, .i .u8, .i .u8, .i .u8, .i .u8, .i .u8, .i .u8, .i .u8, .i .u8, .i .u8, .i .u8, .i .u8, .i .u8, .i .u8, .i .u8, .i .u8, .i .u8, .i .u8, .i .u8] (A.map (V.int .u8)) (B.map (V.int .u8)) = some (decide (A = B)) := eqCells_ints hA hB


theorem isInt_all (k : IntKind) (l : List Int) : (l.map (V.int k)).all V.oneCell = true := allOne_ints k l

theorem take_of_len {α : Type} {l : List α} {n : Nat} (h : l.length = n) : l.take n = l := List.take_of_length_le (by omega)
end Go.Am.T
