import Derived.Test.YtlcmpojcmgdomaaK2
import Derived.Calls
import Derived.Carry
import Derived.ChangeShapes
import Derived.KernelRfl
import Derived.OpenShut
set_option linter.unusedVariables false
set_option linter.unusedSimpArgs false
namespace Go.Am
variable {P : Program}
inductive Sh where
  | int (k : IntKind)
  | bool
  | str
  | unit
  | pair (a b : Sh)
  | arr (n : Nat) (e : Sh)
  | sl (ag : Bool) (s : Nat) (e : Sh)
  deriving DecidableEq
def elemV (ag : Bool) (u : List V) : V := match ag with | true => .agg u | false => u.headD .junk
def InSh : Sh → List V → Prop
  | .int k, vs => ∃ n, vs = [.int k n] ∧ (Lit.int k n).wf = true
  | .bool, vs => ∃ b, vs = [.bool b]
  | .str, vs => ∃ s, vs = [.str s] ∧ s.length ≤ maxLen
  | .unit, vs => vs = []
  | .pair a b, vs => ∃ u v, vs = u ++ v ∧ InSh a u ∧ InSh b v
  | .arr n e, vs => ∃ us : List (List V), us.length = n ∧ vs = us.flatten ∧ ∀ u ∈ us, InSh e u
  | .sl ag s e, vs => vs = [.nils] ∨ ∃ (us : List (List V)) (c : Nat), vs = [.sl (us.map (elemV ag)) s (some c)] ∧ us.length ≤ c ∧ c ≤ maxLen ∧ ∀ u ∈ us, u.length = s ∧ InSh e u
def aggB (P : Program) (t : TypeId) : Bool := match P.underlying t with | some (.struct _) | some (.array _ _) => true | _ => false
def contig (P : Program) (tot : Nat) : Nat → List Field → Bool
  | off, [] => off == tot
  | off, f :: fs => f.offset == off && contig P tot (off + P.cellsOf f.type) fs
def shFields (g : TypeId → Option Sh) : List Field → Option Sh
  | [] => some .unit
  | f :: fs => match g f.type, shFields g fs with | some a, some b => some (.pair a b) | _, _ => none
def shF (P : Program) : Nat → TypeId → Option Sh
  | 0, _ => none
  | m + 1, t =>
    match P.underlying t with
    | some .bool => some .bool
    | some (.int k) => some (.int k)
    | some .string => some .str
    | some (.struct fs) => if contig P (P.cellsOf t) 0 fs.toList then shFields (shF P m) fs.toList else none
    | some (.array n e) => if n * P.cellsOf e = P.cellsOf t then (shF P m e).map (.arr n) else none
    | some (.slice e) => if 0 < P.cellsOf e ∧ (aggB P e = true ∨ P.cellsOf e = 1) then (shF P m e).map (.sl (aggB P e) (P.cellsOf e)) else none
    | _ => none
def argG (P : Program) (w : World) : G := ⟨fun _ _ => none, fun b => b < w.heap.size, codesOf P⟩
section
variable {H : Type} {enc : TypeId × Value → H} {w : World} {sp : Nat → Bool} {held : Bool} {g : G}
theorem cells_one {v : V} {x : Value} (h : VRel g w v x) : Cells g w [v] [x] := by
  refine ⟨rfl, fun i c y h1 h2 => ?_⟩
  cases i with
  | zero => simp at h1 h2; subst h1; subst h2; exact h
  | succ i => simp at h1
theorem cells_app {u v : List V} {xs ys : List Value} (h1 : Cells g w u xs) (h2 : Cells g w v ys) : Cells g w (u ++ v) (xs ++ ys) := cells_append h1 h2
theorem spot_of {P : Program} {w : World} {a : Addr} {n : Nat} {cs : List Value} (hn : 0 < n) (h : w.cells? 0 a n = some cs) : a.spot = none ∧ a.block < w.heap.size := by
  simp only [World.cells?, Nat.zero_le, ↓reduceIte] at h
  have h0 := mapM_some_get h 0 0 (by simp [hn])
  have hl : cs.length = n := by simpa using mapM_some_length h
  rw [List.getElem?_eq_getElem (by omega)] at h0
  have ha : a.add 0 = a := by unfold Addr.add; rw [if_pos rfl]
  rw [ha] at h0
  unfold World.cell? at h0
  split at h0
  · rename_i hb
    refine ⟨?_, ?_⟩
    · split at h0
      · cases h0
      · rename_i hs
        simpa using hs
    · rcases Nat.lt_or_ge a.block w.heap.size with h | h
      · exact h
      · rw [Array.getElem?_eq_none h] at hb; cases hb
  · cases h0
def shP (P : Program) (m : Nat) (t : TypeId) : Option Sh := shF P m t
def InP (ag : Bool) (S : Sh) (v : V) : Prop := match ag with | true => ∃ cs, v = .agg cs ∧ InSh S cs | false => InSh S [v]
theorem cells_of_agg {xs : Array Value} : (Value.agg xs).cells = xs := rfl
theorem okWide_agg {r : Reach} {b0 : Nat} {t : TypeId} {v : Value} (ha : aggB P t = true) (hv : Value.okWide P w r b0 t v) : ∃ cs, v = .agg cs := by
  unfold aggB at ha
  unfold Value.okWide at hv
  split at ha <;> rename_i hu <;> simp only [hu] at hv
  · exact ⟨hv.choose, hv.choose_spec.1⟩
  · exact ⟨hv.choose, hv.choose_spec.1⟩
  · cases ha
theorem okWide_cell {r : Reach} {b0 : Nat} {t : TypeId} {v : Value} (ha : aggB P t = false) (hv : Value.okWide P w r b0 t v) : Cell.okWide P w r b0 t v := by
  unfold aggB at ha
  unfold Value.okWide at hv
  split at ha
  · cases ha
  · cases ha
  · rename_i hu1 hu2
    split at hv
    · rename_i h2; exact absurd h2 (hu1 _)
    · rename_i h2; exact absurd h2 (hu2 _ _)
    · exact hv
theorem cell_not_agg {r : Reach} {b0 : Nat} {t : TypeId} {xs : Array Value} (hv : Cell.okWide P w r b0 t (.agg xs)) : False := by
  unfold Cell.okWide at hv
  split at hv <;> first | (rename_i h1 h2; cases h2; done) | skip
  unfold Cell.ok at hv
  split at hv <;> simp_all
theorem InSh.free : ∀ {S : Sh} {vs : List V}, InSh S vs → V.freeL vs = true
  | .int k, vs, ⟨n, h, _⟩ => by subst h; rfl
  | .bool, vs, ⟨n, h⟩ => by subst h; rfl
  | .str, vs, ⟨n, h, _⟩ => by subst h; rfl
  | .unit, vs, h => by cases h; rfl
  | .pair a b, vs, ⟨u, v, h, h1, h2⟩ => by subst h; rw [freeL_append, InSh.free h1, InSh.free h2]; rfl
  | .arr n e, vs, ⟨us, hn, h, h1⟩ => by
    subst h
    clear hn
    induction us with
    | nil => rfl
    | cons u us ih => rw [List.flatten_cons, freeL_append, InSh.free (h1 u (by simp)), ih (fun v hv => h1 v (by simp [hv]))]; rfl
  | .sl ag s e, vs, h => by
    rcases h with rfl | ⟨us, c, rfl, -, -, h1⟩
    · rfl
    · rw [freeL_cons, freeL_nil, Bool.and_true, free_sl]
      clear c
      induction us with
      | nil => rfl
      | cons u us ih =>
        have hu := InSh.free (h1 u (by simp)).2
        rw [List.map_cons, freeL_cons, ih (fun v hv => h1 v (by simp [hv])), Bool.and_true]
        cases ag with
        | true => exact hu
        | false =>
          cases u with
          | nil => rfl
          | cons x u => rw [freeL_cons, Bool.and_eq_true] at hu; exact hu.1
theorem InP.free {ag : Bool} {S : Sh} {v : V} (h : InP ag S v) : v.free = true := by
  cases ag with
  | true => obtain ⟨cs, rfl, h⟩ := h; exact h.free
  | false => have := InSh.free h; rw [freeL_cons, Bool.and_eq_true] at this; exact this.1
end
end Go.Am


set_option linter.unusedVariables false
set_option linter.unusedSimpArgs false
namespace Go.Am
theorem in_i64 {vs : List V} (h : InSh (.int .i64) vs) : ∃ n, vs = [.int .i64 n] ∧ -9223372036854775808 ≤ n ∧ n ≤ 9223372036854775807 := by
  obtain ⟨n, rfl, hw⟩ := h
  exact ⟨n, rfl, by simpa using bounds_i64 hw⟩
theorem in_u8 {vs : List V} (h : InSh (.int .u8) vs) : ∃ n, vs = [.int .u8 n] ∧ 0 ≤ n ∧ n ≤ 255 := by
  obtain ⟨n, rfl, hw⟩ := h
  exact ⟨n, rfl, by simpa using bounds_u8 hw⟩
end Go.Am


set_option linter.unusedVariables false
set_option linter.unusedSimpArgs false
set_option linter.unusedSectionVars false
set_option maxRecDepth 10000
namespace Go.Am.T
attribute [local congr] selV_congr impB_congr
theorem lt_of_get {h : Heap} {o : Nat} {x : Ob} (ho : h[o]? = some x) : o < h.length := (List.getElem?_eq_some_iff.1 ho).1
def By (l : List Int) (b : V) : Prop := (b = .nils ∧ l = []) ∨ ∃ c, b = .sl (l.map (V.int .u8)) 1 c
theorem flat_ints (k : IntKind) : ∀ (l : List Int), (l.map (V.int k)).flatMap V.cells = l.map (V.int k)
  | [] => rfl
  | x :: l => by rw [List.map_cons, List.flatMap_cons, flat_ints k l]; rfl
theorem By.free {l : List Int} {b : V} (h : By l b) : b.free = true := by
  rcases h with ⟨rfl, -⟩ | ⟨c, rfl⟩
  · rfl
  · exact freeL_ints _ _
theorem By.objs {l : List Int} {b : V} (h : By l b) : b.objs = [] := by
  rcases h with ⟨rfl, -⟩ | ⟨c, rfl⟩
  · rfl
  · exact objsL_ints _ _
theorem By.len {l : List Int} {b : V} (h : By l b) : lenA b = some l.length := by
  rcases h with ⟨rfl, rfl⟩ | ⟨c, rfl⟩
  · rfl
  · simp [lenA]
theorem By.nstr {l : List Int} {b : V} (h : By l b) : ∀ s, b ≠ .str s := by
  rcases h with ⟨rfl, -⟩ | ⟨c, rfl⟩ <;> exact fun _ => V.noConfusion
theorem By.nagg {l : List Int} {b : V} (h : By l b) : ∀ s, b ≠ .agg s := by
  rcases h with ⟨rfl, -⟩ | ⟨c, rfl⟩ <;> exact fun _ => V.noConfusion
theorem By.ntup {l : List Int} {b : V} (h : By l b) : ∀ s, b ≠ .tup s := by
  rcases h with ⟨rfl, -⟩ | ⟨c, rfl⟩ <;> exact fun _ => V.noConfusion
theorem By.njunk {l : List Int} {b : V} (h : By l b) : b ≠ .junk := by
  rcases h with ⟨rfl, -⟩ | ⟨c, rfl⟩ <;> exact V.noConfusion
theorem By.one {l : List Int} {b : V} (h : By l b) : b.oneCell = true := by
  rcases h with ⟨rfl, -⟩ | ⟨c, rfl⟩ <;> rfl
theorem By.cells {l : List Int} {b : V} (h : By l b) : b.cells = [b] := by
  rcases h with ⟨rfl, -⟩ | ⟨c, rfl⟩ <;> rfl
theorem By.first {l : List Int} {b : V} (h : By l b) (get : Nat → Option Ob) : firstA get 1 l.length b = some (l.map (V.int .u8)) := by
  rcases h with ⟨rfl, rfl⟩ | ⟨c, rfl⟩
  · rfl
  · have := firstA_sl (get := get) (L := l.map (V.int .u8)) (s := 1) (c := c)
    rw [List.length_map, flat_ints] at this
    exact this
structure Lt where
  num : Int
  fr : Int
  to : Int
  b : V
  l : List Int
def Lt.cs (x : Lt) : List V := [.int .i64 x.num, .int .i64 x.fr, .int .i64 x.to, x.b]
def Lt.e (x : Lt) : V × V := (.int .i64 x.num, .agg x.cs)
def Lt.Ok (x : Lt) : Prop := By x.l x.b ∧ x.l.length ≤ 512
theorem Lt.free {x : Lt} (h : By x.l x.b) : V.freeL x.cs = true := by
  simp only [Lt.cs, freeL_cons, freeL_nil, free_int, h.free, Bool.and_self]
theorem Lt.cs_len (x : Lt) : x.cs.length = 4 := rfl
theorem Lt.one {x : Lt} (h : By x.l x.b) : x.cs.all V.oneCell = true := by
  unfold Lt.cs
  rw [List.all_cons, List.all_cons, List.all_cons, List.all_cons, h.one]
  rfl
abbrev kk : List CK := [.i .i64]
theorem hit_num (k n : Int) (v : V) : mhit false kk [.int .i64 k] (.int .i64 n, v) = some (k == n) := by
  simp [mhit, keyC, eqCells, eqCell]
theorem hitB_num (k : Int) (x : Lt) : mhitB false kk [.int .i64 k] x.e = (k == x.num) := by
  unfold mhitB Lt.e
  rw [hit_num]
theorem mapOk_num (k : Int) (L : List Lt) : mapOk false kk [.int .i64 k] (L.map Lt.e) = true := by
  unfold mapOk
  rw [Bool.and_eq_true]
  refine ⟨by simp [eqCells, eqCell], ?_⟩
  rw [List.all_eq_true]
  intro e he
  obtain ⟨x, -, rfl⟩ := List.mem_map.1 he
  unfold Lt.e
  rw [hit_num]
  rfl
theorem find_num (k : Int) : ∀ L : List Lt, (L.map Lt.e).find? (mhitB false kk [.int .i64 k]) = (L.find? (fun x => k == x.num)).map Lt.e
  | [] => rfl
  | x :: L => by
    rw [List.map_cons, List.find?_cons, List.find?_cons, hitB_num]
    cases k == x.num with
    | true => rfl
    | false => exact find_num k L
theorem any_num (k : Int) : ∀ L : List Lt, (L.map Lt.e).any (mhitB false kk [.int .i64 k]) = L.any (fun x => k == x.num)
  | [] => rfl
  | x :: L => by rw [List.map_cons, List.any_cons, List.any_cons, hitB_num, any_num k L]
theorem filter_num (k : Int) : ∀ L : List Lt, (L.map Lt.e).filter (fun e => !mhitB false kk [.int .i64 k] e) = (L.filter (fun x => !(k == x.num))).map Lt.e
  | [] => rfl
  | x :: L => by
    rw [List.map_cons, List.filter_cons, List.filter_cons, hitB_num]
    cases k == x.num with
    | true => exact filter_num k L
    | false =>
      simp only [Bool.not_false, ↓reduceIte, List.map_cons, filter_num k L]
def IRow (H : Heap) (W : V) (l : List Int) (R : List Nat) : Prop :=
  (l = [] ∧ W = .nils ∧ R = []) ∨ ∃ o ver rest, R = [o] ∧ W = .view o ver 0 l.length 1 none ∧ H[o]? = some ⟨ver, .arr ((l ++ rest).map (V.int .i64))⟩
theorem IRow.keep {H H' : Heap} {W : V} {l : List Int} {R : List Nat} (h : IRow H W l R) (hk : ∀ o ∈ R, H'[o]? = H[o]?) : IRow H' W l R := by
  rcases h with h | ⟨o, ver, x, rfl, hw, ho⟩
  · exact .inl h
  · exact .inr ⟨o, ver, x, rfl, hw, by rw [hk o (by simp)]; exact ho⟩
theorem IRow.lt {H : Heap} {W : V} {l : List Int} {R : List Nat} (h : IRow H W l R) : ∀ o ∈ R, o < H.length := by
  rcases h with ⟨-, -, rfl⟩ | ⟨o, ver, x, rfl, hw, ho⟩
  · intro o ho; cases ho
  · intro o' h'
    obtain rfl : o' = o := by simpa using h'
    exact lt_of_get ho
theorem IRow.len {H : Heap} {W : V} {l : List Int} {R : List Nat} (h : IRow H W l R) : lenA W = some l.length := by
  rcases h with ⟨rfl, rfl, -⟩ | ⟨o, ver, x, rfl, rfl, ho⟩ <;> rfl
theorem IRow.shape {H : Heap} {W : V} {l : List Int} {R : List Nat} (h : IRow H W l R) : W.cells = [W] ∧ W.oneCell = true ∧ (∀ s, W ≠ .str s) ∧ (∀ s, W ≠ .agg s) ∧ (∀ s, W ≠ .tup s) ∧ W ≠ .junk := by
  rcases h with ⟨rfl, rfl, -⟩ | ⟨o, ver, x, rfl, rfl, ho⟩ <;> exact ⟨rfl, rfl, fun _ => V.noConfusion, fun _ => V.noConfusion, fun _ => V.noConfusion, V.noConfusion⟩
theorem IRow.objs {H : Heap} {W : V} {l : List Int} {R : List Nat} (h : IRow H W l R) : W.objs = R := by
  rcases h with ⟨rfl, rfl, rfl⟩ | ⟨o, ver, x, rfl, rfl, ho⟩ <;> rfl
theorem map_setRange {k : IntKind} (a b : List Int) (n : Nat) : setRange (a.map (V.int k)) n (b.map (V.int k)) = (a.take n ++ b ++ a.drop (n + b.length)).map (V.int k) := by
  simp [setRange, List.map_append, List.map_take, List.map_drop]
theorem IRow.append {H : Heap} {W : V} {l : List Int} {R : List Nat} {o0 : Nat} {x0 : Ob} {n : Int} (h : IRow H W l R) (h0 : H[o0]? = some x0) (hL : l.length ≤ 100000) :
    ∃ o1 y W', appendA (fun o => H[o]?) o0 1 8 W (.sl [.int .i64 n] 1 (some 1)) = some (.set o1 y W') ∧ IRow (H.set o1 y) W' (l ++ [n]) [o1] ∧ (o1 = o0 ∨ o1 ∈ R) ∧ o1 < H.length := by
  have hl1 : lenA (.sl [.int .i64 n] 1 (some 1)) = some 1 := rfl
  have hf1 : firstA (fun o => H[o]?) 1 1 (.sl [.int .i64 n] 1 (some 1)) = some [.int .i64 n] := by rw [firstA_sl1]; rfl
  have ha1 : ([.int .i64 n] : List V).all V.oneCell = true := rfl
  rcases h with ⟨rfl, rfl, rfl⟩ | ⟨o, ver, rest, rfl, rfl, ho⟩
  · refine ⟨o0, ⟨x0.ver + 1, .arr [.int .i64 n]⟩, .view o0 (x0.ver + 1) 0 1 1 none, ?_, .inr ⟨o0, x0.ver + 1, [], rfl, rfl, ?_⟩, .inl rfl, lt_of_get h0⟩
    · unfold appendA
      simp [hl1, hf1, ha1, mkA, h0, maxBytes]
    · rw [List.getElem?_set_self (lt_of_get h0)]; rfl
  · cases rest with
    | nil =>
      refine ⟨o, ⟨ver + 1, .arr ((l ++ [n]).map (V.int .i64))⟩, .view o (ver + 1) 0 (l.length + 1) 1 none, ?_, .inr ⟨o, ver + 1, [], rfl, by simp, ?_⟩, .inr (by simp), lt_of_get ho⟩
      · have : (l.length + 1) * 8 ≤ maxBytes := by unfold maxBytes; omega
        unfold appendA
        simp [hl1, hf1, ha1, cellsAt, ho, this]
      · rw [List.getElem?_set_self (lt_of_get ho), List.append_nil]
    | cons r rest =>
      refine ⟨o, ⟨ver, .arr ((l ++ [n] ++ rest).map (V.int .i64))⟩, .view o ver 0 (l.length + 1) 1 none, ?_, .inr ⟨o, ver, rest, rfl, by simp, ?_⟩, .inr (by simp), lt_of_get ho⟩
      · have hs : setRange ((l ++ r :: rest).map (V.int .i64)) l.length [.int .i64 n] = (l ++ [n] ++ rest).map (V.int .i64) := by
          have := @map_setRange .i64 (l ++ r :: rest) [n] l.length
          rw [List.map_cons, List.map_nil] at this
          rw [this]
          simp [List.take_append, List.drop_append]
        unfold appendA
        simp only [hl1, hf1, ha1, cellsAt, ho, ↓reduceIte, Nat.zero_add, Nat.mul_one, List.length_map, List.length_append, List.length_cons, storeA, List.length_nil]
        rw [if_neg (by omega), if_pos (by omega), if_neg (by omega), if_pos (by omega), hs]
        rfl
      · rw [List.getElem?_set_self (lt_of_get ho)]
end Go.Am.T


set_option linter.unusedVariables false
set_option linter.unusedSimpArgs false
set_option linter.unusedSectionVars false
set_option maxRecDepth 10000
namespace Go.Am.T
attribute [local congr] selV_congr impB_congr
structure Nt where
  nodes : Int
  last : Int
  L : List Lt
def Nt.cs (s : Nt) (m : Nat) (W : V) : List V := [.int .i64 s.nodes, .map m 1, W, .int .i64 s.last]
structure Nt.Ok (s : Nt) : Prop where
  ok : ∀ x ∈ s.L, x.Ok
  inc : s.L.Pairwise (fun x y => x.num < y.num)
  pos : ∀ x ∈ s.L, 1 ≤ x.num ∧ x.num ≤ s.last
  big : s.last ≤ 100000
  nn : 0 ≤ s.last
  len : s.L.length ≤ 2000
structure NetAt (H : Heap) (a m : Nat) (W : V) (R : List Nat) (s : Nt) : Prop where
  ok : s.Ok
  ob : H[a]? = some ⟨1, .var (s.cs m W)⟩
  mp : H[m]? = some ⟨1, .map (s.L.map Lt.e)⟩
  row : IRow H W (s.L.map Lt.num) R
  ne : a ≠ m
  na : a ∉ R
  nm : m ∉ R
theorem NetAt.keep {H H' : Heap} {a m : Nat} {W : V} {R : List Nat} {s : Nt} (h : NetAt H a m W R s) (ha : H'[a]? = H[a]?) (hm : H'[m]? = H[m]?) (hR : ∀ o ∈ R, H'[o]? = H[o]?) : NetAt H' a m W R s :=
  ⟨h.ok, by rw [ha]; exact h.ob, by rw [hm]; exact h.mp, h.row.keep hR, h.ne, h.na, h.nm⟩
theorem NetAt.lta {H : Heap} {a m : Nat} {W : V} {R : List Nat} {s : Nt} (h : NetAt H a m W R s) : a < H.length := lt_of_get h.ob
theorem NetAt.ltm {H : Heap} {a m : Nat} {W : V} {R : List Nat} {s : Nt} (h : NetAt H a m W R s) : m < H.length := lt_of_get h.mp
theorem NetAt.app {H : Heap} {a m : Nat} {W : V} {R : List Nat} {s : Nt} (h : NetAt H a m W R s) (l : Heap) : NetAt (H ++ l) a m W R s :=
  h.keep (List.getElem?_append_left h.lta) (List.getElem?_append_left h.ltm) (fun o ho => List.getElem?_append_left (h.row.lt o ho))
theorem NetAt.set {H : Heap} {a m : Nat} {W : V} {R : List Nat} {s : Nt} (h : NetAt H a m W R s) {o : Nat} (x : Ob) (h1 : o ≠ a) (h2 : o ≠ m) (h3 : o ∉ R) : NetAt (H.set o x) a m W R s :=
  h.keep (List.getElem?_set_ne h1) (List.getElem?_set_ne h2) (fun p hp => List.getElem?_set_ne (fun e => h3 (by rw [e]; exact hp)))
theorem cs0 {s : Nt} {m : Nat} {W : V} : List.take 1 (s.cs m W) = [.int .i64 s.nodes] := rfl
theorem cs1 {s : Nt} {m : Nat} {W : V} : List.take 1 (List.drop 1 (s.cs m W)) = [.map m 1] := rfl
theorem cs2 {s : Nt} {m : Nat} {W : V} : List.take 1 (List.drop 2 (s.cs m W)) = [W] := rfl
theorem cs3 {s : Nt} {m : Nat} {W : V} : List.take 1 (List.drop 3 (s.cs m W)) = [.int .i64 s.last] := rfl
theorem cs_len {s : Nt} {m : Nat} {W : V} : (s.cs m W).length = 4 := rfl
theorem cs_set3 {s : Nt} {m : Nat} {W : V} {k : Int} : setRange (s.cs m W) 3 [.int .i64 k] = Nt.cs { s with last := k } m W := rfl
theorem cs_set2 {s : Nt} {m : Nat} {W W' : V} : setRange (s.cs m W) 2 [W'] = s.cs m W' := rfl
theorem there_spec {N n : Nat} (hn : 1 ≤ n) {H : Heap} {a m : Nat} {W : V} {s : Nt} (ho : H[a]? = some ⟨1, .var (s.cs m W)⟩) : callA am N n 28 [.ptr a 1 0] H = some (.bool true, H) := by
  obtain ⟨n, rfl⟩ : ∃ m, n = m + 1 := ⟨n - 1, by omega⟩
  have q1 := @cs1 s m W
  have ql := @cs_len s m W
  refine call_keep_eq at28 rfl rfl (by decide) (sx_wp ?_)
  generalize s.cs m W = cs at *
  simp +contextual -implicitDefEqProofs (maxSteps := 10000000) only [sxb, plainD, stays, ↓selV_wt, ↓selV_wf, ↓impB_wt, ↓impB_wf, ↓selV_nor, ↓impB_nor, ↓selV_nt, ↓selV_nf, ↓impB_nt, ↓impB_nf, ↓selV_true, ↓selV_false, ↓selV_and, ↓impB_true, ↓impB_false, ↓impB_and, ↓prim_pick, ↓selV_nn, ↓impB_nn, doOp, get, ins, del, dels, Nat.reduceLT, Nat.reduceEqDiff, ↓reduceIte, reduceCtorEq, ne_eq, implies_true, prim, YLD, mkA, V.cells, Nat.reduceAdd, Nat.reduceSub, Nat.reduceMul, Nat.reduceLeDiff, loadA, cellsAt, nAg, packA, List.drop, List.take, List.head?, binA, unA, eqCells, eqCell, negB, fillA, storeA, Ob.with, indexedI, V.oneCell, intOf?, resA, resA1, packR, sealDepth, Int.reduceLT, Int.reduceLE, Int.reduceToNat, Int.reduceNeg, Int.reduceAdd, Int.reduceSub, Int.reduceMul, cond_true, cond_false, Int.reduceBNe, Int.reduceBEq, eq_self, deads, List.replicate, argsF, am28, isNil, List.append_nil, ho, q1, ql]
theorem len_spec {N n : Nat} (hn : 2 ≤ n) {H : Heap} {a m : Nat} {W : V} {R : List Nat} {s : Nt} (h : NetAt H a m W R s) : callA am N n 16 [.ptr a 1 0] H = some (.int .i64 s.L.length, H) := by
  obtain ⟨n, rfl⟩ : ∃ m, n = m + 1 := ⟨n - 1, by omega⟩
  have c28 := @there_spec N n (by omega) _ _ _ _ _ h.ob
  have ho := h.ob
  have q2 := @cs2 s m W
  have ql := @cs_len s m W
  have hl := h.row.len
  rw [List.length_map] at hl
  obtain ⟨-, -, w1, w2, w3, w4⟩ := h.row.shape
  refine call_keep_eq at16 rfl rfl (by decide) (sx_wp ?_)
  generalize s.cs m W = cs at *
  simp +contextual -implicitDefEqProofs (maxSteps := 10000000) only [sxb, plainD, stays, ↓selV_wt, ↓selV_wf, ↓impB_wt, ↓impB_wf, ↓selV_nor, ↓impB_nor, ↓selV_nt, ↓selV_nf, ↓impB_nt, ↓impB_nf, ↓selV_true, ↓selV_false, ↓selV_and, ↓impB_true, ↓impB_false, ↓impB_and, ↓prim_pick, ↓selV_nn, ↓impB_nn, doOp, get, ins, del, dels, Nat.reduceLT, Nat.reduceEqDiff, ↓reduceIte, reduceCtorEq, ne_eq, implies_true, prim, YLD, mkA, V.cells, Nat.reduceAdd, Nat.reduceSub, Nat.reduceMul, Nat.reduceLeDiff, loadA, cellsAt, nAg, packA, List.drop, List.take, List.head?, binA, unA, eqCells, eqCell, negB, fillA, storeA, Ob.with, indexedI, V.oneCell, intOf?, resA, resA1, packR, sealDepth, Int.reduceLT, Int.reduceLE, Int.reduceToNat, Int.reduceNeg, Int.reduceAdd, Int.reduceSub, Int.reduceMul, cond_true, cond_false, Int.reduceBNe, Int.reduceBEq, eq_self, deads, List.replicate, argsF, am16, isNil, List.append_nil, c28, ho, q2, ql, hl]
def nodeB (nodes k : Int) : Bool := decide (k ≥ 0) && decide (k < nodes)
theorem node_spec {N n : Nat} (hn : 1 ≤ n) {H : Heap} {a m b : Nat} {W : V} {s : Nt} (ho : H[a]? = some ⟨1, .var (s.cs m W)⟩) (hb : H[b]? = some ⟨1, .var [.ptr a 1 0]⟩) (k : Int) : callA am N n 27 [.int .i64 k, .ptr b 1 0] H = some (.bool (nodeB s.nodes k), H) := by
  obtain ⟨n, rfl⟩ : ∃ m, n = m + 1 := ⟨n - 1, by omega⟩
  have q0 := @cs0 s m W
  have ql := @cs_len s m W
  refine call_keep_eq at27 rfl rfl (by decide) (sx_wp ?_)
  generalize s.cs m W = cs at *
  unfold nodeB
  simp +contextual -implicitDefEqProofs (maxSteps := 10000000) only [sxb, plainD, stays, ↓selV_wt, ↓selV_wf, ↓impB_wt, ↓impB_wf, ↓selV_nor, ↓impB_nor, ↓selV_nt, ↓selV_nf, ↓impB_nt, ↓impB_nf, ↓selV_true, ↓selV_false, ↓selV_and, ↓impB_true, ↓impB_false, ↓impB_and, ↓prim_pick, ↓selV_nn, ↓impB_nn, doOp, get, ins, del, dels, Nat.reduceLT, Nat.reduceEqDiff, ↓reduceIte, reduceCtorEq, ne_eq, implies_true, prim, YLD, mkA, V.cells, Nat.reduceAdd, Nat.reduceSub, Nat.reduceMul, Nat.reduceLeDiff, loadA, cellsAt, nAg, packA, List.drop, List.take, List.head?, binA, unA, eqCells, eqCell, negB, fillA, storeA, Ob.with, indexedI, V.oneCell, intOf?, resA, resA1, packR, sealDepth, Int.reduceLT, Int.reduceLE, Int.reduceToNat, Int.reduceNeg, Int.reduceAdd, Int.reduceSub, Int.reduceMul, cond_true, cond_false, Int.reduceBNe, Int.reduceBEq, eq_self, deads, List.replicate, argsF, am27, isNil, List.append_nil, ho, hb, q0, ql]
theorem num_spec {N n : Nat} (hn : 1 ≤ n) (e : Int) (h : Heap) : callA am N n 10 [.int .i64 e] h = some (.int .i64 e, h) := by
  obtain ⟨n, rfl⟩ : ∃ m, n = m + 1 := ⟨n - 1, by omega⟩
  refine call_pure at10 rfl rfl (by decide) rfl (sx_wp ?_)
  simp +contextual -implicitDefEqProofs (maxSteps := 10000000) only [sxb, plainD, stays, ↓selV_wt, ↓selV_wf, ↓impB_wt, ↓impB_wf, ↓selV_nor, ↓impB_nor, ↓selV_nt, ↓selV_nf, ↓impB_nt, ↓impB_nf, ↓selV_true, ↓selV_false, ↓selV_and, ↓impB_true, ↓impB_false, ↓impB_and, ↓prim_pick, ↓selV_nn, ↓impB_nn, doOp, get, ins, del, dels, Nat.reduceLT, Nat.reduceEqDiff, ↓reduceIte, reduceCtorEq, ne_eq, implies_true, prim, YLD, mkA, V.cells, Nat.reduceAdd, Nat.reduceSub, Nat.reduceMul, Nat.reduceLeDiff, loadA, cellsAt, nAg, packA, List.drop, List.take, List.head?, binA, unA, eqCells, eqCell, negB, fillA, storeA, Ob.with, indexedI, V.oneCell, intOf?, resA, resA1, packR, sealDepth, Int.reduceLT, Int.reduceLE, Int.reduceToNat, Int.reduceNeg, Int.reduceAdd, Int.reduceSub, Int.reduceMul, cond_true, cond_false, Int.reduceBNe, Int.reduceBEq, eq_self, deads, List.replicate, argsF, am10]
theorem am9_wp {N n : Nat} {args : List V} {h h' : Heap} {v : V} (ha : args.length = 1) (H : sx ⟨pureOf am, callA am N n, N, h.length⟩ am9.body (fr am9.nt (argsF 0 args)) (h ++ deads am9.sites) (retQ am9.res fun x k => x = v ∧ k = h')) : callA am N (n + 1) 9 args h = some (v, h') :=
  call_keep_eq at9 rfl ha (by decide) (sx_wp H)
theorem new_spec {N n : Nat} (hn : 1 ≤ n) (H : Heap) : callA am N n 9 [.int .i64 8] H = some (.tup [.ptr (H.length + 1) 1 0, .int .i64 0], H ++ [⟨1, .map []⟩, ⟨1, .var [.int .i64 8, .map H.length 1, .nils, .int .i64 0]⟩]) := by
  obtain ⟨n, rfl⟩ : ∃ m, n = m + 1 := ⟨n - 1, by omega⟩
  have g1 : decide ((8 : Int) < 1) = false := rfl
  have g2 : decide ((8 : Int) > 8) = false := rfl
  refine am9_wp rfl ?_
  simp +contextual -implicitDefEqProofs (maxSteps := 10000000) only [sxb, plainD, stays, ↓selV_wt, ↓selV_wf, ↓impB_wt, ↓impB_wf, ↓selV_nor, ↓impB_nor, ↓selV_nt, ↓selV_nf, ↓impB_nt, ↓impB_nf, ↓selV_true, ↓selV_false, ↓selV_and, ↓impB_true, ↓impB_false, ↓impB_and, ↓prim_pick, ↓selV_nn, ↓impB_nn, doOp, get, ins, del, dels, Nat.reduceLT, Nat.reduceEqDiff, ↓reduceIte, reduceCtorEq, ne_eq, implies_true, prim, YLD, mkA, V.cells, Nat.reduceAdd, Nat.reduceSub, Nat.reduceMul, Nat.reduceLeDiff, loadA, cellsAt, nAg, packA, List.drop, List.take, List.head?, binA, unA, eqCells, eqCell, negB, fillA, storeA, Ob.with, indexedI, V.oneCell, intOf?, resA, resA1, packR, sealDepth, Int.reduceLT, Int.reduceLE, Int.reduceToNat, Int.reduceNeg, Int.reduceAdd, Int.reduceSub, Int.reduceMul, cond_true, cond_false, Int.reduceBNe, Int.reduceBEq, eq_self, deads, List.replicate, argsF, am9, g1, g2, app_get0, app_get, app_set0, app_set]
theorem new_at {H : Heap} {a m : Nat} (ha : H[a]? = some ⟨1, .var [.int .i64 8, .map m 1, .nils, .int .i64 0]⟩) (hm : H[m]? = some ⟨1, .map []⟩) (hne : a ≠ m) : NetAt H a m .nils [] ⟨8, 0, []⟩ :=
  ⟨⟨by simp, .nil, by simp, by simp, by simp, by simp⟩, ha, hm, .inl ⟨rfl, rfl, rfl⟩, hne, by simp, by simp⟩
end Go.Am.T


set_option linter.unusedVariables false
set_option linter.unusedSimpArgs false
set_option linter.unusedSectionVars false
set_option maxRecDepth 10000
namespace Go.Am.T
attribute [local congr] selV_congr impB_congr
theorem clone_spec {N n : Nat} (hn : 1 ≤ n) {l : List Int} {b : V} (hb : By l b) (hl : l.length ≤ 1000) : ∃ b', By l b' ∧ ∀ h, callA am N n 46 [b] h = some (b', h) := by
  obtain ⟨n, rfl⟩ : ∃ m, n = m + 1 := ⟨n - 1, by omega⟩
  have hfree : V.freeL [b] = true := by rw [freeL_cons, hb.free]; rfl
  have hlen := hb.len
  have hfst := hb.first
  rcases hb with ⟨rfl, rfl⟩ | ⟨c, rfl⟩
  · refine ⟨.nils, .inl ⟨rfl, rfl⟩, fun h => ?_⟩
    refine call_auto at46 rfl rfl (by decide) rfl (sx_wp ?_)
    simp +contextual -implicitDefEqProofs (maxSteps := 10000000) only [sxb, plainD, stays, ↓selV_wt, ↓selV_wf, ↓impB_wt, ↓impB_wf, ↓selV_nor, ↓impB_nor, ↓selV_nt, ↓selV_nf, ↓impB_nt, ↓impB_nf, ↓selV_true, ↓selV_false, ↓selV_and, ↓impB_true, ↓impB_false, ↓impB_and, ↓prim_pick, ↓selV_nn, ↓impB_nn, doOp, get, ins, del, dels, Nat.reduceLT, Nat.reduceEqDiff, ↓reduceIte, reduceCtorEq, ne_eq, implies_true, prim, YLD, mkA, V.cells, Nat.reduceAdd, Nat.reduceSub, Nat.reduceMul, Nat.reduceLeDiff, loadA, cellsAt, nAg, packA, List.drop, List.take, List.head?, binA, unA, eqCells, eqCell, negB, fillA, storeA, Ob.with, indexedI, V.oneCell, intOf?, resA, resA1, packR, sealDepth, Int.reduceLT, Int.reduceLE, Int.reduceToNat, Int.reduceNeg, Int.reduceAdd, Int.reduceSub, Int.reduceMul, cond_true, cond_false, Int.reduceBNe, Int.reduceBEq, eq_self, deads, List.replicate, argsF, am46, isNil]
  · cases l with
    | nil =>
      refine ⟨.sl [] 1 (some 0), .inr ⟨_, rfl⟩, fun h => ?_⟩
      refine call_auto at46 rfl rfl (by decide) hfree (sx_wp ?_)
      simp +contextual -implicitDefEqProofs (maxSteps := 10000000) only [sxb, plainD, stays, ↓selV_wt, ↓selV_wf, ↓impB_wt, ↓impB_wf, ↓selV_nor, ↓impB_nor, ↓selV_nt, ↓selV_nf, ↓impB_nt, ↓impB_nf, ↓selV_true, ↓selV_false, ↓selV_and, ↓impB_true, ↓impB_false, ↓impB_and, ↓prim_pick, ↓selV_nn, ↓impB_nn, doOp, get, ins, del, dels, Nat.reduceLT, Nat.reduceEqDiff, ↓reduceIte, reduceCtorEq, ne_eq, implies_true, prim, YLD, mkA, V.cells, Nat.reduceAdd, Nat.reduceSub, Nat.reduceMul, Nat.reduceLeDiff, loadA, cellsAt, nAg, packA, List.drop, List.take, List.head?, binA, unA, eqCells, eqCell, negB, fillA, storeA, Ob.with, indexedI, V.oneCell, intOf?, resA, resA1, packR, sealDepth, Int.reduceLT, Int.reduceLE, Int.reduceToNat, Int.reduceNeg, Int.reduceAdd, Int.reduceSub, Int.reduceMul, cond_true, cond_false, Int.reduceBNe, Int.reduceBEq, eq_self, deads, List.replicate, argsF, am46, isNil, appendA, lenA, firstA, List.range_zero]
      exact ⟨fun _ => rfl, fun h => by cases h⟩
    | cons x l =>
      refine ⟨.sl ((x :: l).map (V.int .u8)) 1 none, .inr ⟨_, rfl⟩, fun h => ?_⟩
      refine call_auto at46 rfl rfl (by decide) hfree (sx_wp ?_)
      have ho : ((x :: l).map (V.int .u8)).all V.oneCell = true := allOne_ints _ _
      have hz : ((x :: l).length = 0) = False := by simp
      have hm : (0 + (x :: l).length) * 1 ≤ maxBytes := by unfold maxBytes; omega
      have hm' : (x :: l).length ≤ maxBytes := by unfold maxBytes; omega
      have hsh : V.shut (fun o => [(⟨1, .arr []⟩ : Ob), ⟨1, .arr ((x :: l).map (V.int .u8))⟩][o]?) sealDepth (.view 1 1 0 (x :: l).length 1 none) = some (.sl ((x :: l).map (V.int .u8)) 1 none) := by
        refine shut_view (by decide) ?_ (by simp) ?_
        · intro e he
          obtain ⟨y, -, rfl⟩ := List.mem_map.1 he
          exact ⟨rfl, rfl, fun c hc => by cases hc with | head => exact ⟨rfl, rfl⟩ | tail _ h => cases h⟩
        · rw [flat_ints]
          simp [loadA, cellsAt]
          exact List.take_of_length_le (by simp)
      have hap : appendA (fun o => [(⟨1, .arr []⟩ : Ob), ⟨0, .dead⟩][o]?) 1 1 1 (.view 0 1 0 0 1 (some 0)) (.sl ((x :: l).map (V.int .u8)) 1 c) = some (.set 1 ⟨1, .arr ((x :: l).map (V.int .u8))⟩ (.view 1 1 0 (x :: l).length 1 none)) := by
        unfold appendA
        simp only [hlen, hfst, ho, ↓reduceIte, hz, cellsAt, List.getElem?_cons_zero]
        simp [mkA, hm', hm]
        unfold maxBytes
        simp at hl
        omega
      generalize (x :: l).map (V.int .u8) = L at *
      generalize (x :: l).length = k at *
      simp +contextual -implicitDefEqProofs (maxSteps := 10000000) only [sxb, plainD, stays, ↓selV_wt, ↓selV_wf, ↓impB_wt, ↓impB_wf, ↓selV_nor, ↓impB_nor, ↓selV_nt, ↓selV_nf, ↓impB_nt, ↓impB_nf, ↓selV_true, ↓selV_false, ↓selV_and, ↓impB_true, ↓impB_false, ↓impB_and, ↓prim_pick, ↓selV_nn, ↓impB_nn, doOp, get, ins, del, dels, Nat.reduceLT, Nat.reduceEqDiff, ↓reduceIte, reduceCtorEq, ne_eq, implies_true, prim, YLD, mkA, V.cells, Nat.reduceAdd, Nat.reduceSub, Nat.reduceMul, Nat.reduceLeDiff, loadA, cellsAt, nAg, packA, List.drop, List.take, List.head?, binA, unA, eqCells, eqCell, negB, fillA, storeA, Ob.with, indexedI, V.oneCell, intOf?, resA, resA1, packR, sealDepth, Int.reduceLT, Int.reduceLE, Int.reduceToNat, Int.reduceNeg, Int.reduceAdd, Int.reduceSub, Int.reduceMul, cond_true, cond_false, Int.reduceBNe, Int.reduceBEq, eq_self, deads, List.replicate, argsF, am46, isNil, List.range_zero, hap]
      exact hsh
theorem frame_free {m : FMode} {pureF : FuncId → FMode} {call : Caller} {f : FuncId} {args : List V} {h : Heap} {v : V} (hm : pureF f = m) (hk : m = .keep ∨ m = .auto) (hR : V.objsL args = [])
    (hc : ∀ h, call f args h = some (v, h)) (hv : v.objs = []) (hy : f ≠ YLD := by decide) : frameC pureF call f args h = some (v, h) := by
  have hlen : (keepOnly [] h).length = h.length := keepOnly_length _ _
  have c1 : closedIn [] h.length (keepOnly [] h) = true := closedIn_of fun o y hy hi => by
    have : o < h.length := by rw [← hlen]; exact (List.getElem?_eq_some_iff.1 hy).1
    simp [inside] at hi
    omega
  have key : mergeH [] h (keepOnly [] h) = h := by
    apply List.ext_getElem?
    intro o
    rw [mergeH_get]
    rcases Nat.lt_or_ge o h.length with ho | ho
    · rw [keepOnly_get, List.getElem?_eq_getElem ho]
      simp [inside, Nat.not_le.2 ho, List.getD_eq_getElem?_getD, ho]
    · rw [List.getElem?_eq_none (by omega), List.getElem?_eq_none ho]; rfl
  unfold frameC
  rw [if_neg hy, hm]
  rcases hk with rfl | rfl <;>
  · simp only [hR, reachC_nil, c1, hc, hlen, hv, List.all_nil, Nat.le_refl, decide_true, Bool.and_self, ↓reduceIte, key]
structure Beyond (H H' : Heap) (a m : Nat) (R R' : List Nat) : Prop where
  len : H.length ≤ H'.length
  oth : ∀ o, o < H.length → o ≠ a → o ≠ m → o ∉ R → H'[o]? = H[o]?
  new : ∀ o ∈ R', o ∈ R ∨ H.length ≤ o
theorem put_map (k : Int) {L : List Lt} (v : V) (h : ∀ x ∈ L, x.num < k) : mputL false kk [.int .i64 k] (.int .i64 k) v (L.map Lt.e) = L.map Lt.e ++ [(.int .i64 k, v)] := by
  unfold mputL
  rw [any_num]
  have : L.any (fun x => k == x.num) = false := by
    rw [List.any_eq_false]
    intro x hx
    have := h x hx
    simp
    omega
  rw [this]
theorem mput_spec {get : Nat → Option Ob} {m : Nat} {L : List Lt} (hm : get m = some ⟨1, .map (L.map Lt.e)⟩) (k : Int) (v : V) (h : ∀ x ∈ L, x.num < k) :
    mputA get false kk (.map m 1) (.int .i64 k) v = some (.set m ⟨1, .map (L.map Lt.e ++ [(.int .i64 k, v)])⟩ (.tup [])) := by
  unfold mputA
  simp only [keyC, mapAt, hm, ↓reduceIte, mapOk_num, put_map k v h]
end Go.Am.T


set_option linter.unusedVariables false
set_option linter.unusedSimpArgs false
set_option linter.unusedSectionVars false
set_option maxRecDepth 10000
namespace Go.Am.T
attribute [local congr] selV_congr impB_congr
def Nt.put (s : Nt) (fr to : Int) (b : V) (l : List Int) : Nt := { s with last := s.last + 1, L := s.L ++ [⟨s.last + 1, fr, to, b, l⟩] }
theorem Nt.Ok.put {s : Nt} (h : s.Ok) {fr to : Int} {b : V} {l : List Int} (hb : By l b) (hl : l.length ≤ 512) (h1 : s.L.length ≤ 1900) (h2 : s.last ≤ 99999) : (s.put fr to b l).Ok := by
  refine ⟨fun x hx => ?_, ?_, fun x hx => ?_, ?_, ?_, ?_⟩
  · rcases List.mem_append.1 hx with hx | hx
    · exact h.ok x hx
    · obtain rfl : x = _ := by simpa using hx
      exact ⟨hb, hl⟩
  · refine List.pairwise_append.2 ⟨h.inc, List.pairwise_singleton .., fun x hx y hy => ?_⟩
    obtain rfl : y = _ := by simpa using hy
    have := (h.pos x hx).2
    simp only
    omega
  · rcases List.mem_append.1 hx with hx | hx
    · have := h.pos x hx
      simp only [Nt.put]
      omega
    · obtain rfl : x = _ := by simpa using hx
      have := h.nn
      simp only [Nt.put]
      omega
  · simp only [Nt.put]; omega
  · have := h.nn; simp only [Nt.put]; omega
  · simp only [Nt.put, List.length_append, List.length_singleton]; omega
theorem am29_wp {N n : Nat} {args : List V} {h : Heap} {C : V → Heap → Prop} (ha : args.length = 2) (H : sx ⟨pureOf am, callA am N n, N, h.length⟩ am29.body (fr am29.nt (argsF 0 args)) (h ++ deads am29.sites) (retQ am29.res C)) : ∃ v h', callA am N (n + 1) 29 args h = some (v, h') ∧ C v h' :=
  call_keep at29 rfl ha (by decide) (sx_wp H)
set_option maxHeartbeats 1000000 in
theorem put_spec {N n : Nat} (hn : 2 ≤ n) {H : Heap} {a m : Nat} {W : V} {R : List Nat} {s : Nt} (h : NetAt H a m W R s) (k0 fr to : Int) {b : V} {l : List Int} (hb : By l b) (hl : l.length ≤ 512) (hL : s.L.length ≤ 1900) (hla : s.last ≤ 99999) :
    ∃ v' H', callA am N n 29 [.ptr a 1 0, .agg [.int .i64 k0, .int .i64 fr, .int .i64 to, b]] H = some (v', H') ∧ v' = .int .i64 (s.last + 1) ∧ ∃ b' W' R', By l b' ∧ NetAt H' a m W' R' (s.put fr to b' l) ∧ Beyond H H' a m R R' := by
  obtain ⟨n, rfl⟩ : ∃ m, n = m + 1 := ⟨n - 1, by omega⟩
  obtain ⟨b', hb', c46⟩ := @clone_spec N n (by omega) l b hb (by omega)
  have hobb : b.objs = [] := hb.objs
  have f46 : ∀ fb (h : Heap), ({ pureF := pureOf am, call := callA am N n, N := N, fb := fb } : Env).framed.call 46 [b] h = some (b', h) := fun fb h =>
    frame_free pm46 (.inr rfl) (by simp [V.objsL, hobb]) c46 hb'.objs
  have hal := h.lta
  have hml := h.ltm
  have nn := h.ok.nn
  -- the memory behind the box
  obtain ⟨h0, e0⟩ : ∃ h0, h0 = H ++ [(⟨1, .var [.int .i64 k0, .int .i64 fr, .int .i64 to, b]⟩ : Ob), ⟨0, .dead⟩] := ⟨_, rfl⟩
  have l0 : h0.length = H.length + 2 := by rw [e0]; simp
  have n0 : NetAt h0 a m W R s := by rw [e0]; exact h.app _
  have x0 : h0[H.length]? = some ⟨1, .var [.int .i64 k0, .int .i64 fr, .int .i64 to, b]⟩ := by rw [e0, app_get0]; rfl
  have d0 : h0[H.length + 1]? = some ⟨0, .dead⟩ := by rw [e0, app_get]; rfl
  have e0' := e0.symm
  have nba : H.length ≠ a := by omega
  have nbm : H.length ≠ m := by omega
  have nab : a ≠ H.length := by omega
  have nmb : m ≠ H.length := by omega
  have nam := h.ne
  have nma : m ≠ a := Ne.symm h.ne
  have al0 : a < h0.length := by omega
  have ml0 : m < h0.length := by omega
  have bl0 : H.length < h0.length := by omega
  have hw : IntKind.i64.wrap (s.last + 1) = s.last + 1 := wrap64 (by omega) (by omega)
  -- behind the map's put
  obtain ⟨h4, e4⟩ : ∃ h4, h4 = ((h0.set a ⟨1, .var (Nt.cs { s with last := s.last + 1 } m W)⟩).set H.length ⟨1, .var [.int .i64 (s.last + 1), .int .i64 fr, .int .i64 to, b']⟩).set m ⟨1, .map (s.L.map Lt.e ++ [(.int .i64 (s.last + 1), .agg [.int .i64 (s.last + 1), .int .i64 fr, .int .i64 to, b'])])⟩ := ⟨_, rfl⟩
  have e4' := e4.symm
  have l4 : h4.length = h0.length := by rw [e4]; simp
  have g4a : h4[a]? = some ⟨1, .var (Nt.cs { s with last := s.last + 1 } m W)⟩ := by
    rw [e4, List.getElem?_set_ne nma, List.getElem?_set_ne nba, List.getElem?_set_self al0]
  have g4m : h4[m]? = some ⟨1, .map (s.L.map Lt.e ++ [(.int .i64 (s.last + 1), .agg [.int .i64 (s.last + 1), .int .i64 fr, .int .i64 to, b'])])⟩ := by
    rw [e4, List.getElem?_set_self (by simp; omega)]
  have k4 : ∀ o, o ≠ a → o ≠ m → o ≠ H.length → h4[o]? = h0[o]? := fun o h1 h2 h3 => by
    rw [e4, List.getElem?_set_ne (Ne.symm h2), List.getElem?_set_ne (Ne.symm h3), List.getElem?_set_ne (Ne.symm h1)]
  have hRl : ∀ o ∈ R, o < H.length := h.row.lt
  have row4 : IRow h4 W (s.L.map Lt.num) R := n0.row.keep fun o ho => k4 o (fun e => h.na (e ▸ ho)) (fun e => h.nm (e ▸ ho)) (by have := hRl o ho; omega)
  have d4 : h4[H.length + 1]? = some ⟨0, .dead⟩ := by rw [k4 _ (by omega) (by omega) (by omega)]; exact d0
  obtain ⟨o1, y, W', hA, hrow, ho1, hol⟩ := row4.append (n := s.last + 1) d4 (by simp; omega)
  have hmp : ∀ v, mputA (fun o => (List.set (List.set h0 a ⟨1, .var (Nt.cs { s with last := s.last + 1 } m W)⟩) H.length ⟨1, .var [.int .i64 (s.last + 1), .int .i64 fr, .int .i64 to, b']⟩)[o]?) false [.i .i64] (.map m 1) (.int .i64 (s.last + 1)) v = some (.set m ⟨1, .map (s.L.map Lt.e ++ [(.int .i64 (s.last + 1), v)])⟩ (.tup [])) := fun v =>
    mput_spec (by show (List.set (List.set h0 a _) H.length _)[m]? = _; rw [List.getElem?_set_ne nbm, List.getElem?_set_ne nam]; exact n0.mp) _ v (fun x hx => by have := (h.ok.pos x hx).2; omega)
  have noa : o1 ≠ a := by
    rcases ho1 with rfl | ho1
    · omega
    · intro e; subst e; exact h.na ho1
  have nom : o1 ≠ m := by
    rcases ho1 with rfl | ho1
    · omega
    · intro e; subst e; exact h.nm ho1
  have g5a : (h4.set o1 y)[a]? = some ⟨1, .var (Nt.cs { s with last := s.last + 1 } m W)⟩ := by rw [List.getElem?_set_ne noa]; exact g4a
  obtain ⟨w1, w2, w3, w4, w5, w6⟩ := hrow.shape
  obtain ⟨v1, v2, v3, v4, v5, v6⟩ := h.row.shape
  have a5l : a < (h4.set o1 y).length := by simp; omega
  have a4l : a < h4.length := by omega
  have oa := n0.ob
  have r1 : List.range 1 = [0] := rfl
  have wr : ∀ k, wrapV [V.int .i64 k] = .int .i64 k := fun _ => rfl
  have c3 := @cs3 s m W
  have c3' := @cs3 { s with last := s.last + 1 } m W
  have c1' := @cs1 { s with last := s.last + 1 } m W
  have c2' := @cs2 { s with last := s.last + 1 } m W
  have s3 := @cs_set3 s m W (s.last + 1)
  have s2 := @cs_set2 { s with last := s.last + 1 } m W W'
  have c3'' := @cs3 { s with last := s.last + 1 } m W'
  have ql := @cs_len s m W
  have ql' := @cs_len { s with last := s.last + 1 } m W
  have ql'' := @cs_len { s with last := s.last + 1 } m W'
  have kb1 := hb.cells
  have kb2 := hb.one
  have kb3 := hb.njunk
  have kb4 := hb.nagg
  have kb5 := hb.ntup
  have k1 := hb'.cells
  have k2 := hb'.one
  have k3 := hb'.njunk
  have k5 := hb'.nagg
  have k6 := hb'.ntup
  refine am29_wp rfl ?_
  have eP : (s.put fr to b' l).cs m W' = Nt.cs { s with last := s.last + 1 } m W' := rfl
  generalize hX : Nt.cs { s with last := s.last + 1 } m W' = X at *
  generalize hY : Nt.cs { s with last := s.last + 1 } m W = Y at *
  generalize hZ : s.cs m W = Z at *
  simp +contextual -implicitDefEqProofs (maxSteps := 10000000) only [sxb, plainD, stays, ↓selV_wt, ↓selV_wf, ↓impB_wt, ↓impB_wf, ↓selV_nor, ↓impB_nor, ↓selV_nt, ↓selV_nf, ↓impB_nt, ↓impB_nf, ↓selV_true, ↓selV_false, ↓selV_and, ↓impB_true, ↓impB_false, ↓impB_and, ↓prim_pick, ↓selV_nn, ↓impB_nn, doOp, get, ins, del, dels, Nat.reduceLT, Nat.reduceEqDiff, ↓reduceIte, reduceCtorEq, ne_eq, implies_true, prim, YLD, mkA, V.cells, Nat.reduceAdd, Nat.reduceSub, Nat.reduceMul, Nat.reduceLeDiff, loadA, cellsAt, nAg, packA, List.drop, List.take, List.head?, binA, unA, eqCells, eqCell, negB, fillA, storeA, Ob.with, indexedI, V.oneCell, intOf?, resA, resA1, packR, sealDepth, Int.reduceLT, Int.reduceLE, Int.reduceToNat, Int.reduceNeg, Int.reduceAdd, Int.reduceSub, Int.reduceMul, cond_true, cond_false, Int.reduceBNe, Int.reduceBEq, eq_self, deads, List.replicate, argsF, am29, sx_drawd, reachC_nil, wpd_nil, wpd_cons, wpd_gt, wpd_gf, wpd_gu, wdK_def, fpOf, fpV, fpCall, Fp.ok, okT_of, okT_rd_io, okT_rd_call, okT_rd_bar, tagP_io, tagP_bar, tagP_call, tagF, AOp.rds, disj, List.contains_cons, List.contains_nil, Nat.reduceBEq, List.all_append, V.objsL, V.objs,  List.getD_cons_zero, List.getD_cons_succ, List.append_nil, app_get0, app_get, app_set0, app_set, e0', f46, oa, x0, c3, s3, ql, hw, List.getElem?_set_self, al0, List.getElem?_set_ne, nab, nba, nam, nma, nmb, nbm, List.length_set, List.set_set, bl0, hobb, pm46, ql', c3', c1', c2', hmp, e4', r1, wr, hA, g4a, g5a, kb1, kb2, k1, k2, w1, w2, s2, a4l, ql'', c3'', -List.drop, -List.take]
  have lf : ((h4.set o1 y).set a ⟨1, .var X⟩).length = H.length + 2 := by simp; omega
  have ga : ((h4.set o1 y).set a ⟨1, .var X⟩)[a]? = some ⟨1, .var X⟩ := List.getElem?_set_self a5l
  refine ⟨b', W', [o1], hb', ⟨h.ok.put hb' hl hL hla, by rw [eP]; exact ga, ?_, ?_, h.ne, by simpa using Ne.symm noa, by simpa using Ne.symm nom⟩, ⟨by omega, fun o ho h1 h2 h3 => ?_, fun o ho => ?_⟩⟩
  · rw [List.getElem?_set_ne nam, List.getElem?_set_ne nom, g4m]
    simp [Nt.put, Lt.e, Lt.cs]
  · have : (s.put fr to b' l).L.map Lt.num = s.L.map Lt.num ++ [s.last + 1] := by simp [Nt.put]
    rw [this]
    refine hrow.keep fun o ho => ?_
    obtain rfl : o = o1 := by simpa using ho
    rw [List.getElem?_set_ne (Ne.symm noa)]
  · have ho1' : o ≠ o1 := by
      rcases ho1 with rfl | ho1
      · omega
      · intro e; subst e; exact h3 ho1
    rw [List.getElem?_set_ne (Ne.symm h1), List.getElem?_set_ne (Ne.symm ho1'), k4 o h1 h2 (by omega), e0, List.getElem?_append_left ho]
  · obtain rfl : o = o1 := by simpa using ho
    rcases ho1 with rfl | ho1
    · exact .inr (by omega)
    · exact .inl ho1
end Go.Am.T


set_option linter.unusedVariables false
set_option linter.unusedSimpArgs false
set_option linter.unusedSectionVars false
set_option maxRecDepth 10000
namespace Go.Am.T
attribute [local congr] selV_congr impB_congr
def sendB (s : Nt) (f t : Int) (l : List Int) : Bool := (nodeB s.nodes f && (nodeB s.nodes t && !(f == t))) && decide (l.length ≤ 512)
theorem am11_wp {N n : Nat} {args : List V} {h : Heap} {C : V → Heap → Prop} (ha : args.length = 4) (H : sx ⟨pureOf am, callA am N n, N, h.length⟩ am11.body (fr am11.nt (argsF 0 args)) (h ++ deads am11.sites) (retQ am11.res C)) : ∃ v h', callA am N (n + 1) 11 args h = some (v, h') ∧ C v h' :=
  call_keep at11 rfl ha (by decide) (sx_wp H)
theorem Beyond.app {H H' : Heap} {a m : Nat} {R R' : List Nat} {l : Heap} (h : Beyond (H ++ l) H' a m R R') : Beyond H H' a m R R' :=
  ⟨by have := h.len; simp at this; omega, fun o ho h1 h2 h3 => by rw [h.oth o (by simp; omega) h1 h2 h3, List.getElem?_append_left ho], fun o ho => by
    rcases h.new o ho with h | h
    · exact .inl h
    · exact .inr (by simp at h; omega)⟩
theorem Beyond.refl {H : Heap} {a m : Nat} {R : List Nat} (l : Heap) : Beyond H (H ++ l) a m R R :=
  ⟨by simp, fun o ho _ _ _ => List.getElem?_append_left ho, fun o ho => .inl ho⟩
set_option maxHeartbeats 1000000 in
theorem send_spec {N n : Nat} (hn : 3 ≤ n) {H : Heap} {a m : Nat} {W : V} {R : List Nat} {s : Nt} (h : NetAt H a m W R s) (f t : Int) {b : V} {l : List Int} (hb : By l b) (hL : s.L.length ≤ 1900) (hla : s.last ≤ 99999) :
    ∃ v' H', callA am N n 11 [.ptr a 1 0, .int .i64 f, .int .i64 t, b] H = some (v', H') ∧
      ((sendB s f t l = true ∧ v' = .tup [.int .i64 (s.last + 1), .int .i64 0] ∧ ∃ b' W' R', By l b' ∧ NetAt H' a m W' R' (s.put f t b' l) ∧ Beyond H H' a m R R') ∨
       (sendB s f t l = false ∧ ∃ e, v' = .tup [.int .i64 0, .int .i64 e] ∧ e ≠ 0 ∧ NetAt H' a m W R s ∧ Beyond H H' a m R R)) := by
  obtain ⟨n, rfl⟩ : ∃ m, n = m + 1 := ⟨n - 1, by omega⟩
  obtain ⟨h0, e0⟩ : ∃ h0, h0 = H ++ [(⟨1, .var [.ptr a 1 0]⟩ : Ob)] := ⟨_, rfl⟩
  have n0 : NetAt h0 a m W R s := by rw [e0]; exact h.app _
  have x0 : h0[H.length]? = some ⟨1, .var [.ptr a 1 0]⟩ := by rw [e0, app_get0]; rfl
  have B0 : Beyond H h0 a m R R := by rw [e0]; exact .refl _
  have c28 := @there_spec N n (by omega) _ _ _ _ _ n0.ob
  have c27 := @node_spec N n (by omega) _ _ _ _ _ _ n0.ob x0
  have hlen := hb.len
  have hns := hb.nstr
  have e0' := e0.symm
  have c2 := @cs2 s m W
  have ql := @cs_len s m W
  have hWl := h.row.len
  rw [List.length_map] at hWl
  obtain ⟨v1, v2, v3, v4, v5, v6⟩ := h.row.shape
  have oa := n0.ob
  have kb1 := hb.cells
  have kb2 := hb.one
  have kb3 := hb.njunk
  have kb4 := hb.nagg
  have kb5 := hb.ntup
  have g4 : decide ((s.L.length : Int) ≥ 4096) = false := decide_eq_false (by omega)
  cases gf : nodeB s.nodes f with
  | false =>
    refine am11_wp rfl ?_
    generalize s.cs m W = Z at *
    simp +contextual -implicitDefEqProofs (maxSteps := 10000000) only [sxb, plainD, stays, ↓selV_wt, ↓selV_wf, ↓impB_wt, ↓impB_wf, ↓selV_nor, ↓impB_nor, ↓selV_nt, ↓selV_nf, ↓impB_nt, ↓impB_nf, ↓selV_true, ↓selV_false, ↓selV_and, ↓impB_true, ↓impB_false, ↓impB_and, ↓prim_pick, ↓selV_nn, ↓impB_nn, doOp, get, ins, del, dels, Nat.reduceLT, Nat.reduceEqDiff, ↓reduceIte, reduceCtorEq, ne_eq, implies_true, prim, YLD, mkA, V.cells, Nat.reduceAdd, Nat.reduceSub, Nat.reduceMul, Nat.reduceLeDiff, loadA, cellsAt, nAg, packA, List.drop, List.take, List.head?, binA, unA, eqCells, eqCell, negB, fillA, storeA, Ob.with, indexedI, V.oneCell, intOf?, resA, resA1, packR, sealDepth, Int.reduceLT, Int.reduceLE, Int.reduceToNat, Int.reduceNeg, Int.reduceAdd, Int.reduceSub, Int.reduceMul, cond_true, cond_false, Int.reduceBNe, Int.reduceBEq, eq_self, deads, List.replicate, argsF, am11, app_get0, app_get, app_set0, app_set, e0', x0, c28, cvP_func, c27, gf]
    exact .inr ⟨by simp [sendB, gf], 2, rfl, by decide, n0, B0⟩
  | true =>
    cases gt : nodeB s.nodes t with
    | false =>
      refine am11_wp rfl ?_
      generalize s.cs m W = Z at *
      simp +contextual -implicitDefEqProofs (maxSteps := 10000000) only [sxb, plainD, stays, ↓selV_wt, ↓selV_wf, ↓impB_wt, ↓impB_wf, ↓selV_nor, ↓impB_nor, ↓selV_nt, ↓selV_nf, ↓impB_nt, ↓impB_nf, ↓selV_true, ↓selV_false, ↓selV_and, ↓impB_true, ↓impB_false, ↓impB_and, ↓prim_pick, ↓selV_nn, ↓impB_nn, doOp, get, ins, del, dels, Nat.reduceLT, Nat.reduceEqDiff, ↓reduceIte, reduceCtorEq, ne_eq, implies_true, prim, YLD, mkA, V.cells, Nat.reduceAdd, Nat.reduceSub, Nat.reduceMul, Nat.reduceLeDiff, loadA, cellsAt, nAg, packA, List.drop, List.take, List.head?, binA, unA, eqCells, eqCell, negB, fillA, storeA, Ob.with, indexedI, V.oneCell, intOf?, resA, resA1, packR, sealDepth, Int.reduceLT, Int.reduceLE, Int.reduceToNat, Int.reduceNeg, Int.reduceAdd, Int.reduceSub, Int.reduceMul, cond_true, cond_false, Int.reduceBNe, Int.reduceBEq, eq_self, deads, List.replicate, argsF, am11, app_get0, app_get, app_set0, app_set, e0', x0, c28, cvP_func, c27, gf, gt]
      exact .inr ⟨by simp [sendB, gf, gt], 2, rfl, by decide, n0, B0⟩
    | true =>
      cases ge : (f == t) with
      | true =>
        refine am11_wp rfl ?_
        generalize s.cs m W = Z at *
        simp +contextual -implicitDefEqProofs (maxSteps := 10000000) only [sxb, plainD, stays, ↓selV_wt, ↓selV_wf, ↓impB_wt, ↓impB_wf, ↓selV_nor, ↓impB_nor, ↓selV_nt, ↓selV_nf, ↓impB_nt, ↓impB_nf, ↓selV_true, ↓selV_false, ↓selV_and, ↓impB_true, ↓impB_false, ↓impB_and, ↓prim_pick, ↓selV_nn, ↓impB_nn, doOp, get, ins, del, dels, Nat.reduceLT, Nat.reduceEqDiff, ↓reduceIte, reduceCtorEq, ne_eq, implies_true, prim, YLD, mkA, V.cells, Nat.reduceAdd, Nat.reduceSub, Nat.reduceMul, Nat.reduceLeDiff, loadA, cellsAt, nAg, packA, List.drop, List.take, List.head?, binA, unA, eqCells, eqCell, negB, fillA, storeA, Ob.with, indexedI, V.oneCell, intOf?, resA, resA1, packR, sealDepth, Int.reduceLT, Int.reduceLE, Int.reduceToNat, Int.reduceNeg, Int.reduceAdd, Int.reduceSub, Int.reduceMul, cond_true, cond_false, Int.reduceBNe, Int.reduceBEq, eq_self, deads, List.replicate, argsF, am11, app_get0, app_get, app_set0, app_set, e0', x0, c28, cvP_func, c27, gf, gt, ge]
        exact .inr ⟨by simp [sendB, gf, gt, ge], 2, rfl, by decide, n0, B0⟩
      | false =>
        cases gl : decide ((l.length : Int) > 512) with
        | true =>
          refine am11_wp rfl ?_
          generalize s.cs m W = Z at *
          simp +contextual -implicitDefEqProofs (maxSteps := 10000000) only [sxb, plainD, stays, ↓selV_wt, ↓selV_wf, ↓impB_wt, ↓impB_wf, ↓selV_nor, ↓impB_nor, ↓selV_nt, ↓selV_nf, ↓impB_nt, ↓impB_nf, ↓selV_true, ↓selV_false, ↓selV_and, ↓impB_true, ↓impB_false, ↓impB_and, ↓prim_pick, ↓selV_nn, ↓impB_nn, doOp, get, ins, del, dels, Nat.reduceLT, Nat.reduceEqDiff, ↓reduceIte, reduceCtorEq, ne_eq, implies_true, prim, YLD, mkA, V.cells, Nat.reduceAdd, Nat.reduceSub, Nat.reduceMul, Nat.reduceLeDiff, loadA, cellsAt, nAg, packA, List.drop, List.take, List.head?, binA, unA, eqCells, eqCell, negB, fillA, storeA, Ob.with, indexedI, V.oneCell, intOf?, resA, resA1, packR, sealDepth, Int.reduceLT, Int.reduceLE, Int.reduceToNat, Int.reduceNeg, Int.reduceAdd, Int.reduceSub, Int.reduceMul, cond_true, cond_false, Int.reduceBNe, Int.reduceBEq, eq_self, deads, List.replicate, argsF, am11, app_get0, app_get, app_set0, app_set, e0', x0, c28, cvP_func, c27, gf, gt, ge, hlen, gl]
          have := of_decide_eq_true gl
          exact .inr ⟨by simp [sendB, gf, gt, ge]; omega, 3, rfl, by decide, n0, B0⟩
        | false =>
          have hl : l.length ≤ 512 := by have := of_decide_eq_false gl; omega
          obtain ⟨v', H', c29, rfl, b', W', R', hb', hN, hB⟩ := @put_spec N n (by omega) _ _ _ _ _ _ n0 0 f t b l hb hl hL hla
          refine am11_wp rfl ?_
          generalize hZ : s.cs m W = Z at *
          simp +contextual -implicitDefEqProofs (maxSteps := 10000000) only [sxb, plainD, stays, ↓selV_wt, ↓selV_wf, ↓impB_wt, ↓impB_wf, ↓selV_nor, ↓impB_nor, ↓selV_nt, ↓selV_nf, ↓impB_nt, ↓impB_nf, ↓selV_true, ↓selV_false, ↓selV_and, ↓impB_true, ↓impB_false, ↓impB_and, ↓prim_pick, ↓selV_nn, ↓impB_nn, doOp, get, ins, del, dels, Nat.reduceLT, Nat.reduceEqDiff, ↓reduceIte, reduceCtorEq, ne_eq, implies_true, prim, YLD, mkA, V.cells, Nat.reduceAdd, Nat.reduceSub, Nat.reduceMul, Nat.reduceLeDiff, loadA, cellsAt, nAg, packA, List.drop, List.take, List.head?, binA, unA, eqCells, eqCell, negB, fillA, storeA, Ob.with, indexedI, V.oneCell, intOf?, resA, resA1, packR, sealDepth, Int.reduceLT, Int.reduceLE, Int.reduceToNat, Int.reduceNeg, Int.reduceAdd, Int.reduceSub, Int.reduceMul, cond_true, cond_false, Int.reduceBNe, Int.reduceBEq, eq_self, deads, List.replicate, argsF, am11, app_get0, app_get, app_set0, app_set, e0', x0, c28, cvP_func, c27, gf, gt, ge, hlen, gl, oa, c2, ql, hWl, g4, kb1, kb2, c29]
          subst e0
          exact .inl ⟨by simp [sendB, gf, gt, ge, hl], b', W', R', hb', hN, hB.app⟩
end Go.Am.T


set_option linter.unusedVariables false
set_option linter.unusedSimpArgs false
set_option linter.unusedSectionVars false
set_option maxRecDepth 10000
namespace Go.Am.T
attribute [local congr] selV_congr impB_congr
theorem bounds_none {len cap : Nat} {i : Nat} (h : i ≤ cap) : boundsA len cap none (some (.int .i64 i)) none = some (0, i, cap) := by
  simp [boundsA, intOf?, h]
theorem bounds_lo {len cap : Nat} {i : Nat} (h : i ≤ len) : boundsA len cap (some (.int .i64 i)) none none = some (i, len, cap) := by
  simp [boundsA, intOf?, h]
theorem bounds_two {len cap : Nat} {i j : Nat} (h : i ≤ j) (h2 : j ≤ cap) : boundsA len cap (some (.int .i64 i)) (some (.int .i64 j)) none = some (i, j, cap) := by
  simp [boundsA, intOf?, h, h2]
theorem bounds_three {len cap : Nat} {i j k : Nat} (h : i ≤ j) (h2 : j ≤ k) (h3 : k ≤ cap) : boundsA len cap (some (.int .i64 i)) (some (.int .i64 j)) (some (.int .i64 k)) = some (i, j, k) := by
  simp [boundsA, intOf?, h, h2, h3]
theorem am30_wp {N n : Nat} {args : List V} {h : Heap} {C : V → Heap → Prop} (ha : args.length = 3) (hfr : V.freeL args = false) (H : sx ⟨pureOf am, callA am N n, N, h.length⟩ am30.body (fr am30.nt (argsF 0 args)) (h ++ deads am30.sites) (retQ am30.res C)) : ∃ v h', callA am N (n + 1) 30 args h = some (v, h') ∧ C v h' := by
  obtain ⟨v, h', hb, hc⟩ := body_of_wp (by rw [ha]; decide) (sx_wp H)
  refine ⟨v, h', ?_, hc⟩
  unfold callA
  rw [if_neg (by decide)]
  simp only [at30, ha]
  have hm : am30.mode = .auto := rfl
  have hn : am30.nargs = 3 := rfl
  simp only [hm, hn, hfr, ↓reduceIte, hb]
  rfl
set_option maxHeartbeats 1000000 in
theorem delete_spec {N n : Nat} (hn : 1 ≤ n) {H : Heap} {W : V} {l : List Int} {R : List Nat} (h : IRow H W l R) {i : Nat} (hi : i < l.length) (hl : l.length ≤ 100000) :
    ∃ v' H', callA am N n 30 [W, .int .i64 i, .int .i64 ((i + 1 : Nat) : Int)] H = some (v', H') ∧ H'.length = H.length + 1 ∧ IRow H' v' (l.eraseIdx i) R ∧ (∀ o, o < H.length → o ∉ R → H'[o]? = H[o]?) := by
  obtain ⟨n, rfl⟩ : ∃ m, n = m + 1 := ⟨n - 1, by omega⟩
  rcases h with ⟨rfl, -, -⟩ | ⟨o, ver, rest, rfl, rfl, ho⟩
  · simp at hi
  have hol := lt_of_get ho
  obtain ⟨h0, e0⟩ : ∃ h0, h0 = H ++ [(⟨0, .dead⟩ : Ob)] := ⟨_, rfl⟩
  have ho0 : h0[o]? = some ⟨ver, .arr ((l ++ rest).map (V.int .i64))⟩ := by rw [e0, List.getElem?_append_left hol]; exact ho
  have hl0 : o < h0.length := by rw [e0]; simp; omega
  have lens : h0.length = H.length + 1 := by rw [e0]; simp
  have e0' := e0.symm
  generalize hk : l.length = k at *
  have hcl : ((l ++ rest).map (V.int .i64)).length = k + rest.length := by simp [hk]
  have f1 : sliceA (fun o => h0[o]?) 1 (.view o ver 0 k 1 none) (some (.int .i64 i)) (some (.int .i64 ((i + 1 : Nat) : Int))) (some (.int .i64 (k : Nat))) = some (.view o ver (if k = i then 0 else 0 + i * 1) (i + 1 - i) 1 (some (k - i))) := by
    simp only [sliceA, cellsAt, ho0, ↓reduceIte, hcl, bounds_three (show i ≤ i + 1 by omega) (show i + 1 ≤ k by omega) (show k ≤ (k + rest.length - 0) / 1 by simp), Option.map_some]
  have f2 : sliceA (fun o => h0[o]?) 1 (.view o ver 0 k 1 none) none (some (.int .i64 i)) none = some (.view o ver 0 i 1 none) := by
    simp only [sliceA, cellsAt, ho0, ↓reduceIte, hcl, bounds_none (show i ≤ (k + rest.length - 0) / 1 by simp; omega), Option.bind_some]
  have g1 : ((i : Int) == ((i + 1 : Nat) : Int)) = false := by rw [beq_eq_false_iff_ne]; omega
  have hfr : V.freeL [.view o ver 0 k 1 none, .int .i64 i, .int .i64 ((i + 1 : Nat) : Int)] = false := rfl
  -- the tail's clearing
  have tail : ∀ (h1 : Heap) (c : List V), h1[o]? = some ⟨ver, .arr c⟩ → c.length = k + rest.length → ∃ x ln, sliceA (fun o => h1[o]?) 1 (.view o ver 0 (k - 1) 1 none) (some (.int .i64 ((k - 1 : Nat) : Int))) (some (.int .i64 (k : Nat))) none = some x ∧
      clearA (fun o => h1[o]?) 1 [.int .i64 0] x = some (.set o ⟨ver, .arr (setRange c (k - 1) [.int .i64 0])⟩ (.tup [])) ∧ x = .view o ver ln 1 1 none := by
    intro h1 c hc hcl1
    have hb := bounds_two (len := k - 1) (cap := (k + rest.length - 0) / 1) (i := k - 1) (j := k) (by omega) (by simp)
    have hst : storeA (fun o => h1[o]?) o ver (k - 1) (List.replicate 1 [V.int .i64 0]).flatten (.tup []) = some (.set o ⟨ver, .arr (setRange c (k - 1) [.int .i64 0])⟩ (.tup [])) := by
      have : (List.replicate 1 [V.int .i64 0]).flatten = [.int .i64 0] := rfl
      rw [this]
      simp only [storeA, cellsAt, hc, ↓reduceIte, List.length_singleton]
      rw [if_pos (by omega)]
      rfl
    by_cases h0k : k - 1 = 0
    · refine ⟨.view o ver 0 1 1 none, 0, ?_, ?_, rfl⟩
      · rw [h0k] at hb ⊢
        simp only [sliceA, cellsAt, hc, ↓reduceIte, hcl1, hb, Option.bind_some]
        rw [show k = 1 by omega]
      · rw [h0k] at hst
        simp only [clearA, Nat.one_ne_zero, ↓reduceIte]
        rw [h0k]
        exact hst
    · refine ⟨.view o ver (k - 1) 1 1 none, k - 1, ?_, ?_, rfl⟩
      · simp only [sliceA, cellsAt, hc, ↓reduceIte, hcl1, hb, Option.bind_some, h0k]
        rw [if_pos (by omega)]
        simp; omega
      · simp only [clearA, Nat.one_ne_zero, ↓reduceIte]
        exact hst
  have hsub : IntKind.i64.wrap ((k : Int) - 1) = ((k - 1 : Nat) : Int) := (wrap64 (by omega) (by omega)).trans (by omega)
  by_cases hlt : i + 1 < k
  · have f3 : sliceA (fun o => h0[o]?) 1 (.view o ver 0 k 1 none) (some (.int .i64 ((i + 1 : Nat) : Int))) none none = some (.view o ver (i + 1) (k - (i + 1)) 1 none) := by
      simp only [sliceA, cellsAt, ho0, ↓reduceIte, hcl, bounds_lo (show i + 1 ≤ k by omega), Option.bind_some, Nat.add_eq_zero_iff, Nat.one_ne_zero, and_false, hlt, Nat.zero_add, Nat.mul_one]
    have ld : loadA (fun o => h0[o]?) ((k - (i + 1)) * 1) (.ptr o ver (i + 1)) = some ((l.drop (i + 1)).map (V.int .i64)) := by
      simp only [loadA, cellsAt, ho0, ↓reduceIte, hcl, Nat.mul_one]
      rw [if_pos (by omega), ← List.map_drop, ← List.map_take, List.drop_append_of_le_length (by omega), List.take_append_of_le_length (by simp; omega), List.take_of_length_le (by simp; omega)]
    have hdl : (l.drop (i + 1)).length = k - (i + 1) := by simp [hk]
    obtain ⟨c2, ec2⟩ : ∃ c2, c2 = setRange ((l ++ rest).map (V.int .i64)) i ((l.drop (i + 1)).map (V.int .i64)) := ⟨_, rfl⟩
    have f4 : appendA (fun o => h0[o]?) H.length 1 8 (.view o ver 0 i 1 none) (.view o ver (i + 1) (k - (i + 1)) 1 none) = some (.set o ⟨ver, .arr c2⟩ (.view o ver 0 (k - 1) 1 none)) := by
      have ho1 : ((l.drop (i + 1)).map (V.int .i64)).all V.oneCell = true := allOne_ints _ _
      have hfst : firstA (fun o => h0[o]?) 1 (k - (i + 1)) (.view o ver (i + 1) (k - (i + 1)) 1 none) = some ((l.drop (i + 1)).map (V.int .i64)) := by
        simp only [firstA, ↓reduceIte, Nat.le_refl, ld]
      unfold appendA
      simp only [lenA_view, hfst, ho1, ↓reduceIte, cellsAt, ho0, hcl]
      rw [if_neg (by omega), if_pos (by omega), if_neg (by omega)]
      simp only [storeA, cellsAt, ho0, ↓reduceIte, hcl, List.length_map, hdl]
      rw [if_pos (by omega), ← Nat.zero_add (i * 1), ec2]
      simp only [Nat.zero_add, Nat.mul_one, Ob.with]
      rw [show i + (k - (i + 1)) = k - 1 by omega]
    have hc2 : c2 = ((l.eraseIdx i ++ (l ++ rest).drop (k - 1)).map (V.int .i64)) := by
      rw [ec2, map_setRange, List.take_append_of_le_length (by omega), hdl, show i + (k - (i + 1)) = k - 1 by omega, List.eraseIdx_eq_take_drop_succ]
    obtain ⟨h1, e1⟩ : ∃ h1, h1 = h0.set o ⟨ver, .arr c2⟩ := ⟨_, rfl⟩
    have ho1 : h1[o]? = some ⟨ver, .arr c2⟩ := by rw [e1]; exact List.getElem?_set_self hl0
    have hel : (l.eraseIdx i).length = k - 1 := by rw [List.length_eraseIdx, hk, if_pos hi]
    have c2l : c2.length = k + rest.length := by rw [hc2]; simp [hel, hk]; omega
    obtain ⟨x, ln, t1, t2, rfl⟩ := tail h1 c2 ho1 c2l
    have e1' := e1.symm
    refine am30_wp rfl hfr ?_
    simp +contextual -implicitDefEqProofs (maxSteps := 10000000) only [sxb, plainD, stays, ↓selV_wt, ↓selV_wf, ↓impB_wt, ↓impB_wf, ↓selV_nor, ↓impB_nor, ↓selV_nt, ↓selV_nf, ↓impB_nt, ↓impB_nf, ↓selV_true, ↓selV_false, ↓selV_and, ↓impB_true, ↓impB_false, ↓impB_and, ↓prim_pick, ↓selV_nn, ↓impB_nn, doOp, get, ins, del, dels, Nat.reduceLT, Nat.reduceEqDiff, ↓reduceIte, reduceCtorEq, ne_eq, implies_true, prim, YLD, mkA, V.cells, Nat.reduceAdd, Nat.reduceSub, Nat.reduceMul, Nat.reduceLeDiff, loadA, cellsAt, nAg, packA, List.drop, List.take, List.head?, binA, unA, eqCells, eqCell, negB, fillA, storeA, Ob.with, indexedI, V.oneCell, intOf?, resA, resA1, packR, sealDepth, Int.reduceLT, Int.reduceLE, Int.reduceToNat, Int.reduceNeg, Int.reduceAdd, Int.reduceSub, Int.reduceMul, cond_true, cond_false, Int.reduceBNe, Int.reduceBEq, eq_self, deads, List.replicate, argsF, am30, e0', f1, g1, f2, f3, f4, e1', t1, t2, lenA_view]
    refine ⟨by rw [List.length_set, e1, List.length_set, lens], .inr ⟨o, ver, 0 :: rest, rfl, by rw [hel], ?_⟩, fun p hp hpo => ?_⟩
    · rw [List.getElem?_set_self (by rw [e1, List.length_set]; exact hl0), hc2]
      have := @map_setRange .i64 (l.eraseIdx i ++ (l ++ rest).drop (k - 1)) [0] (k - 1)
      rw [List.map_cons, List.map_nil, List.length_singleton, show k - 1 + 1 = k by omega] at this
      rw [this, List.take_append_of_le_length (by omega), List.take_of_length_le (by omega), List.drop_append, hel]
      have hd : List.drop k (l.eraseIdx i) = [] := List.drop_eq_nil_of_le (by omega)
      rw [hd, List.nil_append, List.drop_drop, show k - 1 + (k - (k - 1)) = k by omega, List.drop_append, List.drop_eq_nil_of_le (by omega), hk, Nat.sub_self, List.nil_append, List.drop_zero]
      simp
    · have hpo' : o ≠ p := fun e => hpo (by simp [e])
      rw [List.getElem?_set_ne hpo', e1, List.getElem?_set_ne hpo', e0, List.getElem?_append_left hp]
  · have hik : i = k - 1 := by omega
    have f3 : sliceA (fun o => h0[o]?) 1 (.view o ver 0 k 1 none) (some (.int .i64 ((i + 1 : Nat) : Int))) none none = some (.vend o ver 1) := by
      simp only [sliceA, cellsAt, ho0, ↓reduceIte, hcl, bounds_lo (show i + 1 ≤ k by omega), Option.bind_some, Nat.add_eq_zero_iff, Nat.one_ne_zero, and_false, hlt]
    have f4 : appendA (fun o => h0[o]?) H.length 1 8 (.view o ver 0 i 1 none) (.vend o ver 1) = some (.ret (.view o ver 0 i 1 none)) := by
      simp [appendA, lenA, firstA, cellsAt, ho0]
    obtain ⟨x, ln, t1, t2, rfl⟩ := tail h0 _ ho0 hcl
    have hel : (l.eraseIdx i).length = k - 1 := by rw [List.length_eraseIdx, hk, if_pos hi]
    rw [← hik] at t1
    refine am30_wp rfl hfr ?_
    simp +contextual -implicitDefEqProofs (maxSteps := 10000000) only [sxb, plainD, stays, ↓selV_wt, ↓selV_wf, ↓impB_wt, ↓impB_wf, ↓selV_nor, ↓impB_nor, ↓selV_nt, ↓selV_nf, ↓impB_nt, ↓impB_nf, ↓selV_true, ↓selV_false, ↓selV_and, ↓impB_true, ↓impB_false, ↓impB_and, ↓prim_pick, ↓selV_nn, ↓impB_nn, doOp, get, ins, del, dels, Nat.reduceLT, Nat.reduceEqDiff, ↓reduceIte, reduceCtorEq, ne_eq, implies_true, prim, YLD, mkA, V.cells, Nat.reduceAdd, Nat.reduceSub, Nat.reduceMul, Nat.reduceLeDiff, loadA, cellsAt, nAg, packA, List.drop, List.take, List.head?, binA, unA, eqCells, eqCell, negB, fillA, storeA, Ob.with, indexedI, V.oneCell, intOf?, resA, resA1, packR, sealDepth, Int.reduceLT, Int.reduceLE, Int.reduceToNat, Int.reduceNeg, Int.reduceAdd, Int.reduceSub, Int.reduceMul, cond_true, cond_false, Int.reduceBNe, Int.reduceBEq, eq_self, deads, List.replicate, argsF, am30, e0', f1, g1, f2, f3, f4, t1, t2, lenA_view]
    refine ⟨by rw [List.length_set, lens], .inr ⟨o, ver, 0 :: rest, rfl, by rw [hel, hik], ?_⟩, fun p hp hpo => ?_⟩
    · rw [List.getElem?_set_self hl0]
      have := @map_setRange .i64 (l ++ rest) [0] (k - 1)
      rw [List.map_cons, List.map_nil, List.length_singleton, show k - 1 + 1 = k by omega] at this
      have hd : List.drop k l = [] := List.drop_eq_nil_of_le (by omega)
      rw [this, List.take_append_of_le_length (by omega), List.drop_append, hd, List.nil_append, List.eraseIdx_eq_take_drop_succ, hik, show k - 1 + 1 = k by omega, hd, List.append_nil, hk, Nat.sub_self, List.drop_zero]
      simp
    · have hpo' : o ≠ p := fun e => hpo (by simp [e])
      rw [List.getElem?_set_ne hpo', e0, List.getElem?_append_left hp]
end Go.Am.T


set_option linter.unusedVariables false
set_option linter.unusedSimpArgs false
set_option linter.unusedSectionVars false
set_option maxRecDepth 10000
namespace Go.Am.T
attribute [local congr] selV_congr impB_congr
abbrev zL : List V := [.int .i64 0, .int .i64 0, .int .i64 0, .nils]
theorem mget_spec {get : Nat → Option Ob} {m : Nat} {L : List Lt} (hm : get m = some ⟨1, .map (L.map Lt.e)⟩) (z : V) (k : Int) :
    mgetA get false kk z true (.map m 1) (.int .i64 k) = some (match L.find? (fun x => k == x.num) with | some x => .tup [.agg x.cs, .bool true] | none => .tup [z, .bool false]) := by
  unfold mgetA
  simp only [keyC, mapAt, hm, ↓reduceIte, mapOk_num, find_num]
  cases L.find? (fun x => k == x.num) <;> rfl
theorem am12_wp {N n : Nat} {args : List V} {h : Heap} {C : V → Heap → Prop} (ha : args.length = 2) (H : sx ⟨pureOf am, callA am N n, N, h.length⟩ am12.body (fr am12.nt (argsF 0 args)) (h ++ deads am12.sites) (retQ am12.res C)) : ∃ v h', callA am N (n + 1) 12 args h = some (v, h') ∧ C v h' :=
  call_keep at12 rfl ha (by decide) (sx_wp H)
theorem double_spec {N n : Nat} (hn : 3 ≤ n) {H : Heap} {a m : Nat} {W : V} {R : List Nat} {s : Nt} (h : NetAt H a m W R s) (k : Int) (hL : s.L.length ≤ 1900) (hla : s.last ≤ 99999) :
    ∃ v' H', callA am N n 12 [.ptr a 1 0, .int .i64 k] H = some (v', H') ∧
      ((∃ x, s.L.find? (fun x => k == x.num) = some x ∧ v' = .tup [.int .i64 (s.last + 1), .int .i64 0] ∧ ∃ b' W' R', By x.l b' ∧ NetAt H' a m W' R' (s.put x.fr x.to b' x.l) ∧ Beyond H H' a m R R') ∨
       (s.L.find? (fun x => k == x.num) = none ∧ v' = .tup [.int .i64 0, .int .i64 6] ∧ NetAt H' a m W R s ∧ Beyond H H' a m R R)) := by
  obtain ⟨n, rfl⟩ : ∃ m, n = m + 1 := ⟨n - 1, by omega⟩
  have n1 := h.app [(⟨0, .dead⟩ : Ob)]
  have c28 := @there_spec N n (by omega) _ _ _ _ _ n1.ob
  have hg := mget_spec (get := fun o => (H ++ [(⟨0, .dead⟩ : Ob)])[o]?) n1.mp (.agg zL) k
  have oa := n1.ob
  have c1 := @cs1 s m W
  have ql := @cs_len s m W
  cases hf : s.L.find? (fun x => k == x.num) with
  | none =>
    rw [hf] at hg
    have hg : mgetA (fun o => (H ++ [(⟨0, .dead⟩ : Ob)])[o]?) false kk (.agg zL) true (.map m 1) (.int .i64 k) = some (.tup [.agg zL, .bool false]) := hg
    refine am12_wp rfl ?_
    generalize hZ : s.cs m W = Z at *
    simp +contextual -implicitDefEqProofs (maxSteps := 10000000) only [sxb, plainD, stays, ↓selV_wt, ↓selV_wf, ↓impB_wt, ↓impB_wf, ↓selV_nor, ↓impB_nor, ↓selV_nt, ↓selV_nf, ↓impB_nt, ↓impB_nf, ↓selV_true, ↓selV_false, ↓selV_and, ↓impB_true, ↓impB_false, ↓impB_and, ↓prim_pick, ↓selV_nn, ↓impB_nn, doOp, get, ins, del, dels, Nat.reduceLT, Nat.reduceEqDiff, ↓reduceIte, reduceCtorEq, ne_eq, implies_true, prim, YLD, mkA, V.cells, Nat.reduceAdd, Nat.reduceSub, Nat.reduceMul, Nat.reduceLeDiff, loadA, cellsAt, nAg, packA, List.drop, List.take, List.head?, binA, unA, eqCells, eqCell, negB, fillA, storeA, Ob.with, indexedI, V.oneCell, intOf?, resA, resA1, packR, sealDepth, Int.reduceLT, Int.reduceLE, Int.reduceToNat, Int.reduceNeg, Int.reduceAdd, Int.reduceSub, Int.reduceMul, cond_true, cond_false, Int.reduceBNe, Int.reduceBEq, eq_self, deads, List.replicate, argsF, am12, app_get0, app_get, app_set0, app_set, c28, oa, c1, ql, hg]
    rw [← hZ] at *
    exact .inr ⟨h.app _, .refl _⟩
  | some x =>
    rw [hf] at hg
    have hg : mgetA (fun o => (H ++ [(⟨0, .dead⟩ : Ob)])[o]?) false kk (.agg zL) true (.map m 1) (.int .i64 k) = some (.tup [.agg x.cs, .bool true]) := hg
    have hx := List.mem_of_find?_eq_some hf
    obtain ⟨hb, hl⟩ := h.ok.ok x hx
    obtain ⟨h0, e0⟩ : ∃ h0, h0 = H ++ [(⟨1, .var x.cs⟩ : Ob)] := ⟨_, rfl⟩
    have n0 : NetAt h0 a m W R s := by rw [e0]; exact h.app _
    have B0 : Beyond H h0 a m R R := by rw [e0]; exact .refl _
    have x0 : h0[H.length]? = some ⟨1, .var x.cs⟩ := by rw [e0, app_get0]; rfl
    have e0' := e0.symm
    have oa0 := n0.ob
    have c2 := @cs2 s m W
    have hWl := h.row.len
    rw [List.length_map] at hWl
    obtain ⟨v1, v2, v3, v4, v5, v6⟩ := h.row.shape
    have g4 : decide ((s.L.length : Int) ≥ 4096) = false := decide_eq_false (by omega)
    have kb := Lt.one hb
    have tk : List.take 4 x.cs = x.cs := rfl
    have xl := x.cs_len
    obtain ⟨v', H', c29, rfl, b', W', R', hb', hN, hB⟩ := @put_spec N n (by omega) _ _ _ _ _ _ n0 x.num x.fr x.to x.b x.l hb hl hL hla
    have c29' : callA am N n 29 [.ptr a 1 0, .agg x.cs] h0 = some (.int .i64 (s.last + 1), H') := c29
    have sr : ∀ c : List V, c.length = 4 → setRange c 0 x.cs = x.cs := fun c hc => sr_all (by rw [hc, xl])
    refine am12_wp rfl ?_
    generalize hX : x.cs = X at *
    generalize hZ : s.cs m W = Z at *
    have s4 : setRange zL 0 X = X := sr zL rfl
    simp +contextual -implicitDefEqProofs (maxSteps := 10000000) only [sxb, plainD, stays, ↓selV_wt, ↓selV_wf, ↓impB_wt, ↓impB_wf, ↓selV_nor, ↓impB_nor, ↓selV_nt, ↓selV_nf, ↓impB_nt, ↓impB_nf, ↓selV_true, ↓selV_false, ↓selV_and, ↓impB_true, ↓impB_false, ↓impB_and, ↓prim_pick, ↓selV_nn, ↓impB_nn, doOp, get, ins, del, dels, Nat.reduceLT, Nat.reduceEqDiff, ↓reduceIte, reduceCtorEq, ne_eq, implies_true, prim, YLD, mkA, V.cells, Nat.reduceAdd, Nat.reduceSub, Nat.reduceMul, Nat.reduceLeDiff, loadA, cellsAt, nAg, packA, List.drop, List.take, List.head?, binA, unA, eqCells, eqCell, negB, fillA, storeA, Ob.with, indexedI, V.oneCell, intOf?, resA, resA1, packR, sealDepth, Int.reduceLT, Int.reduceLE, Int.reduceToNat, Int.reduceNeg, Int.reduceAdd, Int.reduceSub, Int.reduceMul, cond_true, cond_false, Int.reduceBNe, Int.reduceBEq, eq_self, deads, List.replicate, argsF, am12, app_get0, app_get, app_set0, app_set, c28, oa, c1, ql, hg, kb, xl, s4, e0', oa0, x0, c2, hWl, g4, tk, c29']
    subst e0
    exact .inl ⟨x, rfl, b', W', R', hb', hN, hB.app⟩
end Go.Am.T


set_option linter.unusedVariables false
set_option linter.unusedSimpArgs false
set_option linter.unusedSectionVars false
set_option maxRecDepth 10000
namespace Go.Am.T
attribute [local congr] selV_congr impB_congr
theorem IRow.at_ {H : Heap} {W : V} {l : List Int} {R : List Nat} (h : IRow H W l R) {i : Nat} {b : Int} (hi : l[i]? = some b) :
    ∃ o ver off c, iaddrSA 1 W (.int .i64 i) = some (.ret (.ptr o ver off)) ∧ H[o]? = some ⟨ver, .arr c⟩ ∧ off + 1 ≤ c.length ∧ List.take 1 (List.drop off c) = [.int .i64 b] := by
  have hlt := (List.getElem?_eq_some_iff.1 hi).1
  rcases h with ⟨rfl, rfl, rfl⟩ | ⟨o, ver, x, rfl, rfl, ho⟩
  · simp at hi
  · refine ⟨o, ver, 0 + i * 1, _, ?_, ho, by simp; omega, ?_⟩
    · simp [iaddrSA, indexedI, hlt]
    · rw [Nat.zero_add, Nat.mul_one, ← List.map_drop, ← List.map_take, List.drop_append_of_le_length (by omega), List.take_append_of_le_length (by simp; omega), List.drop_eq_getElem_cons hlt]
      have := (List.getElem?_eq_some_iff.1 hi).2
      simp [this]
def Nt.del (s : Nt) (k : Int) : Nt := { s with L := s.L.filter (fun x => !(k == x.num)) }
theorem Nt.Ok.del {s : Nt} (h : s.Ok) (k : Int) : (s.del k).Ok :=
  ⟨fun x hx => h.ok x (List.mem_filter.1 hx).1, h.inc.filter _, fun x hx => h.pos x (List.mem_filter.1 hx).1, h.big, h.nn, Nat.le_trans (List.length_filter_le _ _) h.len⟩
theorem find_at {k : Int} : ∀ {L : List Lt} {x : Lt}, L.Pairwise (fun x y => x.num < y.num) → L.find? (fun x => k == x.num) = some x → ∃ j, j < L.length ∧ (L.map Lt.num)[j]? = some k ∧ (∀ i, i < j → (L.map Lt.num)[i]? ≠ some k) ∧ (L.filter (fun x => !(k == x.num))).map Lt.num = (L.map Lt.num).eraseIdx j ∧ (L.filter (fun x => !(k == x.num))).length + 1 = L.length
  | [], x, _, h => by simp at h
  | y :: L, x, hp, h => by
    rw [List.find?_cons] at h
    obtain ⟨h1, h2⟩ := List.pairwise_cons.1 hp
    cases hy : k == y.num with
    | true =>
      have hk : k = y.num := by simpa using hy
      have hf : L.filter (fun x => !(k == x.num)) = L := List.filter_eq_self.2 fun z hz => by
        have := h1 z hz
        simp
        omega
      refine ⟨0, by simp, by simp [hk], fun i hi => by omega, ?_, ?_⟩
      · rw [List.filter_cons, hy, if_neg (by decide), hf]; rfl
      · rw [List.filter_cons, hy, if_neg (by decide), hf]; rfl
    | false =>
      rw [hy] at h
      obtain ⟨j, q1, q2, q3, q4, q5⟩ := find_at h2 h
      have hk : k ≠ y.num := by simpa using hy
      refine ⟨j + 1, by simp; omega, by simpa using q2, fun i hi => ?_, ?_, ?_⟩
      · cases i with
        | zero => simpa using Ne.symm hk
        | succ i => simpa using q3 i (by omega)
      · rw [List.filter_cons, hy, if_pos (by decide), List.map_cons, q4]; rfl
      · rw [List.filter_cons, hy, if_pos (by decide), List.length_cons, List.length_cons, q5]
theorem mdel_spec {get : Nat → Option Ob} {m : Nat} {L : List Lt} (hm : get m = some ⟨1, .map (L.map Lt.e)⟩) (k : Int) :
    mdelA get false kk (.map m 1) (.int .i64 k) = some (.set m ⟨1, .map ((L.filter (fun x => !(k == x.num))).map Lt.e)⟩ (.tup [])) := by
  unfold mdelA
  simp only [keyC, mapAt, hm, ↓reduceIte, mapOk_num, filter_num]
theorem am13_wp {N n : Nat} {args : List V} {h : Heap} {C : V → Heap → Prop} (ha : args.length = 2) (H : sx ⟨pureOf am, callA am N n, N, h.length⟩ am13.body (fr am13.nt (argsF 0 args)) (h ++ deads am13.sites) (retQ am13.res C)) : ∃ v h', callA am N (n + 1) 13 args h = some (v, h') ∧ C v h' :=
  call_keep at13 rfl ha (by decide) (sx_wp H)
set_option maxHeartbeats 2000000 in
theorem deliver_spec {N n : Nat} (hN : 3000 ≤ N) (hn : 3 ≤ n) {H : Heap} {a m : Nat} {W : V} {R : List Nat} {s : Nt} (h : NetAt H a m W R s) (k : Int) :
    ∃ v' H', callA am N n 13 [.ptr a 1 0, .int .i64 k] H = some (v', H') ∧
      ((∃ x, s.L.find? (fun x => k == x.num) = some x ∧ v' = .tup [.agg x.cs, .int .i64 0] ∧ ∃ W', NetAt H' a m W' R (s.del k) ∧ Beyond H H' a m R R) ∨
       (s.L.find? (fun x => k == x.num) = none ∧ v' = .tup [.agg zL, .int .i64 6] ∧ NetAt H' a m W R s ∧ Beyond H H' a m R R)) := by
  obtain ⟨n, rfl⟩ : ∃ m, n = m + 1 := ⟨n - 1, by omega⟩
  obtain ⟨h9, e9⟩ : ∃ h9, h9 = H ++ [(⟨1, .var zL⟩ : Ob), ⟨0, .dead⟩] := ⟨_, rfl⟩
  have n9 : NetAt h9 a m W R s := by rw [e9]; exact h.app _
  have c28 := @there_spec N n (by omega) _ _ _ _ _ n9.ob
  have hg := mget_spec (get := fun o => h9[o]?) n9.mp (.agg zL) k
  have oa9 := n9.ob
  have c1 := @cs1 s m W
  have ql := @cs_len s m W
  have e9' := e9.symm
  have l9 : h9.length = H.length + 2 := by rw [e9]; simp
  have hal := h.lta
  have hml := h.ltm
  cases hf : s.L.find? (fun x => k == x.num) with
  | none =>
    rw [hf] at hg
    have hg : mgetA (fun o => h9[o]?) false kk (.agg zL) true (.map m 1) (.int .i64 k) = some (.tup [.agg zL, .bool false]) := hg
    refine am13_wp rfl ?_
    generalize hZ : s.cs m W = Z at *
    have d9 : h9[H.length + 1]? = some ⟨0, .dead⟩ := by rw [e9, app_get]; rfl
    have s9 : ∀ X, h9.set (H.length + 1) X = H ++ [(⟨1, .var zL⟩ : Ob), X] := fun X => by rw [e9, app_set]; rfl
    simp +contextual -implicitDefEqProofs (maxSteps := 10000000) only [sxb, plainD, stays, ↓selV_wt, ↓selV_wf, ↓impB_wt, ↓impB_wf, ↓selV_nor, ↓impB_nor, ↓selV_nt, ↓selV_nf, ↓impB_nt, ↓impB_nf, ↓selV_true, ↓selV_false, ↓selV_and, ↓impB_true, ↓impB_false, ↓impB_and, ↓prim_pick, ↓selV_nn, ↓impB_nn, doOp, get, ins, del, dels, Nat.reduceLT, Nat.reduceEqDiff, ↓reduceIte, reduceCtorEq, ne_eq, implies_true, prim, YLD, mkA, V.cells, Nat.reduceAdd, Nat.reduceSub, Nat.reduceMul, Nat.reduceLeDiff, loadA, cellsAt, nAg, packA, List.drop, List.take, List.head?, binA, unA, eqCells, eqCell, negB, fillA, storeA, Ob.with, indexedI, V.oneCell, intOf?, resA, resA1, packR, sealDepth, Int.reduceLT, Int.reduceLE, Int.reduceToNat, Int.reduceNeg, Int.reduceAdd, Int.reduceSub, Int.reduceMul, cond_true, cond_false, Int.reduceBNe, Int.reduceBEq, eq_self, deads, List.replicate, argsF, am13, app_get0, app_get, app_set0, app_set, e9', c28, oa9, c1, ql, hg, d9, s9]
    rw [← hZ] at *
    exact .inr ⟨h.app _, .refl _⟩
  | some x =>
    rw [hf] at hg
    have hg : mgetA (fun o => h9[o]?) false kk (.agg zL) true (.map m 1) (.int .i64 k) = some (.tup [.agg x.cs, .bool true]) := hg
    have hx := List.mem_of_find?_eq_some hf
    obtain ⟨hb, hl⟩ := h.ok.ok x hx
    obtain ⟨h0, e0⟩ : ∃ h0, h0 = H ++ [(⟨1, .var zL⟩ : Ob), ⟨1, .var x.cs⟩] := ⟨_, rfl⟩
    have n0 : NetAt h0 a m W R s := by rw [e0]; exact h.app _
    have l0 : h0.length = H.length + 2 := by rw [e0]; simp
    have d9 : h9[H.length + 1]? = some ⟨0, .dead⟩ := by rw [e9, app_get]; rfl
    have s9 : ∀ X, h9.set (H.length + 1) X = H ++ [(⟨1, .var zL⟩ : Ob), X] := fun X => by rw [e9, app_set]; rfl
    have e0' := e0.symm
    have kb := Lt.one hb
    have xl := x.cs_len
    have s4 : setRange zL 0 x.cs = x.cs := sr_all (by rw [xl]; rfl)
    have hdm := mdel_spec (get := fun o => h0[o]?) n0.mp k
    have oa0 := n0.ob
    obtain ⟨h1, e1⟩ : ∃ h1, h1 = h0.set m ⟨1, .map ((s.L.filter (fun x => !(k == x.num))).map Lt.e)⟩ := ⟨_, rfl⟩
    have e1' := e1.symm
    have oa1 : h1[a]? = some ⟨1, .var (s.cs m W)⟩ := by rw [e1, List.getElem?_set_ne (Ne.symm h.ne)]; exact n0.ob
    have c2 := @cs2 s m W
    have hWl := h.row.len
    rw [List.length_map] at hWl
    obtain ⟨v1, v2, v3, v4, v5, v6⟩ := h.row.shape
    refine am13_wp rfl ?_
    generalize hX : x.cs = X at *
    generalize hZ : s.cs m W = Z at *
    simp +contextual -implicitDefEqProofs (maxSteps := 10000000) only [sxb, plainD, stays, ↓selV_wt, ↓selV_wf, ↓impB_wt, ↓impB_wf, ↓selV_nor, ↓impB_nor, ↓selV_nt, ↓selV_nf, ↓impB_nt, ↓impB_nf, ↓selV_true, ↓selV_false, ↓selV_and, ↓impB_true, ↓impB_false, ↓impB_and, ↓prim_pick, ↓selV_nn, ↓impB_nn, doOp, get, ins, del, dels, Nat.reduceLT, Nat.reduceEqDiff, ↓reduceIte, reduceCtorEq, ne_eq, implies_true, prim, YLD, mkA, V.cells, Nat.reduceAdd, Nat.reduceSub, Nat.reduceMul, Nat.reduceLeDiff, loadA, cellsAt, nAg, packA, List.drop, List.take, List.head?, binA, unA, eqCells, eqCell, negB, fillA, storeA, Ob.with, indexedI, V.oneCell, intOf?, resA, resA1, packR, sealDepth, Int.reduceLT, Int.reduceLE, Int.reduceToNat, Int.reduceNeg, Int.reduceAdd, Int.reduceSub, Int.reduceMul, cond_true, cond_false, Int.reduceBNe, Int.reduceBEq, eq_self, deads, List.replicate, argsF, am13, app_get0, app_get, app_set0, app_set, e9', c28, oa9, c1, ql, hg, d9, s9, e0', kb, xl, s4, hdm, oa0, e1', oa1, c2, hWl]
    obtain ⟨j, hj, hjk, hjn, hdel, hdl⟩ := find_at h.ok.inc hf
    have row1 : IRow h1 W (s.L.map Lt.num) R := n0.row.keep fun o ho => by rw [e1, List.getElem?_set_ne (fun e => h.nm (by rw [e]; exact ho))]
    have l1 : h1.length = H.length + 2 := by rw [e1]; simp; omega
    have hlen := h.ok.len
    refine sx_loop (fun i t H' => t = Am.fr 57 [(0, .ptr a 1 0), (1, .int .i64 k), (4, .ptr H.length 1 0), (6, .ptr (H.length + 1) 1 0), (34, W), (35, .int .i64 s.L.length), (36, .int .i64 i)] ∧ H' = h1 ∧ i ≤ j) j (by show j < N; omega) ⟨rfl, rfl, Nat.zero_le _⟩ ?_
    rintro i t H' - ⟨rfl, rfl, hij⟩
    have g1 : decide ((i : Int) < (s.L.length : Int)) = true := decide_eq_true (by omega)
    have w1 : IntKind.i64.wrap ((i : Int) + 1) = ((i + 1 : Nat) : Int) := (wrap64 (by omega) (by omega)).trans (by omega)
    by_cases hlt : i < j
    · have hil : i < (s.L.map Lt.num).length := by simp; omega
      have hib : (s.L.map Lt.num)[i]? = some (s.L.map Lt.num)[i] := List.getElem?_eq_getElem hil
      have hne := hjn i hlt
      generalize (s.L.map Lt.num)[i] = b at hib
      obtain ⟨o', ver', off', c', a1, a2, a3, a4⟩ := row1.at_ hib
      have gb : (b == k) = false := by
        rw [beq_eq_false_iff_ne]
        intro e
        subst e
        exact hne hib
      have hi1 : i + 1 ≤ j := by omega
      simp +contextual -implicitDefEqProofs (maxSteps := 10000000) only [sxb, plainD, stays, ↓selV_wt, ↓selV_wf, ↓impB_wt, ↓impB_wf, ↓selV_nor, ↓impB_nor, ↓selV_nt, ↓selV_nf, ↓impB_nt, ↓impB_nf, ↓selV_true, ↓selV_false, ↓selV_and, ↓impB_true, ↓impB_false, ↓impB_and, ↓prim_pick, ↓selV_nn, ↓impB_nn, doOp, get, ins, del, dels, Nat.reduceLT, Nat.reduceEqDiff, ↓reduceIte, reduceCtorEq, ne_eq, implies_true, prim, YLD, mkA, V.cells, Nat.reduceAdd, Nat.reduceSub, Nat.reduceMul, Nat.reduceLeDiff, loadA, cellsAt, nAg, packA, List.drop, List.take, List.head?, binA, unA, eqCells, eqCell, negB, fillA, storeA, Ob.with, indexedI, V.oneCell, intOf?, resA, resA1, packR, sealDepth, Int.reduceLT, Int.reduceLE, Int.reduceToNat, Int.reduceNeg, Int.reduceAdd, Int.reduceSub, Int.reduceMul, cond_true, cond_false, Int.reduceBNe, Int.reduceBEq, eq_self, deads, List.replicate, argsF, g1, a1, a2, a3, a4, gb, w1, hi1, hlt]
    · have hij' : i = j := by omega
      subst hij'
      obtain ⟨o', ver', off', c', a1, a2, a3, a4⟩ := row1.at_ hjk
      have gb : (k == k) = true := by simp
      obtain ⟨W', H2, c30, l2, row2, k2⟩ := @delete_spec N n (by omega) _ _ _ _ row1 (i := i) (by simp; omega) (by simp; omega)
      have oa2 : H2[a]? = some ⟨1, .var Z⟩ := by rw [k2 a (by omega) h.na]; exact oa1
      have hRl : ∀ o ∈ R, o < H.length := h.row.lt
      have x2 : H2[H.length + 1]? = some ⟨1, .var X⟩ := by
        rw [k2 _ (by omega) (fun e => by have := hRl _ e; omega), e1, List.getElem?_set_ne (by omega), e0, app_get]; rfl
      have z2 : H2[H.length]? = some ⟨1, .var zL⟩ := by
        rw [k2 _ (by omega) (fun e => by have := hRl _ e; omega), e1, List.getElem?_set_ne (by omega), e0, app_get0]; rfl
      have al2 : a < H2.length := by omega
      have bl2 : H.length < H2.length := by omega
      have s2 : setRange Z 2 [W'] = s.cs m W' := by rw [← hZ]; rfl
      have ql2 := @cs_len s m W'
      have nab : a ≠ H.length := by omega
      have nab1 : a ≠ H.length + 1 := by omega
      obtain ⟨u1, u2, u3, u4, u5, u6⟩ := row2.shape
      have tk : List.take 4 X = X := by rw [← hX]; rfl
      have nb1 : H.length ≠ H.length + 1 := by omega
      generalize hZ' : s.cs m W' = Z' at *
      simp +contextual -implicitDefEqProofs (maxSteps := 10000000) only [sxb, plainD, stays, ↓selV_wt, ↓selV_wf, ↓impB_wt, ↓impB_wf, ↓selV_nor, ↓impB_nor, ↓selV_nt, ↓selV_nf, ↓impB_nt, ↓impB_nf, ↓selV_true, ↓selV_false, ↓selV_and, ↓impB_true, ↓impB_false, ↓impB_and, ↓prim_pick, ↓selV_nn, ↓impB_nn, doOp, get, ins, del, dels, Nat.reduceLT, Nat.reduceEqDiff, ↓reduceIte, reduceCtorEq, ne_eq, implies_true, prim, YLD, mkA, V.cells, Nat.reduceAdd, Nat.reduceSub, Nat.reduceMul, Nat.reduceLeDiff, loadA, cellsAt, nAg, packA, List.drop, List.take, List.head?, binA, unA, eqCells, eqCell, negB, fillA, storeA, Ob.with, indexedI, V.oneCell, intOf?, resA, resA1, packR, sealDepth, Int.reduceLT, Int.reduceLE, Int.reduceToNat, Int.reduceNeg, Int.reduceAdd, Int.reduceSub, Int.reduceMul, cond_true, cond_false, Int.reduceBNe, Int.reduceBEq, eq_self, deads, List.replicate, argsF, g1, a1, a2, a3, a4, gb, w1, c30, oa1, oa2, c2, ql, s2, ql2, u1, u2, List.getElem?_set_self, List.getElem?_set_ne, List.length_set, al2, bl2, nab, nab1, x2, z2, tk, xl, kb, s4, nb1]
      have nm : (s.del k).L.map Lt.num = (s.L.map Lt.num).eraseIdx i := hdel
      have fa : ∀ p, p ≠ a → p ≠ H.length → ((H2.set a ⟨1, .var Z'⟩).set H.length ⟨1, .var X⟩)[p]? = H2[p]? := fun p h1 h2 => by
        rw [List.getElem?_set_ne (Ne.symm h2), List.getElem?_set_ne (Ne.symm h1)]
      have m2 : H2[m]? = some ⟨1, .map ((s.L.filter (fun x => !(k == x.num))).map Lt.e)⟩ := by
        rw [k2 m (by omega) h.nm, e1, List.getElem?_set_self (by omega)]
      refine .inl ⟨x, rfl, by rw [hX], W', ⟨h.ok.del k, ?_, ?_, ?_, h.ne, h.na, h.nm⟩, ⟨by simp; omega, fun p hp h1 h2 h3 => ?_, fun o ho => .inl ho⟩⟩
      · rw [List.getElem?_set_ne (Ne.symm nab), List.getElem?_set_self al2, ← hZ']
        rfl
      · rw [fa m (Ne.symm h.ne) (by omega), m2]
        rfl
      · rw [nm]
        refine row2.keep fun o ho => fa o (fun e => h.na (by rw [← e]; exact ho)) (by have := hRl o ho; omega)
      · rw [fa p h1 (by omega), k2 p (by omega) h3, e1, List.getElem?_set_ne (Ne.symm h2), e0, List.getElem?_append_left hp]
end Go.Am.T


set_option linter.unusedVariables false
set_option linter.unusedSimpArgs false
set_option linter.unusedSectionVars false
set_option maxRecDepth 10000
namespace Go.Am.T
attribute [local congr] selV_congr impB_congr
theorem am15_wp {N n : Nat} {args : List V} {h : Heap} {C : V → Heap → Prop} (ha : args.length = 2) (H : sx ⟨pureOf am, callA am N n, N, h.length⟩ am15.body (fr am15.nt (argsF 0 args)) (h ++ deads am15.sites) (retQ am15.res C)) : ∃ v h', callA am N (n + 1) 15 args h = some (v, h') ∧ C v h' :=
  call_keep at15 rfl ha (by decide) (sx_wp H)
theorem drop_spec {N n : Nat} (hN : 3000 ≤ N) (hn : 4 ≤ n) {H : Heap} {a m : Nat} {W : V} {R : List Nat} {s : Nt} (h : NetAt H a m W R s) (k : Int) :
    ∃ v' H', callA am N n 15 [.ptr a 1 0, .int .i64 k] H = some (v', H') ∧
      ((∃ x, s.L.find? (fun x => k == x.num) = some x ∧ v' = .int .i64 0 ∧ ∃ W', NetAt H' a m W' R (s.del k) ∧ Beyond H H' a m R R) ∨
       (s.L.find? (fun x => k == x.num) = none ∧ v' = .int .i64 6 ∧ NetAt H' a m W R s ∧ Beyond H H' a m R R)) := by
  obtain ⟨n, rfl⟩ : ∃ m, n = m + 1 := ⟨n - 1, by omega⟩
  obtain ⟨h0, e0⟩ : ∃ h0, h0 = H ++ [(⟨0, .dead⟩ : Ob)] := ⟨_, rfl⟩
  have h1 : NetAt h0 a m W R s := by rw [e0]; exact h.app _
  have B0 : Beyond H h0 a m R R := by rw [e0]; exact .refl _
  have e0' := e0.symm
  have hal := h.lta
  have hml := h.ltm
  have hRl : ∀ o ∈ R, o < H.length := h.row.lt
  have d0 : h0[H.length]? = some ⟨0, .dead⟩ := by rw [e0, app_get0]; rfl
  have l0 : h0.length = H.length + 1 := by rw [e0]; simp
  have nR : H.length ∉ R := fun e => by have := hRl _ e; omega
  obtain ⟨v', H', c13, hc⟩ := @deliver_spec N n hN (by omega) _ _ _ _ _ _ h1 k
  have fin : ∀ {W' : V} {s' : Nt} (X : List V), NetAt H' a m W' R s' → Beyond h0 H' a m R R → NetAt (H'.set H.length ⟨1, .var X⟩) a m W' R s' ∧ Beyond H (H'.set H.length ⟨1, .var X⟩) a m R R := by
    intro W' s' X q1 q2
    have q3 : Beyond H H' a m R R := by
      have q2' := q2
      rw [e0] at q2'
      exact q2'.app
    refine ⟨q1.set _ (by omega) (by omega) nR, ⟨by rw [List.length_set]; exact q3.len, fun o ho g1 g2 g3 => by rw [List.getElem?_set_ne (by omega)]; exact q3.oth o ho g1 g2 g3, q3.new⟩⟩
  have x0 : Beyond h0 H' a m R R → H'[H.length]? = some ⟨0, .dead⟩ ∧ H.length < H'.length := fun q => ⟨by rw [q.oth _ (by omega) (by omega) (by omega) nR]; exact d0, by have := q.len; omega⟩
  have z4 : zL.length = 4 := rfl
  refine am15_wp rfl ?_
  rcases hc with ⟨x, hx, rfl, W', q1, q2⟩ | ⟨hx, rfl, q1, q2⟩
  · have hl := x.cs_len
    have kb := Lt.one (h.ok.ok x (List.mem_of_find?_eq_some hx)).1
    obtain ⟨x1, x2⟩ := x0 q2
    have f := fin x.cs q1 q2
    have s4 : setRange zL 0 x.cs = x.cs := sr_all (by rw [hl]; rfl)
    generalize x.cs = X at *
    simp +contextual -implicitDefEqProofs (maxSteps := 10000000) only [sxb, plainD, stays, ↓selV_wt, ↓selV_wf, ↓impB_wt, ↓impB_wf, ↓selV_nor, ↓impB_nor, ↓selV_nt, ↓selV_nf, ↓impB_nt, ↓impB_nf, ↓selV_true, ↓selV_false, ↓selV_and, ↓impB_true, ↓impB_false, ↓impB_and, ↓prim_pick, ↓selV_nn, ↓impB_nn, doOp, get, ins, del, dels, Nat.reduceLT, Nat.reduceEqDiff, ↓reduceIte, reduceCtorEq, ne_eq, implies_true, prim, YLD, mkA, V.cells, Nat.reduceAdd, Nat.reduceSub, Nat.reduceMul, Nat.reduceLeDiff, loadA, cellsAt, nAg, packA, List.drop, List.take, List.head?, binA, unA, eqCells, eqCell, negB, fillA, storeA, Ob.with, indexedI, V.oneCell, intOf?, resA, resA1, packR, sealDepth, Int.reduceLT, Int.reduceLE, Int.reduceToNat, Int.reduceNeg, Int.reduceAdd, Int.reduceSub, Int.reduceMul, cond_true, cond_false, Int.reduceBNe, Int.reduceBEq, eq_self, deads, List.replicate, argsF, am15, e0', c13, x1, List.getElem?_set_self, List.length_set, x2, List.set_set, kb, hl, s4, z4]
    exact .inl ⟨x, hx, W', f⟩
  · obtain ⟨x1, x2⟩ := x0 q2
    have f := fin zL q1 q2
    have kb : zL.all V.oneCell = true := rfl
    have s4 : setRange zL 0 zL = zL := rfl
    generalize zL = X at *
    simp +contextual -implicitDefEqProofs (maxSteps := 10000000) only [sxb, plainD, stays, ↓selV_wt, ↓selV_wf, ↓impB_wt, ↓impB_wf, ↓selV_nor, ↓impB_nor, ↓selV_nt, ↓selV_nf, ↓impB_nt, ↓impB_nf, ↓selV_true, ↓selV_false, ↓selV_and, ↓impB_true, ↓impB_false, ↓impB_and, ↓prim_pick, ↓selV_nn, ↓impB_nn, doOp, get, ins, del, dels, Nat.reduceLT, Nat.reduceEqDiff, ↓reduceIte, reduceCtorEq, ne_eq, implies_true, prim, YLD, mkA, V.cells, Nat.reduceAdd, Nat.reduceSub, Nat.reduceMul, Nat.reduceLeDiff, loadA, cellsAt, nAg, packA, List.drop, List.take, List.head?, binA, unA, eqCells, eqCell, negB, fillA, storeA, Ob.with, indexedI, V.oneCell, intOf?, resA, resA1, packR, sealDepth, Int.reduceLT, Int.reduceLE, Int.reduceToNat, Int.reduceNeg, Int.reduceAdd, Int.reduceSub, Int.reduceMul, cond_true, cond_false, Int.reduceBNe, Int.reduceBEq, eq_self, deads, List.replicate, argsF, am15, e0', c13, x1, List.getElem?_set_self, List.length_set, x2, List.set_set, kb, z4, s4]
    exact .inr ⟨hx, f⟩
theorem mapM_u8 {f : V → Option UInt8} (hf : ∀ n, f (.int .u8 n) = some (UInt8.ofNat n.toNat)) : ∀ l : List Int, (l.map (V.int .u8)).mapM f = some (l.map fun n => UInt8.ofNat n.toNat)
  | [] => rfl
  | x :: l => by rw [List.map_cons, List.mapM_cons, mapM_u8 hf l, hf]; rfl
theorem same_true {N n : Nat} (hn : 1 ≤ n) {x y : Lt} (hx : By x.l x.b) (hy : By y.l y.b) (h1 : x.num = y.num) (h2 : x.fr = y.fr) (h3 : x.to = y.to) (h4 : x.l = y.l) (h : Heap) : callA am N n 14 [.agg x.cs, .agg y.cs] h = some (.bool true, h) := by
  obtain ⟨n, rfl⟩ : ∃ m, n = m + 1 := ⟨n - 1, by omega⟩
  have hf : (V.agg x.cs).free = true := Lt.free hx
  have hg : (V.agg y.cs).free = true := Lt.free hy
  have hs : [V.agg x.cs, V.agg y.cs].mapM (V.shut (fun o => h[o]?) sealDepth) = some [V.agg x.cs, V.agg y.cs] := by
    have p1 : V.shut (fun o => h[o]?) sealDepth (.agg x.cs) = some (.agg x.cs) := shut_plain (d := 63) hf
    have p2 : V.shut (fun o => h[o]?) sealDepth (.agg y.cs) = some (.agg y.cs) := shut_plain (d := 63) hg
    rw [List.mapM_cons, List.mapM_cons, p1, p2]; rfl
  obtain ⟨n1, f1, t1, b1, l1⟩ := x
  obtain ⟨n2, f2, t2, b2, l2⟩ := y
  simp only at hx hy h1 h2 h3 h4
  subst h1 h2 h3 h4
  refine call_look at14 rfl rfl (by decide) hs (sx_wp ?_)
  have e1 := hx.len
  have e2 := hy.len
  have q1 := hx.first
  have q2 := hy.first
  have k1 := hx.one
  have k2 := hy.one
  have k3 := hx.cells
  have k4 := hy.cells
  have k5 := hx.nstr
  have k6 := hy.nstr
  unfold Lt.cs
  simp +contextual -implicitDefEqProofs (maxSteps := 10000000) only [sxb, plainD, stays, ↓selV_wt, ↓selV_wf, ↓impB_wt, ↓impB_wf, ↓selV_nor, ↓impB_nor, ↓selV_nt, ↓selV_nf, ↓impB_nt, ↓impB_nf, ↓selV_true, ↓selV_false, ↓selV_and, ↓impB_true, ↓impB_false, ↓impB_and, ↓prim_pick, ↓selV_nn, ↓impB_nn, doOp, get, ins, del, dels, Nat.reduceLT, Nat.reduceEqDiff, ↓reduceIte, reduceCtorEq, ne_eq, implies_true, prim, YLD, mkA, V.cells, Nat.reduceAdd, Nat.reduceSub, Nat.reduceMul, Nat.reduceLeDiff, loadA, cellsAt, nAg, packA, List.drop, List.take, List.head?, binA, unA, eqCells, eqCell, negB, fillA, storeA, Ob.with, indexedI, V.oneCell, intOf?, resA, resA1, packR, sealDepth, Int.reduceLT, Int.reduceLE, Int.reduceToNat, Int.reduceNeg, Int.reduceAdd, Int.reduceSub, Int.reduceMul, cond_true, cond_false, Int.reduceBNe, Int.reduceBEq, eq_self, deads, List.replicate, argsF, am14, e1, e2, Option.bind_some, q1, q2, k1, k2, mapM_u8, implies_true, Option.map_some, beq_self_eq_true, plain_bool]
theorem known_spec {N n : Nat} (hN : 5000 ≤ N) (hn : 20 ≤ n) (h : Heap) : callA am N n 7 [] h = some (.bool true, h) :=
  closed_quick pm7 (show callB am 5000 20 7 [] [] = some (.bool true, []) by kernel_rfl) hN hn h
end Go.Am.T


set_option linter.unusedVariables false
set_option linter.unusedSimpArgs false
set_option linter.unusedSectionVars false
set_option maxRecDepth 10000
namespace Go.Am.T
attribute [local congr] selV_congr impB_congr
structure Stp where
  kind : Int
  a : Int
  b : Int
  n : Int
  l : List Int
  body : V
  ok : By l body
def Stp.cs (x : Stp) : List V := [.int .i64 x.kind, .int .i64 x.a, .int .i64 x.b, .int .i64 x.n, x.body]
def len9 (s : Stp) : Int := if (9000 : Int) < (s.l.length : Int) then 9000 else (s.l.length : Int)
def muchN (X : List Stp) : Nat → Int
  | 0 => 0
  | i + 1 => muchN X i + (match X[i]? with | some s => len9 s | none => 0)
theorem muchN_bound (X : List Stp) : ∀ i : Nat, 0 ≤ muchN X i ∧ muchN X i ≤ 9000 * (i : Int)
  | 0 => ⟨Int.le_refl _, by simp [muchN]⟩
  | i + 1 => by
    obtain ⟨h1, h2⟩ := muchN_bound X i
    have h3 : 0 ≤ (match X[i]? with | some s => len9 s | none => 0) ∧ (match X[i]? with | some s => len9 s | none => 0) ≤ 9000 := by
      cases X[i]? with
      | none => exact ⟨Int.le_refl _, by decide⟩
      | some s =>
        simp only [len9]
        split <;> omega
    simp only [muchN]
    omega
def muchB (X : List Stp) : Bool := decide (muchN X (min X.length 100) > 60000)
theorem stp_len (x : Stp) : x.cs.length = 5 := rfl
set_option maxHeartbeats 1000000 in
theorem much_spec {N n : Nat} (hN : 200 ≤ N) (hn : 1 ≤ n) {x : V} {X : List Stp} (hx : IsL x 5 (X.map Stp.cs)) (H : Heap) : callA am N n 8 [x] H = some (.bool (muchB X), H) := by
  obtain ⟨n, rfl⟩ : ∃ m, n = m + 1 := ⟨n - 1, by omega⟩
  have lx := hx.len
  rw [List.length_map] at lx
  have nx := hx.nstr
  have f1 : V.shut (fun o => H[o]?) sealDepth x = some x := shut_plain (d := 63) hx.free
  refine call_look at8 rfl rfl (by decide) (args' := [x]) (by rw [List.mapM_cons, f1]; rfl) (sx_wp ?_)
  simp +contextual -implicitDefEqProofs (maxSteps := 10000000) only [sxb, plainD, stays, ↓selV_wt, ↓selV_wf, ↓impB_wt, ↓impB_wf, ↓selV_nor, ↓impB_nor, ↓selV_nt, ↓selV_nf, ↓impB_nt, ↓impB_nf, ↓selV_true, ↓selV_false, ↓selV_and, ↓impB_true, ↓impB_false, ↓impB_and, ↓prim_pick, ↓selV_nn, ↓impB_nn, doOp, get, ins, del, dels, Nat.reduceLT, Nat.reduceEqDiff, ↓reduceIte, reduceCtorEq, ne_eq, implies_true, prim, YLD, mkA, V.cells, Nat.reduceAdd, Nat.reduceSub, Nat.reduceMul, Nat.reduceLeDiff, loadA, cellsAt, nAg, packA, List.drop, List.take, List.head?, binA, unA, eqCells, eqCell, negB, fillA, storeA, Ob.with, indexedI, V.oneCell, intOf?, resA, resA1, packR, sealDepth, Int.reduceLT, Int.reduceLE, Int.reduceToNat, Int.reduceNeg, Int.reduceAdd, Int.reduceSub, Int.reduceMul, cond_true, cond_false, Int.reduceBNe, Int.reduceBEq, eq_self, deads, List.replicate, argsF, am8, isNil]
  refine sx_loop (fun i t k => i ≤ X.length ∧ i ≤ 100 ∧ k = [] ∧ t = fr 26 [(0, x), (3, .int .i64 (muchN X i)), (4, .int .i64 i)]) 100 (by show 100 < N; omega) ⟨Nat.zero_le _, Nat.zero_le _, rfl, rfl⟩ ?_
  rintro i t k hi ⟨hi1, hi2, rfl, rfl⟩
  obtain ⟨b1, b2⟩ := muchN_bound X i
  by_cases h1 : i < X.length
  · have g1 : decide ((i : Int) < (X.length : Int)) = true := decide_eq_true (by omega)
    by_cases h2 : i < 100
    · have g2 : decide ((i : Int) < 100) = true := decide_eq_true (by omega)
      have w4 : IntKind.i64.wrap ((i : Int) + 1) = ((i + 1 : Nat) : Int) := (wrap64 (by omega) (by omega)).trans (by omega)
      have hx1 : X[i]? = some X[i] := List.getElem?_eq_getElem h1
      have hat := hx.at_ i
      rw [List.getElem?_map, hx1] at hat
      simp only [Option.map_some] at hat
      have hsucc : muchN X (i + 1) = muchN X i + len9 X[i] := by simp only [muchN, hx1]
      obtain ⟨c1, c2⟩ := muchN_bound X (i + 1)
      have hC := stp_len X[i]
      have c5 : List.take 1 (List.drop 4 X[i].cs) = [X[i].body] := rfl
      have lv := X[i].ok.len
      have ln := X[i].ok.nstr
      have mm : mmA false (.int .i64 (X[i].l.length : Int)) (.int .i64 9000) = some (.int .i64 (len9 X[i])) := rfl
      have wm : IntKind.i64.wrap (muchN X i + len9 X[i]) = muchN X (i + 1) := by rw [← hsucc]; exact wrap64 (by omega) (by omega)
      have hi3 : i + 1 ≤ X.length := by omega
      have hi4 : i + 1 ≤ 100 := by omega
      generalize X[i].cs = C at *
      generalize len9 X[i] = l9 at *
      simp +contextual -implicitDefEqProofs (maxSteps := 10000000) only [sxb, plainD, stays, ↓selV_wt, ↓selV_wf, ↓impB_wt, ↓impB_wf, ↓selV_nor, ↓impB_nor, ↓selV_nt, ↓selV_nf, ↓impB_nt, ↓impB_nf, ↓selV_true, ↓selV_false, ↓selV_and, ↓impB_true, ↓impB_false, ↓impB_and, ↓prim_pick, ↓selV_nn, ↓impB_nn, doOp, get, ins, del, dels, Nat.reduceLT, Nat.reduceEqDiff, ↓reduceIte, reduceCtorEq, ne_eq, implies_true, prim, YLD, mkA, V.cells, Nat.reduceAdd, Nat.reduceSub, Nat.reduceMul, Nat.reduceLeDiff, loadA, cellsAt, nAg, packA, List.drop, List.take, List.head?, binA, unA, eqCells, eqCell, negB, fillA, storeA, Ob.with, indexedI, V.oneCell, intOf?, resA, resA1, packR, sealDepth, Int.reduceLT, Int.reduceLE, Int.reduceToNat, Int.reduceNeg, Int.reduceAdd, Int.reduceSub, Int.reduceMul, cond_true, cond_false, Int.reduceBNe, Int.reduceBEq, eq_self, deads, List.replicate, argsF, lx, g1, g2, hat, hC, c5, lv, mm, wm, w4, hi3, hi4, h2, List.foldlM_cons, List.foldlM_nil, List.map_cons, List.map_nil, Option.bind_eq_bind, Option.pure_def, Option.bind_some]
    · have e : i = 100 := by omega
      subst e
      have g2 : decide (((100 : Nat) : Int) < 100) = false := rfl
      have eB : muchB X = decide (muchN X 100 > 60000) := by rw [muchB, Nat.min_eq_right (by omega)]
      rw [eB]
      simp +contextual -implicitDefEqProofs (maxSteps := 10000000) only [sxb, plainD, stays, ↓selV_wt, ↓selV_wf, ↓impB_wt, ↓impB_wf, ↓selV_nor, ↓impB_nor, ↓selV_nt, ↓selV_nf, ↓impB_nt, ↓impB_nf, ↓selV_true, ↓selV_false, ↓selV_and, ↓impB_true, ↓impB_false, ↓impB_and, ↓prim_pick, ↓selV_nn, ↓impB_nn, doOp, get, ins, del, dels, Nat.reduceLT, Nat.reduceEqDiff, ↓reduceIte, reduceCtorEq, ne_eq, implies_true, prim, YLD, mkA, V.cells, Nat.reduceAdd, Nat.reduceSub, Nat.reduceMul, Nat.reduceLeDiff, loadA, cellsAt, nAg, packA, List.drop, List.take, List.head?, binA, unA, eqCells, eqCell, negB, fillA, storeA, Ob.with, indexedI, V.oneCell, intOf?, resA, resA1, packR, sealDepth, Int.reduceLT, Int.reduceLE, Int.reduceToNat, Int.reduceNeg, Int.reduceAdd, Int.reduceSub, Int.reduceMul, cond_true, cond_false, Int.reduceBNe, Int.reduceBEq, eq_self, deads, List.replicate, argsF, lx, g1, g2, plain_bool]
  · have e : i = X.length := by omega
    subst e
    have g1 : decide ((X.length : Int) < (X.length : Int)) = false := decide_eq_false (by omega)
    have eB : muchB X = decide (muchN X X.length > 60000) := by rw [muchB, Nat.min_eq_left (by omega)]
    rw [eB]
    simp +contextual -implicitDefEqProofs (maxSteps := 10000000) only [sxb, plainD, stays, ↓selV_wt, ↓selV_wf, ↓impB_wt, ↓impB_wf, ↓selV_nor, ↓impB_nor, ↓selV_nt, ↓selV_nf, ↓impB_nt, ↓impB_nf, ↓selV_true, ↓selV_false, ↓selV_and, ↓impB_true, ↓impB_false, ↓impB_and, ↓prim_pick, ↓selV_nn, ↓impB_nn, doOp, get, ins, del, dels, Nat.reduceLT, Nat.reduceEqDiff, ↓reduceIte, reduceCtorEq, ne_eq, implies_true, prim, YLD, mkA, V.cells, Nat.reduceAdd, Nat.reduceSub, Nat.reduceMul, Nat.reduceLeDiff, loadA, cellsAt, nAg, packA, List.drop, List.take, List.head?, binA, unA, eqCells, eqCell, negB, fillA, storeA, Ob.with, indexedI, V.oneCell, intOf?, resA, resA1, packR, sealDepth, Int.reduceLT, Int.reduceLE, Int.reduceToNat, Int.reduceNeg, Int.reduceAdd, Int.reduceSub, Int.reduceMul, cond_true, cond_false, Int.reduceBNe, Int.reduceBEq, eq_self, deads, List.replicate, argsF, lx, g1, plain_bool]
def SRow (H : Heap) (W : V) (S : List Lt) (R : List Nat) : Prop :=
  (S = [] ∧ W = .nils ∧ R = []) ∨ ∃ o ver, R = [o] ∧ W = .view o ver 0 S.length 4 none ∧ H[o]? = some ⟨ver, .arr (S.map Lt.cs).flatten⟩
theorem SRow.keep {H H' : Heap} {W : V} {l : List Lt} {R : List Nat} (h : SRow H W l R) (hk : ∀ o ∈ R, H'[o]? = H[o]?) : SRow H' W l R := by
  rcases h with h | ⟨o, ver, rfl, hw, ho⟩
  · exact .inl h
  · exact .inr ⟨o, ver, rfl, hw, by rw [hk o (by simp)]; exact ho⟩
theorem SRow.lt {H : Heap} {W : V} {l : List Lt} {R : List Nat} (h : SRow H W l R) : ∀ o ∈ R, o < H.length := by
  rcases h with ⟨-, -, rfl⟩ | ⟨o, ver, rfl, hw, ho⟩
  · intro o ho; cases ho
  · intro o' h'
    obtain rfl : o' = o := by simpa using h'
    exact lt_of_get ho
theorem SRow.len {H : Heap} {W : V} {l : List Lt} {R : List Nat} (h : SRow H W l R) : lenA W = some l.length := by
  rcases h with ⟨rfl, rfl, -⟩ | ⟨o, ver, rfl, rfl, ho⟩ <;> rfl
theorem SRow.shape {H : Heap} {W : V} {l : List Lt} {R : List Nat} (h : SRow H W l R) : W.cells = [W] ∧ W.oneCell = true ∧ (∀ s, W ≠ .str s) ∧ (∀ s, W ≠ .agg s) ∧ (∀ s, W ≠ .tup s) ∧ W ≠ .junk := by
  rcases h with ⟨rfl, rfl, -⟩ | ⟨o, ver, rfl, rfl, ho⟩ <;> exact ⟨rfl, rfl, fun _ => V.noConfusion, fun _ => V.noConfusion, fun _ => V.noConfusion, V.noConfusion⟩
theorem lts_len (S : List Lt) : ((S.map Lt.cs).flatten).length = S.length * 4 := by
  have := flat_length (s := 4) (cs := S.map Lt.cs) (fun c hc => by obtain ⟨x, -, rfl⟩ := List.mem_map.1 hc; rfl)
  rw [this, List.length_map]
theorem SRow.append {H : Heap} {W : V} {S : List Lt} {R : List Nat} {o0 : Nat} {x0 : Ob} {x : Lt} (h : SRow H W S R) (h0 : H[o0]? = some x0) (hb : By x.l x.b) (hL : S.length ≤ 100000) :
    ∃ o1 y W', appendA (fun o => H[o]?) o0 4 48 W (.sl [.agg x.cs] 4 (some 1)) = some (.set o1 y W') ∧ SRow (H.set o1 y) W' (S ++ [x]) [o1] ∧ (o1 = o0 ∨ o1 ∈ R) ∧ o1 < H.length := by
  have hl1 : lenA (.sl [.agg x.cs] 4 (some 1)) = some 1 := rfl
  have hf1 : firstA (fun o => H[o]?) 4 1 (.sl [.agg x.cs] 4 (some 1)) = some x.cs := by rw [firstA_sl1]; rfl
  have ha1 := Lt.one hb
  have hx4 := x.cs_len
  rcases h with ⟨rfl, rfl, rfl⟩ | ⟨o, ver, rfl, rfl, ho⟩
  · refine ⟨o0, ⟨x0.ver + 1, .arr x.cs⟩, .view o0 (x0.ver + 1) 0 1 4 none, ?_, .inr ⟨o0, x0.ver + 1, rfl, rfl, ?_⟩, .inl rfl, lt_of_get h0⟩
    · unfold appendA
      simp [hl1, hf1, ha1, mkA, h0, maxBytes]
    · rw [List.getElem?_set_self (lt_of_get h0)]; simp
  · refine ⟨o, ⟨ver + 1, .arr ((S.map Lt.cs).flatten ++ x.cs)⟩, .view o (ver + 1) 0 (S.length + 1) 4 none, ?_, .inr ⟨o, ver + 1, rfl, by simp, ?_⟩, .inr (by simp), lt_of_get ho⟩
    · have : (S.length + 1) * 48 ≤ maxBytes := by unfold maxBytes; omega
      have hll := lts_len S
      generalize (S.map Lt.cs).flatten = C at *
      unfold appendA
      simp [hl1, hf1, ha1, cellsAt, ho, this, hll]
    · rw [List.getElem?_set_self (lt_of_get ho)]; simp
theorem SRow.at_ {H : Heap} {W : V} {S : List Lt} {R : List Nat} (h : SRow H W S R) {i : Nat} {x : Lt} (hi : S[i]? = some x) :
    ∃ o ver off c, iaddrSA 4 W (.int .i64 i) = some (.ret (.ptr o ver off)) ∧ H[o]? = some ⟨ver, .arr c⟩ ∧ off + 4 ≤ c.length ∧ List.take 4 (List.drop off c) = x.cs := by
  have hlt := (List.getElem?_eq_some_iff.1 hi).1
  rcases h with ⟨rfl, rfl, rfl⟩ | ⟨o, ver, rfl, rfl, ho⟩
  · simp at hi
  · refine ⟨o, ver, 0 + i * 4, _, ?_, ho, by rw [lts_len]; omega, ?_⟩
    · simp [iaddrSA, indexedI, hlt]
    · have := flat_at (s := 4) (cs := S.map Lt.cs) (rest := []) (i := i) (c := x.cs) (fun c hc => by obtain ⟨x, -, rfl⟩ := List.mem_map.1 hc; rfl) (by rw [List.getElem?_map, hi]; rfl)
      rw [List.append_nil] at this
      rw [Nat.zero_add, this]
end Go.Am.T


set_option linter.unusedVariables false
set_option linter.unusedSimpArgs false
namespace Go.Am
variable {P : Program}
mutual
def bulkD {H : Type} : DataW H → Nat
  | .lit (.string bytes) => bytes.length + 1
  | .lit _ => 1
  | .nil => 1
  | .ptr d => bulkD d + 1
  | .slice elems spare => bulkAllD elems + bulkAllD spare + 1
  | .agg parts => bulkAllD parts + 1
  | .iface _ d => bulkD d + 1
  | .map entries => bulkEntriesD entries + 1
  | .held _ => 1
def bulkAllD {H : Type} : List (DataW H) → Nat
  | [] => 0
  | d :: r => bulkD d + bulkAllD r
def bulkEntriesD {H : Type} : List (Lit × DataW H) → Nat
  | [] => 0
  | x :: r => bulkEntryD x + bulkEntriesD r
def bulkEntryD {H : Type} : Lit × DataW H → Nat
  | (.string bytes, d) => bytes.length + bulkD d + 1
  | (_, d) => bulkD d + 1
end
theorem bulk_one {H : Type} (d : DataW H) : 1 ≤ bulkD d := by
  cases d with
  | lit l => cases l <;> simp [bulkD]
  | nil => simp [bulkD]
  | ptr d => simp [bulkD]
  | slice elems spare => simp [bulkD]
  | agg parts => simp [bulkD]
  | iface t d => simp [bulkD]
  | map entries => simp [bulkD]
  | held h => simp [bulkD]
theorem bulk_part {H : Type} {d : DataW H} {l : List (DataW H)} (h : d ∈ l) : bulkD d ≤ bulkAllD l := by
  induction l with
  | nil => cases h
  | cons x r ih =>
    simp only [bulkAllD]
    rcases List.mem_cons.1 h with e | e
    · subst e; omega
    · have := ih e; omega
theorem bulk_length {H : Type} (l : List (DataW H)) : l.length ≤ bulkAllD l := by
  induction l with
  | nil => simp [bulkAllD]
  | cons x r ih => have := bulk_one x; simp only [bulkAllD, List.length_cons]; omega
def InShM (M : Nat) : Sh → List V → Prop
  | .int k, vs => ∃ n, vs = [.int k n] ∧ (Lit.int k n).wf = true
  | .bool, vs => ∃ b, vs = [.bool b]
  | .str, vs => ∃ s, vs = [.str s] ∧ s.length ≤ maxLen
  | .unit, vs => vs = []
  | .pair a b, vs => ∃ u v, vs = u ++ v ∧ InShM M a u ∧ InShM M b v
  | .arr n e, vs => ∃ us : List (List V), us.length = n ∧ vs = us.flatten ∧ ∀ u ∈ us, InShM M e u
  | .sl ag s e, vs => vs = [.nils] ∨ ∃ (us : List (List V)) (c : Nat), vs = [.sl (us.map (elemV ag)) s (some c)] ∧ us.length ≤ c ∧ c ≤ maxLen ∧ us.length ≤ M ∧ ∀ u ∈ us, u.length = s ∧ InShM M e u
theorem InShM.weak {M : Nat} : ∀ {S : Sh} {vs : List V}, InShM M S vs → InSh S vs
  | .int k, vs, h => h
  | .bool, vs, h => h
  | .str, vs, h => h
  | .unit, vs, h => h
  | .pair a b, vs, ⟨u, v, h, h1, h2⟩ => ⟨u, v, h, h1.weak, h2.weak⟩
  | .arr n e, vs, ⟨us, h1, h2, h3⟩ => ⟨us, h1, h2, fun u hu => (h3 u hu).weak⟩
  | .sl ag s e, vs, h => by
    rcases h with h | ⟨us, c, h1, h2, h3, -, h4⟩
    · exact .inl h
    · exact .inr ⟨us, c, h1, h2, h3, fun u hu => ⟨(h4 u hu).1, (h4 u hu).2.weak⟩⟩
def InPM (M : Nat) (ag : Bool) (S : Sh) (v : V) : Prop := match ag with | true => ∃ cs, v = .agg cs ∧ InShM M S cs | false => InShM M S [v]
theorem InPM.weak {M : Nat} {ag : Bool} {S : Sh} {v : V} (h : InPM M ag S v) : InP ag S v := by
  cases ag with
  | true => obtain ⟨cs, h1, h2⟩ := h; exact ⟨cs, h1, h2.weak⟩
  | false => exact InShM.weak h
section
variable {H : Type} {enc : TypeId × Value → H} {w : World} {sp : Nat → Bool} {held : Bool} {g : G} {M : Nat}
theorem fields_inM {m : Nat} {cs : List Value} {R : TypeId → List Value → Prop} (ih : ∀ (t : TypeId) (S : Sh) (cs : List Value), shF P m t = some S → R t cs → ∃ vs, Cells g w vs cs ∧ InShM M S vs) :
    ∀ (fs : List Field) (off : Nat) (S : Sh), contig P cs.length off fs = true → shFields (shF P m) fs = some S →
      (∀ f ∈ fs, R f.type ((cs.drop f.offset).take (P.cellsOf f.type))) → ∃ vs, Cells g w vs (cs.drop off) ∧ InShM M S vs
  | [], off, S, hc, hS, hx => by
    simp only [contig, beq_iff_eq] at hc
    simp only [shFields, Option.some.injEq] at hS
    subst hS
    exact ⟨[], by subst hc; simp [Cells], rfl⟩
  | f :: fs, off, S, hc, hS, hx => by
    simp only [contig, Bool.and_eq_true, beq_iff_eq] at hc
    obtain ⟨rfl, hc⟩ := hc
    simp only [shFields] at hS
    split at hS
    case h_2 => cases hS
    rename_i a b ha hb
    cases hS
    obtain ⟨u, hu, hua⟩ := ih f.type a _ ha (hx f (by simp))
    obtain ⟨v, hv, hvb⟩ := fields_inM ih fs (f.offset + P.cellsOf f.type) b hc hb (fun f hf => hx f (by simp [hf]))
    refine ⟨u ++ v, ?_, u, v, rfl, hua, hvb⟩
    have := cells_app hu hv
    rwa [← List.drop_drop, List.take_append_drop] at this
theorem elems_inM {S : Sh} {k : Nat} {cs : List Value} {R : List Value → Prop} (ih : ∀ (cs : List Value), R cs → ∃ vs, Cells g w vs cs ∧ InShM M S vs) :
    ∀ (n : Nat), (∀ i, i < n → R ((cs.drop (i * k)).take k)) → ∃ us : List (List V), us.length = n ∧ Cells g w us.flatten (cs.take (n * k)) ∧ (∀ u ∈ us, InShM M S u)
  | 0, hx => ⟨[], rfl, by simp [Cells], by simp⟩
  | n + 1, hx => by
    obtain ⟨us, e1, e2, e3⟩ := elems_inM ih n (fun i hi => hx i (by omega))
    obtain ⟨u, hu, hus⟩ := ih _ (hx n (by omega))
    refine ⟨us ++ [u], by simp [e1], ?_, ?_⟩
    · have := cells_app e2 hu
      rw [List.flatten_append]
      simp only [List.flatten_cons, List.flatten_nil, List.append_nil]
      rw [Nat.add_mul, Nat.one_mul, List.take_add]
      exact this
    · intro v hv
      simp only [List.mem_append, List.mem_singleton] at hv
      rcases hv with hv | rfl
      · exact e3 v hv
      · exact hus
theorem sl_inM {m : Nat} {t e : TypeId} {S' : Sh} (hsp : ∀ b, sp b = true) (ih : ∀ (n : Nat) (cs : List Value) (x : DataW H × List MemPlace), DataW.trod enc P w 0 sp held n e cs = some x → bulkD x.1 ≤ M → ∃ vs, Cells (argG P w) w vs cs ∧ InShM M S' vs)
    (hu : P.underlying t = some (.slice e)) (hpos : 0 < P.cellsOf e) (hone : aggB P e = true ∨ P.cellsOf e = 1) (hS' : shF P m e = some S') {fuel : Nat} {cs : List Value} {x : DataW H × List MemPlace} (hd : DataW.trod enc P w 0 sp held fuel t cs = some x) (hM : bulkD x.1 ≤ M) :
    ∃ vs, Cells (argG P w) w vs cs ∧ InShM M (.sl (aggB P e) (P.cellsOf e) S') vs := by
  rcases DataW.trod_slice hu hd with ⟨h1, -⟩ | ⟨a, len, cap, elems, rest, n, rfl, h1, hxe, -, hlc, hcm, hel0, hx, hrest, -⟩
  · cases h1
    exact ⟨[.nils], cells_one .nils, .inl rfl⟩
  · cases h1
    rw [hxe] at hM
    simp only [bulkD] at hM
    have hel := hel0
    have hlM : len ≤ M := by
      have := bulk_length (elems.map (·.1))
      rw [List.length_map] at this
      omega
    have hme : ∀ i, (hi : i < elems.length) → bulkD elems[i].1 ≤ M := fun i hi => by
      have := bulk_part (d := elems[i].1) (l := elems.map (·.1)) (List.mem_map.2 ⟨elems[i], List.getElem_mem hi, rfl⟩)
      omega
    rcases Nat.eq_zero_or_pos cap with h0 | hcap
    · subst h0
      have hl0 : len = 0 := by omega
      subst hl0
      exact ⟨[.sl [] (P.cellsOf e) (some 0)], cells_one (.sl0 _ _ a (fun k hk => by cases hk; rfl)), .inr ⟨[], 0, rfl, Nat.le_refl _, Nat.zero_le _, Nat.zero_le _, fun u hu => by cases hu⟩⟩
    have hhas : a.spot = none ∧ a.block < w.heap.size := by
      rcases Nat.eq_zero_or_pos len with h0 | hlen
      · subst h0
        obtain ⟨hr1, hr2⟩ := hrest (hsp _)
        have h1 := hr2 0 (by omega)
        rw [List.getElem?_eq_getElem (by omega)] at h1
        simp only [Option.bind_eq_some_iff] at h1
        obtain ⟨cs, h2, -⟩ := h1
        rw [show (0 + 0) * P.cellsOf e = 0 by simp, show a.add 0 = a by unfold Addr.add; rw [if_pos rfl]] at h2
        exact spot_of (P := P) hpos h2
      · have h1 := hx 0 hlen
        rw [List.getElem?_eq_getElem (by omega)] at h1
        simp only [Option.bind_eq_some_iff] at h1
        obtain ⟨cs, h2, -⟩ := h1
        rw [show 0 * P.cellsOf e = 0 by simp, show a.add 0 = a by unfold Addr.add; rw [if_pos rfl]] at h2
        exact spot_of (P := P) hpos h2
    obtain ⟨hspot, hlt⟩ := hhas
    obtain ⟨ab, ao, asp⟩ := a
    simp only at hspot hlt
    subst hspot
    -- every element's cells
    have hel : ∀ i, i < len → ∃ cs us, (at_ ab ao).add (i * P.cellsOf e) = at_ ab (ao + i * P.cellsOf e) ∧ w.cells? 0 (at_ ab (ao + i * P.cellsOf e)) (P.cellsOf e) = some cs ∧ Cells (argG P w) w us cs ∧ InShM M S' us := by
      intro i hi
      have h1 := hx i hi
      rw [List.getElem?_eq_getElem (by omega)] at h1
      simp only [Option.bind_eq_some_iff] at h1
      obtain ⟨cs, h2, h3⟩ := h1
      obtain ⟨us, h4, h5⟩ := ih n cs _ h3 (hme i (by omega))
      rw [show (⟨ab, ao, none⟩ : Addr) = at_ ab ao from rfl, add_at] at h2
      exact ⟨cs, us, add_at _ _ _, h2, h4, h5⟩
    have hcell? : ∀ i cs, w.cells? 0 (at_ ab (ao + i * P.cellsOf e)) (P.cellsOf e) = some cs → cs.length = P.cellsOf e ∧ ∀ j, j < P.cellsOf e → w.cell? (at_ ab (ao + (i * P.cellsOf e + j))) = cs[j]? := by
      intro i cs h
      simp only [World.cells?, Nat.zero_le, ↓reduceIte] at h
      have hl : cs.length = P.cellsOf e := by simpa using mapM_some_length h
      refine ⟨hl, fun j hj => ?_⟩
      have := mapM_some_get h j j (by simp [hj])
      rw [add_at, Nat.add_assoc] at this
      exact this
    have hel' : ∀ i, ∃ p : List Value × List V, i < len → w.cells? 0 (at_ ab (ao + i * P.cellsOf e)) (P.cellsOf e) = some p.1 ∧ Cells (argG P w) w p.2 p.1 ∧ InShM M S' p.2 := fun i => by
      by_cases hi : i < len
      · obtain ⟨cs, us, -, h2, h3, h4⟩ := hel i hi
        exact ⟨(cs, us), fun _ => ⟨h2, h3, h4⟩⟩
      · exact ⟨([], []), fun h => absurd h hi⟩
    obtain ⟨f, hf⟩ := Classical.axiomOfChoice hel'
    obtain ⟨cs, hcs'⟩ : ∃ cs : Nat → List Value, cs = fun i => (f i).1 := ⟨_, rfl⟩
    obtain ⟨us, hus'⟩ : ∃ us : Nat → List V, us = fun i => (f i).2 := ⟨_, rfl⟩
    have h2 : ∀ i, i < len → w.cells? 0 (at_ ab (ao + i * P.cellsOf e)) (P.cellsOf e) = some (cs i) := fun i hi => by rw [hcs']; exact (hf i hi).1
    have h3 : ∀ i, i < len → Cells (argG P w) w (us i) (cs i) := fun i hi => by rw [hcs', hus']; exact (hf i hi).2.1
    have h4 : ∀ i, i < len → InShM M S' (us i) := fun i hi => by rw [hus']; exact (hf i hi).2.2
    refine ⟨[.sl ((List.range len).map fun i => elemV (aggB P e) (us i)) (P.cellsOf e) (some cap)], ?_, .inr ⟨(List.range len).map us, cap, ?_, by simpa using hlc, hcm, by simpa using hlM, ?_⟩⟩
    · have hus : ∀ i, i < len → (us i).length = P.cellsOf e := fun i hi => by
        have := (h3 i hi).1
        have := (hcell? i _ (h2 i hi)).1
        omega
      have hcells : ∀ i, i < len → (elemV (aggB P e) (us i)).cells = us i := by
        intro i hi
        cases hag : aggB P e with
        | true => rfl
        | false =>
          have hk : P.cellsOf e = 1 := by rcases hone with h | h; rw [hag] at h; cases h; exact h
          have hl := hus i hi
          rw [hk] at hl
          obtain ⟨x, hx⟩ : ∃ x, us i = [x] := by
            cases hu : us i with
            | nil => rw [hu] at hl; cases hl
            | cons x l => cases l with | nil => exact ⟨x, rfl⟩ | cons y l => rw [hu] at hl; simp at hl
          rw [hx]
          have h5 := h4 i hi
          rw [hx] at h5
          have hone' : x.cells = [x] := by
            have : ∀ (S : Sh) (m : Nat) (t : TypeId), aggB P t = false → shF P m t = some S → InShM M S [x] → x.cells = [x] := by
              intro S m t ht hS h
              cases m with
              | zero => simp [shF] at hS
              | succ m =>
                simp only [shF] at hS
                unfold aggB at ht
                split at hS <;> rename_i hu <;> simp only [hu] at ht
                · cases hS; obtain ⟨b, h⟩ := h; cases h; rfl
                · cases hS; obtain ⟨b, h, -⟩ := h; cases h; rfl
                · cases hS; obtain ⟨b, h, -⟩ := h; cases h; rfl
                · cases ht
                · cases ht
                · split at hS
                  case isFalse => cases hS
                  simp only [Option.map_eq_some_iff] at hS
                  obtain ⟨S', -, rfl⟩ := hS
                  rcases h with h | ⟨us, c, h, -⟩ <;> cases h <;> rfl
                · cases hS
            exact this S' m e hag hS' h5
          exact hone'
      have hlen : ((List.range len).map fun i => elemV (aggB P e) (us i)).length = len := by simp
      have key := VRel.sl (g := argG P w) (w := w) ((List.range len).map fun i => elemV (aggB P e) (us i)) (P.cellsOf e) (some cap) ab ao cap
        (fun j => (w.cell? (at_ ab (ao + j))).getD undef) (fun _ => hlt) (by rw [hlen]; exact hlc) (fun k hk => by cases hk; rfl) ?_ ?_ ?_
      · rw [hlen] at key; exact cells_one key
      · intro i x hx
        simp only [List.getElem?_map, Option.map_eq_some_iff] at hx
        obtain ⟨j, hj, rfl⟩ := hx
        have hj' : j < len := by
          have := List.mem_of_getElem? hj
          simpa using this
        rw [hcells j hj', hus j hj']
      · intro j hj
        rw [hlen] at hj
        have hq : j / P.cellsOf e < len := Nat.div_lt_of_lt_mul (by rw [Nat.mul_comm]; exact hj)
        obtain ⟨hl, hc⟩ := hcell? _ _ (h2 _ hq)
        have := hc (j % P.cellsOf e) (Nat.mod_lt _ hpos)
        rw [Nat.mul_comm, Nat.div_add_mod] at this
        rw [this, List.getElem?_eq_getElem (by rw [hl]; exact Nat.mod_lt _ hpos)]
        rfl
      · intro i x j y hx hy
        simp only [List.getElem?_map, Option.map_eq_some_iff] at hx
        obtain ⟨k, hk, rfl⟩ := hx
        have hk' : k < len := by
          have := List.mem_of_getElem? hk
          simpa using this
        have hki : k = i := by
          obtain ⟨h, e⟩ := List.getElem?_eq_some_iff.1 hk
          simpa using e.symm
        subst hki
        rw [hcells k hk'] at hy
        obtain ⟨hl, hc⟩ := hcell? _ _ (h2 _ hk')
        have hj' : j < P.cellsOf e := by
          rw [← hus k hk']
          exact (List.getElem?_eq_some_iff.1 hy).1
        rw [hc j hj', List.getElem?_eq_getElem (by rw [hl]; exact hj')]
        exact (h3 k hk').2 j y _ hy (List.getElem?_eq_getElem _)
    · rw [List.map_map]
      rfl
    · intro u hu'
      obtain ⟨i, hi, rfl⟩ := List.mem_map.1 hu'
      have hi' : i < len := by simpa using hi
      refine ⟨?_, h4 i hi'⟩
      have := (h3 i hi').1
      have := (hcell? i _ (h2 i hi')).1
      omega
theorem flat_inM (hsp : ∀ b, sp b = true) : ∀ (m : Nat) (t : TypeId) (S : Sh) (fuel : Nat) (cs : List Value) (x : DataW H × List MemPlace), shF P m t = some S → DataW.trod enc P w 0 sp held fuel t cs = some x → bulkD x.1 ≤ M → ∃ vs, Cells (argG P w) w vs cs ∧ InShM M S vs
  | 0, t, S, fuel, cs, x, hS, h, hM => by simp [shF] at hS
  | m + 1, t, S, fuel, cs, x, hS, h, hM => by
    simp only [shF] at hS
    split at hS <;> rename_i hu
    · cases hS
      obtain ⟨b, rfl, -⟩ := DataW.trod_bool hu h
      exact ⟨[.bool b], cells_one (.bool b), b, rfl⟩
    · rename_i k
      cases hS
      obtain ⟨n, rfl, -, hw⟩ := DataW.trod_int hu h
      exact ⟨[.int k n], cells_one (.int k n), n, rfl, hw⟩
    · cases hS
      obtain ⟨s, rfl, -, hs⟩ := DataW.trod_string hu h
      exact ⟨[.str s.data.toList], cells_one (.str s.data.toList), _, rfl, by simpa using hs⟩
    · rename_i fs
      split at hS
      case isFalse => cases hS
      rename_i hc
      obtain ⟨xs, n, rfl, hxe, hl, hxl, hx⟩ := DataW.trod_struct hu h
      rw [hxe] at hM
      simp only [bulkD] at hM
      have hme : ∀ i, (hi : i < xs.length) → bulkD xs[i].1 ≤ M := fun i hi => by
        have := bulk_part (d := xs[i].1) (l := xs.map (·.1)) (List.mem_map.2 ⟨xs[i], List.getElem_mem hi, rfl⟩)
        omega
      rw [← hl] at hc
      have := fields_inM (g := argG P w) (R := fun t cs => ∃ x, DataW.trod enc P w 0 sp held n t cs = some x ∧ bulkD x.1 ≤ M) (fun t S cs hS ⟨x, hx, hb⟩ => flat_inM hsp m t S n cs x hS hx hb) fs.toList 0 S hc hS (fun f hf => by
        obtain ⟨i, hi, rfl⟩ := List.getElem_of_mem hf
        have hi' : i < fs.size := by simpa using hi
        refine ⟨xs[i], ?_, hme i (by omega)⟩
        rw [hx i _ (by simp [hi']), List.getElem?_eq_getElem])
      simpa using this
    · rename_i n e
      split at hS
      case isFalse => cases hS
      rename_i hc
      simp only [Option.map_eq_some_iff] at hS
      obtain ⟨S', hS', rfl⟩ := hS
      obtain ⟨xs, k, rfl, hxe, hl, hxl, hx⟩ := DataW.trod_array hu h
      rw [hxe] at hM
      simp only [bulkD] at hM
      have hme : ∀ i, (hi : i < xs.length) → bulkD xs[i].1 ≤ M := fun i hi => by
        have := bulk_part (d := xs[i].1) (l := xs.map (·.1)) (List.mem_map.2 ⟨xs[i], List.getElem_mem hi, rfl⟩)
        omega
      obtain ⟨us, h1, h2, h3⟩ := elems_inM (g := argG P w) (w := w) (k := P.cellsOf e) (cs := cs) (R := fun cs => ∃ x, DataW.trod enc P w 0 sp held k e cs = some x ∧ bulkD x.1 ≤ M) (fun cs ⟨x, hx, hb⟩ => flat_inM hsp m e S' k cs x hS' hx hb) n (fun i hi => ⟨xs[i], by rw [hx i hi, List.getElem?_eq_getElem], hme i (by omega)⟩)
      rw [hc, ← hl, List.take_length] at h2
      exact ⟨us.flatten, h2, us, h1, rfl, h3⟩
    · rename_i e
      split at hS
      case isFalse => cases hS
      rename_i hc
      simp only [Option.map_eq_some_iff] at hS
      obtain ⟨S', hS', rfl⟩ := hS
      exact sl_inM (m := m) hsp (fun n cs x h hb => flat_inM hsp m e S' n cs x hS' h hb) hu hc.1 hc.2 hS' h hM
    · cases hS
theorem param_inM {m : Nat} {t : TypeId} {S : Sh} {v : Value} {r : Reach} {b0 : Nat} {d : DataW H} {ps : List MemPlace} (hsp : ∀ b, sp b = true) (hS : shP P m t = some S) (hok : Value.okWide P w r b0 t v)
    (hd : DataW.Trod enc P w 0 sp held t v d ps) (hM : bulkD d ≤ M) : ∃ u, VRel (argG P w) w u v ∧ InPM M (aggB P t) S u := by
  obtain ⟨fuel, hd⟩ := hd
  unfold shP at hS
  cases hag : aggB P t with
  | true =>
    obtain ⟨xs, rfl⟩ := okWide_agg hag hok
    obtain ⟨vs, h1, h2⟩ := flat_inM hsp m t S fuel _ _ hS hd hM
    exact ⟨.agg vs, by have := Cells.agg h1; rwa [cells_of_agg, Array.toArray_toList] at this, vs, rfl, h2⟩
  | false =>
    have hcell := okWide_cell hag hok
    have hcs : v.cells.toList = [v] := by
      cases v <;> first | rfl | exact (cell_not_agg hcell).elim
    rw [hcs] at hd
    obtain ⟨vs, h1, h2⟩ := flat_inM hsp m t S fuel _ _ hS hd hM
    obtain ⟨x, rfl⟩ : ∃ x, vs = [x] := by
      have := h1.1
      cases vs with
      | nil => cases this
      | cons x l => cases l with | nil => exact ⟨x, rfl⟩ | cons y l => simp at this
    exact ⟨x, h1.2 0 x v rfl rfl, h2⟩
end
end Go.Am


set_option linter.unusedVariables false
set_option linter.unusedSimpArgs false
set_option linter.unusedSectionVars false
set_option maxRecDepth 10000
namespace Go.Am.T
attribute [local congr] selV_congr impB_congr
def Match (L S : List Lt) : Prop := ∀ x ∈ L, ∃ y, S[(x.num - 1).toNat]? = some y ∧ y.num = x.num ∧ y.fr = x.fr ∧ y.to = x.to ∧ y.l = x.l
structure Onc (H : Heap) (WS : V) (gone i : Nat) (W : V) (R RS : List Nat) (s : Nt) (S : List Lt) : Prop where
  net : NetAt H 7 6 W R s
  row : SRow H WS S RS
  rs : ∀ o ∈ RS, o = 1 ∨ o = 3
  rn : ∀ o ∈ R, 8 ≤ o
  nod : s.nodes = 8
  las : s.last = (S.length : Int)
  gon : s.L.length + gone = S.length
  mat : Match s.L S
  lim : S.length ≤ i
  bys : ∀ y ∈ S, By y.l y.b
theorem Onc.site {H : Heap} {WS : V} {gone i : Nat} {W : V} {R RS : List Nat} {s : Nt} {S : List Lt} (h : Onc H WS gone i W R RS s S) {k : Nat} (hk : k < 6) (h1 : k ≠ 1) (h3 : k ≠ 3) (x : Ob) : Onc (H.set k x) WS gone i W R RS s S :=
  ⟨h.net.set x (by omega) (by omega) (fun e => by have := h.rn _ e; omega), h.row.keep fun o ho => List.getElem?_set_ne (fun e => by rcases h.rs o ho with rfl | rfl <;> omega), h.rs, h.rn, h.nod, h.las, h.gon, h.mat, h.lim, h.bys⟩
theorem Onc.len {H : Heap} {WS : V} {gone i : Nat} {W : V} {R RS : List Nat} {s : Nt} {S : List Lt} (h : Onc H WS gone i W R RS s S) : 8 ≤ H.length := by have := h.net.lta; omega
theorem Onc.beyond {H H' : Heap} {WS : V} {gone i : Nat} {W : V} {R R' RS : List Nat} {s : Nt} {S : List Lt} (h : Onc H WS gone i W R RS s S) (hB : Beyond H H' 7 6 R R') : SRow H' WS S RS ∧ (∀ o ∈ R', 8 ≤ o) ∧ 8 ≤ H'.length := by
  have hl := h.len
  refine ⟨h.row.keep fun o ho => hB.oth o ?_ ?_ ?_ ?_, fun o ho => ?_, by have := hB.len; omega⟩
  · rcases h.rs o ho with rfl | rfl <;> omega
  · rcases h.rs o ho with rfl | rfl <;> omega
  · rcases h.rs o ho with rfl | rfl <;> omega
  · intro e
    have := h.rn o e
    rcases h.rs o ho with rfl | rfl <;> omega
  · rcases hB.new o ho with h1 | h1
    · exact h.rn o h1
    · omega
theorem site_at {H : Heap} (h : 8 ≤ H.length) {k : Nat} (hk : k < 8) : ∃ x : Ob, H[k]? = some x := ⟨_, List.getElem?_eq_getElem (by omega)⟩
theorem Match.put {L S : List Lt} (h : Match L S) {x y : Lt} (hx : x.num = (S.length : Int) + 1) (hL : ∀ z ∈ L, 1 ≤ z.num ∧ z.num ≤ (S.length : Int)) (h1 : y.num = x.num) (h2 : y.fr = x.fr) (h3 : y.to = x.to) (h4 : y.l = x.l) : Match (L ++ [x]) (S ++ [y]) := by
  intro z hz
  rcases List.mem_append.1 hz with hz | hz
  · obtain ⟨w, q1, q2⟩ := h z hz
    have := hL z hz
    exact ⟨w, by rw [List.getElem?_append_left (by omega)]; exact q1, q2⟩
  · obtain rfl : z = x := by simpa using hz
    refine ⟨y, ?_, h1, h2, h3, h4⟩
    rw [List.getElem?_append_right (by omega), hx, show ((S.length : Int) + 1 - 1).toNat - S.length = 0 by omega]
    rfl
theorem Match.del {L S : List Lt} (h : Match L S) (k : Int) : Match (L.filter (fun x => !(k == x.num))) S := fun x hx => h x (List.mem_filter.1 hx).1
theorem find_num_eq {L : List Lt} {k : Int} {x : Lt} (h : L.find? (fun x => k == x.num) = some x) : x ∈ L ∧ x.num = k := by
  refine ⟨List.mem_of_find?_eq_some h, ?_⟩
  have := List.find?_some h
  exact (by simpa using this : k = x.num).symm
theorem find_del {L : List Lt} (k : Int) : (L.filter (fun x => !(k == x.num))).find? (fun x => k == x.num) = none := by
  rw [List.find?_eq_none]
  intro x hx
  have := (List.mem_filter.1 hx).2
  simpa using this
def OncI (M : List Stp) (u : V) (i : Nat) (t : List V) (H : Heap) : Prop :=
  ∃ (WS : V) (gone : Nat) (W : V) (R RS : List Nat) (s : Nt) (S : List Lt), t = Am.fr 174 [(0, u), (3, .ptr 7 1 0), (5, WS), (6, .int .i64 gone), (7, .int .i64 i)] ∧ i ≤ M.length ∧ i ≤ 100 ∧ Onc H WS gone i W R RS s S
theorem am3_wp {N n : Nat} {args : List V} {h : Heap} {v : V} (ha : args.length = 1) (hfree : V.freeL args = true)
    (H : sx ⟨pureOf am, callA am N n, N, 0⟩ am3.body (fr am3.nt (argsF 0 args)) (deads am3.sites) (retQ am3.res fun x h' => V.shut (fun o => h'[o]?) sealDepth x = some v)) : callA am N (n + 1) 3 args h = some (v, h) :=
  call_auto at3 rfl ha (by decide) hfree (sx_wp H)
set_option maxHeartbeats 4000000 in
theorem once_spec {N n : Nat} (hN : 5000 ≤ N) (hn : 25 ≤ n) (u : V) (M : List Stp) (hM : IsL u 5 (M.map Stp.cs)) (h : Heap) : callA am N n 3 [u] h = some (.bool true, h) := by
  obtain ⟨n, rfl⟩ : ∃ m, n = m + 1 := ⟨n - 1, by omega⟩
  have c7 := @known_spec N n (by omega) (by omega)
  have c8 := @much_spec N n (by omega) (by omega) _ _ hM
  have c10 := @num_spec N n (by omega)
  have c9 : callA am N n 9 [.int .i64 8] [⟨0, .dead⟩, ⟨0, .dead⟩, ⟨0, .dead⟩, ⟨0, .dead⟩, ⟨0, .dead⟩, ⟨0, .dead⟩] = some (.tup [.ptr 7 1 0, .int .i64 0], [⟨0, .dead⟩, ⟨0, .dead⟩, ⟨0, .dead⟩, ⟨0, .dead⟩, ⟨0, .dead⟩, ⟨0, .dead⟩, ⟨1, .map []⟩, ⟨1, .var [.int .i64 8, .map 6 1, .nils, .int .i64 0]⟩]) := @new_spec N n (by omega) [⟨0, .dead⟩, ⟨0, .dead⟩, ⟨0, .dead⟩, ⟨0, .dead⟩, ⟨0, .dead⟩, ⟨0, .dead⟩]
  have la := hM.len
  rw [List.length_map] at la
  have ln := hM.nstr
  have hfree : V.freeL [u] = true := by simp only [freeL_cons, freeL_nil, hM.free, Bool.and_self]
  have g0 : ((0 : Int) != 0) = false := rfl
  refine am3_wp rfl hfree ?_
  cases hm : muchB M with
  | true =>
    simp +contextual -implicitDefEqProofs (maxSteps := 10000000) only [sxb, plainD, stays, ↓selV_wt, ↓selV_wf, ↓impB_wt, ↓impB_wf, ↓selV_nor, ↓impB_nor, ↓selV_nt, ↓selV_nf, ↓impB_nt, ↓impB_nf, ↓selV_true, ↓selV_false, ↓selV_and, ↓impB_true, ↓impB_false, ↓impB_and, ↓prim_pick, ↓selV_nn, ↓impB_nn, doOp, get, ins, del, dels, Nat.reduceLT, Nat.reduceEqDiff, ↓reduceIte, reduceCtorEq, ne_eq, implies_true, prim, YLD, mkA, V.cells, Nat.reduceAdd, Nat.reduceSub, Nat.reduceMul, Nat.reduceLeDiff, loadA, cellsAt, nAg, packA, List.drop, List.take, List.head?, binA, unA, eqCells, eqCell, negB, fillA, storeA, Ob.with, indexedI, V.oneCell, intOf?, resA, resA1, packR, sealDepth, Int.reduceLT, Int.reduceLE, Int.reduceToNat, Int.reduceNeg, Int.reduceAdd, Int.reduceSub, Int.reduceMul, cond_true, cond_false, Int.reduceBNe, Int.reduceBEq, eq_self, deads, List.replicate, argsF, am3, c7, c8, hm, pm7, pm8]
  | false =>
    simp +contextual -implicitDefEqProofs (maxSteps := 10000000) only [sxb, plainD, stays, ↓selV_wt, ↓selV_wf, ↓impB_wt, ↓impB_wf, ↓selV_nor, ↓impB_nor, ↓selV_nt, ↓selV_nf, ↓impB_nt, ↓impB_nf, ↓selV_true, ↓selV_false, ↓selV_and, ↓impB_true, ↓impB_false, ↓impB_and, ↓prim_pick, ↓selV_nn, ↓impB_nn, doOp, get, ins, del, dels, Nat.reduceLT, Nat.reduceEqDiff, ↓reduceIte, reduceCtorEq, ne_eq, implies_true, prim, YLD, mkA, V.cells, Nat.reduceAdd, Nat.reduceSub, Nat.reduceMul, Nat.reduceLeDiff, loadA, cellsAt, nAg, packA, List.drop, List.take, List.head?, binA, unA, eqCells, eqCell, negB, fillA, storeA, Ob.with, indexedI, V.oneCell, intOf?, resA, resA1, packR, sealDepth, Int.reduceLT, Int.reduceLE, Int.reduceToNat, Int.reduceNeg, Int.reduceAdd, Int.reduceSub, Int.reduceMul, cond_true, cond_false, Int.reduceBNe, Int.reduceBEq, eq_self, deads, List.replicate, argsF, am3, c7, c8, hm, pm7, pm8, c9, c10, pm10, g0]
    refine sx_loop (OncI M u) 100 (by show 100 < N; omega) ?_ ?_
    · exact ⟨.nils, 0, .nils, [], [], ⟨8, 0, []⟩, [], rfl, Nat.zero_le _, Nat.zero_le _, new_at rfl rfl (by decide), .inl ⟨rfl, rfl, rfl⟩, by simp, by simp, rfl, rfl, rfl, (fun x hx => by cases hx), Nat.le_refl _, by simp⟩
    rintro i t H hi ⟨WS, gone, W, R, RS, s, S, rfl, hi1, hi2, D⟩
    have w4 : IntKind.i64.wrap ((i : Int) + 1) = ((i + 1 : Nat) : Int) := (wrap64 (by omega) (by omega)).trans (by omega)
    by_cases h1 : i < M.length
    case neg =>
      have g1 : decide ((i : Int) < (M.length : Int)) = false := decide_eq_false (by omega)
      simp +contextual -implicitDefEqProofs (maxSteps := 10000000) only [sxb, plainD, stays, ↓selV_wt, ↓selV_wf, ↓impB_wt, ↓impB_wf, ↓selV_nor, ↓impB_nor, ↓selV_nt, ↓selV_nf, ↓impB_nt, ↓impB_nf, ↓selV_true, ↓selV_false, ↓selV_and, ↓impB_true, ↓impB_false, ↓impB_and, ↓prim_pick, ↓selV_nn, ↓impB_nn, doOp, get, ins, del, dels, Nat.reduceLT, Nat.reduceEqDiff, ↓reduceIte, reduceCtorEq, ne_eq, implies_true, prim, YLD, mkA, V.cells, Nat.reduceAdd, Nat.reduceSub, Nat.reduceMul, Nat.reduceLeDiff, loadA, cellsAt, nAg, packA, List.drop, List.take, List.head?, binA, unA, eqCells, eqCell, negB, fillA, storeA, Ob.with, indexedI, V.oneCell, intOf?, resA, resA1, packR, sealDepth, Int.reduceLT, Int.reduceLE, Int.reduceToNat, Int.reduceNeg, Int.reduceAdd, Int.reduceSub, Int.reduceMul, cond_true, cond_false, Int.reduceBNe, Int.reduceBEq, eq_self, deads, List.replicate, argsF, la, g1]
    by_cases h2 : i < 100
    case neg =>
      have g1 : decide ((i : Int) < (M.length : Int)) = true := decide_eq_true (by omega)
      have g2 : decide ((i : Int) < 100) = false := decide_eq_false (by omega)
      simp +contextual -implicitDefEqProofs (maxSteps := 10000000) only [sxb, plainD, stays, ↓selV_wt, ↓selV_wf, ↓impB_wt, ↓impB_wf, ↓selV_nor, ↓impB_nor, ↓selV_nt, ↓selV_nf, ↓impB_nt, ↓impB_nf, ↓selV_true, ↓selV_false, ↓selV_and, ↓impB_true, ↓impB_false, ↓impB_and, ↓prim_pick, ↓selV_nn, ↓impB_nn, doOp, get, ins, del, dels, Nat.reduceLT, Nat.reduceEqDiff, ↓reduceIte, reduceCtorEq, ne_eq, implies_true, prim, YLD, mkA, V.cells, Nat.reduceAdd, Nat.reduceSub, Nat.reduceMul, Nat.reduceLeDiff, loadA, cellsAt, nAg, packA, List.drop, List.take, List.head?, binA, unA, eqCells, eqCell, negB, fillA, storeA, Ob.with, indexedI, V.oneCell, intOf?, resA, resA1, packR, sealDepth, Int.reduceLT, Int.reduceLE, Int.reduceToNat, Int.reduceNeg, Int.reduceAdd, Int.reduceSub, Int.reduceMul, cond_true, cond_false, Int.reduceBNe, Int.reduceBEq, eq_self, deads, List.replicate, argsF, la, g1, g2]
    have g1 : decide ((i : Int) < (M.length : Int)) = true := decide_eq_true (by omega)
    have g2 : decide ((i : Int) < 100) = true := decide_eq_true (by omega)
    have hk : M[i]? = some M[i] := List.getElem?_eq_getElem h1
    generalize M[i] = x at hk
    have hat := hM.at_ i
    rw [List.getElem?_map, hk] at hat
    simp only [Option.map_some, Stp.cs] at hat
    have hlen := D.len
    obtain ⟨y0, hy0⟩ := site_at hlen (k := 0) (by omega)
    have kb1 := x.ok.cells
    have kb2 := x.ok.one
    have kb3 := x.ok.njunk
    have kb4 := x.ok.nagg
    have kb5 := x.ok.ntup
    have l0 : 0 < H.length := by omega
    obtain ⟨H1, eH1⟩ : ∃ H1, H1 = H.set 0 ⟨y0.ver + 1, .var [.int .i64 x.kind, .int .i64 x.a, .int .i64 x.b, .int .i64 x.n, x.body]⟩ := ⟨_, rfl⟩
    have eH1' := eH1.symm
    have D1 : Onc H1 WS gone i W R RS s S := by rw [eH1]; exact D.site (by omega) (by omega) (by omega) _
    have x01 : H1[0]? = some ⟨y0.ver + 1, .var [.int .i64 x.kind, .int .i64 x.a, .int .i64 x.b, .int .i64 x.n, x.body]⟩ := by rw [eH1, List.getElem?_set_self l0]
    have hlen1 := D1.len
    have hlim := D.lim
    have hgon := D.gon
    have hlas := D.las
    have hsl : s.L.length ≤ 100 := by omega
    have nR : ∀ k, k < 8 → k ∉ R := fun k hk e => by have := D.rn k e; omega
    cases k1 : (x.kind == 1) with
    | true =>
      obtain ⟨v', H2, c11, hc⟩ := @send_spec N n (by omega) _ _ _ _ _ _ D1.net x.a x.b _ _ x.ok (by omega) (by omega)
      rcases hc with ⟨-, rfl, b', W', R', hb', hN, hB⟩ | ⟨-, e, rfl, he, hN, hB⟩
      · obtain ⟨row2, rn2, hlen2⟩ := D1.beyond hB
        have x02 : H2[0]? = some ⟨y0.ver + 1, .var [.int .i64 x.kind, .int .i64 x.a, .int .i64 x.b, .int .i64 x.n, x.body]⟩ := by rw [hB.oth 0 (by omega) (by omega) (by omega) (nR 0 (by omega))]; exact x01
        obtain ⟨y1, hy1⟩ := site_at hlen2 (k := 1) (by omega)
        obtain ⟨o1, y, WS', hA, row3, ho1, hol⟩ := row2.append (x := ⟨s.last + 1, x.a, x.b, x.body, x.l⟩) hy1 x.ok (by omega)
        have ho13 : o1 = 1 ∨ o1 = 3 := by
          rcases ho1 with h | h
          · exact .inl h
          · exact D.rs o1 h
        unfold Lt.cs at hA
        obtain ⟨H3, eH3⟩ : ∃ H3, H3 = H2.set o1 y := ⟨_, rfl⟩
        have eH3' := eH3.symm
        have net3 : NetAt H3 7 6 W' R' (s.put x.a x.b b' x.l) := by
          rw [eH3]
          exact hN.set _ (by omega) (by omega) (fun e => by have := rn2 _ e; omega)
        have D3 : Onc H3 WS' gone (i + 1) W' R' [o1] (s.put x.a x.b b' x.l) (S ++ [⟨s.last + 1, x.a, x.b, x.body, x.l⟩]) :=
          ⟨net3, by rw [eH3]; exact row3, (fun o ho => by rw [List.mem_singleton.1 ho]; exact ho13), rn2, D.nod, by simp [Nt.put, hlas], by simp [Nt.put]; omega,
            D.mat.put (by simp [hlas]) (fun z hz => by have := D.net.ok.pos z hz; omega) rfl rfl rfl rfl, by simp; omega, fun z hz => by
              rcases List.mem_append.1 hz with hz | hz
              · exact D.bys z hz
              · obtain rfl : z = _ := by simpa using hz
                exact x.ok⟩
        have c16 := @len_spec N n (by omega) _ _ _ _ _ _ net3
        have hl3 := D3.row.len
        have hl2 := row2.len
        have gl : (((s.put x.a x.b b' x.l).L.length : Int) != (IntKind.i64.wrap (((S ++ [(⟨s.last + 1, x.a, x.b, x.body, x.l⟩ : Lt)]).length : Int) - (gone : Int)))) = false := by
          rw [wrap64 (by omega) (by simp; omega)]
          simp [Nt.put]
          omega
        have w5 : IntKind.i64.wrap ((S.length : Int) + 1) = (S.length : Int) + 1 := wrap64 (by omega) (by omega)
        have ga : ((s.last + 1) != ((S.length : Int) + 1)) = false := by simp [hlas]
        obtain ⟨p1, p2, p3, p4, p5, p6⟩ := row2.shape
        obtain ⟨p1', p2', p3', p4', p5', p6'⟩ := D3.row.shape
        have r1 : List.range 1 = [0] := rfl
        have wr : ∀ a b c d : V, wrapV [a, b, c, d] = .agg [a, b, c, d] := fun _ _ _ _ => rfl
        simp +contextual -implicitDefEqProofs (maxSteps := 10000000) only [sxb, plainD, stays, ↓selV_wt, ↓selV_wf, ↓impB_wt, ↓impB_wf, ↓selV_nor, ↓impB_nor, ↓selV_nt, ↓selV_nf, ↓impB_nt, ↓impB_nf, ↓selV_true, ↓selV_false, ↓selV_and, ↓impB_true, ↓impB_false, ↓impB_and, ↓prim_pick, ↓selV_nn, ↓impB_nn, doOp, get, ins, del, dels, Nat.reduceLT, Nat.reduceEqDiff, ↓reduceIte, reduceCtorEq, ne_eq, implies_true, prim, YLD, mkA, V.cells, Nat.reduceAdd, Nat.reduceSub, Nat.reduceMul, Nat.reduceLeDiff, loadA, cellsAt, nAg, packA, List.drop, List.take, List.head?, binA, unA, eqCells, eqCell, negB, fillA, storeA, Ob.with, indexedI, V.oneCell, intOf?, resA, resA1, packR, sealDepth, Int.reduceLT, Int.reduceLE, Int.reduceToNat, Int.reduceNeg, Int.reduceAdd, Int.reduceSub, Int.reduceMul, cond_true, cond_false, Int.reduceBNe, Int.reduceBEq, eq_self, deads, List.replicate, argsF, la, g1, g2, hat, hy0, List.getElem?_set_self, List.length_set, l0, List.set_set, kb1, kb2, eH1', x01, k1, c11, c10, pm10, g0, hl2, w5, ga, x02, r1, wr, hA, eH3', c16, hl3, gl, w4]
        exact ⟨h2, WS', gone, W', R', [o1], _, _, rfl, by omega, by omega, D3⟩
      · obtain ⟨row2, rn2, hlen2⟩ := D1.beyond hB
        have ge : (e != 0) = true := by simpa using he
        simp +contextual -implicitDefEqProofs (maxSteps := 10000000) only [sxb, plainD, stays, ↓selV_wt, ↓selV_wf, ↓impB_wt, ↓impB_wf, ↓selV_nor, ↓impB_nor, ↓selV_nt, ↓selV_nf, ↓impB_nt, ↓impB_nf, ↓selV_true, ↓selV_false, ↓selV_and, ↓impB_true, ↓impB_false, ↓impB_and, ↓prim_pick, ↓selV_nn, ↓impB_nn, doOp, get, ins, del, dels, Nat.reduceLT, Nat.reduceEqDiff, ↓reduceIte, reduceCtorEq, ne_eq, implies_true, prim, YLD, mkA, V.cells, Nat.reduceAdd, Nat.reduceSub, Nat.reduceMul, Nat.reduceLeDiff, loadA, cellsAt, nAg, packA, List.drop, List.take, List.head?, binA, unA, eqCells, eqCell, negB, fillA, storeA, Ob.with, indexedI, V.oneCell, intOf?, resA, resA1, packR, sealDepth, Int.reduceLT, Int.reduceLE, Int.reduceToNat, Int.reduceNeg, Int.reduceAdd, Int.reduceSub, Int.reduceMul, cond_true, cond_false, Int.reduceBNe, Int.reduceBEq, eq_self, deads, List.replicate, argsF, la, g1, g2, hat, hy0, List.getElem?_set_self, List.length_set, l0, List.set_set, kb1, kb2, eH1', x01, k1, c11, c10, pm10, ge, w4]
        exact ⟨h2, WS, gone, W, R, RS, s, S, rfl, by omega, by omega, ⟨hN, row2, D.rs, D.rn, D.nod, D.las, D.gon, D.mat, by omega, D.bys⟩⟩
    | false =>
    cases k4 : (x.kind == 4) with
    | true =>
      obtain ⟨v', H2, c12, hc⟩ := @double_spec N n (by omega) _ _ _ _ _ _ D1.net x.n (by omega) (by omega)
      rcases hc with ⟨z, hz, rfl, b', W', R', hb', hN, hB⟩ | ⟨-, rfl, hN, hB⟩
      · obtain ⟨hzm, hzn⟩ := find_num_eq hz
        obtain ⟨zy, q1, q2, q3, q4, q5⟩ := D.mat z hzm
        have hzp := D.net.ok.pos z hzm
        obtain ⟨row2, rn2, hlen2⟩ := D1.beyond hB
        have x02 : H2[0]? = some ⟨y0.ver + 1, .var [.int .i64 x.kind, .int .i64 x.a, .int .i64 x.b, .int .i64 x.n, x.body]⟩ := by rw [hB.oth 0 (by omega) (by omega) (by omega) (nR 0 (by omega))]; exact x01
        obtain ⟨y2, hy2⟩ := site_at hlen2 (k := 2) (by omega)
        have l2 : 2 < H2.length := by omega
        obtain ⟨o', ver', off', c', t1, t2, t3, t4⟩ := row2.at_ q1
        have hzb := D.bys zy (List.mem_of_getElem? q1)
        obtain ⟨H3, eH3⟩ : ∃ H3, H3 = H2.set 2 ⟨y2.ver + 1, .var [.int .i64 (s.last + 1), .int .i64 zy.fr, .int .i64 zy.to, zy.b]⟩ := ⟨_, rfl⟩
        have eH3' := eH3.symm
        have x23 : H3[2]? = some ⟨y2.ver + 1, .var [.int .i64 (s.last + 1), .int .i64 zy.fr, .int .i64 zy.to, zy.b]⟩ := by rw [eH3, List.getElem?_set_self l2]
        have net3 : NetAt H3 7 6 W' R' (s.put z.fr z.to b' z.l) := by
          rw [eH3]
          exact hN.set _ (by omega) (by omega) (fun e => by have := rn2 _ e; omega)
        have row3 : SRow H3 WS S RS := by
          rw [eH3]
          exact row2.keep fun o ho => List.getElem?_set_ne (by rcases D.rs o ho with rfl | rfl <;> omega)
        have hlen3 : 8 ≤ H3.length := by rw [eH3, List.length_set]; exact hlen2
        obtain ⟨y3, hy3⟩ := site_at hlen3 (k := 3) (by omega)
        obtain ⟨o1, y, WS', hA, row4, ho1, hol⟩ := row3.append (x := ⟨s.last + 1, zy.fr, zy.to, zy.b, zy.l⟩) hy3 hzb (by omega)
        have ho13 : o1 = 1 ∨ o1 = 3 := by
          rcases ho1 with h | h
          · exact .inr h
          · exact D.rs o1 h
        unfold Lt.cs at hA t4
        obtain ⟨H4, eH4⟩ : ∃ H4, H4 = H3.set o1 y := ⟨_, rfl⟩
        have eH4' := eH4.symm
        have net4 : NetAt H4 7 6 W' R' (s.put z.fr z.to b' z.l) := by
          rw [eH4]
          exact net3.set _ (by omega) (by omega) (fun e => by have := rn2 _ e; omega)
        have D3 : Onc H4 WS' gone (i + 1) W' R' [o1] (s.put z.fr z.to b' z.l) (S ++ [⟨s.last + 1, zy.fr, zy.to, zy.b, zy.l⟩]) :=
          ⟨net4, by rw [eH4]; exact row4, (fun o ho => by rw [List.mem_singleton.1 ho]; exact ho13), rn2, D.nod, by simp [Nt.put, hlas], by simp [Nt.put]; omega,
            D.mat.put (by simp [hlas]) (fun z hz => by have := D.net.ok.pos z hz; omega) rfl q3 q4 q5, by simp; omega, fun z hz => by
              rcases List.mem_append.1 hz with hz | hz
              · exact D.bys z hz
              · obtain rfl : z = _ := by simpa using hz
                exact hzb⟩
        have c16 := @len_spec N n (by omega) _ _ _ _ _ _ net4
        have hl3 := D3.row.len
        have hl2 := row2.len
        have gl : (((s.put z.fr z.to b' z.l).L.length : Int) != (IntKind.i64.wrap (((S ++ [(⟨s.last + 1, zy.fr, zy.to, zy.b, zy.l⟩ : Lt)]).length : Int) - (gone : Int)))) = false := by
          rw [wrap64 (by omega) (by simp; omega)]
          simp [Nt.put]
          omega
        have w5 : IntKind.i64.wrap ((S.length : Int) + 1) = (S.length : Int) + 1 := wrap64 (by omega) (by omega)
        have w6 : IntKind.i64.wrap (x.n - 1) = ((z.num - 1).toNat : Int) := (wrap64 (by omega) (by omega)).trans (by omega)
        have ga : ((s.last + 1) != ((S.length : Int) + 1)) = false := by simp [hlas]
        have gb : decide (x.n < 1) = false := decide_eq_false (by omega)
        have gc : decide (x.n ≥ s.last + 1) = false := decide_eq_false (by omega)
        obtain ⟨p1, p2, p3, p4, p5, p6⟩ := row2.shape
        obtain ⟨p1', p2', p3', p4', p5', p6'⟩ := D3.row.shape
        have r1 : List.range 1 = [0] := rfl
        have wr : ∀ a b c d : V, wrapV [a, b, c, d] = .agg [a, b, c, d] := fun _ _ _ _ => rfl
        have zb1 := hzb.cells
        have zb2 := hzb.one
        have zb3 := hzb.njunk
        have zb4 := hzb.nagg
        have zb5 := hzb.ntup
        have g01 : ((0 : Int) != 0) = false := rfl
        have t23 : ∀ x : Ob, (H2.set 2 x)[2]? = some x := fun x => List.getElem?_set_self l2
        simp +contextual -implicitDefEqProofs (maxSteps := 10000000) only [sxb, plainD, stays, ↓selV_wt, ↓selV_wf, ↓impB_wt, ↓impB_wf, ↓selV_nor, ↓impB_nor, ↓selV_nt, ↓selV_nf, ↓impB_nt, ↓impB_nf, ↓selV_true, ↓selV_false, ↓selV_and, ↓impB_true, ↓impB_false, ↓impB_and, ↓prim_pick, ↓selV_nn, ↓impB_nn, doOp, get, ins, del, dels, Nat.reduceLT, Nat.reduceEqDiff, ↓reduceIte, reduceCtorEq, ne_eq, implies_true, prim, YLD, mkA, V.cells, Nat.reduceAdd, Nat.reduceSub, Nat.reduceMul, Nat.reduceLeDiff, loadA, cellsAt, nAg, packA, List.drop, List.take, List.head?, binA, unA, eqCells, eqCell, negB, fillA, storeA, Ob.with, indexedI, V.oneCell, intOf?, resA, resA1, packR, sealDepth, Int.reduceLT, Int.reduceLE, Int.reduceToNat, Int.reduceNeg, Int.reduceAdd, Int.reduceSub, Int.reduceMul, cond_true, cond_false, Int.reduceBNe, Int.reduceBEq, eq_self, deads, List.replicate, argsF, la, g1, g2, hat, hy0, List.getElem?_set_self, List.length_set, l0, List.set_set, kb1, kb2, eH1', x01, k1, k4, c12, c10, pm10, g0, hl2, w5, ga, gb, gc, x02, w6, hy2, l2, t1, t2, t3, t4, zb1, zb2, t23, eH3', x23, r1, wr, hA, eH4', c16, hl3, gl, w4]
        exact ⟨h2, WS', gone, W', R', [o1], _, _, rfl, by omega, by omega, D3⟩
      · obtain ⟨row2, rn2, hlen2⟩ := D1.beyond hB
        have ge : ((6 : Int) != 0) = true := rfl
        simp +contextual -implicitDefEqProofs (maxSteps := 10000000) only [sxb, plainD, stays, ↓selV_wt, ↓selV_wf, ↓impB_wt, ↓impB_wf, ↓selV_nor, ↓impB_nor, ↓selV_nt, ↓selV_nf, ↓impB_nt, ↓impB_nf, ↓selV_true, ↓selV_false, ↓selV_and, ↓impB_true, ↓impB_false, ↓impB_and, ↓prim_pick, ↓selV_nn, ↓impB_nn, doOp, get, ins, del, dels, Nat.reduceLT, Nat.reduceEqDiff, ↓reduceIte, reduceCtorEq, ne_eq, implies_true, prim, YLD, mkA, V.cells, Nat.reduceAdd, Nat.reduceSub, Nat.reduceMul, Nat.reduceLeDiff, loadA, cellsAt, nAg, packA, List.drop, List.take, List.head?, binA, unA, eqCells, eqCell, negB, fillA, storeA, Ob.with, indexedI, V.oneCell, intOf?, resA, resA1, packR, sealDepth, Int.reduceLT, Int.reduceLE, Int.reduceToNat, Int.reduceNeg, Int.reduceAdd, Int.reduceSub, Int.reduceMul, cond_true, cond_false, Int.reduceBNe, Int.reduceBEq, eq_self, deads, List.replicate, argsF, la, g1, g2, hat, hy0, List.getElem?_set_self, List.length_set, l0, List.set_set, kb1, kb2, eH1', x01, k1, k4, c12, c10, pm10, ge, w4]
        exact ⟨h2, WS, gone, W, R, RS, s, S, rfl, by omega, by omega, ⟨hN, row2, D.rs, D.rn, D.nod, D.las, D.gon, D.mat, by omega, D.bys⟩⟩
    | false =>
      cases k2 : (x.kind == 2) with
      | true =>
        obtain ⟨v', H2, c13, hc⟩ := @deliver_spec N n (by omega) (by omega) _ _ _ _ _ _ D1.net x.n
        rcases hc with ⟨z, hz, rfl, W', hN, hB⟩ | ⟨-, rfl, hN, hB⟩
        · obtain ⟨hzm, hzn⟩ := find_num_eq hz
          obtain ⟨zy, q1, q2, q3, q4, q5⟩ := D.mat z hzm
          have hzp := D.net.ok.pos z hzm
          have hzo := D.net.ok.ok z hzm
          obtain ⟨row2, rn2, hlen2⟩ := D1.beyond hB
          obtain ⟨y4, hy4⟩ := site_at hlen2 (k := 4) (by omega)
          have l4 : 4 < H2.length := by omega
          obtain ⟨H3, eH3⟩ : ∃ H3, H3 = H2.set 4 ⟨y4.ver + 1, .var [.int .i64 z.num, .int .i64 z.fr, .int .i64 z.to, z.b]⟩ := ⟨_, rfl⟩
          have eH3' := eH3.symm
          have x43 : H3[4]? = some ⟨y4.ver + 1, .var [.int .i64 z.num, .int .i64 z.fr, .int .i64 z.to, z.b]⟩ := by rw [eH3, List.getElem?_set_self l4]
          have x02 : H3[0]? = some ⟨y0.ver + 1, .var [.int .i64 x.kind, .int .i64 x.a, .int .i64 x.b, .int .i64 x.n, x.body]⟩ := by rw [eH3, List.getElem?_set_ne (by omega), hB.oth 0 (by omega) (by omega) (by omega) (nR 0 (by omega))]; exact x01
          have net3 : NetAt H3 7 6 W' R (s.del x.n) := by
            rw [eH3]
            exact hN.set _ (by omega) (by omega) (nR 4 (by omega))
          have row3 : SRow H3 WS S RS := by
            rw [eH3]
            exact row2.keep fun o ho => List.getElem?_set_ne (by rcases D.rs o ho with rfl | rfl <;> omega)
          have hlen3 : 8 ≤ H3.length := by rw [eH3, List.length_set]; exact hlen2
          obtain ⟨o', ver', off', c', t1, t2, t3, t4⟩ := row3.at_ q1
          have hzb := D.bys zy (List.mem_of_getElem? q1)
          have c14 := fun h => @same_true N n (by omega) z zy hzo.1 hzb q2.symm q3.symm q4.symm q5.symm h
          unfold Lt.cs at t4 c13 c14
          -- the second try
          obtain ⟨hd1, hd2⟩ : (s.del x.n).L.find? (fun y => x.n == y.num) = none ∧ (s.del x.n).L.length + 1 = s.L.length := by
            refine ⟨find_del x.n, ?_⟩
            obtain ⟨j, -, -, -, -, h5⟩ := find_at D.net.ok.inc hz
            exact h5
          obtain ⟨v5, H5, c13', hc5⟩ := @deliver_spec N n (by omega) (by omega) _ _ _ _ _ _ net3 x.n
          rcases hc5 with ⟨z', hz', -⟩ | ⟨-, rfl, hN5, hB5⟩
          · rw [hd1] at hz'; cases hz'
          have D3 : Onc H3 WS (gone + 1) i W' R RS (s.del x.n) S := ⟨net3, row3, D.rs, D.rn, D.nod, D.las, by omega, D.mat.del x.n, D.lim, D.bys⟩
          obtain ⟨row5, rn5, hlen5⟩ := D3.beyond hB5
          obtain ⟨y5, hy5⟩ := site_at hlen5 (k := 5) (by omega)
          have l5 : 5 < H5.length := by omega
          have D5 : Onc H5 WS (gone + 1) (i + 1) W' R RS (s.del x.n) S := ⟨hN5, row5, D.rs, D.rn, D.nod, D.las, by omega, D.mat.del x.n, by omega, D.bys⟩
          have D6 := D5.site (k := 5) (by omega) (by omega) (by omega) ⟨y5.ver + 1, .var zL⟩
          obtain ⟨H6, eH6⟩ : ∃ H6, H6 = H5.set 5 ⟨y5.ver + 1, .var zL⟩ := ⟨_, rfl⟩
          have eH6' := eH6.symm
          rw [← eH6] at D6
          have c16 := @len_spec N n (by omega) _ _ _ _ _ _ D6.net
          have hl2 := row2.len
          have gl : (((s.del x.n).L.length : Int) != (IntKind.i64.wrap ((S.length : Int) - ((gone + 1 : Nat) : Int)))) = false := by
            rw [wrap64 (by omega) (by omega)]
            simp
            omega
          have w5 : IntKind.i64.wrap ((gone : Int) + 1) = ((gone + 1 : Nat) : Int) := (wrap64 (by omega) (by omega)).trans (by omega)
          have w6 : IntKind.i64.wrap (z.num - 1) = ((z.num - 1).toNat : Int) := (wrap64 (by omega) (by omega)).trans (by omega)
          have gz : (z.num != x.n) = false := by simp [hzn]
          have g66 : ((6 : Int) != 6) = false := rfl
          obtain ⟨p1, p2, p3, p4, p5, p6⟩ := row2.shape
          have zb1 := hzo.1.cells
          have zb2 := hzo.1.one
          have zb3 := hzo.1.njunk
          have zb4 := hzo.1.nagg
          have zb5 := hzo.1.ntup
          have z4 : zL.length = 4 := rfl
          have zs : setRange zL 0 zL = zL := rfl
          have zo : zL.all V.oneCell = true := rfl
          have x05 : H5[0]? = some ⟨y0.ver + 1, .var [.int .i64 x.kind, .int .i64 x.a, .int .i64 x.b, .int .i64 x.n, x.body]⟩ := by rw [hB5.oth 0 (by omega) (by omega) (by omega) (nR 0 (by omega))]; exact x02
          have t24 : ∀ x : Ob, (H2.set 4 x)[4]? = some x := fun x => List.getElem?_set_self l4
          have t55 : ∀ x : Ob, (H5.set 5 x)[5]? = some x := fun x => List.getElem?_set_self l5
          generalize hzL : zL = ZL at *
          simp +contextual -implicitDefEqProofs (maxSteps := 10000000) only [sxb, plainD, stays, ↓selV_wt, ↓selV_wf, ↓impB_wt, ↓impB_wf, ↓selV_nor, ↓impB_nor, ↓selV_nt, ↓selV_nf, ↓impB_nt, ↓impB_nf, ↓selV_true, ↓selV_false, ↓selV_and, ↓impB_true, ↓impB_false, ↓impB_and, ↓prim_pick, ↓selV_nn, ↓impB_nn, doOp, get, ins, del, dels, Nat.reduceLT, Nat.reduceEqDiff, ↓reduceIte, reduceCtorEq, ne_eq, implies_true, prim, YLD, mkA, V.cells, Nat.reduceAdd, Nat.reduceSub, Nat.reduceMul, Nat.reduceLeDiff, loadA, cellsAt, nAg, packA, List.drop, List.take, List.head?, binA, unA, eqCells, eqCell, negB, fillA, storeA, Ob.with, indexedI, V.oneCell, intOf?, resA, resA1, packR, sealDepth, Int.reduceLT, Int.reduceLE, Int.reduceToNat, Int.reduceNeg, Int.reduceAdd, Int.reduceSub, Int.reduceMul, cond_true, cond_false, Int.reduceBNe, Int.reduceBEq, eq_self, deads, List.replicate, argsF, la, g1, g2, hat, hy0, List.getElem?_set_self, List.length_set, l0, List.set_set, kb1, kb2, eH1', x01, k1, k4, k2, c13, c10, pm10, g0, hl2, w5, gz, x02, w6, hy4, l4, t1, t2, t3, t4, zb1, zb2, t24, eH3', x43, c14, pm14, c13', hy5, l5, t55, zo, z4, zs, eH6', g66, c16, gl, w4]
          exact ⟨h2, WS, gone + 1, W', R, RS, _, _, rfl, by omega, by omega, D6⟩
        · obtain ⟨row2, rn2, hlen2⟩ := D1.beyond hB
          obtain ⟨y4, hy4⟩ := site_at hlen2 (k := 4) (by omega)
          have l4 : 4 < H2.length := by omega
          have D2 : Onc H2 WS gone (i + 1) W R RS s S := ⟨hN, row2, D.rs, D.rn, D.nod, D.las, D.gon, D.mat, by omega, D.bys⟩
          have D3 := D2.site (k := 4) (by omega) (by omega) (by omega) ⟨y4.ver + 1, .var zL⟩
          have ge : ((6 : Int) != 0) = true := rfl
          have z4 : zL.length = 4 := rfl
          have zs : setRange zL 0 zL = zL := rfl
          have zo : zL.all V.oneCell = true := rfl
          have t24 : ∀ x : Ob, (H2.set 4 x)[4]? = some x := fun x => List.getElem?_set_self l4
          generalize hzL : zL = ZL at *
          simp +contextual -implicitDefEqProofs (maxSteps := 10000000) only [sxb, plainD, stays, ↓selV_wt, ↓selV_wf, ↓impB_wt, ↓impB_wf, ↓selV_nor, ↓impB_nor, ↓selV_nt, ↓selV_nf, ↓impB_nt, ↓impB_nf, ↓selV_true, ↓selV_false, ↓selV_and, ↓impB_true, ↓impB_false, ↓impB_and, ↓prim_pick, ↓selV_nn, ↓impB_nn, doOp, get, ins, del, dels, Nat.reduceLT, Nat.reduceEqDiff, ↓reduceIte, reduceCtorEq, ne_eq, implies_true, prim, YLD, mkA, V.cells, Nat.reduceAdd, Nat.reduceSub, Nat.reduceMul, Nat.reduceLeDiff, loadA, cellsAt, nAg, packA, List.drop, List.take, List.head?, binA, unA, eqCells, eqCell, negB, fillA, storeA, Ob.with, indexedI, V.oneCell, intOf?, resA, resA1, packR, sealDepth, Int.reduceLT, Int.reduceLE, Int.reduceToNat, Int.reduceNeg, Int.reduceAdd, Int.reduceSub, Int.reduceMul, cond_true, cond_false, Int.reduceBNe, Int.reduceBEq, eq_self, deads, List.replicate, argsF, la, g1, g2, hat, hy0, List.getElem?_set_self, List.length_set, l0, List.set_set, kb1, kb2, eH1', x01, k1, k4, k2, c13, c10, pm10, ge, hy4, l4, t24, zo, z4, zs, w4]
          exact ⟨h2, WS, gone, W, R, RS, s, S, rfl, by omega, by omega, D3⟩
      | false =>
        cases k3 : (x.kind == 3) with
        | true =>
          obtain ⟨v', H2, c15, hc⟩ := @drop_spec N n (by omega) (by omega) _ _ _ _ _ _ D1.net x.n
          rcases hc with ⟨z, hz, rfl, W', hN, hB⟩ | ⟨-, rfl, hN, hB⟩
          · obtain ⟨row2, rn2, hlen2⟩ := D1.beyond hB
            have hd2 : (s.del x.n).L.length + 1 = s.L.length := by
              obtain ⟨j, -, -, -, -, h5⟩ := find_at D.net.ok.inc hz
              exact h5
            have D2 : Onc H2 WS (gone + 1) (i + 1) W' R RS (s.del x.n) S := ⟨hN, row2, D.rs, D.rn, D.nod, D.las, by omega, D.mat.del x.n, by omega, D.bys⟩
            have c16 := @len_spec N n (by omega) _ _ _ _ _ _ hN
            have hl2 := row2.len
            have gl : (((s.del x.n).L.length : Int) != (IntKind.i64.wrap ((S.length : Int) - ((gone + 1 : Nat) : Int)))) = false := by
              rw [wrap64 (by omega) (by omega)]
              simp
              omega
            have w5 : IntKind.i64.wrap ((gone : Int) + 1) = ((gone + 1 : Nat) : Int) := (wrap64 (by omega) (by omega)).trans (by omega)
            have ge : ((0 : Int) == 0) = true := rfl
            obtain ⟨p1, p2, p3, p4, p5, p6⟩ := row2.shape
            simp +contextual -implicitDefEqProofs (maxSteps := 10000000) only [sxb, plainD, stays, ↓selV_wt, ↓selV_wf, ↓impB_wt, ↓impB_wf, ↓selV_nor, ↓impB_nor, ↓selV_nt, ↓selV_nf, ↓impB_nt, ↓impB_nf, ↓selV_true, ↓selV_false, ↓selV_and, ↓impB_true, ↓impB_false, ↓impB_and, ↓prim_pick, ↓selV_nn, ↓impB_nn, doOp, get, ins, del, dels, Nat.reduceLT, Nat.reduceEqDiff, ↓reduceIte, reduceCtorEq, ne_eq, implies_true, prim, YLD, mkA, V.cells, Nat.reduceAdd, Nat.reduceSub, Nat.reduceMul, Nat.reduceLeDiff, loadA, cellsAt, nAg, packA, List.drop, List.take, List.head?, binA, unA, eqCells, eqCell, negB, fillA, storeA, Ob.with, indexedI, V.oneCell, intOf?, resA, resA1, packR, sealDepth, Int.reduceLT, Int.reduceLE, Int.reduceToNat, Int.reduceNeg, Int.reduceAdd, Int.reduceSub, Int.reduceMul, cond_true, cond_false, Int.reduceBNe, Int.reduceBEq, eq_self, deads, List.replicate, argsF, la, g1, g2, hat, hy0, List.getElem?_set_self, List.length_set, l0, List.set_set, kb1, kb2, eH1', x01, k1, k4, k2, k3, c15, c10, pm10, ge, hl2, w5, c16, gl, w4]
            exact ⟨h2, WS, gone + 1, W', R, RS, _, _, rfl, by omega, by omega, D2⟩
          · obtain ⟨row2, rn2, hlen2⟩ := D1.beyond hB
            have D2 : Onc H2 WS gone (i + 1) W R RS s S := ⟨hN, row2, D.rs, D.rn, D.nod, D.las, D.gon, D.mat, by omega, D.bys⟩
            have c16 := @len_spec N n (by omega) _ _ _ _ _ _ hN
            have hl2 := row2.len
            have gl : ((s.L.length : Int) != (IntKind.i64.wrap ((S.length : Int) - (gone : Int)))) = false := by
              rw [wrap64 (by omega) (by omega)]
              simp
              omega
            have ge : ((6 : Int) == 0) = false := rfl
            obtain ⟨p1, p2, p3, p4, p5, p6⟩ := row2.shape
            simp +contextual -implicitDefEqProofs (maxSteps := 10000000) only [sxb, plainD, stays, ↓selV_wt, ↓selV_wf, ↓impB_wt, ↓impB_wf, ↓selV_nor, ↓impB_nor, ↓selV_nt, ↓selV_nf, ↓impB_nt, ↓impB_nf, ↓selV_true, ↓selV_false, ↓selV_and, ↓impB_true, ↓impB_false, ↓impB_and, ↓prim_pick, ↓selV_nn, ↓impB_nn, doOp, get, ins, del, dels, Nat.reduceLT, Nat.reduceEqDiff, ↓reduceIte, reduceCtorEq, ne_eq, implies_true, prim, YLD, mkA, V.cells, Nat.reduceAdd, Nat.reduceSub, Nat.reduceMul, Nat.reduceLeDiff, loadA, cellsAt, nAg, packA, List.drop, List.take, List.head?, binA, unA, eqCells, eqCell, negB, fillA, storeA, Ob.with, indexedI, V.oneCell, intOf?, resA, resA1, packR, sealDepth, Int.reduceLT, Int.reduceLE, Int.reduceToNat, Int.reduceNeg, Int.reduceAdd, Int.reduceSub, Int.reduceMul, cond_true, cond_false, Int.reduceBNe, Int.reduceBEq, eq_self, deads, List.replicate, argsF, la, g1, g2, hat, hy0, List.getElem?_set_self, List.length_set, l0, List.set_set, kb1, kb2, eH1', x01, k1, k4, k2, k3, c15, c10, pm10, ge, hl2, c16, gl, w4]
            exact ⟨h2, WS, gone, W, R, RS, _, _, rfl, by omega, by omega, D2⟩
        | false =>
          have D2 : Onc H1 WS gone (i + 1) W R RS s S := ⟨D1.net, D1.row, D.rs, D.rn, D.nod, D.las, D.gon, D.mat, by omega, D.bys⟩
          have c16 := @len_spec N n (by omega) _ _ _ _ _ _ D1.net
          have hl2 := D1.row.len
          have gl : ((s.L.length : Int) != (IntKind.i64.wrap ((S.length : Int) - (gone : Int)))) = false := by
            rw [wrap64 (by omega) (by omega)]
            simp
            omega
          obtain ⟨p1, p2, p3, p4, p5, p6⟩ := D1.row.shape
          simp +contextual -implicitDefEqProofs (maxSteps := 10000000) only [sxb, plainD, stays, ↓selV_wt, ↓selV_wf, ↓impB_wt, ↓impB_wf, ↓selV_nor, ↓impB_nor, ↓selV_nt, ↓selV_nf, ↓impB_nt, ↓impB_nf, ↓selV_true, ↓selV_false, ↓selV_and, ↓impB_true, ↓impB_false, ↓impB_and, ↓prim_pick, ↓selV_nn, ↓impB_nn, doOp, get, ins, del, dels, Nat.reduceLT, Nat.reduceEqDiff, ↓reduceIte, reduceCtorEq, ne_eq, implies_true, prim, YLD, mkA, V.cells, Nat.reduceAdd, Nat.reduceSub, Nat.reduceMul, Nat.reduceLeDiff, loadA, cellsAt, nAg, packA, List.drop, List.take, List.head?, binA, unA, eqCells, eqCell, negB, fillA, storeA, Ob.with, indexedI, V.oneCell, intOf?, resA, resA1, packR, sealDepth, Int.reduceLT, Int.reduceLE, Int.reduceToNat, Int.reduceNeg, Int.reduceAdd, Int.reduceSub, Int.reduceMul, cond_true, cond_false, Int.reduceBNe, Int.reduceBEq, eq_self, deads, List.replicate, argsF, la, g1, g2, hat, hy0, List.getElem?_set_self, List.length_set, l0, List.set_set, kb1, kb2, eH1', x01, k1, k4, k2, k3, hl2, c16, gl, w4]
          exact ⟨h2, WS, gone, W, R, RS, _, _, rfl, by omega, by omega, D2⟩
def bySh : Sh := .sl false 1 (.int .u8)
def stpSh : Sh := .pair (.int .i64) (.pair (.int .i64) (.pair (.int .i64) (.pair (.int .i64) (.pair bySh .unit))))
def stpsSh : Sh := .sl true 5 stpSh
theorem by_in {u : List V} (h : InSh bySh u) : ∃ b m, u = [b] ∧ By m b := by
  rcases h with rfl | ⟨us, c, rfl, -, -, hu⟩
  · exact ⟨.nils, [], rfl, .inl ⟨rfl, rfl⟩⟩
  · have : ∀ us : List (List V), (∀ u ∈ us, u.length = 1 ∧ InSh (.int .u8) u) → ∃ m : List Int, us.map (elemV false) = m.map (V.int .u8) := by
      intro us
      induction us with
      | nil => exact fun _ => ⟨[], rfl⟩
      | cons u us ih =>
        intro hu
        obtain ⟨m, hm⟩ := ih (fun v hv => hu v (by simp [hv]))
        obtain ⟨x, rfl, -⟩ := in_u8 (hu u (by simp)).2
        exact ⟨x :: m, by rw [List.map_cons, hm]; rfl⟩
    obtain ⟨m, hm⟩ := this us hu
    rw [hm]
    exact ⟨_, m, rfl, .inr ⟨some c, rfl⟩⟩
theorem stp_in {u : List V} (h : InSh stpSh u) : ∃ m : Stp, u = m.cs := by
  obtain ⟨u1, v1, rfl, h1, u2, v2, rfl, h2, u3, v3, rfl, h3, u4, v4, rfl, h4, u5, v5, rfl, h5, rfl⟩ := h
  obtain ⟨a1, rfl, -⟩ := in_i64 h1
  obtain ⟨a2, rfl, -⟩ := in_i64 h2
  obtain ⟨a3, rfl, -⟩ := in_i64 h3
  obtain ⟨a4, rfl, -⟩ := in_i64 h4
  obtain ⟨b, m, rfl, hm⟩ := by_in h5
  exact ⟨⟨a1, a2, a3, a4, m, b, hm⟩, rfl⟩
theorem stps_in {u : V} (h : InP false stpsSh u) : ∃ M : List Stp, IsL u 5 (M.map Stp.cs) := by
  rcases h with h | ⟨us, c, h, -, -, hu⟩
  · cases h
    exact ⟨[], isL_nils 5⟩
  · cases h
    have key : ∀ us : List (List V), (∀ u ∈ us, u.length = 5 ∧ InSh stpSh u) → ∃ M : List Stp, us.map (elemV true) = M.map (fun m => V.agg m.cs) := by
      intro us
      induction us with
      | nil => exact fun _ => ⟨[], rfl⟩
      | cons u us ih =>
        intro hu
        obtain ⟨M, hM⟩ := ih (fun v hv => hu v (by simp [hv]))
        obtain ⟨m, rfl⟩ := stp_in (hu u (by simp)).2
        exact ⟨m :: M, by rw [List.map_cons, hM]; rfl⟩
    obtain ⟨M, hM⟩ := key us hu
    rw [hM]
    refine ⟨M, isL_sl (freeL_of_mem fun b hb => ?_) ?_⟩
    · obtain ⟨m, -, rfl⟩ := List.mem_map.1 hb
      show V.freeL m.cs = true
      unfold Stp.cs
      simp only [freeL_cons, freeL_nil, free_int, m.ok.free, Bool.and_self]
    · rw [List.map_map]; rfl
theorem runsNetOnce {u : V} (h : InPM 1048576 false stpsSh u) : ∃ N n, callA am N n 3 [u] [] = some (.bool true, []) := by
  obtain ⟨M, hM⟩ := stps_in h.weak
  exact ⟨6000, 40, once_spec (by omega) (by omega) u M hM []⟩
end Go.Am.T

