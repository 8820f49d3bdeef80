/- The walk's words for slices that came in, and for rows of elements in an array. -/
import Derived.Test.YtifbkofianklaaaAw3
set_option linter.unusedVariables false
set_option linter.unusedSimpArgs false
namespace Go.Am

/-- A slice that nobody writes: its elements' cells. -/
structure IsL (l : V) (s : Nat) (cs : List (List V)) : Prop where
  free : l.free = true
  len : lenA l = some cs.length
  nstr : ∀ b, l ≠ .str b
  at_ : ∀ i : Nat, iaddrSA s l (.int .i64 i) = match cs[i]? with | some c => some (.ret (.iptr c 0)) | none => none
  first : ∀ get n, n ≤ cs.length → firstA get s n l = some (cs.take n).flatten

theorem isL_nils (s : Nat) : IsL .nils s [] := ⟨rfl, rfl, by simp, fun i => rfl, fun get n hn => by simp at hn; subst hn; rfl⟩

theorem isL_sl {L : List V} {s : Nat} {c : Option Nat} {cs : List (List V)} (hf : V.freeL L = true) (hc : L.map V.cells = cs) : IsL (.sl L s c) s cs := by
  subst hc
  refine ⟨hf, by simp [lenA], by simp, fun i => ?_, fun get n hn => ?_⟩
  · simp only [iaddrSA, ↓reduceIte, indexedI, Int.natCast_nonneg, Int.ofNat_lt, Int.toNat_natCast, List.getElem?_map]
    by_cases h : i < L.length
    · simp [h]
    · simp [h]
  · simp only [List.length_map] at hn
    simp only [firstA, ↓reduceIte, if_pos hn]
    congr 1
    rw [← List.map_take, List.flatMap_def]

theorem flat_length {s : Nat} : ∀ {cs : List (List V)}, (∀ c ∈ cs, c.length = s) → cs.flatten.length = cs.length * s
  | [], _ => by simp
  | c :: cs, h => by
    rw [List.flatten_cons, List.length_append, h c (by simp), flat_length (fun c hc => h c (by simp [hc])), List.length_cons, Nat.add_mul, Nat.one_mul, Nat.add_comm]

theorem flat_at {s : Nat} : ∀ {cs : List (List V)} {rest : List V} {i : Nat} {c : List V}, (∀ c ∈ cs, c.length = s) → cs[i]? = some c → ((cs.flatten ++ rest).drop (i * s)).take s = c
  | [], rest, i, c, _, h => by simp at h
  | c0 :: cs, rest, 0, c, hs, h => by
    simp only [List.getElem?_cons_zero, Option.some.injEq] at h
    subst h
    have := hs c0 (by simp)
    rw [Nat.zero_mul, List.drop_zero, List.flatten_cons, List.append_assoc, List.take_append_of_le_length (by omega), List.take_of_length_le (by omega)]
  | c0 :: cs, rest, i + 1, c, hs, h => by
    have h0 := hs c0 (by simp)
    rw [List.getElem?_cons_succ] at h
    rw [List.flatten_cons, List.append_assoc, show (i + 1) * s = c0.length + i * s by rw [h0, Nat.add_mul, Nat.one_mul, Nat.add_comm], List.drop_append, List.drop_eq_nil_of_le (by omega), List.nil_append]
    rw [show c0.length + i * s - c0.length = i * s by omega]
    exact flat_at (fun c hc => hs c (by simp [hc])) h

theorem flat_take {s : Nat} : ∀ {cs : List (List V)} {rest : List V} {n : Nat}, (∀ c ∈ cs, c.length = s) → n ≤ cs.length → (cs.flatten ++ rest).take (n * s) = (cs.take n).flatten
  | cs, rest, 0, _, _ => by simp
  | [], rest, n + 1, _, h => by simp at h
  | c0 :: cs, rest, n + 1, hs, h => by
    have h0 := hs c0 (by simp)
    rw [List.flatten_cons, List.append_assoc, show (n + 1) * s = c0.length + n * s by rw [h0, Nat.add_mul, Nat.one_mul, Nat.add_comm], List.take_append, List.take_of_length_le (by omega), show c0.length + n * s - c0.length = n * s by omega]
    rw [flat_take (fun c hc => hs c (by simp [hc])) (by simpa using h)]
    rfl

/-- Two values of one plain type with the same cells. -/
def okCells : List CK → List V → Bool
  | [], [] => true
  | .b :: ks, .bool _ :: cs => okCells ks cs
  | .i k :: ks, .int k' _ :: cs => if k' = k then okCells ks cs else false
  | .s :: ks, .str _ :: cs => okCells ks cs
  | _, _ => false

theorem eqCells_self : ∀ {ks : List CK} {cs : List V}, okCells ks cs = true → eqCells ks cs cs = some true
  | [], [], _ => rfl
  | .b :: ks, .bool _ :: cs, h => by simp only [eqCells, eqCell, eqCells_self (ks := ks) (cs := cs) h, beq_self_eq_true, Bool.and_self]
  | .i k :: ks, .int k' _ :: cs, h => by
    simp only [okCells] at h
    split at h
    · rename_i hk
      simp only [eqCells, eqCell, hk, ↓reduceIte, eqCells_self (ks := ks) (cs := cs) h, beq_self_eq_true, Bool.and_self]
    · cases h
  | .s :: ks, .str _ :: cs, h => by simp only [eqCells, eqCell, eqCells_self (ks := ks) (cs := cs) h, beq_self_eq_true, Bool.and_self]
  | [], _ :: _, h => by simp [okCells] at h
  | .b :: _, [], h => by simp [okCells] at h
  | .i _ :: _, [], h => by simp [okCells] at h
  | .s :: _, [], h => by simp [okCells] at h

theorem okCells_ints {k : IntKind} : ∀ {n : Nat} {l : List Int}, l.length = n → okCells (List.replicate n (.i k)) (l.map (V.int k)) = true
  | 0, [], _ => rfl
  | n + 1, x :: l, h => by
    simp only [List.replicate, List.map_cons, okCells, ↓reduceIte]
    exact okCells_ints (by simpa using h)

theorem mapM_shut_id {get : Nat → Option Ob} {d : Nat} {L : List V} (h : V.freeL L = true) : L.mapM (V.shut get (d + 1)) = some L := by
  refine mapM_free fun c hc => ?_
  induction L with
  | nil => cases hc
  | cons x L ih =>
    simp only [freeL_cons, Bool.and_eq_true] at h
    rcases List.mem_cons.1 hc with rfl | hc
    · exact h.1
    · exact ih h.2 hc

theorem allOne_ints (k : IntKind) (l : List Int) : (l.map (V.int k)).all V.oneCell = true := by
  induction l with
  | nil => rfl
  | cons x l ih => simp [V.oneCell, ih]

theorem lenA_sl {L : List V} {s : Nat} {c : Option Nat} : lenA (.sl L s c) = some L.length := rfl
theorem lenA_view {o v f n s : Nat} {c : Option Nat} : lenA (.view o v f n s c) = some n := rfl
theorem lenA_nils : lenA .nils = some 0 := rfl
theorem firstA_sl {get : Nat → Option Ob} {L : List V} {s : Nat} {c : Option Nat} : firstA get s L.length (.sl L s c) = some (L.flatMap V.cells) := by
  simp [firstA]
theorem firstA_sl1 {get : Nat → Option Ob} {x : V} {s : Nat} {c : Option Nat} : firstA get s 1 (.sl [x] s c) = some x.cells := by
  simp [firstA]

/-! ### Functions on the caller's memory -/

theorem call_keep {p : AProg} {N n : Nat} {f : FuncId} {fn : AFunc} {args : List V} {h : Heap} {C : V → Heap → Prop} (hf : p[f]? = some (some fn)) (hm : fn.mode = .keep) (ha : args.length = fn.nargs) (hl : fn.nargs ≤ fn.nt)
    (H : wp ⟨pureOf p, callA p N n, N, h.length⟩ fn.body (fr fn.nt (argsF 0 args)) (h ++ deads fn.sites) (retQ fn.res C)) (hy : f ≠ YLD := by decide) : ∃ v h', callA p N (n + 1) f args h = some (v, h') ∧ C v h' := by
  obtain ⟨v, h', hb, hc⟩ := body_of_wp (by omega) H
  refine ⟨v, h', ?_, hc⟩
  unfold callA
  rw [if_neg hy]
  simp only [hf, ha, ↓reduceIte, hm, hb]

/-- As an equation. -/
theorem call_keep_eq {p : AProg} {N n : Nat} {f : FuncId} {fn : AFunc} {args : List V} {h h' : Heap} {v : V} (hf : p[f]? = some (some fn)) (hm : fn.mode = .keep) (ha : args.length = fn.nargs) (hl : fn.nargs ≤ fn.nt)
    (H : wp ⟨pureOf p, callA p N n, N, h.length⟩ fn.body (fr fn.nt (argsF 0 args)) (h ++ deads fn.sites) (retQ fn.res fun x k => x = v ∧ k = h')) (hy : f ≠ YLD := by decide) : callA p N (n + 1) f args h = some (v, h') := by
  obtain ⟨x, k, h1, rfl, rfl⟩ := call_keep hf hm ha hl H hy
  exact h1

theorem app_get0 {h : Heap} {l : List Ob} : (h ++ l)[h.length]? = l[0]? := by rw [List.getElem?_append_right (Nat.le_refl _), Nat.sub_self]
theorem app_get {h : Heap} {l : List Ob} {k : Nat} : (h ++ l)[h.length + k]? = l[k]? := by rw [List.getElem?_append_right (by omega), Nat.add_sub_cancel_left]
theorem app_set0 {h : Heap} {l : List Ob} {x : Ob} : (h ++ l).set h.length x = h ++ l.set 0 x := by rw [List.set_append_right _ _ (Nat.le_refl _), Nat.sub_self]
theorem app_set {h : Heap} {l : List Ob} {k : Nat} {x : Ob} : (h ++ l).set (h.length + k) x = h ++ l.set k x := by rw [List.set_append_right _ _ (by omega), Nat.add_sub_cancel_left]

/-! ### Bytes -/

theorem shl_nat {n : Int} (h0 : 0 ≤ n) (k : Nat) (h1 : n * 2 ^ k ≤ 9223372036854775807) : IntKind.i64.wrap (n * 2 ^ k) = n * 2 ^ k :=
  wrap64 (by have := Int.mul_nonneg h0 (Int.le_of_lt (Int.pow_pos (n := 2) (m := k) (by omega))); omega) h1

/-- 'or' of two numbers whose bits do not meet. -/
theorem or_add {a b k : Nat} (hb : b < 2 ^ k) (hs : a * 2 ^ k + b < 2 ^ 63) : IntKind.i64.wrap (((BitVec.ofInt 64 ((a * 2 ^ k : Nat) : Int)) ||| (BitVec.ofInt 64 (b : Int))).toNat : Nat) = ((a * 2 ^ k + b : Nat) : Int) := by
  have e1 : (BitVec.ofInt 64 ((a * 2 ^ k : Nat) : Int)).toNat = a * 2 ^ k := by
    rw [BitVec.ofInt_natCast, BitVec.toNat_ofNat, Nat.mod_eq_of_lt (by omega)]
  have e2 : (BitVec.ofInt 64 (b : Int)).toNat = b := by
    rw [BitVec.ofInt_natCast, BitVec.toNat_ofNat, Nat.mod_eq_of_lt (by omega)]
  rw [BitVec.toNat_or, e1, e2, Nat.mul_comm, ← Nat.two_pow_add_eq_or_of_lt hb, Nat.mul_comm]
  exact wrap64 (by omega) (by omega)

/-! ### Regions whose order is open and whose operations might meet -/

def wdK (E : Env) (n : Nat) (dst : Option Nat) (os : List (AOper × List Nat)) (fps : List Fp) (t : List V) (K : Cont) (v : V) (h : Heap) : Prop := wpd E n os fps (put t dst v) h K

theorem wpd_nil {E : Env} {n : Nat} {fps : List Fp} {t : List V} {h : Heap} {K : Cont} : wpd E n [] fps t h K = K t h := rfl
theorem wpd_cons {E : Env} {n : Nat} {dst : Option Nat} {op : AOp} {ps : List Nat} {os : List (AOper × List Nat)} {fps : List Fp} {t : List V} {h : Heap} {K : Cont} :
    wpd E n ((⟨dst, op, none⟩, ps) :: os) fps t h K = ((ps.all fun k => (fps.getD k .bar).ok n (fpOf E.pureF E.fb (ev t) op)) = true ∧ wop E op t h (wdK E n dst os (fps ++ [fpOf E.pureF E.fb (ev t) op]) t K)) := by
  have e : (ps.all fun k => (fps.getD k .bar).ok n (fpOf E.pureF E.fb (ev t) op)) = (ps.all fun k => (fps.getD k .bar).ok n (fpAt E.pureF E.fb ⟨dst, op, none⟩ t)) := rfl
  have e2 : fpOf E.pureF E.fb (ev t) op = fpAt E.pureF E.fb ⟨dst, op, none⟩ t := rfl
  rw [e, e2]
  unfold wpd
  simp only [runDraw]
  cases hc : (ps.all fun k => (fps.getD k .bar).ok n (fpAt E.pureF E.fb ⟨dst, op, none⟩ t)) with
  | false => simp
  | true =>
    simp only [↓reduceIte, true_and, wop, wdK, wpd, stepOp, wanted]
    cases doOp E.call E.fb op (ev t) h <;> rfl
theorem wdK_def {E : Env} {n : Nat} {dst : Option Nat} {os : List (AOper × List Nat)} {fps : List Fp} {t : List V} {K : Cont} {v : V} {h : Heap} : wdK E n dst os fps t K v h = wpd E n os fps (put t dst v) h K := rfl
theorem sx_drawd {E : Env} {ops : List (AOper × List Nat)} {t : List V} {h : Heap} {Q : Post} (hp : plainD ops = false) : sx E (.draw ops) t h Q = wpd E.framed h.length ops [] t h (Q .norm) := by simp only [sx, hp]
theorem contains_one {a b : Nat} : [a].contains b = (b == a) := by rw [Bool.eq_iff_iff]; simp
theorem disj_one {a b : Nat} : disj [a] [b] = !(a == b) := by rw [Bool.eq_iff_iff]; simp [disj]
theorem disj_nil' {b : List Nat} : disj [] b = true := rfl
theorem disj_nilr {a : List Nat} : disj a [] = true := by simp [disj]

/-! ### Cells written over -/

theorem sr_nil {cs : List V} : setRange cs 0 [] = cs := by simp [setRange]
theorem sr_cons {a b : V} {cs bs : List V} : setRange (a :: cs) 0 (b :: bs) = b :: setRange cs 0 bs := by
  simp [setRange]
theorem sr_succ {a : V} {cs bs : List V} {n : Nat} : setRange (a :: cs) (n + 1) bs = a :: setRange cs n bs := by
  simp only [setRange, List.take_succ_cons, List.cons_append, List.cons.injEq, true_and]
  rw [show n + 1 + bs.length = (n + bs.length) + 1 by omega, List.drop_succ_cons]
theorem sr_all {cs bs : List V} (h : bs.length = cs.length) : setRange cs 0 bs = bs := by
  simp [setRange, ← h]
theorem sr_app {as cs bs : List V} : setRange (as ++ cs) as.length bs = as ++ setRange cs 0 bs := by
  simp only [setRange, List.take_zero, List.nil_append, Nat.zero_add]
  rw [List.take_append_of_le_length (Nat.le_refl _), List.take_length, List.append_assoc, List.drop_append, List.drop_eq_nil_of_le (by omega), List.nil_append]
  congr 3
  omega
theorem sr_len {cs bs : List V} {n : Nat} (h : n + bs.length ≤ cs.length) : (setRange cs n bs).length = cs.length := setRange_length _ _ _ h

def cvP (E : Env) (f : V) (args : List V) (h : Heap) (C : V → Heap → Prop) : Prop :=
  match f with
  | .func g xs ys => if g = YLD then False else wcall (E.call g (xs ++ args ++ ys) h) C
  | .yld o ver => wcall (E.call YLD (.yld o ver :: args) h) C
  | _ => False
theorem wop_cv {E : Env} {f : Opd} {args : List Opd} {t : List V} {h : Heap} {C : V → Heap → Prop} : wop E (.callv f args) t h C = cvP E (ev t f) (args.map (ev t)) h C := by
  unfold wop cvP
  simp only [doOp]
  cases ev t f <;> try rfl
  simp only
  split <;> rfl
theorem cvP_func {E : Env} {g : FuncId} {xs ys args : List V} {h : Heap} {C : V → Heap → Prop} (hy : g ≠ 1000000007) : cvP E (.func g xs ys) args h C = wcall (E.call g (xs ++ args ++ ys) h) C := by
  have hy' : ¬ g = YLD := hy
  simp only [cvP, if_neg hy']
theorem cvP_yld {E : Env} {o ver : Nat} {args : List V} {h : Heap} {C : V → Heap → Prop} : cvP E (.yld o ver) args h C = wcall (E.call YLD (.yld o ver :: args) h) C := rfl

/-! ### A block of cells inside a row -/

theorem blk_set {B : List V} {n : Nat} (h : B.length = n) (rest : List V) (j : Nat) (bs : List V) : setRange (B ++ rest) (j + n) bs = B ++ setRange rest j bs := by
  subst h
  simp only [setRange]
  rw [List.take_append, List.take_of_length_le (by omega), show j + B.length - B.length = j by omega, List.drop_append, List.drop_eq_nil_of_le (by omega), show j + B.length + bs.length - B.length = j + bs.length by omega]
  simp
theorem blk_take {B : List V} {n : Nat} (h : B.length = n) (rest : List V) (k : Nat) : (B ++ rest).take (k + n) = B ++ rest.take k := by
  subst h
  rw [List.take_append, List.take_of_length_le (by omega), show k + B.length - B.length = k by omega]
theorem blk_drop {B : List V} {n : Nat} (h : B.length = n) (rest : List V) (k : Nat) : (B ++ rest).drop (k + n) = rest.drop k := by
  subst h
  rw [List.drop_append, List.drop_eq_nil_of_le (by omega), show k + B.length - B.length = k by omega]
  rfl
theorem blk_put {B : List V} {n : Nat} (h : B.length = n) (cs : List V) : setRange cs 0 B = B ++ cs.drop n := by
  subst h
  simp [setRange]

theorem freeL_of_mem : ∀ {l : List V}, (∀ c ∈ l, c.free = true) → V.freeL l = true
  | [], _ => rfl
  | c :: l, h => by rw [freeL_cons, h c (by simp), freeL_of_mem (fun d hd => h d (by simp [hd]))]; rfl
theorem freeL_mem : ∀ {l : List V}, V.freeL l = true → ∀ c ∈ l, c.free = true
  | [], _, c, hc => by cases hc
  | d :: l, h, c, hc => by
    simp only [freeL_cons, Bool.and_eq_true] at h
    rcases List.mem_cons.1 hc with rfl | hc
    · exact h.1
    · exact freeL_mem h.2 c hc
theorem freeL_ints (k : IntKind) (l : List Int) : V.freeL (l.map (V.int k)) = true := freeL_map _ (fun _ => rfl) _

end Go.Am
