/- Operation by operation: slices, append, copy. -/
import Derived.Test.YtifbkofianklaaaAm6
import Derived.Deep.AppendSrc
import Derived.Deep.Upon
set_option linter.unusedVariables false
set_option linter.unusedSimpArgs false
namespace Go.Am
variable {P : Program}

theorem flat_get (s : Nat) : ∀ (L : List V), (∀ e ∈ L, e.cells.length = s) → (L.flatMap V.cells).length = L.length * s ∧ ∀ (k : Nat) (c : V), (L.flatMap V.cells)[k]? = some c → ∃ i j e, k = i * s + j ∧ j < s ∧ L[i]? = some e ∧ e.cells[j]? = some c
  | [], _ => by simp
  | e :: L, h => by
    obtain ⟨h1, h2⟩ := flat_get s L (fun x hx => h x (by simp [hx]))
    have he := h e (by simp)
    refine ⟨by simp only [List.flatMap_cons, List.length_append, he, h1, List.length_cons, Nat.add_mul, Nat.one_mul]; omega, fun k c hk => ?_⟩
    rw [List.flatMap_cons] at hk
    rcases Nat.lt_or_ge k s with hlt | hge
    · rw [List.getElem?_append_left (by omega)] at hk
      exact ⟨0, k, e, by omega, hlt, rfl, hk⟩
    · rw [List.getElem?_append_right (by omega), he] at hk
      obtain ⟨i, j, e', hij, hj, hi, hc⟩ := h2 _ _ hk
      exact ⟨i + 1, j, e', by rw [Nat.add_mul, Nat.one_mul]; omega, hj, by simpa using hi, hc⟩

theorem sl_cells {g : G} {w : World} {L : List V} {s b off : Nat} {f : Nat → Value} (hz : ∀ (i : Nat) (e : V), L[i]? = some e → e.cells.length = s)
    (hc : ∀ j, j < L.length * s → w.cell? (at_ b (off + j)) = some (f j)) (hv : ∀ (i : Nat) (e : V) (j : Nat) (x : V), L[i]? = some e → e.cells[j]? = some x → VRel g w x (f (i * s + j)))
    {n : Nat} (hn : n ≤ L.length) : ∃ xs : List Value, xs.length = n * s ∧ (∀ j y, xs[j]? = some y → w.cell? (at_ b (off + j)) = some y) ∧ Cells g w ((L.take n).flatMap V.cells) xs ∧ ((L.take n).flatMap V.cells).length = n * s := by
  have hall : ∀ e ∈ L.take n, e.cells.length = s := fun e he => by
    obtain ⟨i, hi, rfl⟩ := List.getElem_of_mem (List.mem_of_mem_take he)
    exact hz i _ (List.getElem?_eq_getElem hi)
  obtain ⟨h1, h2⟩ := flat_get s (L.take n) hall
  have hlen : ((L.take n).flatMap V.cells).length = n * s := by rw [h1, List.length_take, Nat.min_eq_left hn]
  have hmul : n * s ≤ L.length * s := Nat.mul_le_mul_right _ hn
  refine ⟨(List.range (n * s)).map f, by simp, fun j y hy => ?_, ⟨by rw [hlen]; simp, fun i c y hc' hy => ?_⟩, hlen⟩
  · rcases Nat.lt_or_ge j (n * s) with hj | hj
    · rw [List.getElem?_map, List.getElem?_range hj] at hy
      simp at hy
      subst hy
      exact hc j (by omega)
    · rw [List.getElem?_eq_none (by simpa using hj)] at hy
      cases hy
  · rcases Nat.lt_or_ge i (n * s) with hj | hj
    · rw [List.getElem?_map, List.getElem?_range hj] at hy
      simp at hy
      subst hy
      obtain ⟨i', j, e, rfl, hj', hi', hcc⟩ := h2 _ _ hc'
      have : L[i']? = some e := by
        rw [List.getElem?_take] at hi'
        split at hi'
        · exact hi'
        · cases hi'
      exact hv _ _ _ _ this hcc
    · rw [List.getElem?_eq_none (by simpa using hj)] at hy
      cases hy

/-- The first elements' cells, on both sides. -/
theorem goes_first {g : G} {h : Heap} {w : World} (s : Sim g h w) {sz n : Nat} {y : V} {x : Value} (hx : VRel g w y x) {cs : List V} (hf : firstA (fun o => h[o]?) sz n y = some cs) :
    ∃ xs : List Value, (∀ d : Nat, (Builtin.firstCells sz n x).run P { w with drawn := d } = .ok xs.toArray { w with drawn := d }) ∧ Cells g w cs xs ∧ xs.length = n * sz ∧ cs.length = n * sz := by
  cases hx <;> simp only [firstA, reduceCtorEq] at hf
  case nils =>
    split at hf
    · rename_i h0; subst h0
      cases hf
      exact ⟨[], fun d => by simp [Builtin.firstCells], ⟨rfl, by simp⟩, by simp, by simp⟩
    · cases hf
  case vend o ver s' b base x c m e hg hs' hn =>
    split at hf
    · split at hf
      · rename_i h0; subst h0
        cases hf
        exact ⟨[], fun d => by simp [Builtin.firstCells, loadCells, loadCellsFrom], ⟨rfl, by simp⟩, by simp, by simp⟩
      · cases hf
    · cases hf
  case view o ver off len s' cap b base c m e hg hl hk hs' hn =>
    split at hf
    · split at hf
      · obtain ⟨b', off', xs, he, h1, h2, h3, h4⟩ := goes_loads s (.ptr o ver off b base hg) hf
        cases he
        exact ⟨xs, fun d => by simp only [Builtin.firstCells]; exact run_loads (w := { w with drawn := d }) h1 h3, h4, h1, h2⟩
      · cases hf
    · cases hf
  case sl L s' cap b off c f hi hl hk hz hc hv =>
    split at hf
    · rename_i hs; subst hs
      split at hf
      · rename_i hle
        cases hf
        obtain ⟨xs, h1, h2, h3, h4⟩ := sl_cells hz hc hv hle
        exact ⟨xs, fun d => by simp only [Builtin.firstCells]; exact run_loads (w := { w with drawn := d }) h1 h2, h3, h1, h4⟩
      · cases hf
    · cases hf
  case sl0 s' cap a hk =>
    split at hf
    · split at hf
      · rename_i hle
        have h0 : n = 0 := by simpa using hle
        subst h0
        cases hf
        exact ⟨[], fun d => by simp [Builtin.firstCells, loadCells, loadCellsFrom], ⟨rfl, by simp⟩, by simp, by simp⟩
      · cases hf
    · cases hf
  case str b =>
    split at hf
    · rename_i hs; subst hs
      split at hf
      · rename_i hle
        cases hf
        refine ⟨(b.take n).map fun c => .int .u8 c.toNat, ?_, ⟨by simp, fun i c y h1 h2 => ?_⟩, by simp [Nat.min_eq_left hle], by simp [Nat.min_eq_left hle]⟩
        · intro d
          simp only [Builtin.firstCells, Sem.run_pure]
          congr 1
          apply Array.ext'
          have : ((⟨⟨b⟩⟩ : ByteArray).extract 0 n).data.toList = b.take n := by
            simp [ByteArray.data_extract]
          simp [this]
        · simp only [List.getElem?_map, Option.map_eq_some_iff] at h1 h2
          obtain ⟨a, ha, rfl⟩ := h1
          obtain ⟨a', ha', rfl⟩ := h2
          rw [ha] at ha'
          cases ha'
          exact .int _ _
      · cases hf
    · cases hf

theorem lenOf_rel {g : G} {w : World} {v : V} {x : Value} (hx : VRel g w v x) {n : Nat} (hn : lenA v = some n) (w' : World) : (Builtin.lenOf x).run P w' = .ok n w' := by
  rcases lenA_rel hx hn with ⟨a, c, rfl⟩ | ⟨b, rfl, -, rfl⟩
  · simp [Builtin.lenOf]
  · simp only [Builtin.lenOf, Sem.run_pure]
    rfl

/-- Cells that are written were cells: of one cell each. -/
theorem first_oneCell {xs : List Value} {w : World} {b off : Nat} : True := trivial

theorem growBy_le (need : Nat) : ∀ (r c : Nat), c < need → 256 ≤ c → Builtin.growBy need r c ≤ 3 * need
  | 0, c, h, _ => by simp [Builtin.growBy]; omega
  | r + 1, c, h, h2 => by
    rw [Builtin.growBy]
    split
    · omega
    · rcases Nat.lt_or_ge (c + (c + 768) / 4) need with h1 | h1
      · exact growBy_le need r _ h1 (by omega)
      · cases r with
        | zero => simp [Builtin.growBy]; omega
        | succ r => rw [Builtin.growBy, if_pos h1]; omega

theorem nextcap_le {need old : Nat} (h : old < need) : Builtin.nextslicecap need old ≤ 3 * need := by
  unfold Builtin.nextslicecap
  split
  · omega
  · split
    · omega
    · exact growBy_le need 4 old h (by omega)

/-- What 'append' and 'copy' ask of the element's type. -/
structure ElemOk (P : Program) (st e : TypeId) (i : TypeInfo) (z : Value) (sz by' : Nat) (zc : List V) : Prop where
  slice : P.underlying st = some (.slice e)
  info : P.info? e = some i
  zv : i.zero = some z
  size : i.size = sz
  bytes : i.bytes = by'
  zcells : z.cells.size = sz
  pos : 0 < by'
  spos : 0 < sz

theorem Later.drew (g : G) (w : World) : Later g w g w.drew := ⟨rfl, fun _ _ _ h => h, fun _ h => h, fun _ _ => rfl, fun _ _ h => h⟩

theorem Sim.drew' {g : G} {h : Heap} {w : World} (s : Sim g h w) : Sim g h w.drew := s.drew _

/-- The second argument of an append. -/
theorem src_of {g : G} {h : Heap} {w : World} (s : Sim g h w) {sz n : Nat} {y : V} {x : Value} (hx : VRel g w y x) {cs : List V} (hf : firstA (fun o => h[o]?) sz n y = some cs) (hn : lenA y = some n)
    (h1 : cs.all V.oneCell = true) {tx : TypeId} (hk : (∃ e', P.underlying tx = some (.slice e')) ∨ P.underlying tx = some .string) :
    ∃ xs, Src P sz tx x n xs w ∧ Cells g w cs xs := by
  obtain ⟨xs, r1, r2, r3, r4⟩ := goes_first (P := P) s hx hf
  exact ⟨xs, ⟨hk, fun w' => lenOf_rel hx hn w', r1 w.drawn, r1 _, r3, r2.oneCell h1⟩, r2⟩

/-- Nothing is appended. -/
theorem goes_append_none {g : G} {h : Heap} {w : World} (s : Sim g h w) {st xt e tt : TypeId} {i : TypeInfo} {z : Value} {sz by' : Nat} {zc : List V} (ok : ElemOk P st e i z sz by' zc)
    {x : V} {a : Option Addr} {l c : Nat} (hx : VRel g w x (.slice a l c)) (hl : l ≤ c) {Y : Value} (src : Src P sz xt Y 0 [] w) : Goes P (Builtin.append_ #[st, xt] tt #[.slice a l c, Y]) g h w x h :=
  .still s (run_append_nothing w st xt tt e i ok.slice ok.info a l c hl Y (by rw [ok.size]; exact src)) hx

theorem cells_append {g : G} {w : World} {cs ds : List V} {xs ys : List Value} (h1 : Cells g w cs xs) (h2 : Cells g w ds ys) : Cells g w (cs ++ ds) (xs ++ ys) := by
  refine ⟨by simp [h1.1, h2.1], fun i c x hc hx => ?_⟩
  rcases Nat.lt_or_ge i cs.length with hlt | hge
  · rw [List.getElem?_append_left hlt] at hc
    rw [List.getElem?_append_left (by have := h1.1; omega)] at hx
    exact h1.2 i c x hc hx
  · rw [List.getElem?_append_right hge] at hc
    rw [List.getElem?_append_right (by have := h1.1; omega), h1.1] at hx
    exact h2.2 _ c x hc hx

/-- What a row's growing comes to. -/
theorem run_grow {w : World} {st xt e tt : TypeId} {i : TypeInfo} {z : Value} {sz by' : Nat} {zc : List V} (ok : ElemOk P st e i z sz by' zc) {a : Option Addr} {l c n : Nat} {Y : Value} {news olds : List Value}
    (src : Src P sz xt Y n news w) (hold : (Builtin.firstCells sz l (.slice a l c)).run P w.drew = .ok olds.toArray w.drew) (hol : olds.length = l * sz) (hlt : c < l + n) (hroom : (l + n) * by' ≤ maxBytes) :
    ∃ C rest, l + n ≤ C ∧ (olds ++ news ++ rest).length = C * sz ∧ (Builtin.append_ #[st, xt] tt #[.slice a l c, Y]).run P w =
      .ok (.slice (some (at_ w.heap.size 0)) (l + n) C) { w with drawn := w.drawn + 1, heap := w.heap.push (.cells (olds ++ news ++ rest).toArray e) } := by
  have hmb : maxBytes = 1099511627776 := rfl
  have hle : l + n ≤ (l + n) * by' := Nat.le_mul_of_pos_right _ ok.pos
  have hcap : Builtin.nextslicecap (l + n) c * by' ≤ 3 * ((l + n) * by') := by
    rw [← Nat.mul_assoc]
    exact Nat.mul_le_mul_right _ (nextcap_le hlt)
  have hrun := run_append_grow_src w st xt tt e i z ok.slice ok.info ok.zv a l c olds (by rw [ok.size]; exact hold) Y n news (by rw [ok.size]; exact src) hlt (by omega) (by rw [ok.bytes]; omega)
  have hC : l + n ≤ grownCap w (l + n) c e := by
    simp only [grownCap, Question.cut]
    omega
  refine ⟨grownCap w (l + n) c e, (Builtin.zeroCells z.cells (grownCap w (l + n) c e - (l + n))).toList, hC, ?_, ?_⟩
  · have hz := ok.zcells
    have hn := src.newsLen
    have : (Builtin.zeroCells z.cells (grownCap w (l + n) c e - (l + n))).toList.length = (grownCap w (l + n) c e - (l + n)) * sz := by simp [Builtin.zeroCells, hz]
    simp only [List.length_append, this, hol, hn]
    rw [← Nat.add_mul, ← Nat.add_mul]
    congr 1
    omega
  · have harr : (olds ++ news).toArray ++ Builtin.zeroCells z.cells (grownCap w (l + n) c e - (l + n)) = (olds ++ news ++ (Builtin.zeroCells z.cells (grownCap w (l + n) c e - (l + n))).toList).toArray := by
      apply Array.ext'
      simp
    rw [hrun, harr]
    rfl

/-- A new row, at a site of its own. -/
theorem goes_append_new {g : G} {h : Heap} {w : World} (s : Sim g h w) {st xt e tt : TypeId} {i : TypeInfo} {z : Value} {sz by' : Nat} {zc : List V} (ok : ElemOk P st e i z sz by' zc)
    {a : Option Addr} {l c n : Nat} {Y : Value} {new oc : List V} {news olds : List Value} (src : Src P sz xt Y n news w) (hnew : Cells g w new news)
    (hold : ∀ d : Nat, (Builtin.firstCells sz l (.slice a l c)).run P { w with drawn := d } = .ok olds.toArray { w with drawn := d }) (holds : Cells g w oc olds) (hol : olds.length = l * sz) (hlt : c < l + n) (hroom : (l + n) * by' ≤ maxBytes)
    {o : Nat} {eff : Eff} (he : mkA (fun o => h[o]?) o (.arr (oc ++ new)) (fun v => .view o v 0 (l + n) sz none) = some eff) : EffGoes P (Builtin.append_ #[st, xt] tt #[.slice a l c, Y]) g h w eff := by
  obtain ⟨C, rest, hC, hlen, hrun⟩ := run_grow (tt := tt) ok src (hold _) hol hlt hroom
  unfold mkA at he
  cases ho : h[o]? with
  | none => simp [ho] at he
  | some ob =>
    simp only [ho, Option.some.injEq] at he
    subst he
    have hcells := (cells_append holds hnew).later (Later.drew g w)
    obtain ⟨h1, h2, h3, h4⟩ := sim_new s.drew' ho (.arr (oc ++ new)) (oc ++ new) (.inr rfl) (olds ++ news ++ rest).toArray e (fun j v hj => by
      have hlt' : j < (olds ++ news).length := by
        have : j < (oc ++ new).length := by rcases Nat.lt_or_ge j (oc ++ new).length with k | k; exact k; simp [List.getElem?_eq_none k] at hj
        have := hcells.1
        omega
      refine ⟨(olds ++ news)[j], ?_, hcells.2 j v _ hj (List.getElem?_eq_getElem hlt')⟩
      rw [List.getElem?_toArray, List.getElem?_append_left hlt', List.getElem?_eq_getElem hlt'])
    refine ⟨_, _, _, hrun, h1, (Ext.drew g h w _).trans h2, ?_⟩
    refine .view o _ 0 (l + n) sz none w.heap.size 0 C _ e h3 hC (fun _ hk => by cases hk) h4 (fun _ => ?_)
    simp only [List.size_toArray, hlen]
    omega

end Go.Am
