/- Operation by operation: smaller and greater ones, what is cleared, bytes and strings. -/
import Derived.Test.YtifbkofianklaaaAm12
import Derived.Laws.IdiomStrings
import Derived.Laws.BytesArg
set_option linter.unusedVariables false
set_option linter.unusedSimpArgs false
namespace Go.Am
variable {P : Program}

def mm2 (mx : Bool) (A B : Value) : Sem Value := match mx with | true => Builtin.max2 A B | false => Builtin.min2 A B

def mmB (mx : Bool) (ats : Array TypeId) (ty : TypeId) (args : Array Value) : Sem Value := match mx with | true => Builtin.max_ ats ty args | false => Builtin.min_ ats ty args

theorem mm_run {g : G} {w : World} {mx : Bool} {a b v : V} {A B : Value} (ha : VRel g w a A) (hb : VRel g w b B) (hv : mmA mx a b = some v) :
    ∃ X, (mm2 mx A B).run P w = .ok X w ∧ VRel g w v X := by
  cases ha <;> simp only [mmA, reduceCtorEq] at hv
  cases hb <;> simp only [reduceCtorEq] at hv
  simp only [Option.some.injEq] at hv
  subst hv
  cases mx
  · exact ⟨_, by simp only [mm2, Builtin.min2]; rfl, .int _ _⟩
  · exact ⟨_, by simp only [mm2, Builtin.max2]; rfl, .int _ _⟩

theorem mm_fold {g : G} {w : World} {mx : Bool} : ∀ {l : List V} {L : List Value} {a v : V} {A : Value}, VRel g w a A → L.length = l.length → (∀ (i : Nat) (c : V), l[i]? = some c → ∃ x, L[i]? = some x ∧ VRel g w c x) → l.foldlM (mmA mx) a = some v →
    ∃ X, (L.foldlM (mm2 mx) A).run P w = .ok X w ∧ VRel g w v X
  | [], L, a, v, A, ha, hl, _, hv => by
    have : L = [] := List.length_eq_zero_iff.1 hl
    subst this
    simp only [List.foldlM_nil, Option.pure_def, Option.some.injEq] at hv
    subst hv
    exact ⟨A, rfl, ha⟩
  | b :: l, L, a, v, A, ha, hl, hr, hv => by
    cases L with
    | nil => simp at hl
    | cons B L =>
      simp only [List.foldlM_cons, Option.bind_eq_bind, Option.bind_eq_some_iff] at hv
      obtain ⟨c, hc, hv⟩ := hv
      obtain ⟨B', hB, hb⟩ := hr 0 b rfl
      simp at hB
      subst hB
      obtain ⟨X, hX, hx⟩ := mm_run (P := P) ha hb hc
      obtain ⟨Y, hY, hy⟩ := mm_fold (l := l) (L := L) hx (by simpa using hl) (fun i c hi => by simpa using hr (i + 1) c (by simpa using hi)) hv
      refine ⟨Y, ?_, hy⟩
      simp only [List.foldlM_cons, Sem.run_bind, hX, Result.andThen_ok, hY]

theorem goes_mm {g : G} {h : Heap} {w : World} (s : Sim g h w) {mx : Bool} {ats : Array TypeId} {ty : TypeId} {a v : V} {l : List V} {A : Value} {L : List Value} (ha : VRel g w a A) (hl : L.length = l.length) (hr : ∀ (i : Nat) (c : V), l[i]? = some c → ∃ x, L[i]? = some x ∧ VRel g w c x)
    (hv : l.foldlM (mmA mx) a = some v) : Goes P (mmB mx ats ty (List.toArray (A :: L))) g h w v h := by
  obtain ⟨X, hX, hx⟩ := mm_fold (P := P) ha hl hr hv
  refine .still s (x := X) ?_ hx
  cases mx
  · exact hX
  · exact hX

/-- What is cleared. -/
theorem goes_clear {g : G} {h : Heap} {w : World} (s : Sim g h w) {st e tt : TypeId} {sz : Nat} {zero : List V} (hu : P.underlying st = some (.slice e)) (hz : szOf P e = some sz) (hzero : zeroOf P e = some zero) (hzl : zero.length = sz) (h1 : zero.all V.oneCell = true)
    {x : V} {X : Value} (hx : VRel g w x X) {eff : Eff}
    (he : clearA (fun o => h[o]?) sz zero x = some eff) : EffGoes P (Builtin.clear_ #[st] tt #[X]) g h w eff := by
  have unit : VRel g w (.tup []) (.tuple #[]) := .tup [] #[] rfl (by simp)
  unfold clearA at he
  cases hx with
  | nils =>
    simp only [Option.some.injEq] at he
    subst he
    exact Goes.still s (by simp [Builtin.clear_, run_underlying hu]) unit
  | vend o t s' b base x c n e' hg hs hn =>
    simp only [Option.some.injEq] at he
    subst he
    exact Goes.still s (by simp [Builtin.clear_, run_underlying hu]) unit
  | sl L s' cap b off c f hi hl hk hz' hc hv =>
    cases L with
    | nil =>
      simp only [Option.some.injEq] at he
      subst he
      exact Goes.still s (by simp [Builtin.clear_, run_underlying hu]) unit
    | cons y L => simp at he
  | sl0 s' cap a hk =>
    simp only [Option.some.injEq] at he
    subst he
    exact Goes.still s (by simp [Builtin.clear_, run_underlying hu]) unit
  | view o ver off len s' cap b base c n e' hg hlc hk hs hn =>
    simp only at he
    split at he
    · rename_i h0
      subst h0
      simp only [Option.some.injEq] at he
      subst he
      exact Goes.still s (by simp [Builtin.clear_, run_underlying hu]) unit
    rename_i h0
    split at he
    case isFalse => cases he
    rename_i hs'
    subst hs'
    obtain ⟨it, z, hi, hzz, hc0⟩ := zeroOf_info hzero g w
    have hzsz : z.cells.size = s' := by have := hc0.1; simp at this; omega
    have hcells : Cells g w (List.replicate len zero).flatten (Builtin.zeroCells z.cells len).toList := by
      refine ⟨by simp [Builtin.zeroCells, hzsz, hzl], fun i v y hv hy => ?_⟩
      obtain ⟨h1, h2⟩ := flat_rep _ _ _ _ hv
      rw [hzl] at h1 h2
      obtain ⟨y', hy', hr⟩ := cells_get hc0 _ _ h2
      have hpos : 0 < s' := by rcases Nat.eq_zero_or_pos s' with h0 | h0
                               · rw [h0] at h1; simp at h1
                               · exact h0
      have hm : i % s' < z.cells.size := by rw [hzsz]; exact Nat.mod_lt _ hpos
      have : y = y' := by
        simp [Builtin.zeroCells, hzsz, h1] at hy
        rw [← hy]
        rw [Array.getElem?_eq_getElem hm] at hy'
        rw [getElem!_pos z.cells (i % s') hm]
        exact Option.some.inj hy'
      rw [this]
      exact hr
    have hone : ∀ x ∈ (Builtin.zeroCells z.cells len).toList, x.oneCell' = true := hcells.oneCell (by
      rw [List.all_eq_true]
      intro c hc
      rw [List.mem_flatten] at hc
      obtain ⟨l, hl, hc⟩ := hc
      rw [List.eq_of_mem_replicate hl] at hc
      exact List.all_eq_true.1 h1 c hc)
    obtain ⟨w', h', rfl, hrun, hs1, hx1⟩ := goes_storeA (P := P) s he hg _ hcells hone
    refine ⟨_, w', .tuple #[], ?_, hs1, hx1, .tup [] #[] rfl (by simp)⟩
    have hzv : (zeroValue e).run P w = .ok z w := by simp [zeroValue, run_typeInfo (h := hi), hzz]
    have hlen0 : ∃ k, len = k + 1 := ⟨len - 1, by omega⟩
    obtain ⟨k, rfl⟩ := hlen0
    simp only [Builtin.clear_]
    simp [run_underlying hu, hzv, hrun]
  | _ => simp at he

theorem run_bslice {g : G} {h : Heap} {w : World} (s : Sim g h w) {t e : TypeId} {sz len : Nat} (hu : P.underlying t = some (.slice e)) (hz : szOf P e = some sz) {zero : List V} (hzero : zeroOf P e = some zero) (hzl : zero.length = sz) (hroom : len * sz ≤ 2 ^ 24)
    {row cs : List V} (hrow : row = (List.range (len * sz)).map fun i => zero.getD (i % zero.length) .junk) {l : List (Nat × Nat × V)} {m : Array (Nat × Value)} (hp : Parts g w (fun i => some (i * sz, sz)) l m.toList) (hf : fillA row l = some cs) :
    ∃ xs' : Array Value, (Instr.buildSlice t len m).run P w = .ok (.slice (some (at_ w.heap.size 0)) len len) { w with heap := w.heap.push (.cells xs' e) } ∧ Cells g w cs xs'.toList ∧ cs.length = len * sz := by
  obtain ⟨it, z, hi, hzz, hc0⟩ := zeroOf_info hzero g w
  have hzsz : z.cells.size = sz := by have := hc0.1; simp at this; omega
  have hrow0 : Cells g w row ((Array.range (len * sz)).map fun i => z.cells[i % z.cells.size]!).toList := by
    refine ⟨by rw [hrow]; simp, fun i c x hc hx => ?_⟩
    rw [hrow, List.getElem?_map] at hc
    rcases Nat.lt_or_ge i (len * sz) with hlt | hge
    · rw [List.getElem?_range hlt] at hc
      simp only [Option.map_some, Option.some.injEq] at hc
      have hpos : 0 < sz := by rcases Nat.eq_zero_or_pos sz with h0 | h0; · rw [h0] at hlt; simp at hlt
                               · exact h0
      have hmod : i % sz < sz := Nat.mod_lt _ hpos
      have hx' : x = z.cells[i % z.cells.size]! := by
        simp [hlt] at hx
        exact hx.symm
      rw [hzl] at hc
      have h1 : zero[i % sz]? = some c := by
        rw [← hc, List.getD_eq_getElem?_getD, List.getElem?_eq_getElem (by omega)]
        rfl
      rw [hx', hzsz]
      have h2 : z.cells.toList[i % sz]? = some (z.cells[i % sz]!) := by
        have : i % sz < z.cells.size := by omega
        simp [this]
      exact hc0.2 _ _ _ h1 h2
    · rw [List.getElem?_eq_none (by simpa using hge)] at hc
      cases hc
  obtain ⟨xs', h2, h3⟩ := fill_rel hp hrow0 hf
  have hlen : cs.length = len * sz := by
    have hfl : ∀ (l : List (Nat × Nat × V)) (a b : List V), fillA a l = some b → b.length = a.length := by
      intro l
      induction l with
      | nil => intro a b h; simp [fillA] at h; rw [h]
      | cons p l ih =>
        obtain ⟨off, size, v⟩ := p
        intro a b h
        have h' : (if v.cells.length = size then if off + size ≤ a.length then fillA (setRange a off v.cells) l else none else none) = some b := by
          cases v <;> first | exact h | simp [fillA] at h
        split at h'
        case isFalse => cases h'
        split at h'
        case isFalse => cases h'
        rw [ih _ _ h', setRange_length _ _ _ (by omega)]
    rw [hfl _ _ _ hf, hrow]
    simp
  have hxl : xs'.size = len * sz := by have := h3.1; simp at this; omega
  refine ⟨xs', ?_, h3, hlen⟩
  have hnot : ¬ (len * sz > 2 ^ 24) := by omega
  have hzv : (zeroValue e).run P w = .ok z w := by simp [zeroValue, run_typeInfo (h := hi), hzz]
  have hfill : ∀ zz : Array Value, (len * sz = 0 ∨ zz = z.cells) → Instr.fill (fun i => some (i * sz, sz)) ((Array.range (len * sz)).map fun i => zz[i % zz.size]!) m.toList = some xs' := by
    intro zz hzz'
    rcases hzz' with h0 | rfl
    · have : ((Array.range (len * sz)).map fun i => zz[i % zz.size]!) = ((Array.range (len * sz)).map fun i => z.cells[i % z.cells.size]!) := by rw [h0]; simp
      rw [this]
      exact h2
    · exact h2
  by_cases h0 : len * sz = 0
  · have hf0 := hfill #[] (.inl h0)
    simp only [Instr.buildSlice, Sem.run_bind, run_underlying hu, Result.andThen_ok, run_sizeOf' hz, if_neg hnot, if_pos h0, Sem.run_pure, hf0, newRow]
    rfl
  · have hf0 := hfill z.cells (.inr rfl)
    simp only [Instr.buildSlice, Sem.run_bind, run_underlying hu, Result.andThen_ok, run_sizeOf' hz, if_neg hnot, if_neg h0, hzv, Sem.run_pure, hf0, newRow]
    rfl

/-- A row that is made with its cells, as an object of its own. -/
theorem goes_bnew {g : G} {h : Heap} {w : World} (s : Sim g h w) {t e : TypeId} {sz len : Nat} (hu : P.underlying t = some (.slice e)) (hz : szOf P e = some sz) {zero : List V} (hzero : zeroOf P e = some zero) (hzl : zero.length = sz) (hroom : len * sz ≤ 2 ^ 24)
    {row cs : List V} (hrow : row = (List.range (len * sz)).map fun i => zero.getD (i % zero.length) .junk) {l : List (Nat × Nat × V)} {m : Array (Nat × Value)} (hp : Parts g w (fun i => some (i * sz, sz)) l m.toList) (hf : fillA row l = some cs) {o : Nat} {eff : Eff}
    (he : mkA (fun o => h[o]?) o (.arr cs) (fun v => .view o v 0 len sz (some len)) = some eff) : EffGoes P (Instr.buildSlice t len m) g h w eff := by
  obtain ⟨xs', hrun, hc, hl⟩ := run_bslice (P := P) s hu hz hzero hzl hroom hrow hp hf
  exact goes_new s (.inr rfl) he xs' e (fun i c hi => cells_get hc i c hi) _ _ hrun
    (fun g' w' ver hg hs => .view o ver 0 len sz (some len) w.heap.size 0 len _ e hg (Nat.le_refl _) (fun k hk => by cases hk; rfl) hs (fun hk => by cases hk))

/-! ### The run-time's mark behind an array's end -/

theorem freeze_heap (w : World) (a : Addr) (k : Nat) : (w.freeze a 1).heap[k]? = if a.block = k then (w.heap[k]?).map (fun | .cells c e (lo, hi) => .cells c e (if lo == hi then (a.off, a.off + 1) else (min lo a.off, max hi (a.off + 1))) | o => o) else w.heap[k]? := by
  unfold World.freeze
  rw [if_neg (by decide)]
  simp only [Array.getElem?_modify]
  by_cases h : a.block = k
  · rw [if_pos h, if_pos h]
    cases w.heap[k]? with
    | none => rfl
    | some o => cases o <;> rfl
  · rw [if_neg h, if_neg h]

theorem freeze_cell (w : World) (a b : Addr) : (w.freeze a 1).cell? b = w.cell? b := by
  unfold World.cell?
  rw [freeze_heap]
  by_cases h : a.block = b.block
  · rw [if_pos h]
    cases w.heap[b.block]? with
    | none => rfl
    | some o => cases o <;> rfl
  · rw [if_neg h]

theorem freeze_shape (w : World) (a : Addr) (k : Nat) : (w.freeze a 1).shape? k = w.shape? k := by
  unfold World.shape?
  rw [freeze_heap]
  by_cases h : a.block = k
  · rw [if_pos h]
    cases w.heap[k]? with
    | none => rfl
    | some o => cases o <;> rfl
  · rw [if_neg h]

theorem sim_freeze {g : G} {h : Heap} {w : World} (s : Sim g h w) {o b n : Nat} {e : TypeId} (hb : blk g h o = some b) (hs : w.shape? b = some (e, n)) : Sim g h (w.freeze (at_ b n) 1) ∧ Ext g h w g h (w.freeze (at_ b n) 1) := by
  have hother : ∀ k, k ≠ b → (w.freeze (at_ b n) 1).heap[k]? = w.heap[k]? := fun k hk => by
    rw [freeze_heap, if_neg (Ne.symm hk)]
  have hL : Later g w g (w.freeze (at_ b n) 1) := ⟨rfl, fun _ _ _ h => h, fun _ h => h, fun k hk => hother k (fun e => s.imm o b hb (e ▸ hk)), fun k y hk => by rw [freeze_shape]; exact hk⟩
  have hsize : (w.freeze (at_ b n) 1).heap.size = w.heap.size := by unfold World.freeze; rw [if_neg (by decide)]; simp
  have hnf : NF w b → NF (w.freeze (at_ b n) 1) b := by
    intro hf
    obtain ⟨c, fr, hw⟩ : ∃ c fr, w.heap[b]? = some (.cells c e fr) ∧ c.size = n := by
      unfold World.shape? at hs
      split at hs
      · rename_i c e' fr hw; cases hs; exact ⟨c, fr, hw, rfl⟩
      · cases hs
    obtain ⟨hw, hn⟩ := hw
    obtain ⟨lo, hi⟩ := fr
    have hle := hf.2 lo hi (by simp [fr?, hw])
    have hnew : (w.freeze (at_ b n) 1).heap[b]? = some (.cells c e (if lo == hi then (n, n + 1) else (min lo n, max hi (n + 1)))) := by
      rw [freeze_heap, hw]
      simp [at_]
    have hcell : ∀ i x, w.cell? (at_ b i) = some x ↔ c[i]? = some x := fun i x => by simp [World.cell?, hw, at_]
    have hlo : lo ≠ hi → n ≤ lo := by
      intro hne
      rcases Nat.lt_or_ge lo n with hlt | hge
      · exfalso
        refine hf.1 lo ?_ c[lo] ((hcell _ _).2 (by simp [hn, hlt]))
        simp [World.frozen?, hw, at_]
        omega
      · exact hge
    refine ⟨fun i hi' x hx => ?_, fun lo' hi' hfr => ?_⟩
    · rw [freeze_cell, hcell] at hx
      have hlt : i < n := by
        rcases Nat.lt_or_ge i n with h1 | h1
        · exact h1
        · rw [Array.getElem?_eq_none (by omega)] at hx; cases hx
      simp only [World.frozen?, at_, hnew] at hi'
      by_cases hlh : lo = hi
      · subst hlh
        simp at hi'
        omega
      · have := hlo hlh
        have hb' : (lo == hi) = false := by simpa using hlh
        simp only [hb', Bool.false_eq_true, if_false, Bool.and_eq_true, decide_eq_true_eq] at hi'
        omega
    · simp only [fr?, hnew, Option.some.injEq] at hfr
      split at hfr <;> cases hfr <;> omega
  refine ⟨⟨fun o' x hx hl => ?_, s.inj, s.imm, fun k hk => by rw [hsize]; exact s.immlt k hk, s.loclt⟩,
    ⟨rfl, fun _ _ _ h => h, fun _ h => h, fun _ h => .inl h, by rw [hsize]; exact Nat.le_refl _, fun k y hk => by rw [freeze_shape]; exact hk, fun k hk hno => hother k (fun e => hno o (e ▸ hb)), fun o' k hk _ => ⟨o', hk⟩, ?_, ?_, ?_⟩⟩
  · obtain ⟨b', base, h1, h2, h3⟩ := s.obs o' x hx hl
    refine ⟨b', base, h1, by rw [hsize]; exact h2, ?_⟩
    by_cases hbb : b' = b
    · subst hbb
      have cells : ∀ cs, (∃ e n, w.shape? b' = some (e, n)) ∧ NF w b' ∧ Lies g w b' base cs → (∃ e1 n1, (w.freeze (at_ b' n) 1).shape? b' = some (e1, n1)) ∧ NF (w.freeze (at_ b' n) 1) b' ∧ Lies g (w.freeze (at_ b' n) 1) b' base cs := by
        rintro cs ⟨q1, q2, q3⟩
        refine ⟨⟨e, n, by rw [freeze_shape]; exact hs⟩, hnf q2, fun i c hc => ?_⟩
        obtain ⟨y, hy, hr⟩ := q3 i c hc
        exact ⟨y, by rw [freeze_cell]; exact hy, hr.later hL⟩
      cases hbd : x.bd with
      | dead => trivial
      | var cs => rw [hbd] at h3; exact cells cs h3
      | arr cs => rw [hbd] at h3; exact cells cs h3
      | loop st pend t fb f k =>
        rw [hbd] at h3
        obtain ⟨-, rec, hrec, -⟩ := h3
        unfold World.shape? at hs
        rw [hrec] at hs
        cases hs
      | map es clock =>
        rw [hbd] at h3
        obtain ⟨-, es', hes, -⟩ := h3
        unfold World.shape? at hs
        rw [hes] at hs
        cases hs
    · exact h3.later hL (hother b' hbb)
  all_goals (unfold World.freeze; rw [if_neg (by decide)])

/-- '[]byte(x)' of a row that is there: it gets the mark. -/
theorem goes_mark {g : G} {h : Heap} {w : World} (s : Sim g h w) {t e : TypeId} (hu : P.underlying t = some (.slice e)) (hb : P.underlying e = some (.int .u8)) {o ver off len sz : Nat} {cap : Option Nat} {x : Value} (hx : VRel g w (.view o ver off len sz cap) x)
    {all : List V} (hc : cellsAt (fun o => h[o]?) o ver = some all) : Goes P (convert t t x) g h w (.view o ver off len sz cap) h := by
  cases hx with
  | view _ _ _ _ _ _ b base c n e' hg hl hk hs hn =>
    obtain ⟨_, b', base', -, -, -, hg', hblk, -, -, -, -⟩ := sim_cells s hc
    rw [hg] at hg'
    cases hg'
    obtain ⟨s', x'⟩ := sim_freeze s hblk hs
    refine ⟨g, _, _, ?_, s', x', .view o ver off len sz cap b base c n e' hg hl hk (x'.shape _ _ hs) hn⟩
    have hsh : (shape (at_ b (base + off)).block).run P w = .ok (some (e', n)) w := by simp [at_, hs]
    simp [convert, run_underlying hu, run_underlying hb, markStringish, hs, at_]

/-- 'string(x)' of a row of bytes. -/
theorem goes_b2s {g : G} {h : Heap} {w : World} (s : Sim g h w) {src dst e : TypeId} (hu : P.underlying src = some (.slice e)) (hb : P.underlying e = some (.int .u8)) (hd : P.underlying dst = some .string) {y : V} {x : Value} (hx : VRel g w y x)
    {n : Nat} (hn : lenA y = some n) {cs : List V} (hf : firstA (fun o => h[o]?) 1 n y = some cs) (hns : ∀ b, y ≠ .str b) {l : List UInt8} (hl : (cs.mapM fun (c : V) => match c with | .int .u8 n => some (UInt8.ofNat n.toNat) | _ => none) = some l) :
    Goes P (convert src dst x) g h w (.str l) h := by
  obtain ⟨xs, hrun, hcells, hxl, hcl⟩ := goes_first (P := P) s hx hf
  obtain ⟨ns, hxs, hls⟩ : ∃ ns : List Int, xs = ns.map (Value.int .u8) ∧ l = ns.map fun n => UInt8.ofNat n.toNat := by
    have key : ∀ (cs : List V) (xs : List Value) (l : List UInt8), Cells g w cs xs → (cs.mapM fun (c : V) => match c with | .int .u8 n => some (UInt8.ofNat n.toNat) | _ => none) = some l → ∃ ns : List Int, xs = ns.map (Value.int .u8) ∧ l = ns.map fun n => UInt8.ofNat n.toNat := by
      intro cs
      induction cs with
      | nil =>
        intro xs l hc hl
        simp at hl
        subst hl
        have : xs = [] := List.length_eq_zero_iff.1 hc.1
        exact ⟨[], by simp [this], rfl⟩
      | cons c cs ih =>
        intro xs l hc hl
        simp only [List.mapM_cons, Option.bind_eq_bind, Option.bind_eq_some_iff, Option.pure_def, Option.some.injEq] at hl
        obtain ⟨b, hb, l', hl', rfl⟩ := hl
        cases xs with
        | nil => exact absurd hc.1 (by simp)
        | cons x xs =>
          obtain ⟨ns, h1, h2⟩ := ih xs l' ⟨by simpa using hc.1, fun i c x h1 h2 => hc.2 (i + 1) c x (by simpa using h1) (by simpa using h2)⟩ hl'
          have hr := hc.2 0 c x rfl rfl
          split at hb
          · rename_i n
            cases hb
            cases hr
            exact ⟨n :: ns, by simp [h1], by simp [h2]⟩
          · cases hb
    exact key cs xs l hcells hl
  subst hxs hls
  refine .still s (x := .string ⟨⟨ns.map fun n => UInt8.ofNat n.toNat⟩⟩) ?_ (.str _)
  have hr := hrun w.drawn
  cases hx with
  | str b => exact absurd rfl (hns b)
  | nils =>
    have : ns = [] := by
      simp only [lenA, Option.some.injEq] at hn
      subst hn
      simpa using hxl
    subst this
    exact run_convert_bytes_nil w src e hu hb 0 0 dst hd
  | view o t off len sz cap b base c n' e' hg hlc hk hs hn' =>
    simp only [lenA, Option.some.injEq] at hn
    subst hn
    rw [run_convert_bytes_string w src dst e _ _ _ hu hb hd]
    have hr' : (loadCells (at_ b (base + off)) len).run P w = .ok (ns.map (Value.int .u8)).toArray w := by simpa [Builtin.firstCells] using hr
    rw [run_bytesToString w _ len c ns hr', foldl_push_bytes]
    simp [ByteArray.empty, ByteArray.emptyWithCapacity]
    rfl
  | vend o t sz b base p c n' e' hg hs hn' =>
    simp only [lenA, Option.some.injEq] at hn
    subst hn
    rw [run_convert_bytes_string w src dst e _ _ _ hu hb hd]
    have hr' : (loadCells (at_ b p) 0).run P w = .ok (ns.map (Value.int .u8)).toArray w := by simpa [Builtin.firstCells] using hr
    rw [run_bytesToString w _ 0 c ns hr', foldl_push_bytes]
    simp [ByteArray.empty, ByteArray.emptyWithCapacity]
    rfl
  | sl L sz cap b off c f hi hlc hk hz hc hv =>
    simp only [lenA, Option.some.injEq] at hn
    subst hn
    rw [run_convert_bytes_string w src dst e _ _ _ hu hb hd]
    have hr' : (loadCells (at_ b off) L.length).run P w = .ok (ns.map (Value.int .u8)).toArray w := by simpa [Builtin.firstCells] using hr
    rw [run_bytesToString w _ L.length c ns hr', foldl_push_bytes]
    simp [ByteArray.empty, ByteArray.emptyWithCapacity]
    rfl
  | sl0 sz cap a hk =>
    simp only [lenA, List.length_nil, Option.some.injEq] at hn
    subst hn
    rw [run_convert_bytes_string w src dst e _ _ _ hu hb hd]
    have hr' : (loadCells a 0).run P w = .ok (ns.map (Value.int .u8)).toArray w := by simpa [Builtin.firstCells] using hr
    rw [run_bytesToString w _ 0 0 ns hr', foldl_push_bytes]
    simp [ByteArray.empty, ByteArray.emptyWithCapacity]
    rfl
  | _ => simp [lenA] at hn

theorem freeze_alloc (w : World) (C : Array Value) (e : TypeId) (n : Nat) : ({ w with heap := w.heap.push (.cells C e) } : World).freeze (at_ w.heap.size n) 1 = { w with heap := w.heap.push (.cells C e (n, n + 1)) } := by
  have hm : ∀ (a : Array Obj) (x : Obj) (f : Obj → Obj), (a.push x).modify a.size f = a.push (f x) := by
    intro a x f
    apply Array.ext
    · simp
    · intro i h1 h2
      simp only [Array.getElem_modify, Array.getElem_push]
      by_cases h : a.size = i
      · subst h
        simp
      · have hi : i < a.size := by simp at h1; omega
        simp [h, hi]
  unfold World.freeze
  rw [if_neg (by decide)]
  simp only [at_]
  rw [hm]
  rfl

/-- '[]byte(s)' of a string. -/
theorem goes_s2b {g : G} {h : Heap} {w : World} (s : Sim g h w) {src dst e : TypeId} (hs : P.underlying src = some .string) (hd : P.underlying dst = some (.slice e)) (hb : P.underlying e = some (.int .u8)) {b : List UInt8} {x : Value} (hx : VRel g w (.str b) x)
    {o : Nat} {eff : Eff} (he : mkA (fun o => h[o]?) o (.arr (b.map fun c => .int .u8 c.toNat)) (fun v => .view o v 0 b.length 1 none) = some eff) : EffGoes P (convert src dst x) g h w eff := by
  cases hx
  unfold mkA at he
  cases ho : h[o]? with
  | none => simp [ho] at he
  | some ob =>
    simp only [ho, Option.some.injEq] at he
    subst he
    have hrun := run_bytes_of_string (P := P) w src dst e ⟨⟨b⟩⟩ hs hd hb
    generalize hC : bytesRow ⟨⟨b⟩⟩ (grownCap w (ByteArray.mk ⟨b⟩).size 0 e) = C at hrun
    have hsz : (ByteArray.mk ⟨b⟩).size = b.length := rfl
    have hcap : b.length ≤ grownCap w (ByteArray.mk ⟨b⟩).size 0 e := by
      rw [← hsz]
      simp only [grownCap, Question.cut]
      omega
    have hCs : C.size = grownCap w (ByteArray.mk ⟨b⟩).size 0 e := by
      rw [← hC]
      simp only [bytesRow, Array.size_append, Array.size_map, Array.size_replicate]
      have : (ByteArray.mk ⟨b⟩).data.size = b.length := rfl
      rw [this, hsz]
      rw [hsz] at hcap
      omega
    obtain ⟨h1, h2, h3, h4⟩ := sim_new s.drew' ho (.arr (b.map fun c => .int .u8 c.toNat)) (b.map fun c => .int .u8 c.toNat) (.inr rfl) C e (fun i v hi => by
      rw [List.getElem?_map] at hi
      simp only [Option.map_eq_some_iff] at hi
      obtain ⟨c, hc, rfl⟩ := hi
      refine ⟨.int .u8 c.toNat, ?_, .int _ _⟩
      have hlt : i < b.length := by rcases Nat.lt_or_ge i b.length with k | k; exact k; simp [List.getElem?_eq_none k] at hc
      rw [← hC, bytesRow, Array.getElem?_append_left (by simpa using hlt)]
      simp [hc])
    have hblk : blk (g.put o (ob.ver + 1) (w.drew.heap.size, 0)) (h.set o ⟨ob.ver + 1, .arr (b.map fun c => V.int .u8 c.toNat)⟩) o = some w.drew.heap.size := by
      have hlt : o < h.length := by rcases Nat.lt_or_ge o h.length with k | k; exact k; simp [List.getElem?_eq_none k] at ho
      exact blk_of (by rw [List.getElem?_set_self hlt]) rfl h3
    obtain ⟨f1, f2⟩ := sim_freeze h1 hblk h4
    have hsz2 : w.drew.heap.size = w.heap.size := rfl
    have heq := freeze_alloc w.drew C e C.size
    rw [hsz2] at heq
    have hrun' : (convert src dst (.string ⟨⟨b⟩⟩)).run P w = .ok (.slice (some ⟨w.heap.size, 0, none⟩) b.length (grownCap w (ByteArray.mk ⟨b⟩).size 0 e)) { w.drew with heap := w.drew.heap.push (.cells C e (C.size, C.size + 1)) } := hrun
    rw [← heq] at hrun'
    refine ⟨_, _, _, hrun', f1, ((Ext.drew g h w _).trans h2).trans f2, ?_⟩
    exact .view o _ 0 b.length 1 none w.heap.size 0 _ _ e h3 hcap (fun k hk => by cases hk) (f2.shape _ _ h4) (fun _ => by rw [← hCs]; omega)

/-- A slice of an array that nobody writes. -/
theorem goes_slAi {g : G} {h : Heap} {w : World} (s : Sim g h w) {t e : TypeId} {n sz : Nat} (hu : P.underlying t = some (.array n e)) (hz : szOf P e = some sz)
    {cs : List V} {off : Nat} {x : Value} (hp : VRel g w (.iptr cs off) x) {lo hi mx : Option V} {lo' hi' mx' : Option Value} (h1 : OptRel g w lo lo') (h2 : OptRel g w hi hi') (h3 : OptRel g w mx mx')
    {l k m : Nat} (hb : boundsA n n lo hi mx = some (l, k, m)) (hle : off + n * sz ≤ cs.length) (hone : cs.all V.oneCell = true) :
    Goes P (Instr.sliceAt t x lo' hi' mx') g h w (.sl ((List.range (k - l)).map fun i => wrapV ((cs.drop (off + (l + i) * sz)).take sz)) sz (some (m - l))) h := by
  obtain ⟨hrun, hlk, hkl, hkc, hm1, hm2⟩ := run_bounds (P := P) h1 h2 h3 false hb (Nat.le_refl _) w
  cases hp with
  | iptr _ _ b base f hi0 hc hv =>
    have hmm : (if mx.isSome then m else n) = m := by
      cases mx with
      | none => simp [hm2 rfl]
      | some v => simp
    rw [hmm] at hrun
    have hkm : k ≤ m ∧ m ≤ n := by
      cases mx with
      | none =>
        have := hm2 rfl
        rcases hkl with hh | hh
        · simp [hh] at hkc; omega
        · omega
      | some v => exact ⟨(hm1 rfl).1, (hm1 rfl).2⟩
    refine .still s (x := .slice (some (if m = l then at_ b (base + off) else (at_ b (base + off)).add (l * sz))) (k - l) (m - l)) ?_ ?_
    · simp [Instr.sliceAt, run_underlying hu, run_sureAddr, hrun, run_sizeOf' hz]
    · rw [add_at]
      have hget : ∀ (i : Nat) (el : V), ((List.range (k - l)).map fun i => wrapV ((cs.drop (off + (l + i) * sz)).take sz))[i]? = some el → i < k - l ∧ el.cells = (cs.drop (off + (l + i) * sz)).take sz ∧ ((cs.drop (off + (l + i) * sz)).take sz).length = sz := by
        intro i el hel
        rcases Nat.lt_or_ge i (k - l) with hlt | hge
        · rw [List.getElem?_map, List.getElem?_range hlt] at hel
          simp only [Option.map_some, Option.some.injEq] at hel
          have hmul : (l + i + 1) * sz ≤ n * sz := Nat.mul_le_mul_right _ (by omega)
          rw [Nat.add_mul (l + i), Nat.one_mul] at hmul
          refine ⟨hlt, ?_, by simp; omega⟩
          rw [← hel]
          exact wrap_cells _ (fun c hc' => by simpa using List.all_eq_true.1 hone c (List.mem_of_mem_drop (List.mem_of_mem_take hc')))
        · rw [List.getElem?_eq_none (by simpa using hge)] at hel
          cases hel
      have key := VRel.sl (g := g) (w := w) ((List.range (k - l)).map fun i => wrapV ((cs.drop (off + (l + i) * sz)).take sz)) sz (some (m - l)) b (base + off + l * sz) (m - l) (fun j => f (off + l * sz + j)) (fun _ => hi0) (by simp; omega) (fun k hk => by cases hk; rfl)
        (fun i el hel => by rw [(hget i el hel).2.1]; exact (hget i el hel).2.2)
        (fun j hj => by
          simp only [List.length_map, List.length_range] at hj
          have h4 : (k - l) * sz + l * sz ≤ n * sz := by rw [← Nat.add_mul]; exact Nat.mul_le_mul_right _ (by omega)
          rw [show base + off + l * sz + j = base + (off + l * sz + j) by omega]
          exact hc _ (by omega))
        (fun i el j x hel hx => by
          obtain ⟨hi1, hi2, hi3⟩ := hget i el hel
          rw [hi2, List.getElem?_take] at hx
          split at hx
          case isFalse => cases hx
          rw [List.getElem?_drop] at hx
          have := hv _ _ hx
          rw [Nat.add_mul] at this
          rw [show off + l * sz + (i * sz + j) = off + (l * sz + i * sz) + j by omega]
          exact this)
      simp only [List.length_map, List.length_range] at key
      split
      · rename_i hml
        have h0 : k - l = 0 := by omega
        rw [h0]
        have := VRel.sl (g := g) (w := w) [] sz (some (m - l)) b (base + off) (m - l) f (fun _ => hi0) (Nat.zero_le _) (fun k hk => by cases hk; rfl) (fun i e h => by simp at h) (fun j hj => by simp at hj) (fun i e j x h => by simp at h)
        exact this
      · exact key

end Go.Am
