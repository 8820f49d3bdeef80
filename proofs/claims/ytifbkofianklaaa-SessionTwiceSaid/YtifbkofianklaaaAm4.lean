/- From the model's operations to the abstract machine's, and the first half of the proof that these do what those do. -/
import Derived.Test.YtifbkofianklaaaAm3
import Derived.WalkKit
set_option linter.unusedVariables false
set_option linter.unusedSimpArgs false
namespace Go.Am

mutual
def cstV : (x : Value) → Option V
  | .bool b => some (.bool b)
  | .int k n => some (.int k n)
  | .string s => some (.str s.data.toList)
  | .pointer none => some .nilp
  | .slice none 0 0 => some .nils
  | .map none => some .nilm
  | .nilFunc => some .nilf
  | .nilIface => some .nili
  | .agg ⟨cs⟩ => (cstVs cs).map .agg
  | .tuple ⟨cs⟩ => (cstVs cs).map .tup
  | _ => none
  termination_by structural x => x
def cstVs : (xs : List Value) → Option (List V)
  | [] => some []
  | x :: xs => match cstV x, cstVs xs with | some v, some vs => some (v :: vs) | _, _ => none
  termination_by structural xs => xs
end

theorem cstVs_get : ∀ (xs : List Value) (cs : List V), cstVs xs = some cs → xs.length = cs.length ∧ ∀ (i : Nat) (c : V), cs[i]? = some c → ∃ x, xs[i]? = some x ∧ cstV x = some c
  | [], cs, h => by simp [cstVs] at h; subst h; simp
  | x :: xs, cs, h => by
    rw [cstVs] at h
    split at h
    · rename_i v vs h1 h2
      cases h
      obtain ⟨hl, hg⟩ := cstVs_get xs vs h2
      refine ⟨by simp [hl], fun i c hi => ?_⟩
      cases i with
      | zero => simp at hi; subst hi; exact ⟨x, by simp, h1⟩
      | succ i => simp at hi; obtain ⟨y, hy, hc⟩ := hg i c hi; exact ⟨y, by simpa using hy, hc⟩
    · cases h

theorem VRel_list {g : G} {w : World} {cs : List V} {xs : Array Value} (hl : xs.toList.length = cs.length) (h : ∀ (i : Nat) (c : V), cs[i]? = some c → ∃ x, xs.toList[i]? = some x ∧ VRel g w c x) :
    xs.size = cs.length ∧ ∀ i c, cs[i]? = some c → VRel g w c (xs.getD i undef) := by
  refine ⟨by simpa using hl, fun i c hi => ?_⟩
  obtain ⟨x, hx, hr⟩ := h i c hi
  have : xs[i]? = some x := by simpa using hx
  simp only [Array.getD_eq_getD_getElem?, this, Option.getD_some]
  exact hr

theorem cstV_rel (g : G) (w : World) : ∀ (n : Nat) (x : Value) (c : V), SizeOf.sizeOf x ≤ n → cstV x = some c → VRel g w c x := by
  intro n
  induction n with
  | zero => intro x c hn; cases x <;> simp at hn
  | succ n ih =>
    intro x c hn h
    cases x with
    | bool b => simp [cstV] at h; subst h; exact .bool b
    | int k m => simp [cstV] at h; subst h; exact .int k m
    | string s => simp [cstV] at h; subst h; exact .str s.data.toList
    | pointer a => cases a <;> simp [cstV] at h; subst h; exact .nilp
    | slice a l k =>
      cases a with
      | some a => simp [cstV] at h
      | none =>
        cases l with
        | succ l => simp [cstV] at h
        | zero =>
          cases k with
          | succ k => simp [cstV] at h
          | zero => simp [cstV] at h; subst h; exact .nils
    | map r => cases r <;> simp [cstV] at h; subst h; exact .nilm
    | nilFunc => simp [cstV] at h; subst h; exact .nilf
    | nilIface => simp [cstV] at h; subst h; exact .nili
    | agg cs =>
      simp only [cstV, Option.map_eq_some_iff] at h
      obtain ⟨vs, h1, rfl⟩ := h
      obtain ⟨hl, hg⟩ := cstVs_get _ _ h1
      obtain ⟨k1, k2⟩ := VRel_list (g := g) (w := w) (xs := cs) hl (fun i c hi => by
        obtain ⟨y, hy, hc⟩ := hg i c hi
        refine ⟨y, hy, ih y c ?_ hc⟩
        have hm : y ∈ cs := by simpa using List.mem_of_getElem? hy
        have := Array.sizeOf_lt_of_mem hm
        simp at hn
        omega)
      exact .agg vs cs k1 k2
    | tuple cs =>
      simp only [cstV, Option.map_eq_some_iff] at h
      obtain ⟨vs, h1, rfl⟩ := h
      obtain ⟨hl, hg⟩ := cstVs_get _ _ h1
      obtain ⟨k1, k2⟩ := VRel_list (g := g) (w := w) (xs := cs) hl (fun i c hi => by
        obtain ⟨y, hy, hc⟩ := hg i c hi
        refine ⟨y, hy, ih y c ?_ hc⟩
        have hm : y ∈ cs := by simpa using List.mem_of_getElem? hy
        have := Array.sizeOf_lt_of_mem hm
        simp at hn
        omega)
      exact .tup vs cs k1 k2
    | _ => simp [cstV] at h

theorem cst_rel (g : G) (w : World) {x : Value} {c : V} (h : cstV x = some c) : VRel g w c x := cstV_rel g w _ x c (Nat.le_refl _) h

def trOpd : Operand → Option Opd
  | .tmp t => some (.tmp t)
  | .const v => (cstV v).map .cst
  | .func f => some (.cst (.func f [] []))
  | .global _ => none

/-- The operands, side by side. -/
def OpdRel (g : G) (w : World) (ρ : Opd → V) (ρ' : Operand → Value) : Prop := ∀ x x', trOpd x' = some x → VRel g w (ρ x) (ρ' x')

variable {P : Program}

/-- What a computation of the model comes to, on both sides. -/
def Goes (P : Program) (s : Sem Value) (g : G) (h : Heap) (w : World) (v : V) (h' : Heap) : Prop :=
  ∃ g' w' x, s.run P w = .ok x w' ∧ Sim g' h' w' ∧ Ext g h w g' h' w' ∧ VRel g' w' v x

theorem Goes.still {s : Sem Value} {g : G} {h : Heap} {w : World} {v : V} {x : Value} (hs : Sim g h w) (hr : s.run P w = .ok x w) (hv : VRel g w v x) : Goes P s g h w v h :=
  ⟨g, w, x, hr, hs, Ext.refl _ _ _, hv⟩

theorem add_at (b o i : Nat) : (at_ b o).add i = at_ b (o + i) := by
  unfold Addr.add; split
  · rename_i h; subst h; rfl
  · rfl

/-- A value that is solid has its cells. -/
theorem VRel.cellsOf {g : G} {w : World} {v : V} {x : Value} (h : VRel g w v x) (hs : v.solid = true) : Cells g w v.cells x.cells.toList := by
  have one : ∀ (v : V) (x : Value), VRel g w v x → Cells g w [v] [x] := fun v x h => ⟨rfl, fun i c y h1 h2 => by
    cases i with
    | zero => simp at h1 h2; subst h1; subst h2; exact h
    | succ i => simp at h1⟩
  cases h with
  | junk x => simp [V.solid] at hs
  | agg cs xs hx hc =>
    refine ⟨by simpa [V.cells, Value.cells] using hx, fun i c y h1 h2 => ?_⟩
    have := hc i c h1
    simp only [Value.cells] at h2
    have h3 : xs[i]? = some y := by simpa using h2
    simp only [Array.getD_eq_getD_getElem?, h3, Option.getD_some] at this
    exact this
  | bool b => exact one _ _ (.bool b)
  | int k n => exact one _ _ (.int k n)
  | str s => exact one _ _ (.str s)
  | nilp => exact one _ _ .nilp
  | ptr o t off b base h => exact one _ _ (.ptr o t off b base h)
  | iptr cs off b base f hi hc hv => exact one _ _ (.iptr cs off b base f hi hc hv)
  | nils => exact one _ _ .nils
  | view o t off len s cap b base c n e h hl hk hs' hn => exact one _ _ (.view o t off len s cap b base c n e h hl hk hs' hn)
  | vend o t s b base x c n e h hs' hn => exact one _ _ (.vend o t s b base x c n e h hs' hn)
  | sl M s cap b off c f hi hl hk hz hc hv => exact one _ _ (.sl M s cap b off c f hi hl hk hz hc hv)
  | sl0 s cap a hk => exact one _ _ (.sl0 s cap a hk)
  | nilm => exact one _ _ .nilm
  | map o t b h => exact one _ _ (.map o t b h)
  | nilf => exact one _ _ .nilf
  | func f xs ys xs' ys' hx hy h1 h2 => exact one _ _ (.func f xs ys xs' ys' hx hy h1 h2)
  | yld o t b h => exact one _ _ (.yld o t b h)
  | nili => exact one _ _ .nili
  | iface t v x h => exact one _ _ (.iface t v x h)
  | tup cs xs hx h => exact one _ _ (.tup cs xs hx h)

theorem VRel.oneCell {g : G} {w : World} {v : V} {x : Value} (h : VRel g w v x) (hs : v.oneCell = true) : x.oneCell' = true := by
  cases h <;> first | rfl | simp [V.oneCell] at hs

/-- A row of loads. -/
theorem goes_loads {g : G} {h : Heap} {w : World} (s : Sim g h w) {p : V} {x : Value} (hp : VRel g w p x) {n : Nat} {cs : List V} (hl : loadA (fun o => h[o]?) n p = some cs) :
    ∃ b off xs, x = .pointer (some (at_ b off)) ∧ xs.length = n ∧ cs.length = n ∧ (∀ j y, xs[j]? = some y → w.cell? (at_ b (off + j)) = some y) ∧ Cells g w cs xs := by
  have key : ∀ (b base off : Nat) (all : List V), off + n ≤ all.length → Lies g w b base all → cs = (all.drop off).take n →
      ∃ xs : List Value, xs.length = n ∧ cs.length = n ∧ (∀ j y, xs[j]? = some y → w.cell? (at_ b (base + off + j)) = some y) ∧ Cells g w cs xs := by
    intro b base off all hle hlies he
    refine ⟨(List.range n).map fun j => (w.cell? (at_ b (base + off + j))).getD undef, by simp, by rw [he]; simp; omega, fun j y hy => ?_, by rw [he]; simp; omega, fun i c y hc hy => ?_⟩
    · obtain ⟨hj, rfl⟩ : j < n ∧ (w.cell? (at_ b (base + off + j))).getD undef = y := by
        rw [List.getElem?_map] at hy
        rcases Nat.lt_or_ge j n with hj | hj
        · rw [List.getElem?_range hj] at hy; simp at hy; exact ⟨hj, hy⟩
        · rw [List.getElem?_eq_none (by simpa using hj)] at hy; simp at hy
      obtain ⟨y, hy, -⟩ := hlies (off + j) _ (List.getElem?_eq_getElem (by omega))
      rw [show base + off + j = base + (off + j) by omega, hy]
      rfl
    · have hi : i < n := by
        rcases Nat.lt_or_ge i n with hj | hj
        · exact hj
        · rw [List.getElem?_eq_none (by simpa using hj)] at hy; simp at hy
      rw [List.getElem?_map, List.getElem?_range hi] at hy
      simp at hy
      rw [he, List.getElem?_take_of_lt hi, List.getElem?_drop] at hc
      obtain ⟨z, hz, hr⟩ := hlies (off + i) c hc
      rw [show base + off + i = base + (off + i) by omega, hz] at hy
      simp at hy
      subst hy
      exact hr
  cases hp with
  | ptr o ver off b base hg =>
    simp only [loadA] at hl
    split at hl
    · rename_i all hall
      split at hl
      · rename_i hle
        cases hl
        obtain ⟨y, b', base', -, -, -, hg', -, -, -, -, hlies⟩ := sim_cells s hall
        rw [hg] at hg'
        cases hg'
        obtain ⟨xs, h1, h2, h3, h4⟩ := key b base off all hle hlies rfl
        exact ⟨b, base + off, xs, rfl, h1, h2, h3, h4⟩
      · cases hl
    · cases hl
  | iptr all off b base f hi hc hv =>
    simp only [loadA] at hl
    split at hl
    · rename_i hle
      cases hl
      obtain ⟨xs, h1, h2, h3, h4⟩ := key b base off all hle (fun i c hi => ⟨f i, hc i (by rcases Nat.lt_or_ge i all.length with h | h; exact h; simp [List.getElem?_eq_none h] at hi), hv i c hi⟩) rfl
      exact ⟨b, base + off, xs, rfl, h1, h2, h3, h4⟩
    · cases hl
  | _ => simp [loadA] at hl

def agOf (P : Program) (t : TypeId) : Option (Option Nat) :=
  match P.underlying t with
  | some (.struct _) | some (.array _ _) => (P.info? t).map fun i => some i.size
  | some _ => some none
  | none => none

theorem run_loads {w : World} {b off n : Nat} {xs : List Value} (hl : xs.length = n) (h : ∀ j y, xs[j]? = some y → w.cell? (at_ b (off + j)) = some y) :
    (loadCells (at_ b off) n).run P w = .ok xs.toArray w := by
  have := run_loadCells_list (P := P) w (at_ b off) xs (fun j v hj => by rw [add_at]; exact h j v hj)
  rwa [hl] at this

theorem run_sureAddr (w : World) (a : Addr) : (Instr.sureAddr (.pointer (some a))).run P w = .ok a w := rfl

theorem run_isAgg {t : TypeId} {ag : Option Nat} (h : agOf P t = some ag) (w : World) : (isAgg t).run P w = .ok ag.isSome w := by
  unfold agOf at h
  split at h
  · rename_i fs hu
    cases hi : P.info? t <;> simp [hi] at h
    subst h
    simp [isAgg, run_underlying hu]
  · rename_i n e hu
    cases hi : P.info? t <;> simp [hi] at h
    subst h
    simp [isAgg, run_underlying hu]
  · rename_i d hd1 hd2 hu
    cases h
    cases d <;> simp_all [isAgg, run_underlying hu]
  · cases h

theorem run_sizeOf_ag {t : TypeId} {n : Nat} (h : agOf P t = some (some n)) (w : World) : (sizeOf t).run P w = .ok n w := by
  unfold agOf at h
  split at h
  · cases hi : P.info? t <;> simp [hi] at h
    subst h
    rw [run_sizeOf w hi]; simp [Program.cellsOf, hi]
  · cases hi : P.info? t <;> simp [hi] at h
    subst h
    rw [run_sizeOf w hi]; simp [Program.cellsOf, hi]
  · cases h
  · cases h

theorem Cells.agg {g : G} {w : World} {cs : List V} {xs : List Value} (h : Cells g w cs xs) : VRel g w (.agg cs) (.agg xs.toArray) := by
  refine .agg cs xs.toArray (by simpa using h.1) (fun i c hi => ?_)
  have hlt : i < xs.length := by
    have : i < cs.length := by rcases Nat.lt_or_ge i cs.length with k | k; exact k; simp [List.getElem?_eq_none k] at hi
    have := h.1
    omega
  have := h.2 i c _ hi (List.getElem?_eq_getElem hlt)
  simpa [Array.getD_eq_getD_getElem?, List.getElem?_eq_getElem hlt] using this

theorem goes_load {g : G} {h : Heap} {w : World} (s : Sim g h w) {p v : V} {x : Value} {t : TypeId} {ag : Option Nat} (ht : agOf P t = some ag) (hp : VRel g w p x)
    {cs : List V} (hl : loadA (fun o => h[o]?) (nAg ag) p = some cs) (hv : packA ag cs = some v) : Goes P (Instr.loadAt t x) g h w v h := by
  obtain ⟨b, off, xs, rfl, hxl, hcl, hcell, hrel⟩ := goes_loads s hp hl
  cases ag with
  | some n =>
    simp only [packA, Option.some.injEq] at hv
    subst hv
    have hxl' : xs.length = n := hxl
    refine .still s ?_ hrel.agg
    simp only [nAg, Instr.loadAt, loadVar, Sem.run_bind, run_sureAddr, Result.andThen_ok, run_isAgg ht, Option.isSome_some, if_true, run_sizeOf_ag ht, run_loads hxl' hcell, Sem.run_pure]
  | none =>
    simp only [nAg] at hxl hcl
    obtain ⟨c, rfl⟩ : ∃ c, cs = [c] := by
      cases cs with
      | nil => simp at hcl
      | cons c cs => cases cs with
        | nil => exact ⟨c, rfl⟩
        | cons d cs => simp at hcl
    obtain ⟨y, rfl⟩ : ∃ y, xs = [y] := by
      cases xs with
      | nil => simp at hxl
      | cons c cs => cases cs with
        | nil => exact ⟨c, rfl⟩
        | cons d cs => simp at hxl
    simp only [packA, List.head?_cons, Option.some.injEq] at hv
    subst hv
    refine .still s ?_ (hrel.2 0 _ _ rfl rfl)
    have hc := hcell 0 y rfl
    simp only [Nat.add_zero] at hc
    simp [Instr.loadAt, loadVar, run_sureAddr, run_isAgg ht, run_load, hc]

end Go.Am
example : Go.Am.cstV (.agg #[.int .i64 1, .bool true]) = some (.agg [.int .i64 1, .bool true]) := by kernel_rfl
