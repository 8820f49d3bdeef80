/- Operation by operation: what the model's does, the abstract machine's does. -/
import Derived.Test.YtifbkofianklaaaAm4
set_option linter.unusedVariables false
set_option linter.unusedSimpArgs false
namespace Go.Am
variable {P : Program}

def szOf (P : Program) (t : TypeId) : Option Nat := (P.info? t).map (·.size)
def byOf (P : Program) (t : TypeId) : Option Nat := (P.info? t).map (·.bytes)
def zeroOf (P : Program) (t : TypeId) : Option (List V) := (P.info? t).bind fun i => i.zero.bind fun z => cstVs z.cells.toList

theorem run_sizeOf' {t : TypeId} {n : Nat} (h : szOf P t = some n) (w : World) : (sizeOf t).run P w = .ok n w := by
  unfold szOf at h
  cases hi : P.info? t <;> simp [hi] at h
  subst h
  rw [run_sizeOf w hi]; simp [Program.cellsOf, hi]

theorem zero_rel {t : TypeId} {cs : List V} (h : zeroOf P t = some cs) (g : G) (w : World) :
    ∃ z, (∀ w', (zeroValue t).run P w' = .ok z w') ∧ z.cells.toList.length = cs.length ∧ ∀ (i : Nat) (c : V), cs[i]? = some c → ∃ y, z.cells[i]? = some y ∧ ∀ g w, VRel g w c y := by
  unfold zeroOf at h
  cases hi : P.info? t with
  | none => simp [hi] at h
  | some i =>
    simp only [hi, Option.bind_some] at h
    cases hz : i.zero with
    | none => simp [hz] at h
    | some z =>
      simp only [hz, Option.bind_some] at h
      obtain ⟨h1, h2⟩ := cstVs_get _ _ h
      refine ⟨z, fun w' => ?_, h1, fun j c hj => ?_⟩
      · simp [zeroValue, run_typeInfo (h := hi), hz]
      · obtain ⟨y, hy, hc⟩ := h2 j c hj
        exact ⟨y, by simpa using hy, fun g w => cst_rel g w hc⟩

def EffGoes (P : Program) (s : Sem Value) (g : G) (h : Heap) (w : World) : Eff → Prop
  | .ret v => Goes P s g h w v h
  | .set o x v => Goes P s g h w v (h.set o x)

/-- A new variable (or array) at a site. -/
theorem goes_new {g : G} {h : Heap} {w : World} (s : Sim g h w) {o : Nat} {bd : Bd} {cs : List V} (hbd : bd = .var cs ∨ bd = .arr cs) {v : Nat → V} {eff : Eff}
    (he : mkA (fun o => h[o]?) o bd v = some eff) (xs : Array Value) (e : TypeId) (hv : ∀ (i : Nat) (c : V), cs[i]? = some c → ∃ y, xs[i]? = some y ∧ VRel g w c y)
    (sem : Sem Value) (x : Value) (hrun : sem.run P w = .ok x { w with heap := w.heap.push (.cells xs e) })
    (hx : ∀ (g' : G) (w' : World) (ver : Nat), g'.loc o ver = some (w.heap.size, 0) → w'.shape? w.heap.size = some (e, xs.size) → VRel g' w' (v ver) x) : EffGoes P sem g h w eff := by
  unfold mkA at he
  cases ho : h[o]? with
  | none => simp [ho] at he
  | some ob =>
    simp only [ho, Option.some.injEq] at he
    subst he
    obtain ⟨h1, h2, h3, h4⟩ := sim_new s ho bd cs hbd xs e hv
    exact ⟨_, _, x, hrun, h1, h2, hx _ _ _ h3 h4⟩

theorem ptr_rel {g : G} {w : World} {o ver b base off : Nat} (h : g.loc o ver = some (b, base)) : VRel g w (.ptr o ver off) (.pointer (some (at_ b (base + off)))) := .ptr _ _ _ _ _ h

theorem goes_alloc {g : G} {h : Heap} {w : World} (s : Sim g h w) {o : Nat} {t : TypeId} {cs : List V} (hz : zeroOf P t = some cs) {eff : Eff}
    (he : mkA (fun o => h[o]?) o (.var cs) (fun v => .ptr o v 0) = some eff) : EffGoes P (Instr.alloc t true (.tuple #[])) g h w eff := by
  obtain ⟨z, hz1, hz2, hz3⟩ := zero_rel hz g w
  refine goes_new s (.inl rfl) he z.cells t (fun i c hi => let ⟨y, h1, h2⟩ := hz3 i c hi; ⟨y, h1, h2 _ _⟩) _ (.pointer (some (at_ w.heap.size 0))) ?_ (fun g' w' ver hg _ => ptr_rel hg)
  simp only [Instr.alloc, Sem.run_bind, hz1, Result.andThen_ok, newVar, newRow]
  rfl

theorem cells_get {g : G} {w : World} {cs : List V} {xs : Array Value} (h : Cells g w cs xs.toList) (i : Nat) (c : V) (hi : cs[i]? = some c) : ∃ y, xs[i]? = some y ∧ VRel g w c y := by
  have hlt : i < xs.size := by
    have : i < cs.length := by rcases Nat.lt_or_ge i cs.length with k | k; exact k; simp [List.getElem?_eq_none k] at hi
    have := h.1
    simp at this
    omega
  exact ⟨xs[i], by simp [hlt], h.2 i c _ hi (by simp [hlt])⟩

theorem goes_box {g : G} {h : Heap} {w : World} (s : Sim g h w) {o : Nat} {t : TypeId} {v : V} {x : Value} (hv : VRel g w v x) (hs : v.solid = true) {eff : Eff}
    (he : mkA (fun o => h[o]?) o (.var v.cells) (fun v => .ptr o v 0) = some eff) : EffGoes P (Instr.box t x) g h w eff := by
  refine goes_new s (.inl rfl) he x.cells t (cells_get (hv.cellsOf hs)) _ (.pointer (some (at_ w.heap.size 0))) ?_ (fun g' w' ver hg _ => ptr_rel hg)
  simp only [Instr.box, Sem.run_bind, newVar, newRow]
  rfl

/-- A row of stores into a living object. -/
theorem goes_storeA {g : G} {h : Heap} {w : World} (s : Sim g h w) {o ver off b base : Nat} {new : List V} {v : V} {eff : Eff} (he : storeA (fun o => h[o]?) o ver off new v = some eff)
    (hg : g.loc o ver = some (b, base)) (xs : List Value) (hxs : Cells g w new xs) (h1 : ∀ x ∈ xs, x.oneCell' = true) :
    ∃ w' h', eff = .set o h' v ∧ (storeCells (at_ b (base + off)) xs).run P w = .ok () w' ∧ Sim (g.put o ver (b, base)) (h.set o h') w' ∧ Ext g h w (g.put o ver (b, base)) (h.set o h') w' := by
  unfold storeA at he
  split at he
  · rename_i cs x hc hx
    split at he
    · rename_i hle
      cases he
      obtain ⟨x', b', base', hx', hv, hbd, hg', hblk, hlt, hsh, hfz, hlies⟩ := sim_cells s hc
      have hx2 : h[o]? = some x := hx
      rw [hx2] at hx'
      cases hx'
      rw [hg] at hg'
      cases hg'
      have := sim_store s hx2 hv hbd hg hlt hlies hsh hfz hle xs hxs
      refine ⟨_, _, rfl, ?_, this.1, this.2⟩
      have hcell : ∀ j, j < xs.length → ∃ y, w.cell? (at_ b (base + off + j)) = some y := by
        intro j hj
        obtain ⟨y, hy, -⟩ := hlies (off + j) _ (List.getElem?_eq_getElem (by have := hxs.1; omega))
        exact ⟨y, by rw [show base + off + j = base + (off + j) by omega]; exact hy⟩
      have := run_storeCells_cells (P := P) b (base + off) xs 0 w (fun j hj => by
          obtain ⟨y, hy⟩ := hcell j hj
          simp only [Nat.add_zero]
          rw [show (⟨b, base + off + j, none⟩ : Addr) = at_ b (base + off + j) from rfl, hy]; rfl)
        (fun j hj => by
          obtain ⟨y, hy⟩ := hcell j hj
          simp only [Nat.add_zero]
          cases hf : w.frozen? (at_ b (base + off + j)) with
          | false => rfl
          | true => exact absurd hy (hfz.1 _ hf y)) h1
      simpa using this
    · cases he
  · cases he

theorem Cells.oneCell {g : G} {w : World} {cs : List V} {xs : List Value} (h : Cells g w cs xs) (h1 : cs.all V.oneCell = true) : ∀ x ∈ xs, x.oneCell' = true := by
  intro x hx
  obtain ⟨i, hi, rfl⟩ := List.getElem_of_mem hx
  have hlt : i < cs.length := by have := h.1; omega
  have hr := h.2 i cs[i] xs[i] (List.getElem?_eq_getElem hlt) (List.getElem?_eq_getElem hi)
  exact hr.oneCell (by simpa using List.all_eq_true.1 h1 cs[i] (List.getElem_mem hlt))

theorem solid_of_all {v : V} (h : v.cells.all V.oneCell = true) : v.solid = true := by
  cases v <;> simp [V.cells, V.oneCell, V.solid] at *

theorem goes_store {g : G} {h : Heap} {w : World} (s : Sim g h w) {t : TypeId} {n : Nat} (ht : szOf P t = some n) {o ver off : Nat} {v : V} {p x : Value} (hp : VRel g w (.ptr o ver off) p) (hv : VRel g w v x)
    (hn : v.cells.length = n) (hall : v.cells.all V.oneCell = true) {eff : Eff} (he : storeA (fun o => h[o]?) o ver off v.cells (.tup []) = some eff) :
    EffGoes P (do Instr.storeAt t p x; pure undef) g h w eff := by
  cases hp with
  | ptr _ _ _ b base hg =>
    have hcells := hv.cellsOf (solid_of_all hall)
    obtain ⟨w', h', rfl, hrun, hs', hext⟩ := goes_storeA (P := P) s he hg x.cells.toList hcells (hcells.oneCell hall)
    refine ⟨_, w', undef, ?_, hs', hext, .tup [] #[] rfl (by simp)⟩
    have hsz : x.cells.size = n := by have := hcells.1; simp at this; omega
    simp [Instr.storeAt, run_sureAddr, storeVar, run_sizeOf' ht, hsz, hrun]

/-- Constants of integers, booleans, strings. -/
theorem goes_bin {g : G} {h : Heap} {w : World} (s : Sim g h w) {op : BinOp} {t : TypeId} {a b v : V} {x y : Value} (ha : VRel g w a x) (hb : VRel g w b y) (hv : binA op a b = some v) :
    Goes P (binOp op t x y) g h w v h := by
  unfold binA at hv
  split at hv
  · rename_i k n k' m
    cases ha
    cases hb
    cases op
    case shl =>
      simp only at hv
      split at hv
      · cases hv
      · rename_i hneg
        cases hv
        exact .still s (by simp [binOp, Op.shift, hneg]) (.int _ _)
    case shr =>
      simp only at hv
      split at hv
      · cases hv
      · rename_i hneg
        cases hv
        exact .still s (by simp [binOp, Op.shift, hneg]) (.int _ _)
    all_goals
      simp only at hv
      split at hv
      · rename_i hk
        subst hk
        first
        | (cases hv; first
            | (refine .still s ?_ (.int _ _); simp [binOp, Op.intArith]; done)
            | (refine .still s ?_ (.int _ _); simp only [binOp, Op.intBits, ne_eq, not_true_eq_false, if_false]; rfl)
            | (refine .still s ?_ (.bool _); simp [binOp, Op.intCmp]; done))
        | (split at hv
           · cases hv
           · rename_i hz
             cases hv
             refine .still s ?_ (.int _ _); simp [binOp, Op.intDiv, hz])
      · cases hv
  · rename_i l m
    cases ha
    cases hb
    have e1 : ∀ l : List UInt8, (⟨⟨l⟩⟩ : ByteArray).toList = l := fun l => by simp
    cases op <;> simp only at hv
    case add =>
      split at hv
      · rename_i hle
        cases hv
        refine .still s ?_ (.str _)
        have : ¬ (((⟨⟨l⟩⟩ : ByteArray).size + (⟨⟨m⟩⟩ : ByteArray).size : Nat) : Int) > IntKind.i64.max := by
          simp [ByteArray.size, IntKind.max, IntKind.signed, IntKind.bits]; omega
        simp only [binOp, Op.stringOp, if_neg this, Sem.run_pure]
        first | rfl | (congr 2; done) | (congr 2; apply ByteArray.ext; simp)
      · cases hv
    all_goals
      first
        | (cases hv; done)
        | (cases hv; refine .still s ?_ (.bool _); simp [binOp, Op.stringOp, e1]; done)
  · cases hv

end Go.Am
