/- The abstract machine's values, its memory, and how both stand to the model's: the words and their monotony. -/
import Derived.Calls
import Derived.Below
set_option linter.unusedVariables false
namespace Go.Am

/-- Values: as the model's, but that what nobody writes any more lies inside the value ('sl', 'iptr'), and that an address names an object and its state ('ver'). -/
inductive V where
  | junk
  | bool (b : Bool)
  | int (k : IntKind) (n : Int)
  | str (s : List UInt8)
  | nilp
  | ptr (o ver off : Nat)
  | iptr (cs : List V) (off : Nat)
  | nils
  | view (o ver off len s : Nat) (cap : Option Nat)
  | vend (o ver s : Nat)
  | sl (L : List V) (s : Nat) (cap : Option Nat)
  | nilm
  | map (o ver : Nat)
  | nilf
  | func (f : FuncId) (first captured : List V)
  | yld (o ver : Nat)
  | nili
  | iface (t : TypeId) (v : V)
  | agg (cs : List V)
  | tup (vs : List V)
  deriving Inhabited

/-- The cells of a value as it lies in memory. -/
def V.cells : V → List V
  | .agg cs => cs
  | v => [v]

inductive Bd where
  | dead
  | var (cs : List V)
  | arr (cs : List V)
  | map (es : List (V × V × Nat)) (clock : Nat)
  | loop (st : Nat) (pend : Option (Option Nat)) (t : List V) (fb f k : Nat)
  deriving Inhabited

structure Ob where
  ver : Nat
  bd : Bd
  deriving Inhabited

abbrev Heap := List Ob

/-- A range over a function, as the model has it. -/
structure LoopCode where
  params : Array Tmp
  assign : Code
  body : Code

/-- The ranges over functions of a text, in order. -/
def rangesOf : Code → List LoopCode
  | .seq a b => rangesOf a ++ rangesOf b
  | .cond _ a b => rangesOf a ++ rangesOf b
  | .block _ b | .loop b | .scope b => rangesOf b
  | .rangeFunc _ ps a b => ⟨ps, a, b⟩ :: (rangesOf a ++ rangesOf b)
  | _ => []

/-- The k-th range over a function of function f. -/
def codesOf (P : Program) (f k : Nat) : Option LoopCode :=
  match P.funcs[f]? with
  | some fn => match fn.body with | some c => (rangesOf c)[k]? | none => none
  | none => none

/-- What stands between the two memories: in which block, and how far in, each object lies in each of its states; which blocks nobody writes any more. -/
structure G where
  loc : Nat → Nat → Option (Nat × Nat)
  imm : Nat → Prop
  code : Nat → Nat → Option LoopCode

abbrev at_ (b off : Nat) : Addr := ⟨b, off, none⟩

inductive VRel (g : G) (w : World) : V → Value → Prop where
  | junk (x : Value) : VRel g w .junk x
  | bool (b : Bool) : VRel g w (.bool b) (.bool b)
  | int (k : IntKind) (n : Int) : VRel g w (.int k n) (.int k n)
  | str (s : List UInt8) : VRel g w (.str s) (.string ⟨⟨s⟩⟩)
  | nilp : VRel g w .nilp (.pointer none)
  | ptr (o t off b base : Nat) (h : g.loc o t = some (b, base)) : VRel g w (.ptr o t off) (.pointer (some (at_ b (base + off))))
  | iptr (cs : List V) (off b base : Nat) (f : Nat → Value) (hi : g.imm b) (hc : ∀ j, j < cs.length → w.cell? (at_ b (base + j)) = some (f j))
      (hv : ∀ j c, cs[j]? = some c → VRel g w c (f j)) : VRel g w (.iptr cs off) (.pointer (some (at_ b (base + off))))
  | nils : VRel g w .nils (.slice none 0 0)
  | view (o t off len s : Nat) (cap : Option Nat) (b base c n : Nat) (e : TypeId) (h : g.loc o t = some (b, base)) (hl : len ≤ c) (hk : ∀ k, cap = some k → c = k)
      (hs : w.shape? b = some (e, n)) (hn : cap = none → base + off + c * s = n) : VRel g w (.view o t off len s cap) (.slice (some (at_ b (base + off))) len c)
  | vend (o t s : Nat) (b base x c n : Nat) (e : TypeId) (h : g.loc o t = some (b, base)) (hs : w.shape? b = some (e, n)) (hn : c = 0 ∨ x + c * s = n) : VRel g w (.vend o t s) (.slice (some (at_ b x)) 0 c)
  | sl (L : List V) (s : Nat) (cap : Option Nat) (b off c : Nat) (f : Nat → Value) (hi : L ≠ [] → g.imm b) (hl : L.length ≤ c) (hk : ∀ k, cap = some k → c = k)
      (hz : ∀ (i : Nat) (e : V), L[i]? = some e → e.cells.length = s) (hc : ∀ j, j < L.length * s → w.cell? (at_ b (off + j)) = some (f j))
      (hv : ∀ (i : Nat) (e : V) (j : Nat) (x : V), L[i]? = some e → e.cells[j]? = some x → VRel g w x (f (i * s + j))) :
      VRel g w (.sl L s cap) (.slice (some (at_ b off)) L.length c)
  | sl0 (s : Nat) (cap : Option Nat) (a : Addr) (hk : ∀ k, cap = some k → 0 = k) : VRel g w (.sl [] s cap) (.slice (some a) 0 0)
  | nilm : VRel g w .nilm (.map none)
  | map (o t b : Nat) (h : g.loc o t = some (b, 0)) : VRel g w (.map o t) (.map (some b))
  | nilf : VRel g w .nilf .nilFunc
  | func (f : FuncId) (xs ys : List V) (xs' ys' : Array Value) (hx : xs'.size = xs.length) (hy : ys'.size = ys.length)
      (h1 : ∀ i x, xs[i]? = some x → VRel g w x (xs'.getD i undef)) (h2 : ∀ i x, ys[i]? = some x → VRel g w x (ys'.getD i undef)) :
      VRel g w (.func f xs ys) (.func (.func f) xs' ys')
  | yld (o t b : Nat) (h : g.loc o t = some (b, 0)) : VRel g w (.yld o t) (.func (.yield b) #[] #[])
  | nili : VRel g w .nili .nilIface
  | iface (t : TypeId) (v : V) (x : Value) (h : VRel g w v x) : VRel g w (.iface t v) (.iface t x)
  | agg (cs : List V) (xs : Array Value) (hx : xs.size = cs.length) (h : ∀ i c, cs[i]? = some c → VRel g w c (xs.getD i undef)) : VRel g w (.agg cs) (.agg xs)
  | tup (cs : List V) (xs : Array Value) (hx : xs.size = cs.length) (h : ∀ i c, cs[i]? = some c → VRel g w c (xs.getD i undef)) : VRel g w (.tup cs) (.tuple xs)

/-- Values stand as they stood, whatever came after. -/
structure Later (g : G) (w : World) (g' : G) (w' : World) : Prop where
  code : g'.code = g.code
  loc : ∀ o t b, g.loc o t = some b → g'.loc o t = some b
  imm : ∀ b, g.imm b → g'.imm b
  keeps : ∀ b, g.imm b → w'.heap[b]? = w.heap[b]?
  shape : ∀ b x, w.shape? b = some x → w'.shape? b = some x

theorem cell_of_block {w w' : World} {a : Addr} (h : w'.heap[a.block]? = w.heap[a.block]?) : w'.cell? a = w.cell? a := by
  simp [World.cell?, h]

theorem VRel.later {g : G} {w : World} {g' : G} {w' : World} (L : Later g w g' w') {v : V} {x : Value} (h : VRel g w v x) : VRel g' w' v x := by
  induction h with
  | junk x => exact .junk x
  | bool b => exact .bool b
  | int k n => exact .int k n
  | str s => exact .str s
  | nilp => exact .nilp
  | ptr o t off b base h => exact .ptr o t off b base (L.loc _ _ _ h)
  | iptr cs off b base f hi hc hv ih => exact .iptr cs off b base f (L.imm _ hi) (fun j hj => by rw [cell_of_block (L.keeps b hi)]; exact hc j hj) ih
  | nils => exact .nils
  | view o t off len s cap b base c n e h hl hk hs hn => exact .view o t off len s cap b base c n e (L.loc _ _ _ h) hl hk (L.shape _ _ hs) hn
  | vend o t s b base x c n e h hs hn => exact .vend o t s b base x c n e (L.loc _ _ _ h) (L.shape _ _ hs) hn
  | sl M s cap b off c f hi hl hk hz hc hv ih =>
    exact .sl M s cap b off c f (fun h => L.imm _ (hi h)) hl hk hz (fun j hj => by rw [cell_of_block (L.keeps b (hi (fun e => by rw [e] at hj; simp at hj)))]; exact hc j hj) ih
  | sl0 s cap a hk => exact .sl0 s cap a hk
  | nilm => exact .nilm
  | map o t b h => exact .map o t b (L.loc _ _ _ h)
  | nilf => exact .nilf
  | func f xs ys xs' ys' hx hy h1 h2 i1 i2 => exact .func f xs ys xs' ys' hx hy i1 i2
  | yld o t b h => exact .yld o t b (L.loc _ _ _ h)
  | nili => exact .nili
  | iface t v x h ih => exact .iface t v x ih
  | agg cs xs hx h ih => exact .agg cs xs hx ih
  | tup cs xs hx h ih => exact .tup cs xs hx ih

/-- Two rows of cells, side by side. -/
def Cells (g : G) (w : World) (cs : List V) (xs : List Value) : Prop := xs.length = cs.length ∧ ∀ (i : Nat) (c : V) (x : Value), cs[i]? = some c → xs[i]? = some x → VRel g w c x

/-- Cells that lie in block b from place 'base' on. -/
def Lies (g : G) (w : World) (b base : Nat) (cs : List V) : Prop := ∀ (i : Nat) (c : V), cs[i]? = some c → ∃ x, w.cell? (at_ b (base + i)) = some x ∧ VRel g w c x

def fr? (w : World) (b : Nat) : Option (Nat × Nat) :=
  match w.heap[b]? with
  | some (.cells _ _ fr) => some fr
  | _ => none

/-- What is frozen of a block is none of its cells. -/
def NF (w : World) (b : Nat) : Prop := (∀ i, w.frozen? (at_ b i) = true → ∀ x, w.cell? (at_ b i) ≠ some x) ∧ ∀ lo hi, fr? w b = some (lo, hi) → lo ≤ hi

/-- A pending jump, as code. -/
def jumpC : Option Nat → Code
  | none => .ret
  | some id => .exit id

def stateN : LoopState → Nat
  | .ready => 0
  | .busy => 1
  | .done => 2
  | .exhausted => 3

def BdRel (g : G) (w : World) (b base : Nat) : Bd → Prop
  | .dead => True
  | .var cs | .arr cs => (∃ e n, w.shape? b = some (e, n)) ∧ NF w b ∧ Lies g w b base cs
  | .map es clock => base = 0 ∧ ∃ es', w.heap[b]? = some (.map es' clock) ∧ es'.size = es.length ∧
      ∀ (i : Nat) (k v : V) (n : Nat), es[i]? = some (k, v, n) → ∃ e : MapEntry, es'[i]? = some e ∧ VRel g w k e.key ∧ VRel g w v e.val ∧ e.born = n
  | .loop st pend t fb f k => base = 0 ∧ ∃ rec : Loop, w.heap[b]? = some (.loop rec) ∧ stateN rec.state = st ∧ rec.pending = pend.map jumpC ∧ g.code f k = some ⟨rec.params, rec.assign, rec.body⟩ ∧
      rec.tmps.size = t.length ∧ ∀ (i : Nat) (v : V), t[i]? = some v → VRel g w v (rec.tmps.getD i undef)

def Bd.lives : Bd → Bool
  | .dead => false
  | _ => true

/-- The block of a living object. -/
def blk (g : G) (h : Heap) (o : Nat) : Option Nat :=
  match h[o]? with
  | some x => if x.bd.lives then (g.loc o x.ver).map (·.1) else none
  | none => none

structure Sim (g : G) (h : Heap) (w : World) : Prop where
  obs : ∀ (o : Nat) (x : Ob), h[o]? = some x → x.bd.lives = true → ∃ b base, g.loc o x.ver = some (b, base) ∧ b < w.heap.size ∧ BdRel g w b base x.bd
  inj : ∀ o o' b, blk g h o = some b → blk g h o' = some b → o = o'
  imm : ∀ o b, blk g h o = some b → ¬ g.imm b
  immlt : ∀ b, g.imm b → b < w.heap.size
  loclt : ∀ o t b, g.loc o t = some b → ∃ x, h[o]? = some x ∧ t ≤ x.ver

/-- From one state to a later one. -/
structure Ext (g : G) (h : Heap) (w : World) (g' : G) (h' : Heap) (w' : World) : Prop where
  code : g'.code = g.code
  loc : ∀ o t b, g.loc o t = some b → g'.loc o t = some b
  imm : ∀ b, g.imm b → g'.imm b
  imm' : ∀ b, g'.imm b → g.imm b ∨ w.heap.size ≤ b
  size : w.heap.size ≤ w'.heap.size
  shape : ∀ b x, w.shape? b = some x → w'.shape? b = some x
  frame : ∀ b, b < w.heap.size → (∀ o, blk g h o ≠ some b) → w'.heap[b]? = w.heap[b]?
  own : ∀ o b, blk g' h' o = some b → b < w.heap.size → ∃ o', blk g h o' = some b
  os : w'.os = w.os
  tape : w'.tape = w.tape
  output : w'.output = w.output

theorem Ext.refl (g : G) (h : Heap) (w : World) : Ext g h w g h w :=
  ⟨rfl, fun _ _ _ h => h, fun _ h => h, fun _ h => .inl h, Nat.le_refl _, fun _ _ h => h, fun _ _ _ => rfl, fun o b h _ => ⟨o, h⟩, rfl, rfl, rfl⟩

theorem Ext.trans {g₁ g₂ g₃ : G} {h₁ h₂ h₃ : Heap} {w₁ w₂ w₃ : World} (a : Ext g₁ h₁ w₁ g₂ h₂ w₂) (b : Ext g₂ h₂ w₂ g₃ h₃ w₃) : Ext g₁ h₁ w₁ g₃ h₃ w₃ where
  code := b.code.trans a.code
  loc o t x h := b.loc _ _ _ (a.loc _ _ _ h)
  imm x h := b.imm _ (a.imm _ h)
  imm' x h := by
    rcases b.imm' x h with h | h
    · exact a.imm' x h
    · exact .inr (Nat.le_trans a.size h)
  size := Nat.le_trans a.size b.size
  shape x y h := b.shape _ _ (a.shape _ _ h)
  frame x hx hn := by
    rw [b.frame x (Nat.lt_of_lt_of_le hx a.size) (fun o ho => ?_), a.frame x hx hn]
    obtain ⟨o', ho'⟩ := a.own o x ho hx
    exact hn o' ho'
  own o x h hx := by
    obtain ⟨o', ho'⟩ := b.own o x h (Nat.lt_of_lt_of_le hx a.size)
    exact a.own o' x ho' hx
  os := b.os.trans a.os
  tape := b.tape.trans a.tape
  output := b.output.trans a.output

theorem Ext.later {g g' : G} {h h' : Heap} {w w' : World} (e : Ext g h w g' h' w') (s : Sim g h w) : Later g w g' w' :=
  ⟨e.code, e.loc, e.imm, fun b hb => e.frame b (s.immlt b hb) (fun o ho => s.imm o b ho hb), e.shape⟩

theorem VRel.ext {g g' : G} {h h' : Heap} {w w' : World} (e : Ext g h w g' h' w') (s : Sim g h w) {v : V} {x : Value} (r : VRel g w v x) : VRel g' w' v x :=
  r.later (e.later s)

theorem Cells.later {g g' : G} {w w' : World} (L : Later g w g' w') {cs : List V} {xs : List Value} (h : Cells g w cs xs) : Cells g' w' cs xs :=
  ⟨h.1, fun i c x h1 h2 => (h.2 i c x h1 h2).later L⟩

/-- A draw changes nothing. -/
theorem Sim.drew {g : G} {h : Heap} {w : World} (s : Sim g h w) (n : Nat) : Sim g h { w with drawn := n } := by
  have L : Later g w g { w with drawn := n } := ⟨rfl, fun _ _ _ h => h, fun _ h => h, fun _ _ => rfl, fun _ _ h => h⟩
  refine ⟨fun o x hx hl => ?_, s.inj, s.imm, s.immlt, s.loclt⟩
  obtain ⟨b, base, h1, h2, h3⟩ := s.obs o x hx hl
  refine ⟨b, base, h1, h2, ?_⟩
  revert h3
  cases x.bd with
  | dead => exact fun _ => trivial
  | var cs => exact fun ⟨a, c, d⟩ => ⟨a, c, fun i c hc => let ⟨y, y1, y2⟩ := d i c hc; ⟨y, y1, y2.later L⟩⟩
  | arr cs => exact fun ⟨a, c, d⟩ => ⟨a, c, fun i c hc => let ⟨y, y1, y2⟩ := d i c hc; ⟨y, y1, y2.later L⟩⟩
  | loop st pend t fb f k => exact fun ⟨a, rec, c1, c2, c3, c4, c5, c6⟩ => ⟨a, rec, c1, c2, c3, c4, c5, fun i v hi => (c6 i v hi).later L⟩
  | map es clock => exact fun ⟨a, es', c, d, f⟩ => ⟨a, es', c, d, fun i k v n hi => let ⟨e, e1, e2, e3, e4⟩ := f i k v n hi; ⟨e, e1, e2.later L, e3.later L, e4⟩⟩

theorem Ext.drew (g : G) (h : Heap) (w : World) (n : Nat) : Ext g h w g h { w with drawn := n } :=
  ⟨rfl, fun _ _ _ h => h, fun _ h => h, fun _ h => .inl h, Nat.le_refl _, fun _ _ h => h, fun _ _ _ => rfl, fun o b h _ => ⟨o, h⟩, rfl, rfl, rfl⟩

end Go.Am
