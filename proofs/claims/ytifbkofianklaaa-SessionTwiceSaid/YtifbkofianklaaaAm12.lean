/- Operation by operation: the last of them. -/
import Derived.Test.YtifbkofianklaaaAm11
import Derived.Laws.MakeOwn
set_option linter.unusedVariables false
set_option linter.unusedSimpArgs false
namespace Go.Am
variable {P : Program}


def eqOp (neg : Bool) : BinOp := match neg with | true => .neq | false => .eql

theorem run_eqGuard_agg {w : World} {op : BinOp} {t : TypeId} {x y : Operand} {a b : Value} (h : (∃ c d, a = .agg c ∧ b = .agg d) → P.eqGuardType P.depth t = false) (hn : ¬ (a = .nilIface ∧ b = .nilIface)) : (eqGuard op t x y a b).run P w = .ok () w := by
  have key : ∀ a b : Value, ((∃ c d, a = .agg c ∧ b = .agg d) → P.eqGuardType P.depth t = false) → ¬ (a = .nilIface ∧ b = .nilIface) → (match a, b with
      | .nilIface, .nilIface =>
        if (x matches .const _) || (y matches .const _) then pure () else do
        if ← Op.eqGuardIn Op.maxDepth t a b then unsupported (.noEntry "binop/eql: two nil values of an interface type with methods, neither of them the literal nil")
      | .agg _, .agg _ => do
        if !(← program).eqGuardType (← program).depth t then pure () else
        if ← Op.eqGuardIn Op.maxDepth t a b then unsupported (.noEntry "binop/eql: two nil values of an interface type with methods, in a part of a struct or an array")
      | _, _ => pure () : Sem Unit).run P w = .ok () w := by
    intro a b h hn
    cases a <;> cases b <;> first
      | rfl
      | (exact absurd ⟨rfl, rfl⟩ hn)
      | (have := h ⟨_, _, rfl, rfl⟩; simp [this])
  cases op <;> first
    | rfl
    | (simp only [eqGuard]; exact key a b h hn)

theorem flat_rep (zero : List V) : ∀ (n i : Nat) (v : V), (List.replicate n zero).flatten[i]? = some v → i < n * zero.length ∧ zero[i % zero.length]? = some v
  | 0, i, v, h => by simp at h
  | n + 1, i, v, h => by
    rw [List.replicate_succ, List.flatten_cons] at h
    rcases Nat.lt_or_ge i zero.length with hlt | hge
    · rw [List.getElem?_append_left hlt] at h
      exact ⟨by rw [Nat.add_mul, Nat.one_mul]; omega, by rw [Nat.mod_eq_of_lt hlt]; exact h⟩
    · rw [List.getElem?_append_right hge] at h
      obtain ⟨h1, h2⟩ := flat_rep zero n _ v h
      refine ⟨by rw [Nat.add_mul, Nat.one_mul]; omega, ?_⟩
      rw [Nat.mod_eq_sub_mod hge]
      exact h2

theorem goes_eqc {g : G} {h : Heap} {w : World} (s : Sim g h w) {neg : Bool} {t : TypeId} {ks : List CK} {d : Nat} (hd : d ≤ 10000) (hk : kindsOf P d t = some ks) {as bs : List V} {X Y : Value} (hx : Is P g w t as X) (hy : Is P g w t bs Y)
    (hns : P.underlying t = some .bool ∨ ∃ c d, X = .agg c ∧ Y = .agg d) {r : Bool} (he : eqCells ks as bs = some r) : Goes P (binOp (eqOp neg) t X Y) g h w (.bool (negB neg r)) h := by
  have hq := eq_rel P g w (10000 - d) d t ks as bs X Y r hk hx hy he w
  rw [show 10000 - d + d = 10000 by omega] at hq
  refine .still s ?_ (.bool _)
  have heq : (Op.equal t X Y).run P w = .ok r w := hq
  have key : ∀ op, (op = .eql ∨ op = .neq) → (binOp op t X Y) = (match op with | .eql => do pure (.bool (← Op.equal t X Y)) | _ => do pure (.bool (!(← Op.equal t X Y)))) := by
    intro op hop
    rcases hns with hu | ⟨c, e, rfl, rfl⟩
    · simp only [Is, hu] at hx hy
      obtain ⟨a, rfl, ha⟩ := hx
      obtain ⟨b, rfl, hb⟩ := hy
      cases d with
      | zero => simp [kindsOf] at hk
      | succ d =>
        simp only [kindsOf, hu, Option.some.injEq] at hk
        subst hk
        simp only [eqCells] at he
        cases ha <;> simp only [eqCell, reduceCtorEq] at he
        cases hb <;> simp only [eqCell, reduceCtorEq] at he
        rcases hop with rfl | rfl <;> rfl
    · rcases hop with rfl | rfl <;> rfl
  cases neg
  · show (binOp .eql t X Y).run P w = _
    rw [key .eql (.inl rfl)]
    simp [heq, negB]
  · show (binOp .neq t X Y).run P w = _
    rw [key .neq (.inr rfl)]
    simp [heq, negB]

theorem is_agg {g : G} {w : World} {t : TypeId} (hu : (∃ n e, P.underlying t = some (.array n e)) ∨ (∃ fs, P.underlying t = some (.struct fs))) {cs : List V} {X : Value} (hx : VRel g w (.agg cs) X) : Is P g w t cs X := by
  cases hx with
  | agg _ xs hx hc =>
    have hcells := VRel.cellsOf (VRel.agg (g := g) (w := w) cs xs hx hc) rfl
    rcases hu with ⟨n, e, hu⟩ | ⟨fs, hu⟩ <;> (simp only [Is, hu]; exact ⟨xs, rfl, by simpa [V.cells, Value.cells] using hcells⟩)

theorem is_bool {g : G} {w : World} {t : TypeId} (hu : P.underlying t = some .bool) {v : V} {X : Value} (hx : VRel g w v X) : Is P g w t [v] X := by
  simp only [Is, hu]
  exact ⟨v, rfl, hx⟩

/-- The constant nil of a kind of types. -/
def NK.nil : NK → Value
  | .p => .pointer none
  | .s => .slice none 0 0
  | .m => .map none
  | .f => .nilFunc
  | .i => .nilIface

def nkOf (P : Program) (t : TypeId) : Option NK :=
  match P.underlying t with
  | some (.pointer _) => some .p
  | some (.slice _) => some .s
  | some (.map ..) => some .m
  | some (.func ..) => some .f
  | some (.interface _) => some .i
  | _ => none

/-- What a value that is held against nil looks like. -/
def NK.fits (k : NK) (X : Value) (b : Bool) : Prop :=
  match k with
  | .p => ∃ a, X = .pointer a ∧ a.isNone = b
  | .s => ∃ a l c, X = .slice a l c ∧ a.isNone = b
  | .m => ∃ m, X = .map m ∧ m.isNone = b
  | .f => (X = .nilFunc ∧ b = true) ∨ ∃ f x y, X = .func f x y ∧ b = false
  | .i => (X = .nilIface ∧ b = true) ∨ ∃ t v, X = .iface t v ∧ b = false

theorem isNil_fits {g : G} {w : World} {k : NK} {v : V} {X : Value} (hx : VRel g w v X) {b : Bool} (hb : isNil k v = some b) : k.fits X b := by
  cases hx <;> cases k <;> simp only [isNil, reduceCtorEq, Option.some.injEq] at hb <;> subst hb <;> simp [NK.fits]

theorem run_eqnilIn {t : TypeId} {k : NK} (hk : nkOf P t = some k) {X : Value} {b : Bool} (hf : k.fits X b) (w' : World) (d : Nat) :
    (Op.equalIn (d + 1) t X k.nil).run P w' = .ok b w' ∧ (Op.equalIn (d + 1) t k.nil X).run P w' = .ok b w' := by
  unfold nkOf at hk
  split at hk <;> cases hk <;> rename_i hu <;> simp only [NK.fits] at hf
  · obtain ⟨a, rfl, rfl⟩ := hf
    cases a <;> simp [NK.nil, Op.equalIn, run_underlying hu]
  · obtain ⟨a, l, c, rfl, rfl⟩ := hf
    cases a <;> simp [NK.nil, Op.equalIn, run_underlying hu]
  · obtain ⟨a, rfl, rfl⟩ := hf
    cases a <;> simp [NK.nil, Op.equalIn, run_underlying hu]
  · rcases hf with ⟨rfl, rfl⟩ | ⟨f, x, y, rfl, rfl⟩ <;> simp [NK.nil, Op.equalIn, run_underlying hu]
  · rcases hf with ⟨rfl, rfl⟩ | ⟨f, x, rfl, rfl⟩ <;> simp [NK.nil, Op.equalIn, run_underlying hu]

theorem run_eqnil {t : TypeId} {k : NK} (hk : nkOf P t = some k) {X : Value} {b : Bool} (hf : k.fits X b) (w' : World) :
    (Op.equal t X k.nil).run P w' = .ok b w' ∧ (Op.equal t k.nil X).run P w' = .ok b w' ∧
      (∀ op, (op = .eql ∨ op = .neq) → binOp op t X k.nil = (match op with | .eql => do pure (.bool (← Op.equal t X k.nil)) | _ => do pure (.bool (!(← Op.equal t X k.nil)))) ∧
        binOp op t k.nil X = (match op with | .eql => do pure (.bool (← Op.equal t k.nil X)) | _ => do pure (.bool (!(← Op.equal t k.nil X))))) := by
  obtain ⟨q1, q2⟩ := run_eqnilIn hk hf w' 9999
  refine ⟨q1, q2, ?_⟩
  intro op hop
  cases k <;> simp only [NK.fits] at hf
  · obtain ⟨a, rfl, -⟩ := hf
    rcases hop with rfl | rfl <;> exact ⟨rfl, rfl⟩
  · obtain ⟨a, l, c, rfl, -⟩ := hf
    rcases hop with rfl | rfl <;> exact ⟨rfl, rfl⟩
  · obtain ⟨a, rfl, -⟩ := hf
    rcases hop with rfl | rfl <;> exact ⟨rfl, rfl⟩
  · rcases hf with ⟨rfl, -⟩ | ⟨f, x, y, rfl, -⟩ <;> rcases hop with rfl | rfl <;> exact ⟨rfl, rfl⟩
  · rcases hf with ⟨rfl, -⟩ | ⟨f, x, rfl, -⟩ <;> rcases hop with rfl | rfl <;> exact ⟨rfl, rfl⟩

theorem goes_eqnil {g : G} {h : Heap} {w : World} (s : Sim g h w) {t : TypeId} {k : NK} (hk : nkOf P t = some k) {v : V} {X : Value} (hx : VRel g w v X) {b : Bool} (hb : isNil k v = some b) (neg : Bool) :
    Goes P (binOp (eqOp neg) t X k.nil) g h w (.bool (negB neg b)) h ∧ Goes P (binOp (eqOp neg) t k.nil X) g h w (.bool (negB neg b)) h := by
  obtain ⟨r1, r2, hop⟩ := run_eqnil (P := P) hk (isNil_fits hx hb) w
  cases neg
  · obtain ⟨e1, e2⟩ := hop .eql (.inl rfl)
    refine ⟨.still s ?_ (.bool _), .still s ?_ (.bool _)⟩
    · show (binOp .eql _ _ _).run P w = _; rw [e1]; simp [r1, negB]
    · show (binOp .eql _ _ _).run P w = _; rw [e2]; simp [r2, negB]
  · obtain ⟨e1, e2⟩ := hop .neq (.inr rfl)
    refine ⟨.still s ?_ (.bool _), .still s ?_ (.bool _)⟩
    · show (binOp .neq _ _ _).run P w = _; rw [e1]; simp [r1, negB]
    · show (binOp .neq _ _ _).run P w = _; rw [e2]; simp [r2, negB]

theorem goes_mkslice {g : G} {h : Heap} {w : World} (s : Sim g h w) {t e : TypeId} {sz by' : Nat} {zero : List V} (hu : P.underlying t = some (.slice e)) (hz : szOf P e = some sz) (hb : byOf P e = some by') (hzero : zeroOf P e = some zero) (hzl : zero.length = sz)
    {kl kc : IntKind} {l c : Int} (h0 : 0 ≤ l) (h1 : l ≤ c) (h2 : c.toNat * by' ≤ maxBytes) (h3 : c.toNat ≤ maxBytes) {o : Nat} {eff : Eff}
    (he : mkA (fun o => h[o]?) o (.arr (List.replicate c.toNat zero).flatten) (fun v => .view o v 0 l.toNat sz (some c.toNat)) = some eff) :
    EffGoes P (Instr.makeSlice t (.int kl l) (.int kc c)) g h w eff := by
  obtain ⟨it, z, hi, hzz, hc0⟩ := zeroOf_info hzero g w
  have hzsz : z.cells.size = sz := by have := hc0.1; simp at this; omega
  have hmb : maxBytes = 1099511627776 := rfl
  have hib : it.bytes = by' := by simpa [byOf, hi] using hb
  have wl : IntKind.i64.wrap l = l := IntWalk.i64_in l ⟨by omega, by omega⟩
  have wc : IntKind.i64.wrap c = c := IntWalk.i64_in c ⟨by omega, by omega⟩
  have hrow : ∀ i v, (List.replicate c.toNat zero).flatten[i]? = some v → i < c.toNat * sz ∧ ∃ y, z.cells[i % sz]? = some y ∧ VRel g w v y := by
    intro i v hv
    obtain ⟨h1, h2⟩ := flat_rep _ _ _ _ hv
    rw [hzl] at h1 h2
    obtain ⟨y, hy, hr⟩ := cells_get hc0 _ _ h2
    exact ⟨h1, y, hy, hr⟩
  have hcc : (it.bytes : Int) * c ≤ 281474976710656 := by
    rw [hib, Int.mul_comm]
    have : ((c.toNat * by' : Nat) : Int) ≤ 1099511627776 := by omega
    rw [Int.natCast_mul, Int.toNat_of_nonneg (by omega)] at this
    omega
  refine goes_new s (.inr rfl) he (madeCells z.cells (c.toNat * it.size)) e (fun i v hiv => ?_) _ (.slice (some (at_ w.heap.size 0)) l.toNat c.toNat)
    (run_make w t e it z hu hi hzz kl kc l c h0 h1 hcc (by omega)) (fun g' w' ver hg hs => .view o ver 0 l.toNat sz (some c.toNat) w.heap.size 0 c.toNat _ e hg (by omega) (fun k hk => by cases hk; rfl) hs (fun hk => by cases hk))
  obtain ⟨hlt, y, hy, hr⟩ := hrow i v hiv
  refine ⟨y, ?_, hr⟩
  have hsz : it.size = sz := by simpa [szOf, hi] using hz
  have hpos : 0 < sz := by rcases Nat.eq_zero_or_pos sz with h0 | h0
                           · rw [h0] at hlt; simp at hlt
                           · exact h0
  have hm : i % sz < z.cells.size := by rw [hzsz]; exact Nat.mod_lt _ hpos
  have hy' : z.cells[i % sz]! = y := by
    rw [getElem!_pos z.cells (i % sz) hm]
    rw [Array.getElem?_eq_getElem hm] at hy
    exact Option.some.inj hy
  simp [madeCells, hsz, hlt, hzsz, hy']

end Go.Am
