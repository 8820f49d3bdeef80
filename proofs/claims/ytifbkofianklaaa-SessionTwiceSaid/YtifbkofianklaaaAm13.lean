/- From an operation of the model to the abstract machine's, and that the one does what the other does. -/
import Derived.Test.YtifbkofianklaaaAm24
set_option linter.unusedVariables false
set_option linter.unusedSimpArgs false
namespace Go.Am
variable {P : Program}

def trOpds (xs : List Operand) : Option (List Opd) := xs.mapM trOpd

def trParts (pl : Nat → Option (Nat × Nat)) : List (Nat × Operand) → Option (List (Nat × Nat × Opd))
  | [] => some []
  | (i, x) :: l =>
    match pl i, trOpd x, trParts pl l with
    | some (off, size), some x, some l => some ((off, size, x) :: l)
    | _, _, _ => none

def trOpt : Option Operand → Option (Option Opd)
  | none => some none
  | some x => (trOpd x).map some

/-- The nil that stands as an operand, if it does. -/
def isNilOpd : NK → Operand → Bool
  | .p, .const (.pointer none) => true
  | .s, .const (.slice none 0 0) => true
  | .m, .const (.map none) => true
  | .f, .const .nilFunc => true
  | .i, .const .nilIface => true
  | _, _ => false

theorem isNilOpd_eval {k : NK} {x : Operand} (h : isNilOpd k x = true) : x = .const k.nil := by
  unfold isNilOpd at h
  split at h <;> first | rfl | cases h

def trBin (P : Program) (op : BinOp) (t : TypeId) (x y : Operand) : Option AOp :=
  match P.underlying t with
  | some (.int _) | some .string => match trOpd x, trOpd y with | some x, some y => some (.bin op x y) | _, _ => none
  | some .bool =>
    match op, trOpd x, trOpd y with
    | .eql, some x, some y => some (.eqc false false [.b] x y)
    | .neq, some x, some y => some (.eqc true false [.b] x y)
    | _, _, _ => none
  | some (.struct _) | some (.array _ _) =>
    match kindsOf P 64 t, P.eqGuardType P.depth t, trOpd x, trOpd y, op with
    | some ks, false, some x, some y, .eql => some (.eqc false true ks x y)
    | some ks, false, some x, some y, .neq => some (.eqc true true ks x y)
    | _, _, _, _, _ => none
  | _ =>
    match nkOf P t, op with
    | some k, .eql => if isNilOpd k y then (trOpd x).map (.eqnil false k) else if isNilOpd k x then (trOpd y).map (.eqnil false k) else none
    | some k, .neq => if isNilOpd k y then (trOpd x).map (.eqnil true k) else if isNilOpd k x then (trOpd y).map (.eqnil true k) else none
    | _, _ => none

def elemInfo (P : Program) (e : TypeId) : Option (Nat × Nat × List V) :=
  match szOf P e, byOf P e, zeroOf P e with
  | some s, some b, some z => if z.length = s ∧ 0 < b ∧ 0 < s then some (s, b, z) else none
  | _, _, _ => none

def isByte (P : Program) (e : TypeId) : Bool := match P.underlying e with | some (.int .u8) => true | _ => false

theorem isByte_spec {e : TypeId} (h : isByte P e = true) : P.underlying e = some (.int .u8) := by
  unfold isByte at h
  split at h
  · assumption
  · cases h

def trBuiltin (P : Program) (site : Nat) (b : Builtin) (args : List Operand) (argTypes : List TypeId) : Option AOp :=
  match b, args, argTypes with
  | .len, [x], [t] =>
    match P.underlying t, trOpd x with
    | some (.slice _), some x => some (.lenS x)
    | some .string, some x => some (.lenStr x)
    | some (.array n _), _ => some (.lenK n)
    | some (.pointer t'), _ => match P.underlying t' with | some (.array n _) => some (.lenK n) | _ => none
    | _, _ => none
  | .append, [x, y], [t, u] =>
    match P.underlying t, P.underlying u, trOpd x, trOpd y with
    | some (.slice e), some (.slice _), some x, some y => (elemInfo P e).map fun (s, b, _) => .append site s b x y
    | some (.slice e), some .string, some x, some y => (elemInfo P e).map fun (s, b, _) => .append site s b x y
    | _, _, _, _ => none
  | .copy, [x, y], [t, _] =>
    match P.underlying t, trOpd x, trOpd y with
    | some (.slice e), some x, some y => (szOf P e).map fun s => .copy s x y
    | _, _, _ => none
  | .clear, [x], [t] =>
    match P.underlying t, trOpd x with
    | some (.slice e), some x => match elemInfo P e with | some (s, _, z) => if z.all V.oneCell then some (.clearS s z x) else none | none => none
    | _, _ => none
  | .min, x :: xs, _ => (trOpds (x :: xs)).map (.minmax false)
  | .max, x :: xs, _ => (trOpds (x :: xs)).map (.minmax true)
  | _, _, _ => none

/-- An operation, told in the abstract machine's words: 'site' is its own. -/
def trOp (P : Program) (site : Nat) (op : Op) : Option AOp :=
  match op with
  | .move x | .assign x => (trOpd x).map .move
  | .pick c a b => match trOpd c, trOpd a, trOpd b with | some c, some a, some b => some (.pick c a b) | _, _, _ => none
  | .alloc e => (zeroOf P e).map (.allocz site)
  | .box _ x => (trOpd x).map (.box site)
  | .build t parts =>
    match zeroOf P t, placesOf P t with
    | some z, some pl => (trParts pl parts.toList).map (.build z)
    | _, _ => none
  | .buildSlice t len parts =>
    match P.underlying t with
    | some (.slice e) =>
      match elemInfo P e with
      | some (s, _, z) => if len * s ≤ 16777216 then
          match isByte P e with
          | true => (trParts (fun i => some (i * s, s)) parts.toList).map (.bnew site ((List.range (len * s)).map fun i => z.getD (i % z.length) .junk) len s)
          | false => (trParts (fun i => some (i * s, s)) parts.toList).map (.bslice ((List.range (len * s)).map fun i => z.getD (i % z.length) .junk) len s)
        else none
      | none => none
    | _ => none
  | .load t a => match agOf P t, trOpd a with | some ag, some a => some (.load ag a) | _, _ => none
  | .store t a x => match szOf P t, trOpd a, trOpd x with | some n, some a, some x => some (.store n a x) | _, _, _ => none
  | .nilCheck x => (trOpd x).map .nilck
  | .binOp op t x y _ => trBin P op t x y
  | .unOp op _ x => (trOpd x).map (.un op)
  | .convert src dst x =>
    match P.underlying src, P.underlying dst, trOpd x with
    | some (.int _), some (.int k), some x => some (.cint k x)
    | some .string, some .string, some x => some (.cstr x)
    | some (.slice e), some .string, some x => if isByte P e then some (.b2s x) else none
    | some .string, some (.slice e), some x => if isByte P e then some (.s2b site x) else none
    | some (.slice e), some (.slice _), some x => if src = dst then if isByte P e then some (.mark x) else none else none
    | _, _, _ => none
  | .makeInterface t x => match P.underlying t, trOpd x with | some (.interface _), _ => none | some _, some x => some (.mkiface t x) | _, _ => none
  | .makeFunc (.func f) xs ys => match trOpds xs.toList, trOpds ys.toList with | some xs, some ys => some (.mkfunc f xs ys) | _, _ => none
  | .makeSlice t l c =>
    match P.underlying t, trOpd l, trOpd c with
    | some (.slice e), some l, some c => (elemInfo P e).map fun (s, b, z) => .mkslice site z s b l c
    | _, _, _ => none
  | .slice t x lo hi mx =>
    match P.underlying t, trOpd x, trOpt lo, trOpt hi, trOpt mx with
    | some (.array n e), some x, some lo, some hi, some mx => (szOf P e).map fun s => .slA n s x lo hi mx
    | some (.slice e), some x, some lo, some hi, some mx => (elemInfo P e).map fun (s, _, _) => .slS s x lo hi mx
    | some .string, some x, some lo, some hi, some none => some (.slStr x lo hi)
    | _, _, _, _, _ => none
  | .fieldAddr t x i =>
    match P.underlying t, trOpd x with
    | some (.struct fs), some x =>
      match fs[i]? with
      | some f => match szOf P f.type with | some n => if n = 0 then none else some (.faddr f.offset x) | none => none
      | none => none
    | _, _ => none
  | .field t x i =>
    match P.underlying t, trOpd x with
    | some (.struct fs), some x =>
      match fs[i]? with
      | some f => (agOf P f.type).map fun ag => .field ag f.offset x
      | none => none
    | _, _ => none
  | .indexAddr t x i =>
    match P.underlying t, trOpd x, trOpd i with
    | some (.array n e), some x, some i => (szOf P e).map fun s => .iaddrA n s x i
    | some (.slice e), some x, some i => (szOf P e).map fun s => .iaddrS s x i
    | _, _, _ => none
  | .index t x i =>
    match P.underlying t, trOpd x, trOpd i with
    | some (.array n e), some x, some i => match szOf P e, agOf P e with | some s, some ag => some (.indexA n s ag x i) | _, _ => none
    | some .string, some x, some i => some (.indexStr x i)
    | _, _, _ => none
  | .extract x i => (trOpd x).map fun x => .extract x i
  | .call { callee := .builtin b, args, argTypes } => trBuiltin P site b args.toList argTypes.toList
  | .call { callee := .value (.func f), args, .. } => (trOpds args.toList).map (.call f)
  | .call { callee := .value f, args, .. } => match trOpd f, trOpds args.toList with | some f, some args => some (.callv f args) | _, _ => none
  | _ => none

/-- What an operation that is no call comes to. -/
def PrimGoes (P : Program) (s : Sem Next) (g : G) (h : Heap) (w : World) (v : V) (h' : Heap) : Prop :=
  ∃ g' w' x n, s.run P w = .ok n w' ∧ (n = .value x ∨ (n = .skip ∧ x = undef)) ∧ Sim g' h' w' ∧ Ext g h w g' h' w' ∧ VRel g' w' v x

theorem PrimGoes.of {s : Sem Value} {g : G} {h : Heap} {w : World} {v : V} {h' : Heap} (q : Goes P s g h w v h') : PrimGoes P (do pure (.value (← s))) g h w v h' := by
  obtain ⟨g', w', x, r, rest⟩ := q
  exact ⟨g', w', x, .value x, by simp [r], .inl rfl, rest⟩

def EffPrim (P : Program) (s : Sem Next) (g : G) (h : Heap) (w : World) : Eff → Prop
  | .ret v => PrimGoes P s g h w v h
  | .set o x v => PrimGoes P s g h w v (h.set o x)

theorem EffPrim.of {s : Sem Value} {g : G} {h : Heap} {w : World} {e : Eff} (q : EffGoes P s g h w e) : EffPrim P (do pure (.value (← s))) g h w e := by
  cases e with
  | ret v => exact PrimGoes.of (P := P) q
  | set o x v => exact PrimGoes.of (P := P) q

theorem trParts_rel {g : G} {w : World} {ρ : Opd → V} {ρ' : Operand → Value} (hρ : OpdRel g w ρ ρ') {pl : Nat → Option (Nat × Nat)} : ∀ {l : List (Nat × Operand)} {m : List (Nat × Nat × Opd)}, trParts pl l = some m →
    Parts g w pl (m.map fun (o, n, x) => (o, n, ρ x)) (l.map fun (i, x) => (i, ρ' x))
  | [], m, h => by simp [trParts] at h; subst h; exact .nil
  | (i, x) :: l, m, h => by
    simp only [trParts] at h
    split at h
    · rename_i off size x' m' h1 h2 h3
      cases h
      exact .cons i off size _ _ _ _ h1 (hρ _ _ h2) (trParts_rel hρ h3)
    · cases h

theorem trOpt_rel {g : G} {w : World} {ρ : Opd → V} {ρ' : Operand → Value} (hρ : OpdRel g w ρ ρ') {a : Option Operand} {b : Option Opd} (h : trOpt a = some b) : OptRel g w (b.map ρ) (a.map ρ') := by
  cases a with
  | none => simp [trOpt] at h; subst h; trivial
  | some x =>
    simp only [trOpt, Option.map_eq_some_iff] at h
    obtain ⟨y, hy, rfl⟩ := h
    exact hρ _ _ hy

theorem trOpds_rel {g : G} {w : World} {ρ : Opd → V} {ρ' : Operand → Value} (hρ : OpdRel g w ρ ρ') : ∀ {xs : List Operand} {ys : List Opd}, trOpds xs = some ys →
    xs.length = ys.length ∧ ∀ (i : Nat) (c : V), (ys.map ρ)[i]? = some c → ∃ x, (xs.map ρ')[i]? = some x ∧ VRel g w c x
  | [], ys, h => by simp [trOpds] at h; subst h; simp
  | x :: xs, ys, h => by
    simp only [trOpds, List.mapM_cons, Option.bind_eq_bind, Option.bind_eq_some_iff, Option.pure_def, Option.some.injEq] at h
    obtain ⟨y, hy, ys', hys, rfl⟩ := h
    obtain ⟨h1, h2⟩ := trOpds_rel hρ (xs := xs) hys
    refine ⟨by simp [h1], fun i c hi => ?_⟩
    cases i with
    | zero => simp at hi; subst hi; exact ⟨_, rfl, hρ _ _ hy⟩
    | succ i => simp at hi ⊢; simpa using h2 i c (by simpa using hi)

theorem elem_ok {st e : TypeId} {s b : Nat} {z : List V} (hu : P.underlying st = some (.slice e)) (h : elemInfo P e = some (s, b, z)) : ∃ i zv, ElemOk P st e i zv s b z ∧ szOf P e = some s ∧ byOf P e = some b ∧ zeroOf P e = some z ∧ z.length = s ∧ 0 < s := by
  unfold elemInfo at h
  split at h
  · rename_i s' b' z' h1 h2 h3
    split at h
    · rename_i hc
      cases h
      obtain ⟨it, zv, hi, hz, hc0⟩ := zeroOf_info h3 ⟨fun _ _ => none, fun _ => False, fun _ _ => none⟩ default
      refine ⟨it, zv, ⟨hu, hi, hz, by simpa [szOf, hi] using h1, by simpa [byOf, hi] using h2, ?_, hc.2.1, hc.2.2⟩, h1, h2, h3, hc.1, hc.2.2⟩
      have := hc0.1
      simp at this
      omega
    · cases h
  · cases h

end Go.Am
