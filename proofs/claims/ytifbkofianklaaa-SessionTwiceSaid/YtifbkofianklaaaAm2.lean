/- The abstract machine: its operations, its code, and how it runs. -/
import Derived.Test.YtifbkofianklaaaAm1
set_option linter.unusedVariables false
namespace Go.Am

inductive Opd where
  | tmp (t : Nat)
  | cst (v : V)
  deriving Inhabited

/-- The kinds of a plain type's cells. -/
inductive CK where
  | b | i (k : IntKind) | s
  deriving DecidableEq, Inhabited

/-- What may be held against nil. -/
inductive NK where
  | p | s | m | f | i
  deriving Inhabited

inductive AOp where
  | move (x : Opd)
  | pick (c a b : Opd)
  | allocz (site : Nat) (zero : List V)
  | box (site : Nat) (x : Opd)
  | build (zero : List V) (parts : List (Nat × Nat × Opd))
  | bslice (zero : List V) (len s : Nat) (parts : List (Nat × Nat × Opd))
  | load (ag : Option Nat) (a : Opd)
  | store (n : Nat) (a x : Opd)
  | nilck (x : Opd)
  | bin (op : BinOp) (x y : Opd)
  | eqc (neg ag : Bool) (ks : List CK) (x y : Opd)
  | eqnil (neg : Bool) (k : NK) (x : Opd)
  | un (op : UnOp) (x : Opd)
  | cint (k : IntKind) (x : Opd)
  | cstr (x : Opd)
  | b2s (x : Opd)
  | s2b (site : Nat) (x : Opd)
  | mkfunc (f : FuncId) (xs ys : List Opd)
  | mkiface (t : TypeId) (x : Opd)
  | mkslice (site : Nat) (zero : List V) (s bytes : Nat) (l c : Opd)
  | slA (n s : Nat) (x : Opd) (lo hi mx : Option Opd)
  | slS (s : Nat) (x : Opd) (lo hi mx : Option Opd)
  | slStr (x : Opd) (lo hi : Option Opd)
  | faddr (off : Nat) (x : Opd)
  | field (ag : Option Nat) (off : Nat) (x : Opd)
  | iaddrA (n s : Nat) (x i : Opd)
  | iaddrS (s : Nat) (x i : Opd)
  | indexA (n s : Nat) (ag : Option Nat) (x i : Opd)
  | indexStr (x i : Opd)
  | extract (x : Opd) (i : Nat)
  | lenS (x : Opd)
  | lenStr (x : Opd)
  | lenK (n : Nat)
  | append (site s bytes : Nat) (x y : Opd)
  | copy (s : Nat) (x y : Opd)
  | call (f : FuncId) (args : List Opd)
  | callv (f : Opd) (args : List Opd)
  | minmax (mx : Bool) (xs : List Opd)
  | clearS (s : Nat) (zero : List V) (x : Opd)
  | bnew (site : Nat) (row : List V) (len s : Nat) (parts : List (Nat × Nat × Opd))
  | mark (x : Opd)
  deriving Inhabited

/-- What an operation does, once its operands are known. -/
inductive Eff where
  | ret (v : V)
  | set (o : Nat) (x : Ob) (v : V)

def V.oneCell : V → Bool
  | .agg _ | .tup _ | .junk => false
  | _ => true

def V.solid : V → Bool
  | .junk => false
  | _ => true

def negB (neg b : Bool) : Bool := match neg with | true => !b | false => b

/-- Cells as a value. -/
def wrapV : List V → V
  | [x] => x
  | l => .agg l

def setRange (old : List V) (off : Nat) (cs : List V) : List V := old.take off ++ cs ++ old.drop (off + cs.length)

def fillA (cells : List V) : List (Nat × Nat × V) → Option (List V)
  | [] => some cells
  | (off, size, v) :: rest =>
    match v with
    | .junk => none
    | v => if v.cells.length = size then if off + size ≤ cells.length then fillA (setRange cells off v.cells) rest else none else none

def binA (op : BinOp) : V → V → Option V
  | .int k a, .int k' b =>
    match op with
    | .shl => if b < 0 then none else some (.int k (k.wrap (a * 2 ^ min b.toNat k.bits)))
    | .shr => if b < 0 then none else some (.int k (a.fdiv (2 ^ min b.toNat k.bits)))
    | op =>
      if k = k' then
        match op with
        | .add => some (.int k (k.wrap (a + b)))
        | .sub => some (.int k (k.wrap (a - b)))
        | .mul => some (.int k (k.wrap (a * b)))
        | .quo => if b = 0 then none else some (.int k (k.wrap (a.tdiv b)))
        | .rem => if b = 0 then none else some (.int k (a.tmod b))
        | .and => some (.int k (k.wrap ((BitVec.ofInt k.bits a) &&& (BitVec.ofInt k.bits b)).toNat))
        | .or => some (.int k (k.wrap ((BitVec.ofInt k.bits a) ||| (BitVec.ofInt k.bits b)).toNat))
        | .xor => some (.int k (k.wrap ((BitVec.ofInt k.bits a) ^^^ (BitVec.ofInt k.bits b)).toNat))
        | .andNot => some (.int k (k.wrap ((BitVec.ofInt k.bits a) &&& ~~~(BitVec.ofInt k.bits b)).toNat))
        | .eql => some (.bool (a == b))
        | .neq => some (.bool (a != b))
        | .lss => some (.bool (a < b))
        | .leq => some (.bool (a ≤ b))
        | .gtr => some (.bool (a > b))
        | .geq => some (.bool (a ≥ b))
        | _ => none
      else none
  | .str a, .str b =>
    match op with
    | .add => if a.length + b.length ≤ 4611686018427387904 then some (.str (a ++ b)) else none
    | .eql => some (.bool (a == b))
    | .neq => some (.bool (!(a == b)))
    | .lss => some (.bool (Op.bytesLess a b))
    | .leq => some (.bool (Op.bytesLess a b || a == b))
    | .gtr => some (.bool (!(Op.bytesLess a b || a == b)))
    | .geq => some (.bool (!(Op.bytesLess a b)))
    | _ => none
  | _, _ => none

/-- Two cells of a plain type, compared. -/
def eqCell : CK → V → V → Option Bool
  | .b, .bool a, .bool b => some (a == b)
  | .i k, .int k1 a, .int k2 b => if k1 = k then if k2 = k then some (a == b) else none else none
  | .s, .str a, .str b => some (a == b)
  | _, _, _ => none

/-- All cells of two values of a plain type, compared: all are looked at. -/
def eqCells : List CK → List V → List V → Option Bool
  | [], [], [] => some true
  | k :: ks, a :: as, b :: bs =>
    match eqCell k a b, eqCells ks as bs with
    | some x, some y => some (x && y)
    | _, _ => none
  | _, _, _ => none

/-- Is it nil: of what may be held against nil. -/
def isNil : NK → V → Option Bool
  | .p, .nilp => some true
  | .p, .ptr .. => some false
  | .p, .iptr .. => some false
  | .s, .nils => some true
  | .s, .view .. => some false
  | .s, .vend .. => some false
  | .s, .sl .. => some false
  | .m, .nilm => some true
  | .m, .map .. => some false
  | .f, .nilf => some true
  | .f, .func .. => some false
  | .i, .nili => some true
  | .i, .iface .. => some false
  | _, _ => none

def unA (op : UnOp) : V → Option V
  | .bool b => match op with | .not => some (.bool !b) | _ => none
  | .int k n =>
    match op with
    | .neg => some (.int k (k.wrap (0 - n)))
    | .xor => some (.int k (k.wrap ((BitVec.ofInt k.bits (if k.signed then -1 else k.max)) ^^^ (BitVec.ofInt k.bits n)).toNat))
    | _ => none
  | _ => none

/-- The cells of an object in a state. -/
def cellsAt (get : Nat → Option Ob) (o ver : Nat) : Option (List V) :=
  match get o with
  | some ⟨v, .var cs⟩ => if v = ver then some cs else none
  | some ⟨v, .arr cs⟩ => if v = ver then some cs else none
  | _ => none

/-- 'n' cells from an address on. -/
def loadA (get : Nat → Option Ob) (n : Nat) : V → Option (List V)
  | .ptr o ver off =>
    match cellsAt get o ver with
    | some cs => if off + n ≤ cs.length then some ((cs.drop off).take n) else none
    | none => none
  | .iptr cs off => if off + n ≤ cs.length then some ((cs.drop off).take n) else none
  | _ => none

def mmA (mx : Bool) : V → V → Option V
  | .int k x, .int _ y => some (.int k (match mx with | true => if x < y then y else x | false => if y < x then y else x))
  | _, _ => none

/-- An object with other cells. -/
def Ob.with (x : Ob) (cs : List V) : Ob :=
  match x.bd with
  | .var _ => ⟨x.ver, .var cs⟩
  | .arr _ => ⟨x.ver, .arr cs⟩
  | b => ⟨x.ver, b⟩

def storeA (get : Nat → Option Ob) (o ver off : Nat) (new : List V) (v : V) : Option Eff :=
  match cellsAt get o ver, get o with
  | some cs, some x => if off + new.length ≤ cs.length then some (.set o (x.with (setRange cs off new)) v) else none
  | _, _ => none

def packA (ag : Option Nat) (cs : List V) : Option V :=
  match ag with
  | some _ => some (.agg cs)
  | none => cs.head?

def nAg : Option Nat → Nat
  | some n => n
  | none => 1

/-- A new object at a site of its own. -/
def mkA (get : Nat → Option Ob) (o : Nat) (bd : Bd) (v : Nat → V) : Option Eff :=
  match get o with
  | some x => some (.set o ⟨x.ver + 1, bd⟩ (v (x.ver + 1)))
  | none => none

def intOf? : V → Option Int
  | .int _ n => some n
  | _ => none

/-- The bounds of a slice expression: low, high, max. -/
def boundsA (len cap : Nat) (lo hi mx : Option V) : Option (Nat × Nat × Nat) :=
  match (match mx with | some v => (intOf? v).bind fun i => if 0 ≤ i then if i ≤ cap then some i.toNat else none else none | none => some cap) with
  | none => none
  | some m =>
    match (match hi with | some v => (intOf? v).bind fun i => if 0 ≤ i then if i ≤ m then some i.toNat else none else none | none => if mx.isNone then some len else none) with
    | none => none
    | some h =>
      match (match lo with | some v => (intOf? v).bind fun i => if 0 ≤ i then if i ≤ h then some i.toNat else none else none | none => some 0) with
      | none => none
      | some l => some (l, h, m)

/-- How many elements a slice (or a string) has. -/
def lenA : V → Option Nat
  | .nils => some 0
  | .vend .. => some 0
  | .view _ _ _ len _ _ => some len
  | .sl L _ _ => some L.length
  | .str s => some s.length
  | _ => none

/-- The first 'n' elements' cells of a slice or a string. -/
def firstA (get : Nat → Option Ob) (s n : Nat) : V → Option (List V)
  | .nils => if n = 0 then some [] else none
  | .vend _ _ s' => if s' = s then if n = 0 then some [] else none else none
  | .view o ver off len s' _ => if s' = s then if n ≤ len then loadA get (n * s) (.ptr o ver off) else none else none
  | .sl L s' _ => if s' = s then if n ≤ L.length then some ((L.take n).flatMap V.cells) else none else none
  | .str b => if s = 1 then if n ≤ b.length then some ((b.take n).map fun x => V.int .u8 x.toNat) else none else none
  | _ => none

def indexedI (n : Nat) (i : V) : Option Nat :=
  match i with
  | .int _ i => if 0 ≤ i then if i < n then some i.toNat else none else none
  | _ => none

/-- A slice's part. 'h', 'm': within what is known to be there. -/
def sliceA (get : Nat → Option Ob) (s : Nat) (x : V) (lo hi mx : Option V) : Option V :=
  match x with
  | .nils => (boundsA 0 0 lo hi mx).map fun _ => .nils
  | .view o ver off len s' (some c) =>
    if s' = s then (boundsA len c lo hi mx).map fun (l, h, m) => .view o ver (if m = l then off else off + l * s) (h - l) s (some (m - l)) else none
  | .view o ver off len s' none =>
    if s' = s then
      match cellsAt get o ver with
      | some cs =>
        match mx with
        | none =>
          (boundsA len ((cs.length - off) / s) lo hi none).bind fun (l, h, _) =>
            if l = 0 then some (.view o ver off h s none) else if l < h then some (.view o ver (off + l * s) (h - l) s none) else some (.vend o ver s)
        | some _ => (boundsA len ((cs.length - off) / s) lo hi mx).map fun (l, h, m) => .view o ver (if m = l then off else off + l * s) (h - l) s (some (m - l))
      | none => none
    else none
  | .vend o ver s' => if s' = s then (boundsA 0 0 lo hi (if mx.isNone then none else some .junk)).map fun _ => .vend o ver s else none
  | .sl L s' (some c) =>
    if s' = s then (boundsA L.length c lo hi mx).bind fun (l, h, m) => if h ≤ L.length then some (.sl ((L.take h).drop l) s (some (m - l))) else none else none
  | .sl L s' none =>
    if s' = s then (boundsA L.length L.length lo hi mx).map fun (l, h, m) => .sl ((L.take h).drop l) s (if mx.isSome then some (m - l) else none) else none
  | _ => none

def maxBytes : Nat := 1099511627776

/-- What is cleared. -/
def clearA (get : Nat → Option Ob) (s : Nat) (zero : List V) : V → Option Eff
  | .nils | .sl [] _ _ | .vend .. => some (.ret (.tup []))
  | .view o ver off len s' _ => if len = 0 then some (.ret (.tup [])) else if s' = s then storeA get o ver off (List.replicate len zero).flatten (.tup []) else none
  | _ => none

/-- 'append': 'o' is the site of a new array. -/
def appendA (get : Nat → Option Ob) (o s bytes : Nat) (x y : V) : Option Eff :=
  match lenA y with
  | none => none
  | some n =>
    match firstA get s n y with
    | none => none
    | some new =>
      if new.all V.oneCell then
      match x with
      | .nils =>
        if n = 0 then some (.ret .nils) else
        if n * bytes ≤ maxBytes then mkA get o (.arr new) fun v => .view o v 0 n s none else none
      | .sl L s' (some c) =>
        if s' = s then
          if n = 0 then some (.ret x) else
          if c < L.length + n then
            if (L.length + n) * bytes ≤ maxBytes then mkA get o (.arr (L.flatMap V.cells ++ new)) fun v => .view o v 0 (L.length + n) s none else none
          else none
        else none
      | .vend o' ver s' =>
        if s' = s then
          match cellsAt get o' ver with
          | none => none
          | some _ => if n = 0 then some (.ret x) else if n * bytes ≤ maxBytes then some (.set o' ⟨ver + 1, .arr new⟩ (.view o' (ver + 1) 0 n s none)) else none
        else none
      | .view o' ver off len s' cap =>
        if s' = s then
          match cellsAt get o' ver with
          | none => none
          | some cs =>
            if n = 0 then some (.ret x) else
            if off + len * s ≤ cs.length then
            match cap with
            | some c =>
              if len + n ≤ c then storeA get o' ver (off + len * s) new (.view o' ver off (len + n) s (some c))
              else if (len + n) * bytes ≤ maxBytes then mkA get o (.arr ((cs.drop off).take (len * s) ++ new)) fun v => .view o v 0 (len + n) s none else none
            | none =>
              if off + len * s = cs.length then
                if (len + n) * bytes ≤ maxBytes then
                  some (.set o' ⟨ver + 1, .arr (cs.drop off ++ new)⟩ (.view o' (ver + 1) 0 (len + n) s none))
                else none
              else storeA get o' ver (off + len * s) new (.view o' ver off (len + n) s none)
            else none
        else none
      | _ => none
      else none

def copyA (get : Nat → Option Ob) (s : Nat) (x y : V) : Option Eff :=
  match lenA x, lenA y with
  | some dl, some sl =>
    let n := Nat.min sl dl
    match firstA get s n y with
    | none => none
    | some new =>
      if new.all V.oneCell then
      match x with
      | .nils => some (.ret (.int .i64 0))
      | .vend .. => some (.ret (.int .i64 0))
      | .view o ver off _ s' _ => if s' = s then if n = 0 then some (.ret (.int .i64 0)) else storeA get o ver off new (.int .i64 n) else none
      | _ => none
      else none
  | _, _ => none

def iaddrSA (s : Nat) (x i : V) : Option Eff :=
  match x with
  | .view o ver off len s' _ => if s' = s then (indexedI len i).map fun i => .ret (.ptr o ver (off + i * s)) else none
  | .sl L s' _ => if s' = s then (indexedI L.length i).bind fun i => (L[i]?).map fun e => .ret (.iptr e.cells 0) else none
  | _ => none

/-- An operation that is no call. 'fb': where the objects of this call begin. -/
def prim (fb : Nat) (ρ : Opd → V) (get : Nat → Option Ob) : AOp → Option Eff
  | .move x => some (.ret (ρ x))
  | .pick c a b => match ρ c with | .bool t => some (.ret (match t with | true => ρ a | false => ρ b)) | _ => none
  | .allocz site zero => mkA get (fb + site) (.var zero) fun v => .ptr (fb + site) v 0
  | .box site x => match ρ x with | .junk => none | x => mkA get (fb + site) (.var x.cells) fun v => .ptr (fb + site) v 0
  | .build zero parts => (fillA zero (parts.map fun (o, n, x) => (o, n, ρ x))).map fun cs => .ret (.agg cs)
  | .bslice zero len s parts =>
    match fillA zero (parts.map fun (o, n, x) => (o, n, ρ x)) with
    | some cs => if cs.all V.oneCell then some (.ret (.sl ((List.range len).map fun i => wrapV ((cs.drop (i * s)).take s)) s (some len))) else none
    | none => none
  | .load ag a => (loadA get (nAg ag) (ρ a)).bind fun cs => (packA ag cs).map .ret
  | .store n a x =>
    match ρ a with
    | .ptr o ver off => if (ρ x).cells.length = n then if (ρ x).cells.all V.oneCell then storeA get o ver off (ρ x).cells (.tup []) else none else none
    | _ => none
  | .nilck x => match ρ x with | .ptr o v f => some (.ret (.ptr o v f)) | .iptr c f => some (.ret (.iptr c f)) | .func f a b => some (.ret (.func f a b)) | _ => none
  | .bin op x y => (binA op (ρ x) (ρ y)).map .ret
  | .eqc neg true ks x y => match ρ x, ρ y with | .agg a, .agg b => (eqCells ks a b).map fun b => .ret (.bool (negB neg b)) | _, _ => none
  | .eqc neg false ks x y => (eqCells ks [ρ x] [ρ y]).map fun b => .ret (.bool (negB neg b))
  | .eqnil neg k x => (isNil k (ρ x)).map fun b => .ret (.bool (negB neg b))
  | .un op x => (unA op (ρ x)).map .ret
  | .cint k x => match ρ x with | .int _ n => some (.ret (.int k (k.wrap n))) | _ => none
  | .cstr x => match ρ x with | .str s => some (.ret (.str s)) | _ => none
  | .b2s x => match ρ x with | .str _ => none | x => (lenA x).bind fun n => (firstA get 1 n x).bind fun cs => (cs.mapM fun (c : V) => match c with | .int .u8 n => some (UInt8.ofNat n.toNat) | _ => none).map fun l => .ret (.str l)
  | .s2b site x => match ρ x with | .str s => mkA get (fb + site) (.arr (s.map fun b => .int .u8 b.toNat)) fun v => .view (fb + site) v 0 s.length 1 none | _ => none
  | .minmax mx xs => match xs.map ρ with | a :: rest => (rest.foldlM (mmA mx) a).map .ret | [] => none
  | .clearS s zero x => clearA get s zero (ρ x)
  | .bnew site row len s parts =>
    match fillA row (parts.map fun (o, n, x) => (o, n, ρ x)) with
    | some cs => mkA get (fb + site) (.arr cs) fun v => .view (fb + site) v 0 len s (some len)
    | none => none
  | .mark x =>
    match ρ x with
    | .view o ver off len s cap => match cellsAt get o ver with | some _ => some (.ret (.view o ver off len s cap)) | none => none
    | _ => none
  | .mkfunc f xs ys => some (.ret (.func f (xs.map ρ) (ys.map ρ)))
  | .mkiface t x => match ρ x with | .junk => none | x => some (.ret (.iface t x))
  | .mkslice site zero s bytes l c =>
    match ρ l, ρ c with
    | .int _ l, .int _ c => if 0 ≤ l then if l ≤ c then if c.toNat * bytes ≤ maxBytes then if c.toNat ≤ maxBytes then
        mkA get (fb + site) (.arr (List.replicate c.toNat zero).flatten) fun v => .view (fb + site) v 0 l.toNat s (some c.toNat) else none else none else none else none
    | _, _ => none
  | .slA n s x lo hi mx =>
    match ρ x with
    | .ptr o ver off =>
      match cellsAt get o ver with
      | some _ => (boundsA n n (lo.map ρ) (hi.map ρ) (mx.map ρ)).map fun (l, h, m) => .ret (.view o ver (if m = l then off else off + l * s) (h - l) s (some (m - l)))
      | none => none
    | .iptr cs off => (boundsA n n (lo.map ρ) (hi.map ρ) (mx.map ρ)).bind fun (l, h, m) =>
      if off + n * s ≤ cs.length then if cs.all V.oneCell then some (.ret (.sl ((List.range (h - l)).map fun i => wrapV ((cs.drop (off + (l + i) * s)).take s)) s (some (m - l)))) else none else none
    | _ => none
  | .slS s x lo hi mx => (sliceA get s (ρ x) (lo.map ρ) (hi.map ρ) (mx.map ρ)).map .ret
  | .slStr x lo hi => match ρ x with | .str b => (boundsA b.length b.length (lo.map ρ) (hi.map ρ) none).map fun (l, h, _) => .ret (.str ((b.take h).drop l)) | _ => none
  | .faddr off x => match ρ x with | .ptr o v f => some (.ret (.ptr o v (f + off))) | .iptr c f => some (.ret (.iptr c (f + off))) | _ => none
  | .field ag off x => match ρ x with | .agg cs => if off + nAg ag ≤ cs.length then (packA ag ((cs.drop off).take (nAg ag))).map .ret else none | _ => none
  | .iaddrA n s x i => (indexedI n (ρ i)).bind fun i => match ρ x with | .ptr o v f => some (.ret (.ptr o v (f + i * s))) | .iptr c f => some (.ret (.iptr c (f + i * s))) | _ => none
  | .iaddrS s x i => iaddrSA s (ρ x) (ρ i)
  | .indexA n s ag x i => (indexedI n (ρ i)).bind fun i => match ρ x with | .agg cs => if i * s + nAg ag ≤ cs.length then (packA ag ((cs.drop (i * s)).take (nAg ag))).map .ret else none | _ => none
  | .indexStr x i => match ρ x with | .str b => (indexedI b.length (ρ i)).bind fun i => (b[i]?).map fun c => .ret (.int .u8 c.toNat) | _ => none
  | .extract x i => match ρ x with | .tup vs => (vs[i]?).map .ret | _ => none
  | .lenS x => match ρ x with | .str _ => none | x => (lenA x).map fun (n : Nat) => .ret (.int .i64 (n : Int))
  | .lenStr x => match ρ x with | .str s => some (.ret (.int .i64 s.length)) | _ => none
  | .lenK n => some (.ret (.int .i64 n))
  | .append site s bytes x y => appendA get (fb + site) s bytes (ρ x) (ρ y)
  | .copy s x y => copyA get s (ρ x) (ρ y)
  | .call .. => none
  | .callv .. => none

end Go.Am
