import Derived.Below
import Derived.Calls
import Derived.ChangeKeysEq
import Derived.Deep.AppendSrc
import Derived.Deep.Upon
import Derived.Laws.BytesArg
import Derived.Laws.IdiomCopy
import Derived.Laws.IdiomStrings
import Derived.Laws.MakeOwn
import Derived.MapKept
import Derived.RangeFuncRecord
import Derived.WalkKit
set_option linter.unusedVariables false
namespace Go.Am
inductive V where
 | junk
 | bool (b:Bool)
 | int (k:IntKind) (n:Int)
 | str (s:List UInt8)
 | nilp
 | ptr (o ver off:Nat)
 | iptr (cs:List V) (off:Nat)
 | nils
 | view (o ver off len s:Nat) (cap:Option Nat)
 | vend (o ver s:Nat)
 | sl (L:List V) (s:Nat) (cap:Option Nat)
 | nilm
 | map (o ver:Nat)
 | nilf
 | func (f:FuncId) (first captured:List V)
 | yld (o ver:Nat)
 | nili
 | iface (t:TypeId) (v:V)
 | agg (cs:List V)
 | tup (vs:List V)
 deriving Inhabited
def V.cells:V → List V
 | .agg cs => cs
 | v => [v]
inductive Bd where
 | dead
 | var (cs:List V)
 | arr (cs:List V)
 | map (es:List (V × V))
 | loop (st:Nat) (pend:Option (Option Nat)) (t:List V) (fb f k:Nat)
 deriving Inhabited
structure Ob where
 ver:Nat
 bd:Bd
 deriving Inhabited
abbrev Heap:=List Ob
structure LoopCode where
 params:Array Tmp
 assign:Code
 body:Code
def rangesOf:Code → List LoopCode
 | .seq a b => rangesOf a ++ rangesOf b
 | .cond _ a b => rangesOf a ++ rangesOf b
 | .block _ b | .loop b | .scope b => rangesOf b
 | .rangeFunc _ ps a b => ⟨ps,a,b⟩ :: (rangesOf a ++ rangesOf b)
 | _ => []
def codesOf (P:Program) (f k:Nat):Option LoopCode :=
 match P.funcs[f]? with
 | some fn => match fn.body with | some c => (rangesOf c)[k]? | none => none
 | none => none
structure G where
 loc:Nat → Nat → Option (Nat × Nat)
 imm:Nat → Prop
 code:Nat → Nat → Option LoopCode
abbrev at_ (b off:Nat):Addr:=⟨b,off,none⟩
inductive VRel (g:G) (w:World):V → Value → Prop where
 | junk (x:Value):VRel g w .junk x
 | bool (b:Bool):VRel g w (.bool b) (.bool b)
 | int (k:IntKind) (n:Int):VRel g w (.int k n) (.int k n)
 | str (s:List UInt8):VRel g w (.str s) (.string ⟨⟨s⟩⟩)
 | nilp:VRel g w .nilp (.pointer none)
 | ptr (o t off b base:Nat) (h:g.loc o t = some (b,base)):VRel g w (.ptr o t off) (.pointer (some (at_ b (base + off))))
 | iptr (cs:List V) (off b base:Nat) (f:Nat → Value) (hi:g.imm b) (hc:∀ j,j < cs.length → w.cell? (at_ b (base + j)) = some (f j))
   (hv:∀ j c,cs[j]? = some c → VRel g w c (f j)):VRel g w (.iptr cs off) (.pointer (some (at_ b (base + off))))
 | nils:VRel g w .nils (.slice none 0 0)
 | view (o t off len s:Nat) (cap:Option Nat) (b base c n:Nat) (e:TypeId) (h:g.loc o t = some (b,base)) (hl:len ≤ c) (hk:∀ k,cap = some k → c = k)
   (hs:w.shape? b = some (e,n)) (hn:cap = none → base + off + c * s = n):VRel g w (.view o t off len s cap) (.slice (some (at_ b (base + off))) len c)
 | vend (o t s:Nat) (b base x c n:Nat) (e:TypeId) (h:g.loc o t = some (b,base)) (hs:w.shape? b = some (e,n)) (hn:c = 0 ∨ x + c * s = n):VRel g w (.vend o t s) (.slice (some (at_ b x)) 0 c)
 | sl (L:List V) (s:Nat) (cap:Option Nat) (b off c:Nat) (f:Nat → Value) (hi:L ≠ [] → g.imm b) (hl:L.length ≤ c) (hk:∀ k,cap = some k → c = k)
   (hz:∀ (i:Nat) (e:V),L[i]? = some e → e.cells.length = s) (hc:∀ j,j < L.length * s → w.cell? (at_ b (off + j)) = some (f j))
   (hv:∀ (i:Nat) (e:V) (j:Nat) (x:V),L[i]? = some e → e.cells[j]? = some x → VRel g w x (f (i * s + j))) :
   VRel g w (.sl L s cap) (.slice (some (at_ b off)) L.length c)
 | sl0 (s:Nat) (cap:Option Nat) (a:Addr) (hk:∀ k,cap = some k → 0 = k):VRel g w (.sl [] s cap) (.slice (some a) 0 0)
 | nilm:VRel g w .nilm (.map none)
 | map (o t b:Nat) (h:g.loc o t = some (b,0)):VRel g w (.map o t) (.map (some b))
 | nilf:VRel g w .nilf .nilFunc
 | func (f:FuncId) (xs ys:List V) (xs' ys':Array Value) (hx:xs'.size = xs.length) (hy:ys'.size = ys.length)
   (h1:∀ i x,xs[i]? = some x → VRel g w x (xs'.getD i undef)) (h2:∀ i x,ys[i]? = some x → VRel g w x (ys'.getD i undef)) :
   VRel g w (.func f xs ys) (.func (.func f) xs' ys')
 | yld (o t b:Nat) (h:g.loc o t = some (b,0)):VRel g w (.yld o t) (.func (.yield b) #[] #[])
 | nili:VRel g w .nili .nilIface
 | iface (t:TypeId) (v:V) (x:Value) (h:VRel g w v x):VRel g w (.iface t v) (.iface t x)
 | agg (cs:List V) (xs:Array Value) (hx:xs.size = cs.length) (h:∀ i c,cs[i]? = some c → VRel g w c (xs.getD i undef)):VRel g w (.agg cs) (.agg xs)
 | tup (cs:List V) (xs:Array Value) (hx:xs.size = cs.length) (h:∀ i c,cs[i]? = some c → VRel g w c (xs.getD i undef)):VRel g w (.tup cs) (.tuple xs)
structure Later (g:G) (w:World) (g':G) (w':World):Prop where
 code:g'.code = g.code
 loc:∀ o t b,g.loc o t = some b → g'.loc o t = some b
 imm:∀ b,g.imm b → g'.imm b
 keeps:∀ b,g.imm b → w'.heap[b]? = w.heap[b]?
 shape:∀ b x,w.shape? b = some x → w'.shape? b = some x
theorem cell_of_block {w w':World} {a:Addr} (h:w'.heap[a.block]? = w.heap[a.block]?):w'.cell? a = w.cell? a:=by
 simp [World.cell?,h]
theorem VRel.later {g:G} {w:World} {g':G} {w':World} (L:Later g w g' w') {v:V} {x:Value} (h:VRel g w v x):VRel g' w' v x:=by
 induction h with
 | junk x => exact .junk x
 | bool b => exact .bool b
 | int k n => exact .int k n
 | str s => exact .str s
 | nilp => exact .nilp
 | ptr o t off b base h => exact .ptr o t off b base (L.loc _ _ _ h)
 | iptr cs off b base f hi hc hv ih => exact .iptr cs off b base f (L.imm _ hi) (fun j hj => by rw [cell_of_block (L.keeps b hi)]; exact hc j hj) ih
 | nils => exact .nils
 | view o t off len s cap b base c n e h hl hk hs hn => exact .view o t off len s cap b base c n e (L.loc _ _ _ h) hl hk (L.shape _ _ hs) hn
 | vend o t s b base x c n e h hs hn => exact .vend o t s b base x c n e (L.loc _ _ _ h) (L.shape _ _ hs) hn
 | sl M s cap b off c f hi hl hk hz hc hv ih =>
  exact .sl M s cap b off c f (fun h => L.imm _ (hi h)) hl hk hz (fun j hj => by rw [cell_of_block (L.keeps b (hi (fun e => by rw [e] at hj; simp at hj)))]; exact hc j hj) ih
 | sl0 s cap a hk => exact .sl0 s cap a hk
 | nilm => exact .nilm
 | map o t b h => exact .map o t b (L.loc _ _ _ h)
 | nilf => exact .nilf
 | func f xs ys xs' ys' hx hy h1 h2 i1 i2 => exact .func f xs ys xs' ys' hx hy i1 i2
 | yld o t b h => exact .yld o t b (L.loc _ _ _ h)
 | nili => exact .nili
 | iface t v x h ih => exact .iface t v x ih
 | agg cs xs hx h ih => exact .agg cs xs hx ih
 | tup cs xs hx h ih => exact .tup cs xs hx ih
def Cells (g:G) (w:World) (cs:List V) (xs:List Value):Prop:=xs.length = cs.length ∧ ∀ (i:Nat) (c:V) (x:Value),cs[i]? = some c → xs[i]? = some x → VRel g w c x
def Lies (g:G) (w:World) (b base:Nat) (cs:List V):Prop:=∀ (i:Nat) (c:V),cs[i]? = some c → ∃ x,w.cell? (at_ b (base + i)) = some x ∧ VRel g w c x
def fr? (w:World) (b:Nat):Option (Nat × Nat) :=
 match w.heap[b]? with
 | some (.cells _ _ fr) => some fr
 | _ => none
def NF (w:World) (b:Nat):Prop:=(∀ i,w.frozen? (at_ b i) = true → ∀ x,w.cell? (at_ b i) ≠ some x) ∧ ∀ lo hi,fr? w b = some (lo,hi) → lo ≤ hi
def jumpC:Option Nat → Code
 | none => .ret
 | some id => .exit id
def stateN:LoopState → Nat
 | .ready => 0
 | .busy => 1
 | .done => 2
 | .exhausted => 3
def MRel (g:G) (w:World) (p:List (V × V)) (l:List MapEntry):Prop:=l.length = p.length ∧ ∀ (i:Nat) (x:V × V) (e:MapEntry),p[i]? = some x → l[i]? = some e → VRel g w x.1 e.key ∧ VRel g w x.2 e.val
def Borns (l:List MapEntry) (clock:Nat):Prop:=(∀ e ∈ l,e.born < clock) ∧ (l.map (·.born)).Nodup
def KeysApart (es:List (V × V)):Prop:=es.Pairwise fun a b => a.1.cells ≠ b.1.cells
theorem MRel.later {g g':G} {w w':World} (L:Later g w g' w') {p:List (V × V)} {l:List MapEntry} (h:MRel g w p l):MRel g' w' p l :=
 ⟨h.1,fun i x e h1 h2 => ⟨(h.2 i x e h1 h2).1.later L,(h.2 i x e h1 h2).2.later L⟩⟩
def BdRel (g:G) (w:World) (b base:Nat):Bd → Prop
 | .dead => True
 | .var cs | .arr cs => (∃ e n,w.shape? b = some (e,n)) ∧ NF w b ∧ Lies g w b base cs
 | .map es => base = 0 ∧ KeysApart es ∧ ∃ (p:List (V × V)) (es':Array MapEntry) (clock:Nat),p.Perm es ∧ w.heap[b]? = some (.map es' clock) ∧ MRel g w p es'.toList ∧ Borns es'.toList clock
 | .loop st pend t fb f k => base = 0 ∧ ∃ rec:Loop,w.heap[b]? = some (.loop rec) ∧ stateN rec.state = st ∧ rec.pending = pend.map jumpC ∧ g.code f k = some ⟨rec.params,rec.assign,rec.body⟩ ∧
   rec.tmps.size = t.length ∧ ∀ (i:Nat) (v:V),t[i]? = some v → VRel g w v (rec.tmps.getD i undef)
def Bd.lives:Bd → Bool
 | .dead => false
 | _ => true
def blk (g:G) (h:Heap) (o:Nat):Option Nat :=
 match h[o]? with
 | some x => if x.bd.lives then (g.loc o x.ver).map (·.1) else none
 | none => none
structure Sim (g:G) (h:Heap) (w:World):Prop where
 obs:∀ (o:Nat) (x:Ob),h[o]? = some x → x.bd.lives = true → ∃ b base,g.loc o x.ver = some (b,base) ∧ b < w.heap.size ∧ BdRel g w b base x.bd
 inj:∀ o o' b,blk g h o = some b → blk g h o' = some b → o = o'
 imm:∀ o b,blk g h o = some b → ¬ g.imm b
 immlt:∀ b,g.imm b → b < w.heap.size
 loclt:∀ o t b,g.loc o t = some b → ∃ x,h[o]? = some x ∧ t ≤ x.ver
structure Ext (g:G) (h:Heap) (w:World) (g':G) (h':Heap) (w':World):Prop where
 code:g'.code = g.code
 loc:∀ o t b,g.loc o t = some b → g'.loc o t = some b
 imm:∀ b,g.imm b → g'.imm b
 imm':∀ b,g'.imm b → g.imm b ∨ w.heap.size ≤ b
 size:w.heap.size ≤ w'.heap.size
 shape:∀ b x,w.shape? b = some x → w'.shape? b = some x
 frame:∀ b,b < w.heap.size → (∀ o,blk g h o ≠ some b) → w'.heap[b]? = w.heap[b]?
 own:∀ o b,blk g' h' o = some b → b < w.heap.size → ∃ o',blk g h o' = some b
 os:w'.os = w.os
 tape:w'.tape = w.tape
 output:w'.output = w.output
theorem Ext.refl (g:G) (h:Heap) (w:World):Ext g h w g h w :=
 ⟨rfl,fun _ _ _ h => h,fun _ h => h,fun _ h => .inl h,Nat.le_refl _,fun _ _ h => h,fun _ _ _ => rfl,fun o b h _ => ⟨o,h⟩,rfl,rfl,rfl⟩
theorem Ext.trans {g₁ g₂ g₃:G} {h₁ h₂ h₃:Heap} {w₁ w₂ w₃:World} (a:Ext g₁ h₁ w₁ g₂ h₂ w₂) (b:Ext g₂ h₂ w₂ g₃ h₃ w₃):Ext g₁ h₁ w₁ g₃ h₃ w₃ where
 code:=b.code.trans a.code
 loc o t x h:=b.loc _ _ _ (a.loc _ _ _ h)
 imm x h:=b.imm _ (a.imm _ h)
 imm' x h:=by
  rcases b.imm' x h with h | h
  ·exact a.imm' x h
  ·exact .inr (Nat.le_trans a.size h)
 size:=Nat.le_trans a.size b.size
 shape x y h:=b.shape _ _ (a.shape _ _ h)
 frame x hx hn:=by
  rw [b.frame x (Nat.lt_of_lt_of_le hx a.size) (fun o ho => ?_),a.frame x hx hn]
  obtain ⟨o',ho'⟩:=a.own o x ho hx
  exact hn o' ho'
 own o x h hx:=by
  obtain ⟨o',ho'⟩:=b.own o x h (Nat.lt_of_lt_of_le hx a.size)
  exact a.own o' x ho' hx
 os:=b.os.trans a.os
 tape:=b.tape.trans a.tape
 output:=b.output.trans a.output
theorem Ext.later {g g':G} {h h':Heap} {w w':World} (e:Ext g h w g' h' w') (s:Sim g h w):Later g w g' w' :=
 ⟨e.code,e.loc,e.imm,fun b hb => e.frame b (s.immlt b hb) (fun o ho => s.imm o b ho hb),e.shape⟩
theorem VRel.ext {g g':G} {h h':Heap} {w w':World} (e:Ext g h w g' h' w') (s:Sim g h w) {v:V} {x:Value} (r:VRel g w v x):VRel g' w' v x :=
 r.later (e.later s)
theorem Cells.later {g g':G} {w w':World} (L:Later g w g' w') {cs:List V} {xs:List Value} (h:Cells g w cs xs):Cells g' w' cs xs :=
 ⟨h.1,fun i c x h1 h2 => (h.2 i c x h1 h2).later L⟩
theorem Sim.drew {g:G} {h:Heap} {w:World} (s:Sim g h w) (n:Nat):Sim g h { w with drawn:=n }:=by
 have L:Later g w g { w with drawn:=n }:=⟨rfl,fun _ _ _ h => h,fun _ h => h,fun _ _ => rfl,fun _ _ h => h⟩
 refine ⟨fun o x hx hl => ?_,s.inj,s.imm,s.immlt,s.loclt⟩
 obtain ⟨b,base,h1,h2,h3⟩:=s.obs o x hx hl
 refine ⟨b,base,h1,h2,?_⟩
 revert h3
 cases x.bd with
 | dead => exact fun _ => trivial
 | var cs => exact fun ⟨a,c,d⟩ => ⟨a,c,fun i c hc => let ⟨y,y1,y2⟩:=d i c hc; ⟨y,y1,y2.later L⟩⟩
 | arr cs => exact fun ⟨a,c,d⟩ => ⟨a,c,fun i c hc => let ⟨y,y1,y2⟩:=d i c hc; ⟨y,y1,y2.later L⟩⟩
 | loop st pend t fb f k => exact fun ⟨a,rec,c1,c2,c3,c4,c5,c6⟩ => ⟨a,rec,c1,c2,c3,c4,c5,fun i v hi => (c6 i v hi).later L⟩
 | map es => exact fun ⟨a,ka,p,es',c,d,f,r,o⟩ => ⟨a,ka,p,es',c,d,f,r.later L,o⟩
theorem Ext.drew (g:G) (h:Heap) (w:World) (n:Nat):Ext g h w g h { w with drawn:=n } :=
 ⟨rfl,fun _ _ _ h => h,fun _ h => h,fun _ h => .inl h,Nat.le_refl _,fun _ _ h => h,fun _ _ _ => rfl,fun o b h _ => ⟨o,h⟩,rfl,rfl,rfl⟩
end Go.Am


set_option linter.unusedVariables false
namespace Go.Am
inductive Opd where
 | tmp (t:Nat)
 | cst (v:V)
 deriving Inhabited
inductive CK where
 | b | i (k:IntKind) | s
 deriving DecidableEq,Inhabited
inductive NK where
 | p | s | m | f | i
 deriving Inhabited
inductive AOp where
 | move (x:Opd)
 | pick (c a b:Opd)
 | allocz (site:Nat) (zero:List V)
 | box (site:Nat) (x:Opd)
 | build (zero:List V) (parts:List (Nat × Nat × Opd))
 | bslice (zero:List V) (len s:Nat) (parts:List (Nat × Nat × Opd))
 | load (ag:Option Nat) (a:Opd)
 | store (n:Nat) (a x:Opd)
 | nilck (x:Opd)
 | bin (op:BinOp) (x y:Opd)
 | eqc (neg ag:Bool) (ks:List CK) (x y:Opd)
 | eqnil (neg:Bool) (k:NK) (x:Opd)
 | un (op:UnOp) (x:Opd)
 | cint (k:IntKind) (x:Opd)
 | cstr (x:Opd)
 | b2s (x:Opd)
 | s2b (site:Nat) (x:Opd)
 | mkfunc (f:FuncId) (xs ys:List Opd)
 | mkiface (t:TypeId) (x:Opd)
 | mkslice (site:Nat) (zero:List V) (s bytes:Nat) (l c:Opd)
 | slA (n s:Nat) (x:Opd) (lo hi mx:Option Opd)
 | slS (s:Nat) (x:Opd) (lo hi mx:Option Opd)
 | slStr (x:Opd) (lo hi:Option Opd)
 | faddr (off:Nat) (x:Opd)
 | field (ag:Option Nat) (off:Nat) (x:Opd)
 | iaddrA (n s:Nat) (x i:Opd)
 | iaddrS (s:Nat) (x i:Opd)
 | indexA (n s:Nat) (ag:Option Nat) (x i:Opd)
 | indexStr (x i:Opd)
 | extract (x:Opd) (i:Nat)
 | lenS (x:Opd)
 | lenStr (x:Opd)
 | lenK (n:Nat)
 | append (site s bytes:Nat) (x y:Opd)
 | copy (s:Nat) (x y:Opd)
 | call (f:FuncId) (args:List Opd)
 | callv (f:Opd) (args:List Opd)
 | minmax (mx:Bool) (xs:List Opd)
 | clearS (s:Nat) (zero:List V) (x:Opd)
 | bnew (site:Nat) (row:List V) (len s:Nat) (parts:List (Nat × Nat × Opd))
 | mark (x:Opd)
 | s2ap (n s:Nat) (x:Opd)
 | mkmap (site:Nat)
 | mget (ag:Bool) (ks:List CK) (zero:V) (ok:Bool) (m k:Opd)
 | mput (ag:Bool) (ks:List CK) (m k v:Opd)
 | mdel (ag:Bool) (ks:List CK) (m k:Opd)
 | mclear (m:Opd)
 | mlen (m:Opd)
 | stuck
 deriving Inhabited
inductive Eff where
 | ret (v:V)
 | set (o:Nat) (x:Ob) (v:V)
def V.oneCell:V → Bool
 | .agg _ | .tup _ | .junk => false
 | _ => true
def V.solid:V → Bool
 | .junk => false
 | _ => true
def negB (neg b:Bool):Bool:=match neg with | true => !b | false => b
def wrapV:List V → V
 | [x] => x
 | l => .agg l
def setRange (old:List V) (off:Nat) (cs:List V):List V:=old.take off ++ cs ++ old.drop (off + cs.length)
def fillA (cells:List V):List (Nat × Nat × V) → Option (List V)
 | [] => some cells
 | (off,size,v) :: rest =>
  match v with
  | .junk => none
  | v => if v.cells.length = size then if off + size ≤ cells.length then fillA (setRange cells off v.cells) rest else none else none
def binA (op:BinOp):V → V → Option V
 | .int k a,.int k' b =>
  match op with
  | .shl => if b < 0 then none else some (.int k (k.wrap (a * 2 ^ min b.toNat k.bits)))
  | .shr => if b < 0 then none else some (.int k (a.fdiv (2 ^ min b.toNat k.bits)))
  | op =>
   if k = k' then
    match op with
    | .add => some (.int k (k.wrap (a + b)))
    | .sub => some (.int k (k.wrap (a - b)))
    | .mul => some (.int k (k.wrap (a * b)))
    | .quo => if b = 0 then none else some (.int k (k.wrap (a.tdiv b)))
    | .rem => if b = 0 then none else some (.int k (a.tmod b))
    | .and => some (.int k (k.wrap ((BitVec.ofInt k.bits a) &&& (BitVec.ofInt k.bits b)).toNat))
    | .or => some (.int k (k.wrap ((BitVec.ofInt k.bits a) ||| (BitVec.ofInt k.bits b)).toNat))
    | .xor => some (.int k (k.wrap ((BitVec.ofInt k.bits a) ^^^ (BitVec.ofInt k.bits b)).toNat))
    | .andNot => some (.int k (k.wrap ((BitVec.ofInt k.bits a) &&& ~~~(BitVec.ofInt k.bits b)).toNat))
    | .eql => some (.bool (a == b))
    | .neq => some (.bool (a != b))
    | .lss => some (.bool (a < b))
    | .leq => some (.bool (a ≤ b))
    | .gtr => some (.bool (a > b))
    | .geq => some (.bool (a ≥ b))
    | _ => none
   else none
 | .str a,.str b =>
  match op with
  | .add => if a.length + b.length ≤ 4611686018427387904 then some (.str (a ++ b)) else none
  | .eql => some (.bool (a == b))
  | .neq => some (.bool (!(a == b)))
  | .lss => some (.bool (Op.bytesLess a b))
  | .leq => some (.bool (Op.bytesLess a b || a == b))
  | .gtr => some (.bool (!(Op.bytesLess a b || a == b)))
  | .geq => some (.bool (!(Op.bytesLess a b)))
  | _ => none
 | _,_ => none
def eqCell:CK → V → V → Option Bool
 | .b,.bool a,.bool b => some (a == b)
 | .i k,.int k1 a,.int k2 b => if k1 = k then if k2 = k then some (a == b) else none else none
 | .s,.str a,.str b => some (a == b)
 | _,_,_ => none
def eqCells:List CK → List V → List V → Option Bool
 | [],[],[] => some true
 | k :: ks,a :: as,b :: bs =>
  match eqCell k a b,eqCells ks as bs with
  | some x,some y => some (x && y)
  | _,_ => none
 | _,_,_ => none
def isNil:NK → V → Option Bool
 | .p,.nilp => some true
 | .p,.ptr .. => some false
 | .p,.iptr .. => some false
 | .s,.nils => some true
 | .s,.view .. => some false
 | .s,.vend .. => some false
 | .s,.sl .. => some false
 | .m,.nilm => some true
 | .m,.map .. => some false
 | .f,.nilf => some true
 | .f,.func .. => some false
 | .i,.nili => some true
 | .i,.iface .. => some false
 | _,_ => none
def unA (op:UnOp):V → Option V
 | .bool b => match op with | .not => some (.bool !b) | _ => none
 | .int k n =>
  match op with
  | .neg => some (.int k (k.wrap (0 - n)))
  | .xor => some (.int k (k.wrap ((BitVec.ofInt k.bits (if k.signed then -1 else k.max)) ^^^ (BitVec.ofInt k.bits n)).toNat))
  | _ => none
 | _ => none
def cellsAt (get:Nat → Option Ob) (o ver:Nat):Option (List V) :=
 match get o with
 | some ⟨v,.var cs⟩ => if v = ver then some cs else none
 | some ⟨v,.arr cs⟩ => if v = ver then some cs else none
 | _ => none
def loadA (get:Nat → Option Ob) (n:Nat):V → Option (List V)
 | .ptr o ver off =>
  match cellsAt get o ver with
  | some cs => if off + n ≤ cs.length then some ((cs.drop off).take n) else none
  | none => none
 | .iptr cs off => if off + n ≤ cs.length then some ((cs.drop off).take n) else none
 | _ => none
def mmA (mx:Bool):V → V → Option V
 | .int k x,.int _ y => some (.int k (match mx with | true => if x < y then y else x | false => if y < x then y else x))
 | _,_ => none
def Ob.with (x:Ob) (cs:List V):Ob :=
 match x.bd with
 | .var _ => ⟨x.ver,.var cs⟩
 | .arr _ => ⟨x.ver,.arr cs⟩
 | b => ⟨x.ver,b⟩
def storeA (get:Nat → Option Ob) (o ver off:Nat) (new:List V) (v:V):Option Eff :=
 match cellsAt get o ver,get o with
 | some cs,some x => if off + new.length ≤ cs.length then some (.set o (x.with (setRange cs off new)) v) else none
 | _,_ => none
def packA (ag:Option Nat) (cs:List V):Option V :=
 match ag with
 | some _ => some (.agg cs)
 | none => cs.head?
def nAg:Option Nat → Nat
 | some n => n
 | none => 1
def mkA (get:Nat → Option Ob) (o:Nat) (bd:Bd) (v:Nat → V):Option Eff :=
 match get o with
 | some x => some (.set o ⟨x.ver + 1,bd⟩ (v (x.ver + 1)))
 | none => none
def intOf?:V → Option Int
 | .int _ n => some n
 | _ => none
def boundsA (len cap:Nat) (lo hi mx:Option V):Option (Nat × Nat × Nat) :=
 match (match mx with | some v => (intOf? v).bind fun i => if 0 ≤ i then if i ≤ cap then some i.toNat else none else none | none => some cap) with
 | none => none
 | some m =>
  match (match hi with | some v => (intOf? v).bind fun i => if 0 ≤ i then if i ≤ m then some i.toNat else none else none | none => if mx.isNone then some len else none) with
  | none => none
  | some h =>
   match (match lo with | some v => (intOf? v).bind fun i => if 0 ≤ i then if i ≤ h then some i.toNat else none else none | none => some 0) with
   | none => none
   | some l => some (l,h,m)
def lenA:V → Option Nat
 | .nils => some 0
 | .vend .. => some 0
 | .view _ _ _ len _ _ => some len
 | .sl L _ _ => some L.length
 | .str s => some s.length
 | _ => none
def firstA (get:Nat → Option Ob) (s n:Nat):V → Option (List V)
 | .nils => if n = 0 then some [] else none
 | .vend _ _ s' => if s' = s then if n = 0 then some [] else none else none
 | .view o ver off len s' _ => if s' = s then if n ≤ len then loadA get (n * s) (.ptr o ver off) else none else none
 | .sl L s' _ => if s' = s then if n ≤ L.length then some ((L.take n).flatMap V.cells) else none else none
 | .str b => if s = 1 then if n ≤ b.length then some ((b.take n).map fun x => V.int .u8 x.toNat) else none else none
 | _ => none
def indexedI (n:Nat) (i:V):Option Nat :=
 match i with
 | .int _ i => if 0 ≤ i then if i < n then some i.toNat else none else none
 | _ => none
def sliceA (get:Nat → Option Ob) (s:Nat) (x:V) (lo hi mx:Option V):Option V :=
 match x with
 | .nils => (boundsA 0 0 lo hi mx).map fun _ => .nils
 | .view o ver off len s' (some c) =>
  if s' = s then (boundsA len c lo hi mx).map fun (l,h,m) => .view o ver (if m = l then off else off + l * s) (h - l) s (some (m - l)) else none
 | .view o ver off len s' none =>
  if s' = s then
   match cellsAt get o ver with
   | some cs =>
    match mx with
    | none =>
     (boundsA len ((cs.length - off) / s) lo hi none).bind fun (l,h,_) =>
      if l = 0 then some (.view o ver off h s none) else if l < h then some (.view o ver (off + l * s) (h - l) s none) else some (.vend o ver s)
    | some _ => (boundsA len ((cs.length - off) / s) lo hi mx).map fun (l,h,m) => .view o ver (if m = l then off else off + l * s) (h - l) s (some (m - l))
   | none => none
  else none
 | .vend o ver s' => if s' = s then (boundsA 0 0 lo hi (if mx.isNone then none else some .junk)).map fun _ => .vend o ver s else none
 | .sl L s' (some c) =>
  if s' = s then (boundsA L.length c lo hi mx).bind fun (l,h,m) => if h ≤ L.length then some (.sl ((L.take h).drop l) s (some (m - l))) else none else none
 | .sl L s' none =>
  if s' = s then (boundsA L.length L.length lo hi mx).map fun (l,h,m) => .sl ((L.take h).drop l) s (if mx.isSome then some (m - l) else none) else none
 | _ => none
def maxBytes:Nat:=1099511627776
def clearA (get:Nat → Option Ob) (s:Nat) (zero:List V):V → Option Eff
 | .nils | .sl [] _ _ | .vend .. => some (.ret (.tup []))
 | .view o ver off len s' _ => if len = 0 then some (.ret (.tup [])) else if s' = s then storeA get o ver off (List.replicate len zero).flatten (.tup []) else none
 | _ => none
def appendA (get:Nat → Option Ob) (o s bytes:Nat) (x y:V):Option Eff :=
 match lenA y with
 | none => none
 | some n =>
  match firstA get s n y with
  | none => none
  | some new =>
   if new.all V.oneCell then
   match x with
   | .nils =>
    if n = 0 then some (.ret .nils) else
    if n * bytes ≤ maxBytes then mkA get o (.arr new) fun v => .view o v 0 n s none else none
   | .sl L s' (some c) =>
    if s' = s then
     if n = 0 then some (.ret x) else
     if c < L.length + n then
      if (L.length + n) * bytes ≤ maxBytes then mkA get o (.arr (L.flatMap V.cells ++ new)) fun v => .view o v 0 (L.length + n) s none else none
     else none
    else none
   | .vend o' ver s' =>
    if s' = s then
     match cellsAt get o' ver with
     | none => none
     | some _ => if n = 0 then some (.ret x) else if n * bytes ≤ maxBytes then some (.set o' ⟨ver + 1,.arr new⟩ (.view o' (ver + 1) 0 n s none)) else none
    else none
   | .view o' ver off len s' cap =>
    if s' = s then
     match cellsAt get o' ver with
     | none => none
     | some cs =>
      if n = 0 then some (.ret x) else
      if off + len * s ≤ cs.length then
      match cap with
      | some c =>
       if len + n ≤ c then storeA get o' ver (off + len * s) new (.view o' ver off (len + n) s (some c))
       else if (len + n) * bytes ≤ maxBytes then mkA get o (.arr ((cs.drop off).take (len * s) ++ new)) fun v => .view o v 0 (len + n) s none else none
      | none =>
       if off + len * s = cs.length then
        if (len + n) * bytes ≤ maxBytes then
         some (.set o' ⟨ver + 1,.arr (cs.drop off ++ new)⟩ (.view o' (ver + 1) 0 (len + n) s none))
        else none
       else storeA get o' ver (off + len * s) new (.view o' ver off (len + n) s none)
      else none
    else none
   | _ => none
   else none
def copyA (get:Nat → Option Ob) (s:Nat) (x y:V):Option Eff :=
 match lenA x,lenA y with
 | some dl,some sl =>
  let n:=Nat.min sl dl
  match firstA get s n y with
  | none => none
  | some new =>
   if new.all V.oneCell then
   match x with
   | .nils => some (.ret (.int .i64 0))
   | .vend .. => some (.ret (.int .i64 0))
   | .view o ver off _ s' _ => if s' = s then if n = 0 then some (.ret (.int .i64 0)) else storeA get o ver off new (.int .i64 n) else none
   | _ => none
   else none
 | _,_ => none
def iaddrSA (s:Nat) (x i:V):Option Eff :=
 match x with
 | .view o ver off len s' _ => if s' = s then (indexedI len i).map fun i => .ret (.ptr o ver (off + i * s)) else none
 | .sl L s' _ => if s' = s then (indexedI L.length i).bind fun i => (L[i]?).map fun e => .ret (.iptr e.cells 0) else none
 | _ => none
def s2apA (n s:Nat):V → Option V
 | .view o ver off len s' _ => if s' = s then if n ≤ len then some (.ptr o ver off) else none else none
 | .sl L s' _ => if s' = s then if n ≤ L.length then some (.iptr ((L.take n).flatMap V.cells) 0) else none else none
 | _ => none
def keyC (ag:Bool) (k:V):Option (List V) :=
 match ag,k with
 | true,.agg cs => some cs
 | true,_ => none
 | false,.agg _ => none
 | false,k => some [k]
def mapAt (get:Nat → Option Ob) (o ver:Nat):Option (List (V × V)) :=
 match get o with
 | some ⟨v,.map es⟩ => if v = ver then some es else none
 | _ => none
def mhit (ag:Bool) (ks:List CK) (cs:List V) (e:V × V):Option Bool:=match keyC ag e.1 with | some ce => eqCells ks cs ce | none => none
def mhitB (ag:Bool) (ks:List CK) (cs:List V) (e:V × V):Bool:=match mhit ag ks cs e with | some b => b | none => false
def mapOk (ag:Bool) (ks:List CK) (cs:List V) (es:List (V × V)):Bool:=(eqCells ks cs cs).isSome && es.all fun e => (mhit ag ks cs e).isSome
def okV (ok:Bool) (v:V) (b:Bool):V:=match ok with | true => .tup [v,.bool b] | false => v
def mgetA (get:Nat → Option Ob) (ag:Bool) (ks:List CK) (zero:V) (ok:Bool) (m k:V):Option V :=
 match keyC ag k with
 | none => none
 | some cs =>
  match m with
  | .nilm => match mapOk ag ks cs [] with | true => some (okV ok zero false) | false => none
  | .map o ver =>
   match mapAt get o ver with
   | none => none
   | some es =>
    match mapOk ag ks cs es with
    | true => match es.find? (mhitB ag ks cs) with | some e => some (okV ok e.2 true) | none => some (okV ok zero false)
    | false => none
  | _ => none
def mputL (ag:Bool) (ks:List CK) (cs:List V) (k v:V) (es:List (V × V)):List (V × V) :=
 match es.any (mhitB ag ks cs) with
 | true => es.map fun e => match mhitB ag ks cs e with | true => (k,v) | false => e
 | false => es ++ [(k,v)]
def mputA (get:Nat → Option Ob) (ag:Bool) (ks:List CK) (m k v:V):Option Eff :=
 match keyC ag k with
 | none => none
 | some cs =>
  match m with
  | .map o ver =>
   match mapAt get o ver with
   | none => none
   | some es => match mapOk ag ks cs es with | true => some (.set o ⟨ver,.map (mputL ag ks cs k v es)⟩ (.tup [])) | false => none
  | _ => none
def mdelA (get:Nat → Option Ob) (ag:Bool) (ks:List CK) (m k:V):Option Eff :=
 match keyC ag k with
 | none => none
 | some cs =>
  match m with
  | .nilm => match mapOk ag ks cs [] with | true => some (.ret (.tup [])) | false => none
  | .map o ver =>
   match mapAt get o ver with
   | none => none
   | some es => match mapOk ag ks cs es with | true => some (.set o ⟨ver,.map (es.filter fun e => !mhitB ag ks cs e)⟩ (.tup [])) | false => none
  | _ => none
def mclearA (get:Nat → Option Ob) (m:V):Option Eff :=
 match m with
 | .nilm => some (.ret (.tup []))
 | .map o ver => match mapAt get o ver with | none => none | some _ => some (.set o ⟨ver,.map []⟩ (.tup []))
 | _ => none
def mlenA (get:Nat → Option Ob) (m:V):Option V :=
 match m with
 | .nilm => some (.int .i64 0)
 | .map o ver => (mapAt get o ver).map fun es => .int .i64 es.length
 | _ => none
def prim (fb:Nat) (ρ:Opd → V) (get:Nat → Option Ob):AOp → Option Eff
 | .move x => some (.ret (ρ x))
 | .pick c a b => match ρ c with | .bool t => some (.ret (match t with | true => ρ a | false => ρ b)) | _ => none
 | .allocz site zero => mkA get (fb + site) (.var zero) fun v => .ptr (fb + site) v 0
 | .box site x => match ρ x with | .junk => none | x => mkA get (fb + site) (.var x.cells) fun v => .ptr (fb + site) v 0
 | .build zero parts => (fillA zero (parts.map fun (o,n,x) => (o,n,ρ x))).map fun cs => .ret (.agg cs)
 | .bslice zero len s parts =>
  match fillA zero (parts.map fun (o,n,x) => (o,n,ρ x)) with
  | some cs => if cs.all V.oneCell then some (.ret (.sl ((List.range len).map fun i => wrapV ((cs.drop (i * s)).take s)) s (some len))) else none
  | none => none
 | .load ag a => (loadA get (nAg ag) (ρ a)).bind fun cs => (packA ag cs).map .ret
 | .store n a x =>
  match ρ a with
  | .ptr o ver off => if (ρ x).cells.length = n then if (ρ x).cells.all V.oneCell then storeA get o ver off (ρ x).cells (.tup []) else none else none
  | _ => none
 | .nilck x => match ρ x with | .ptr o v f => some (.ret (.ptr o v f)) | .iptr c f => some (.ret (.iptr c f)) | .func f a b => some (.ret (.func f a b)) | _ => none
 | .bin op x y => (binA op (ρ x) (ρ y)).map .ret
 | .eqc neg true ks x y => match ρ x,ρ y with | .agg a,.agg b => (eqCells ks a b).map fun b => .ret (.bool (negB neg b)) | _,_ => none
 | .eqc neg false ks x y => (eqCells ks [ρ x] [ρ y]).map fun b => .ret (.bool (negB neg b))
 | .eqnil neg k x => (isNil k (ρ x)).map fun b => .ret (.bool (negB neg b))
 | .un op x => (unA op (ρ x)).map .ret
 | .cint k x => match ρ x with | .int _ n => some (.ret (.int k (k.wrap n))) | _ => none
 | .cstr x => match ρ x with | .str s => some (.ret (.str s)) | _ => none
 | .b2s x => match ρ x with | .str _ => none | x => (lenA x).bind fun n => (firstA get 1 n x).bind fun cs => (cs.mapM fun (c:V) => match c with | .int .u8 n => some (UInt8.ofNat n.toNat) | _ => none).map fun l => .ret (.str l)
 | .s2b site x => match ρ x with | .str s => mkA get (fb + site) (.arr (s.map fun b => .int .u8 b.toNat)) fun v => .view (fb + site) v 0 s.length 1 none | _ => none
 | .minmax mx xs => match xs.map ρ with | a :: rest => (rest.foldlM (mmA mx) a).map .ret | [] => none
 | .clearS s zero x => clearA get s zero (ρ x)
 | .bnew site row len s parts =>
  match fillA row (parts.map fun (o,n,x) => (o,n,ρ x)) with
  | some cs => mkA get (fb + site) (.arr cs) fun v => .view (fb + site) v 0 len s (some len)
  | none => none
 | .mark x =>
  match ρ x with
  | .view o ver off len s cap => match cellsAt get o ver with | some _ => some (.ret (.view o ver off len s cap)) | none => none
  | _ => none
 | .mkfunc f xs ys => some (.ret (.func f (xs.map ρ) (ys.map ρ)))
 | .mkiface t x => match ρ x with | .junk => none | x => some (.ret (.iface t x))
 | .mkslice site zero s bytes l c =>
  match ρ l,ρ c with
  | .int _ l,.int _ c => if 0 ≤ l then if l ≤ c then if c.toNat * bytes ≤ maxBytes then if c.toNat ≤ maxBytes then
    mkA get (fb + site) (.arr (List.replicate c.toNat zero).flatten) fun v => .view (fb + site) v 0 l.toNat s (some c.toNat) else none else none else none else none
  | _,_ => none
 | .slA n s x lo hi mx =>
  match ρ x with
  | .ptr o ver off =>
   match cellsAt get o ver with
   | some _ => (boundsA n n (lo.map ρ) (hi.map ρ) (mx.map ρ)).map fun (l,h,m) => .ret (.view o ver (if m = l then off else off + l * s) (h - l) s (some (m - l)))
   | none => none
  | .iptr cs off => (boundsA n n (lo.map ρ) (hi.map ρ) (mx.map ρ)).bind fun (l,h,m) =>
   if off + n * s ≤ cs.length then if cs.all V.oneCell then some (.ret (.sl ((List.range (h - l)).map fun i => wrapV ((cs.drop (off + (l + i) * s)).take s)) s (some (m - l)))) else none else none
  | _ => none
 | .slS s x lo hi mx => (sliceA get s (ρ x) (lo.map ρ) (hi.map ρ) (mx.map ρ)).map .ret
 | .slStr x lo hi => match ρ x with | .str b => (boundsA b.length b.length (lo.map ρ) (hi.map ρ) none).map fun (l,h,_) => .ret (.str ((b.take h).drop l)) | _ => none
 | .faddr off x => match ρ x with | .ptr o v f => some (.ret (.ptr o v (f + off))) | .iptr c f => some (.ret (.iptr c (f + off))) | _ => none
 | .field ag off x => match ρ x with | .agg cs => if off + nAg ag ≤ cs.length then (packA ag ((cs.drop off).take (nAg ag))).map .ret else none | _ => none
 | .iaddrA n s x i => (indexedI n (ρ i)).bind fun i => match ρ x with | .ptr o v f => some (.ret (.ptr o v (f + i * s))) | .iptr c f => some (.ret (.iptr c (f + i * s))) | _ => none
 | .iaddrS s x i => iaddrSA s (ρ x) (ρ i)
 | .indexA n s ag x i => (indexedI n (ρ i)).bind fun i => match ρ x with | .agg cs => if i * s + nAg ag ≤ cs.length then (packA ag ((cs.drop (i * s)).take (nAg ag))).map .ret else none | _ => none
 | .indexStr x i => match ρ x with | .str b => (indexedI b.length (ρ i)).bind fun i => (b[i]?).map fun c => .ret (.int .u8 c.toNat) | _ => none
 | .extract x i => match ρ x with | .tup vs => (vs[i]?).map .ret | _ => none
 | .lenS x => match ρ x with | .str _ => none | x => (lenA x).map fun (n:Nat) => .ret (.int .i64 (n:Int))
 | .lenStr x => match ρ x with | .str s => some (.ret (.int .i64 s.length)) | _ => none
 | .lenK n => some (.ret (.int .i64 n))
 | .append site s bytes x y => appendA get (fb + site) s bytes (ρ x) (ρ y)
 | .copy s x y => copyA get s (ρ x) (ρ y)
 | .call .. => none
 | .callv .. => none
 | .s2ap n s x => (s2apA n s (ρ x)).map .ret
 | .mkmap site => mkA get (fb + site) (.map []) fun v => .map (fb + site) v
 | .mget ag ks z ok m k => (mgetA get ag ks z ok (ρ m) (ρ k)).map .ret
 | .mput ag ks m k v => mputA get ag ks (ρ m) (ρ k) (ρ v)
 | .mdel ag ks m k => mdelA get ag ks (ρ m) (ρ k)
 | .mclear m => mclearA get (ρ m)
 | .mlen m => (mlenA get (ρ m)).map .ret
 | .stuck => none
end Go.Am


set_option linter.unusedVariables false
namespace Go.Am
def G.put (g:G) (o ver:Nat) (bb:Nat × Nat):G:=⟨fun o' t => if o' = o ∧ t = ver then some bb else g.loc o' t,g.imm,g.code⟩
theorem NF.of_block {w w':World} {b:Nat} (hb:w'.heap[b]? = w.heap[b]?) (h:NF w b):NF w' b:=by
 refine ⟨fun i hi x => ?_,fun lo hi hf => h.2 lo hi ?_⟩
 ·rw [cell_of_block (a:=at_ b i) hb]
  rw [World.frozen?_of_block (w:=w) hb] at hi
  exact h.1 i hi x
 ·unfold fr? at hf ⊢
  rwa [hb] at hf
theorem BdRel.later {g:G} {w:World} {g':G} {w':World} (L:Later g w g' w') {b base:Nat} {x:Bd} (hb:w'.heap[b]? = w.heap[b]?) (h:BdRel g w b base x):BdRel g' w' b base x:=by
 have hc:∀ i,w'.cell? (at_ b i) = w.cell? (at_ b i):=fun i => cell_of_block (a:=at_ b i) hb
 have hf:∀ i,w'.frozen? (at_ b i) = w.frozen? (at_ b i):=fun i => World.frozen?_of_block (w:=w) hb
 cases x with
 | dead => trivial
 | var cs =>
  obtain ⟨⟨e,n,hs⟩,h2,h3⟩:=h
  refine ⟨⟨e,n,L.shape _ _ hs⟩,h2.of_block hb,fun i c hi => ?_⟩
  obtain ⟨y,y1,y2⟩:=h3 i c hi
  exact ⟨y,by rw [hc]; exact y1,y2.later L⟩
 | arr cs =>
  obtain ⟨⟨e,n,hs⟩,h2,h3⟩:=h
  refine ⟨⟨e,n,L.shape _ _ hs⟩,h2.of_block hb,fun i c hi => ?_⟩
  obtain ⟨y,y1,y2⟩:=h3 i c hi
  exact ⟨y,by rw [hc]; exact y1,y2.later L⟩
 | loop st pend t fb f k =>
  obtain ⟨h0,rec,h1,h2,h3,h4,h5,h6⟩:=h
  exact ⟨h0,rec,by rw [hb]; exact h1,h2,h3,by rw [L.code]; exact h4,h5,fun i v hi => (h6 i v hi).later L⟩
 | map es =>
  obtain ⟨h0,ha,p,es',clock,h1,h2,h3,h4⟩:=h
  exact ⟨h0,ha,p,es',clock,h1,by rw [hb]; exact h2,h3.later L,h4⟩
theorem blk_of {g:G} {h:Heap} {o:Nat} {x:Ob} {b base:Nat} (hx:h[o]? = some x) (hl:x.bd.lives = true) (hg:g.loc o x.ver = some (b,base)):blk g h o = some b:=by
 simp [blk,hx,hl,hg]
theorem blk_some {g:G} {h:Heap} {o b:Nat} (hb:blk g h o = some b):∃ x base,h[o]? = some x ∧ x.bd.lives = true ∧ g.loc o x.ver = some (b,base):=by
 unfold blk at hb
 split at hb
 ·rename_i x hx
  split at hb
  ·rename_i hl
   cases hg:g.loc o x.ver with
   | none => simp [hg] at hb
   | some bb => simp [hg] at hb; exact ⟨x,bb.2,hx,hl,by rw [hg,← hb]⟩
  ·cases hb
 ·cases hb
theorem sim_set {g:G} {h:Heap} {w w':World} (s:Sim g h w) {o b base:Nat} {x x':Ob} (hx:h[o]? = some x) (hver:x.ver ≤ x'.ver) (hlive:x'.bd.lives = true)
  (hcons:∀ bb,g.loc o x'.ver = some bb → bb = (b,base))
  (hb:w.heap.size ≤ b ∨ blk g h o = some b) (hblt:b < w'.heap.size)
  (hsize:w.heap.size ≤ w'.heap.size) (hshape:∀ k y,w.shape? k = some y → w'.shape? k = some y)
  (hframe:∀ k,k < w.heap.size → k ≠ b → w'.heap[k]? = w.heap[k]?) (hos:w'.os = w.os) (htape:w'.tape = w.tape) (hout:w'.output = w.output)
  (hrel:BdRel (g.put o x'.ver (b,base)) w' b base x'.bd) :
  Sim (g.put o x'.ver (b,base)) (h.set o x') w' ∧ Ext g h w (g.put o x'.ver (b,base)) (h.set o x') w':=by
 have hlt:o < h.length:=by
  rcases Nat.lt_or_ge o h.length with h1 | h1
  ·exact h1
  ·simp [List.getElem?_eq_none h1] at hx
 have hloc:∀ o' t bb,g.loc o' t = some bb → (g.put o x'.ver (b,base)).loc o' t = some bb:=by
  intro o' t bb hg
  simp only [G.put]
  split
  ·rename_i he
   obtain ⟨rfl,rfl⟩:=he
   rw [hcons _ hg]
  ·exact hg
 have hself:(g.put o x'.ver (b,base)).loc o x'.ver = some (b,base):=by simp [G.put]
 have hother:∀ o' t,o' ≠ o → (g.put o x'.ver (b,base)).loc o' t = g.loc o' t:=by
  intro o' t hne
  simp [G.put,hne]
 have hget:∀ o',o' ≠ o → (h.set o x')[o']? = h[o']?:=fun o' hne => by rw [List.getElem?_set_ne (Ne.symm hne)]
 have hgeto:(h.set o x')[o]? = some x':=by simp [hlt]
 have hblko:blk (g.put o x'.ver (b,base)) (h.set o x') o = some b:=blk_of hgeto hlive hself
 have hblk:∀ o',o' ≠ o → blk (g.put o x'.ver (b,base)) (h.set o x') o' = blk g h o':=by
  intro o' hne
  simp only [blk,hget o' hne]
  cases h[o']? with
  | none => rfl
  | some y => simp only [hother _ _ hne]
 have hbne:∀ o' k,o' ≠ o → blk g h o' = some k → k < w.heap.size ∧ k ≠ b:=by
  intro o' k hne hk
  obtain ⟨y,base',hy,hl,hg⟩:=blk_some hk
  obtain ⟨k',base'',hg',hlt',-⟩:=s.obs o' y hy hl
  rw [hg] at hg'
  cases hg'
  refine ⟨hlt',fun e => ?_⟩
  subst e
  rcases hb with hb | hb
  ·omega
  ·exact hne (s.inj _ _ _ hk hb)
 have himmb:¬ g.imm b:=by
  rcases hb with hb | hb
  ·exact fun hi => by have:=s.immlt b hi; omega
  ·exact s.imm _ _ hb
 have hL:Later g w (g.put o x'.ver (b,base)) w' :=
  ⟨rfl,hloc,fun _ h => h,fun k hk => hframe k (s.immlt k hk) (fun e => himmb (e ▸ hk)),hshape⟩
 refine ⟨⟨?_,?_,?_,?_,?_⟩,⟨rfl,hloc,fun _ h => h,fun _ h => .inl h,hsize,hshape,?_,?_,hos,htape,hout⟩⟩
 ·intro o' y hy hl
  by_cases hne:o' = o
  ·subst hne
   rw [hgeto] at hy
   cases hy
   exact ⟨b,base,hself,hblt,hrel⟩
  ·rw [hget o' hne] at hy
   obtain ⟨k,base',hg,hk,hr⟩:=s.obs o' y hy hl
   have hkk:=hbne o' k hne (blk_of hy hl hg)
   exact ⟨k,base',hloc _ _ _ hg,by omega,hr.later hL (hframe k hkk.1 hkk.2)⟩
 ·intro o1 o2 k h1 h2
  by_cases e1:o1 = o
  ·by_cases e2:o2 = o
   ·rw [e1,e2]
   ·subst e1
    rw [hblko] at h1
    rw [hblk o2 e2] at h2
    cases h1
    exact absurd rfl (hbne o2 _ e2 h2).2
  ·by_cases e2:o2 = o
   ·subst e2
    rw [hblko] at h2
    rw [hblk o1 e1] at h1
    cases h2
    exact absurd rfl (hbne o1 _ e1 h1).2
   ·rw [hblk o1 e1] at h1
    rw [hblk o2 e2] at h2
    exact s.inj _ _ _ h1 h2
 ·intro o' k hk
  by_cases e:o' = o
  ·subst e
   rw [hblko] at hk
   cases hk
   exact himmb
  ·rw [hblk o' e] at hk
   exact s.imm o' k hk
 ·intro k hk
  exact Nat.lt_of_lt_of_le (s.immlt k hk) hsize
 ·intro o' t bb hg
  by_cases e:o' = o
  ·subst e
   refine ⟨x',hgeto,?_⟩
   simp only [G.put] at hg
   split at hg
   ·rename_i he; omega
   ·obtain ⟨y,hy,hty⟩:=s.loclt _ _ _ hg
    rw [hx] at hy
    cases hy
    omega
  ·rw [hother _ _ e] at hg
   rw [hget o' e]
   exact s.loclt _ _ _ hg
 ·intro k hk hn
  refine hframe k hk (fun e => ?_)
  subst e
  rcases hb with hb | hb
  ·omega
  ·exact hn o hb
 ·intro o' k hk hlt'
  by_cases e:o' = o
  ·subst e
   rw [hblko] at hk
   cases hk
   rcases hb with hb | hb
   ·omega
   ·exact ⟨o',hb⟩
  ·rw [hblk o' e] at hk
   exact ⟨o',hk⟩
theorem shape_push {w:World} (x:Obj) (k:Nat) (y:TypeId × Nat) (h:w.shape? k = some y):({ w with heap:=w.heap.push x }:World).shape? k = some y:=by
 have hlt:k < w.heap.size:=by
  rcases Nat.lt_or_ge k w.heap.size with h1 | h1
  ·exact h1
  ·simp [World.shape?,Array.getElem?_eq_none h1] at h
 simp only [World.shape?] at h ⊢
 rw [Array.getElem?_push,if_neg (by omega)]
 exact h
theorem sim_new {g:G} {h:Heap} {w:World} (s:Sim g h w) {o:Nat} {x:Ob} (hx:h[o]? = some x) (bd:Bd) (cs:List V) (hbd:bd = .var cs ∨ bd = .arr cs)
  (xs:Array Value) (e:TypeId) (hv:∀ (i:Nat) (c:V),cs[i]? = some c → ∃ y,xs[i]? = some y ∧ VRel g w c y) :
  let w':World:={ w with heap:=w.heap.push (.cells xs e) }
  let g':=g.put o (x.ver + 1) (w.heap.size,0)
  Sim g' (h.set o ⟨x.ver + 1,bd⟩) w' ∧ Ext g h w g' (h.set o ⟨x.ver + 1,bd⟩) w' ∧ g'.loc o (x.ver + 1) = some (w.heap.size,0) ∧ w'.shape? w.heap.size = some (e,xs.size):=by
 intro w' g'
 have hfresh:g.loc o (x.ver + 1) = none:=by
  cases hg:g.loc o (x.ver + 1) with
  | none => rfl
  | some bb =>
   obtain ⟨y,hy,hty⟩:=s.loclt _ _ _ hg
   rw [hx] at hy
   cases hy
   omega
 have hnew:w'.heap[w.heap.size]? = some (.cells xs e):=by simp [w']
 have hshape:w'.shape? w.heap.size = some (e,xs.size):=by simp [World.shape?,hnew]
 have hframe:∀ k,k < w.heap.size → k ≠ w.heap.size → w'.heap[k]? = w.heap[k]?:=fun k hk _ => by
  simp only [w']
  rw [Array.getElem?_push,if_neg (by omega)]
 have hL:Later g w g' w':=by
  refine ⟨rfl,fun o' t bb hg => ?_,fun _ h => h,fun k hk => hframe k (s.immlt k hk) (by have:=s.immlt k hk; omega),fun k y hk => shape_push _ k y hk⟩
  simp only [g',G.put]
  split
  ·rename_i he
   obtain ⟨rfl,rfl⟩:=he
   rw [hfresh] at hg
   cases hg
  ·exact hg
 have hcells:BdRel g' w' w.heap.size 0 bd:=by
  have key:(∃ e n,w'.shape? w.heap.size = some (e,n)) ∧ NF w' w.heap.size ∧ Lies g' w' w.heap.size 0 cs:=by
   refine ⟨⟨_,_,hshape⟩,⟨fun i hi => ?_,fun lo hi hf => ?_⟩,fun i c hc => ?_⟩
   ·simp [World.frozen?,hnew] at hi
   ·simp [fr?,hnew] at hf; omega
   ·obtain ⟨y,hy,hr⟩:=hv i c hc
    exact ⟨y,by simp [World.cell?,hnew,hy],hr.later hL⟩
  rcases hbd with rfl | rfl <;> exact key
 have:=sim_set s (x':=⟨x.ver + 1,bd⟩) (b:=w.heap.size) (base:=0) (w':=w') hx (by simp) (by rcases hbd with rfl | rfl <;> rfl)
  (fun bb hg => by rw [hfresh] at hg; cases hg) (.inl (Nat.le_refl _)) (by simp [w']) (by simp [w']) (fun k y hk => shape_push _ k y hk) hframe rfl rfl rfl hcells
 exact ⟨this.1,this.2,by simp [g',G.put],hshape⟩
theorem setCells_size (b:Nat):∀ (vs:List Value) (o:Nat) (w:World),(w.setCells b o vs).heap.size = w.heap.size
 | [],_,_ => rfl
 | v :: r,o,w => by rw [World.setCells,setCells_size b r]; simp [World.setCell]
theorem setCells_other (b:Nat):∀ (vs:List Value) (o:Nat) (w:World) (k:Nat),k ≠ b → (w.setCells b o vs).heap[k]? = w.heap[k]?
 | [],_,_,_,_ => rfl
 | v :: r,o,w,k,hk => by rw [World.setCells,setCells_other b r _ _ k hk]; exact RowKit.Below.heap_setCell _ _ _ _ hk
theorem shape_setCell (w:World) (a:Addr) (v:Value) (k:Nat):(w.setCell a v).shape? k = w.shape? k:=by
 simp only [World.shape?,World.setCell,Array.getElem?_modify]
 by_cases h:a.block = k
 ·subst h
  rw [if_pos rfl]
  cases w.heap[a.block]? with
  | none => rfl
  | some o => cases o <;> simp; split <;> simp
 ·rw [if_neg h]
theorem setCells_shape (b:Nat):∀ (vs:List Value) (o:Nat) (w:World) (k:Nat),(w.setCells b o vs).shape? k = w.shape? k
 | [],_,_,_ => rfl
 | v :: r,o,w,k => by rw [World.setCells,setCells_shape b r,shape_setCell]
theorem setCells_rest (b:Nat):∀ (vs:List Value) (o:Nat) (w:World),(w.setCells b o vs).os = w.os ∧ (w.setCells b o vs).tape = w.tape ∧ (w.setCells b o vs).output = w.output
 | [],_,_ => ⟨rfl,rfl,rfl⟩
 | v :: r,o,w => by rw [World.setCells]; exact setCells_rest b r _ _
theorem get_cells {h:Heap} {o ver:Nat} {cs:List V} (hc:cellsAt (fun o => h[o]?) o ver = some cs):∃ x,h[o]? = some x ∧ x.ver = ver ∧ (x.bd = .var cs ∨ x.bd = .arr cs):=by
 unfold cellsAt at hc
 split at hc
 ·rename_i v cs' he
  split at hc
  ·rename_i hv
   cases hc
   exact ⟨_,he,hv,.inl rfl⟩
  ·cases hc
 ·rename_i v cs' he
  split at hc
  ·rename_i hv
   cases hc
   exact ⟨_,he,hv,.inr rfl⟩
  ·cases hc
 ·cases hc
theorem sim_cells {g:G} {h:Heap} {w:World} (s:Sim g h w) {o ver:Nat} {cs:List V} (hc:cellsAt (fun o => h[o]?) o ver = some cs) :
  ∃ x b base,h[o]? = some x ∧ x.ver = ver ∧ (x.bd = .var cs ∨ x.bd = .arr cs) ∧ g.loc o ver = some (b,base) ∧ blk g h o = some b ∧ b < w.heap.size ∧ (∃ e n,w.shape? b = some (e,n)) ∧
   NF w b ∧ Lies g w b base cs:=by
 obtain ⟨x,hx,hv,hbd⟩:=get_cells hc
 have hl:x.bd.lives = true:=by rcases hbd with e | e <;> rw [e] <;> rfl
 obtain ⟨b,base,hg,hlt,hr⟩:=s.obs o x hx hl
 have hr':(∃ e n,w.shape? b = some (e,n)) ∧ NF w b ∧ Lies g w b base cs:=by
  rcases hbd with e | e <;> rw [e] at hr <;> exact hr
 exact ⟨x,b,base,hx,hv,hbd,hv ▸ hg,blk_of hx hl hg,hlt,hr'⟩
theorem setRange_get (old:List V) (off:Nat) (cs:List V) (hl:off + cs.length ≤ old.length) (i:Nat) :
  (setRange old off cs)[i]? = if off ≤ i ∧ i < off + cs.length then cs[i - off]? else old[i]?:=by
 unfold setRange
 by_cases h1:i < off
 ·rw [if_neg (by omega),List.append_assoc,List.getElem?_append_left (by simp; omega),List.getElem?_take_of_lt h1]
 ·by_cases h2:i < off + cs.length
  ·rw [if_pos ⟨by omega,h2⟩,List.append_assoc,List.getElem?_append_right (by simp; omega),List.getElem?_append_left (by simp; omega)]
   congr 1
   simp
   omega
  ·rw [if_neg (by omega),List.getElem?_append_right (by simp; omega),List.getElem?_drop]
   congr 1
   simp
   omega
theorem setRange_length (old:List V) (off:Nat) (cs:List V) (hl:off + cs.length ≤ old.length):(setRange old off cs).length = old.length:=by
 simp [setRange]; omega
theorem with_ver (x:Ob) (cs:List V):(x.with cs).ver = x.ver:=by
 unfold Ob.with; split <;> rfl
theorem cell_of_shape {w:World} {b:Nat} {e:TypeId} {n:Nat} (h:w.shape? b = some (e,n)) {i:Nat} (hi:i < n):∃ x,w.cell? (at_ b i) = some x:=by
 simp only [World.shape?] at h
 split at h
 ·rename_i c e' fr hb
  cases h
  exact ⟨c[i],by simp [World.cell?,hb,hi]⟩
 ·cases h
theorem shape_of_cell {w:World} {b:Nat} {e:TypeId} {n:Nat} (h:w.shape? b = some (e,n)) {i:Nat} {x:Value} (hx:w.cell? (at_ b i) = some x):i < n:=by
 simp only [World.shape?] at h
 split at h
 ·rename_i c e' fr hb
  cases h
  rcases Nat.lt_or_ge i c.size with k | k
  ·exact k
  ·simp [World.cell?,hb,k] at hx
 ·cases h
theorem fr_setCells (b:Nat):∀ (vs:List Value) (o:Nat) (w:World) (k:Nat),fr? (w.setCells b o vs) k = fr? w k
 | [],_,_,_ => rfl
 | v :: r,o,w,k => by
  rw [World.setCells,fr_setCells b r]
  simp only [fr?,World.setCell,Array.getElem?_modify]
  by_cases h:b = k
  ·subst h
   rw [if_pos rfl]
   cases w.heap[b]? with
   | none => rfl
   | some o => cases o <;> simp
  ·rw [if_neg h]
theorem NF.setCells {w:World} {b:Nat} {e:TypeId} {n:Nat} (hs:w.shape? b = some (e,n)) (h:NF w b) (xs:List Value) (o:Nat):NF (w.setCells b o xs) b:=by
 refine ⟨fun i hi y hy => ?_,fun lo hi hf => h.2 lo hi (by rwa [fr_setCells] at hf)⟩
 rw [World.frozen?_setCells] at hi
 have:i < n:=shape_of_cell (w:=w.setCells b o xs) (by rw [setCells_shape]; exact hs) hy
 obtain ⟨y',hy'⟩:=cell_of_shape hs this
 exact h.1 i hi y' hy'
theorem sim_store {g:G} {h:Heap} {w:World} (s:Sim g h w) {o ver off:Nat} {cs new:List V} {x:Ob} {b base:Nat} (hx:h[o]? = some x) (hv:x.ver = ver)
  (hbd:x.bd = .var cs ∨ x.bd = .arr cs) (hg:g.loc o ver = some (b,base)) (hlt:b < w.heap.size) (hlies:Lies g w b base cs)
  (hsh:∃ e n,w.shape? b = some (e,n)) (hfz:NF w b)
  (hl:off + new.length ≤ cs.length) (xs:List Value) (hxs:Cells g w new xs) :
  let w':=w.setCells b (base + off) xs
  let g':=g.put o ver (b,base)
  Sim g' (h.set o (x.with (setRange cs off new))) w' ∧ Ext g h w g' (h.set o (x.with (setRange cs off new))) w':=by
 intro w' g'
 have hlive:x.bd.lives = true:=by rcases hbd with e | e <;> rw [e] <;> rfl
 have hwith:(x.with (setRange cs off new)).bd = .var (setRange cs off new) ∨ (x.with (setRange cs off new)).bd = .arr (setRange cs off new):=by
  unfold Ob.with; rcases hbd with e | e <;> simp [e]
 have hblk:blk g h o = some b:=blk_of hx hlive (hv ▸ hg)
 have himm:¬ g.imm b:=s.imm o b hblk
 have hrest:=setCells_rest b xs (base + off) w
 have hL:Later g w g' w':=by
  refine ⟨rfl,fun o' t bb hgg => ?_,fun _ h => h,fun k hk => setCells_other b xs _ w k (fun e => himm (e ▸ hk)),fun k y hk => by rw [setCells_shape]; exact hk⟩
  simp only [g',G.put]
  split
  ·rename_i he
   obtain ⟨rfl,rfl⟩:=he
   rw [hg] at hgg
   exact hgg
  ·exact hgg
 have hrel:BdRel g' w' b base (x.with (setRange cs off new)).bd:=by
  have key:(∃ e n,w'.shape? b = some (e,n)) ∧ NF w' b ∧ Lies g' w' b base (setRange cs off new):=by
   have hin:=World.cell?_setCells_in b xs (base + off) w (fun j hj => by
    obtain ⟨c,hc⟩:∃ c,cs[off + j]? = some c:=⟨_,List.getElem?_eq_getElem (by have:=hxs.1; omega)⟩
    obtain ⟨y,hy,-⟩:=hlies _ _ hc
    rw [show base + off + j = base + (off + j) by omega]
    simp [at_] at hy
    simp [hy])
   obtain ⟨e0,n0,hsh0⟩:=hsh
   refine ⟨⟨e0,n0,by rw [setCells_shape]; exact hsh0⟩,hfz.setCells hsh0 xs (base + off),fun i c hi => ?_⟩
   ·rw [setRange_get _ _ _ hl] at hi
    split at hi
    ·rename_i hr
     have hj:i - off < xs.length:=by have:=hxs.1; omega
     have h1:=hin (i - off) hj
     rw [show base + off + (i - off) = base + i by omega] at h1
     refine ⟨_,h1,?_⟩
     exact (hxs.2 (i - off) c _ hi (List.getElem?_eq_getElem hj)).later hL
    ·rename_i hr
     obtain ⟨y,hy,hyr⟩:=hlies i c hi
     refine ⟨y,?_,hyr.later hL⟩
     rw [World.cell?_setCells_out b xs _ w _ (fun _ _ => by have:=hxs.1; simp; omega)]
     exact hy
  rcases hwith with e | e <;> rw [e] <;> exact key
 have:=sim_set s (x':=x.with (setRange cs off new)) (b:=b) (base:=base) (w':=w') hx (by rw [with_ver]; exact Nat.le_refl _) (by rcases hwith with e | e <;> rw [e] <;> rfl)
  (fun bb hgg => by rw [with_ver,hv,hg] at hgg; cases hgg; rfl) (.inr hblk) (by rw [setCells_size]; exact hlt) (by rw [setCells_size]; exact Nat.le_refl _)
  (fun k y hk => by rw [setCells_shape]; exact hk) (fun k _ hk => setCells_other b xs _ w k hk) hrest.1 hrest.2.1 hrest.2.2 (by rw [with_ver,hv]; exact hrel)
 rw [with_ver,hv] at this
 exact this
end Go.Am


set_option linter.unusedVariables false
set_option linter.unusedSimpArgs false
namespace Go.Am
mutual
def cstV:(x:Value) → Option V
 | .bool b => some (.bool b)
 | .int k n => some (.int k n)
 | .string s => some (.str s.data.toList)
 | .pointer none => some .nilp
 | .slice none 0 0 => some .nils
 | .map none => some .nilm
 | .nilFunc => some .nilf
 | .nilIface => some .nili
 | .agg ⟨cs⟩ => (cstVs cs).map .agg
 | .tuple ⟨cs⟩ => (cstVs cs).map .tup
 | _ => none
 termination_by structural x => x
def cstVs:(xs:List Value) → Option (List V)
 | [] => some []
 | x :: xs => match cstV x,cstVs xs with | some v,some vs => some (v :: vs) | _,_ => none
 termination_by structural xs => xs
end
theorem cstVs_get:∀ (xs:List Value) (cs:List V),cstVs xs = some cs → xs.length = cs.length ∧ ∀ (i:Nat) (c:V),cs[i]? = some c → ∃ x,xs[i]? = some x ∧ cstV x = some c
 | [],cs,h => by simp [cstVs] at h; subst h; simp
 | x :: xs,cs,h => by
  rw [cstVs] at h
  split at h
  ·rename_i v vs h1 h2
   cases h
   obtain ⟨hl,hg⟩:=cstVs_get xs vs h2
   refine ⟨by simp [hl],fun i c hi => ?_⟩
   cases i with
   | zero => simp at hi; subst hi; exact ⟨x,by simp,h1⟩
   | succ i => simp at hi; obtain ⟨y,hy,hc⟩:=hg i c hi; exact ⟨y,by simpa using hy,hc⟩
  ·cases h
theorem VRel_list {g:G} {w:World} {cs:List V} {xs:Array Value} (hl:xs.toList.length = cs.length) (h:∀ (i:Nat) (c:V),cs[i]? = some c → ∃ x,xs.toList[i]? = some x ∧ VRel g w c x) :
  xs.size = cs.length ∧ ∀ i c,cs[i]? = some c → VRel g w c (xs.getD i undef):=by
 refine ⟨by simpa using hl,fun i c hi => ?_⟩
 obtain ⟨x,hx,hr⟩:=h i c hi
 have:xs[i]? = some x:=by simpa using hx
 simp only [Array.getD_eq_getD_getElem?,this,Option.getD_some]
 exact hr
theorem cstV_rel (g:G) (w:World):∀ (n:Nat) (x:Value) (c:V),SizeOf.sizeOf x ≤ n → cstV x = some c → VRel g w c x:=by
 intro n
 induction n with
 | zero => intro x c hn; cases x <;> simp at hn
 | succ n ih =>
  intro x c hn h
  cases x with
  | bool b => simp [cstV] at h; subst h; exact .bool b
  | int k m => simp [cstV] at h; subst h; exact .int k m
  | string s => simp [cstV] at h; subst h; exact .str s.data.toList
  | pointer a => cases a <;> simp [cstV] at h; subst h; exact .nilp
  | slice a l k =>
   cases a with
   | some a => simp [cstV] at h
   | none =>
    cases l with
    | succ l => simp [cstV] at h
    | zero =>
     cases k with
     | succ k => simp [cstV] at h
     | zero => simp [cstV] at h; subst h; exact .nils
  | map r => cases r <;> simp [cstV] at h; subst h; exact .nilm
  | nilFunc => simp [cstV] at h; subst h; exact .nilf
  | nilIface => simp [cstV] at h; subst h; exact .nili
  | agg cs =>
   simp only [cstV,Option.map_eq_some_iff] at h
   obtain ⟨vs,h1,rfl⟩:=h
   obtain ⟨hl,hg⟩:=cstVs_get _ _ h1
   obtain ⟨k1,k2⟩:=VRel_list (g:=g) (w:=w) (xs:=cs) hl (fun i c hi => by
    obtain ⟨y,hy,hc⟩:=hg i c hi
    refine ⟨y,hy,ih y c ?_ hc⟩
    have hm:y ∈ cs:=by simpa using List.mem_of_getElem? hy
    have:=Array.sizeOf_lt_of_mem hm
    simp at hn
    omega)
   exact .agg vs cs k1 k2
  | tuple cs =>
   simp only [cstV,Option.map_eq_some_iff] at h
   obtain ⟨vs,h1,rfl⟩:=h
   obtain ⟨hl,hg⟩:=cstVs_get _ _ h1
   obtain ⟨k1,k2⟩:=VRel_list (g:=g) (w:=w) (xs:=cs) hl (fun i c hi => by
    obtain ⟨y,hy,hc⟩:=hg i c hi
    refine ⟨y,hy,ih y c ?_ hc⟩
    have hm:y ∈ cs:=by simpa using List.mem_of_getElem? hy
    have:=Array.sizeOf_lt_of_mem hm
    simp at hn
    omega)
   exact .tup vs cs k1 k2
  | _ => simp [cstV] at h
theorem cst_rel (g:G) (w:World) {x:Value} {c:V} (h:cstV x = some c):VRel g w c x:=cstV_rel g w _ x c (Nat.le_refl _) h
def trOpd:Operand → Option Opd
 | .tmp t => some (.tmp t)
 | .const v => (cstV v).map .cst
 | .func f => some (.cst (.func f [] []))
 | .global _ => none
def OpdRel (g:G) (w:World) (ρ:Opd → V) (ρ':Operand → Value):Prop:=∀ x x',trOpd x' = some x → VRel g w (ρ x) (ρ' x')
variable {P:Program}
def Goes (P:Program) (s:Sem Value) (g:G) (h:Heap) (w:World) (v:V) (h':Heap):Prop :=
 ∃ g' w' x,s.run P w = .ok x w' ∧ Sim g' h' w' ∧ Ext g h w g' h' w' ∧ VRel g' w' v x
theorem Goes.still {s:Sem Value} {g:G} {h:Heap} {w:World} {v:V} {x:Value} (hs:Sim g h w) (hr:s.run P w = .ok x w) (hv:VRel g w v x):Goes P s g h w v h :=
 ⟨g,w,x,hr,hs,Ext.refl _ _ _,hv⟩
theorem add_at (b o i:Nat):(at_ b o).add i = at_ b (o + i):=by
 unfold Addr.add; split
 ·rename_i h; subst h; rfl
 ·rfl
theorem VRel.cellsOf {g:G} {w:World} {v:V} {x:Value} (h:VRel g w v x) (hs:v.solid = true):Cells g w v.cells x.cells.toList:=by
 have one:∀ (v:V) (x:Value),VRel g w v x → Cells g w [v] [x]:=fun v x h => ⟨rfl,fun i c y h1 h2 => by
  cases i with
  | zero => simp at h1 h2; subst h1; subst h2; exact h
  | succ i => simp at h1⟩
 cases h with
 | junk x => simp [V.solid] at hs
 | agg cs xs hx hc =>
  refine ⟨by simpa [V.cells,Value.cells] using hx,fun i c y h1 h2 => ?_⟩
  have:=hc i c h1
  simp only [Value.cells] at h2
  have h3:xs[i]? = some y:=by simpa using h2
  simp only [Array.getD_eq_getD_getElem?,h3,Option.getD_some] at this
  exact this
 | bool b => exact one _ _ (.bool b)
 | int k n => exact one _ _ (.int k n)
 | str s => exact one _ _ (.str s)
 | nilp => exact one _ _ .nilp
 | ptr o t off b base h => exact one _ _ (.ptr o t off b base h)
 | iptr cs off b base f hi hc hv => exact one _ _ (.iptr cs off b base f hi hc hv)
 | nils => exact one _ _ .nils
 | view o t off len s cap b base c n e h hl hk hs' hn => exact one _ _ (.view o t off len s cap b base c n e h hl hk hs' hn)
 | vend o t s b base x c n e h hs' hn => exact one _ _ (.vend o t s b base x c n e h hs' hn)
 | sl M s cap b off c f hi hl hk hz hc hv => exact one _ _ (.sl M s cap b off c f hi hl hk hz hc hv)
 | sl0 s cap a hk => exact one _ _ (.sl0 s cap a hk)
 | nilm => exact one _ _ .nilm
 | map o t b h => exact one _ _ (.map o t b h)
 | nilf => exact one _ _ .nilf
 | func f xs ys xs' ys' hx hy h1 h2 => exact one _ _ (.func f xs ys xs' ys' hx hy h1 h2)
 | yld o t b h => exact one _ _ (.yld o t b h)
 | nili => exact one _ _ .nili
 | iface t v x h => exact one _ _ (.iface t v x h)
 | tup cs xs hx h => exact one _ _ (.tup cs xs hx h)
theorem VRel.oneCell {g:G} {w:World} {v:V} {x:Value} (h:VRel g w v x) (hs:v.oneCell = true):x.oneCell' = true:=by
 cases h <;> first | rfl | simp [V.oneCell] at hs
theorem goes_loads {g:G} {h:Heap} {w:World} (s:Sim g h w) {p:V} {x:Value} (hp:VRel g w p x) {n:Nat} {cs:List V} (hl:loadA (fun o => h[o]?) n p = some cs) :
  ∃ b off xs,x = .pointer (some (at_ b off)) ∧ xs.length = n ∧ cs.length = n ∧ (∀ j y,xs[j]? = some y → w.cell? (at_ b (off + j)) = some y) ∧ Cells g w cs xs:=by
 have key:∀ (b base off:Nat) (all:List V),off + n ≤ all.length → Lies g w b base all → cs = (all.drop off).take n →
   ∃ xs:List Value,xs.length = n ∧ cs.length = n ∧ (∀ j y,xs[j]? = some y → w.cell? (at_ b (base + off + j)) = some y) ∧ Cells g w cs xs:=by
  intro b base off all hle hlies he
  refine ⟨(List.range n).map fun j => (w.cell? (at_ b (base + off + j))).getD undef,by simp,by rw [he]; simp; omega,fun j y hy => ?_,by rw [he]; simp; omega,fun i c y hc hy => ?_⟩
  ·obtain ⟨hj,rfl⟩:j < n ∧ (w.cell? (at_ b (base + off + j))).getD undef = y:=by
    rw [List.getElem?_map] at hy
    rcases Nat.lt_or_ge j n with hj | hj
    ·rw [List.getElem?_range hj] at hy; simp at hy; exact ⟨hj,hy⟩
    ·rw [List.getElem?_eq_none (by simpa using hj)] at hy; simp at hy
   obtain ⟨y,hy,-⟩:=hlies (off + j) _ (List.getElem?_eq_getElem (by omega))
   rw [show base + off + j = base + (off + j) by omega,hy]
   rfl
  ·have hi:i < n:=by
    rcases Nat.lt_or_ge i n with hj | hj
    ·exact hj
    ·rw [List.getElem?_eq_none (by simpa using hj)] at hy; simp at hy
   rw [List.getElem?_map,List.getElem?_range hi] at hy
   simp at hy
   rw [he,List.getElem?_take_of_lt hi,List.getElem?_drop] at hc
   obtain ⟨z,hz,hr⟩:=hlies (off + i) c hc
   rw [show base + off + i = base + (off + i) by omega,hz] at hy
   simp at hy
   subst hy
   exact hr
 cases hp with
 | ptr o ver off b base hg =>
  simp only [loadA] at hl
  split at hl
  ·rename_i all hall
   split at hl
   ·rename_i hle
    cases hl
    obtain ⟨y,b',base',-,-,-,hg',-,-,-,-,hlies⟩:=sim_cells s hall
    rw [hg] at hg'
    cases hg'
    obtain ⟨xs,h1,h2,h3,h4⟩:=key b base off all hle hlies rfl
    exact ⟨b,base + off,xs,rfl,h1,h2,h3,h4⟩
   ·cases hl
  ·cases hl
 | iptr all off b base f hi hc hv =>
  simp only [loadA] at hl
  split at hl
  ·rename_i hle
   cases hl
   obtain ⟨xs,h1,h2,h3,h4⟩:=key b base off all hle (fun i c hi => ⟨f i,hc i (by rcases Nat.lt_or_ge i all.length with h | h; exact h; simp [List.getElem?_eq_none h] at hi),hv i c hi⟩) rfl
   exact ⟨b,base + off,xs,rfl,h1,h2,h3,h4⟩
  ·cases hl
 | _ => simp [loadA] at hl
def agOf (P:Program) (t:TypeId):Option (Option Nat) :=
 match P.underlying t with
 | some (.struct _) | some (.array _ _) => (P.info? t).map fun i => some i.size
 | some _ => some none
 | none => none
theorem run_loads {w:World} {b off n:Nat} {xs:List Value} (hl:xs.length = n) (h:∀ j y,xs[j]? = some y → w.cell? (at_ b (off + j)) = some y) :
  (loadCells (at_ b off) n).run P w = .ok xs.toArray w:=by
 have:=run_loadCells_list (P:=P) w (at_ b off) xs (fun j v hj => by rw [add_at]; exact h j v hj)
 rwa [hl] at this
theorem run_sureAddr (w:World) (a:Addr):(Instr.sureAddr (.pointer (some a))).run P w = .ok a w:=rfl
theorem run_isAgg {t:TypeId} {ag:Option Nat} (h:agOf P t = some ag) (w:World):(isAgg t).run P w = .ok ag.isSome w:=by
 unfold agOf at h
 split at h
 ·rename_i fs hu
  cases hi:P.info? t <;> simp [hi] at h
  subst h
  simp [isAgg,run_underlying hu]
 ·rename_i n e hu
  cases hi:P.info? t <;> simp [hi] at h
  subst h
  simp [isAgg,run_underlying hu]
 ·rename_i d hd1 hd2 hu
  cases h
  cases d <;> simp_all [isAgg,run_underlying hu]
 ·cases h
theorem run_sizeOf_ag {t:TypeId} {n:Nat} (h:agOf P t = some (some n)) (w:World):(sizeOf t).run P w = .ok n w:=by
 unfold agOf at h
 split at h
 ·cases hi:P.info? t <;> simp [hi] at h
  subst h
  rw [run_sizeOf w hi]; simp [Program.cellsOf,hi]
 ·cases hi:P.info? t <;> simp [hi] at h
  subst h
  rw [run_sizeOf w hi]; simp [Program.cellsOf,hi]
 ·cases h
 ·cases h
theorem Cells.agg {g:G} {w:World} {cs:List V} {xs:List Value} (h:Cells g w cs xs):VRel g w (.agg cs) (.agg xs.toArray):=by
 refine .agg cs xs.toArray (by simpa using h.1) (fun i c hi => ?_)
 have hlt:i < xs.length:=by
  have:i < cs.length:=by rcases Nat.lt_or_ge i cs.length with k | k; exact k; simp [List.getElem?_eq_none k] at hi
  have:=h.1
  omega
 have:=h.2 i c _ hi (List.getElem?_eq_getElem hlt)
 simpa [Array.getD_eq_getD_getElem?,List.getElem?_eq_getElem hlt] using this
theorem goes_load {g:G} {h:Heap} {w:World} (s:Sim g h w) {p v:V} {x:Value} {t:TypeId} {ag:Option Nat} (ht:agOf P t = some ag) (hp:VRel g w p x)
  {cs:List V} (hl:loadA (fun o => h[o]?) (nAg ag) p = some cs) (hv:packA ag cs = some v):Goes P (Instr.loadAt t x) g h w v h:=by
 obtain ⟨b,off,xs,rfl,hxl,hcl,hcell,hrel⟩:=goes_loads s hp hl
 cases ag with
 | some n =>
  simp only [packA,Option.some.injEq] at hv
  subst hv
  have hxl':xs.length = n:=hxl
  refine .still s ?_ hrel.agg
  simp only [nAg,Instr.loadAt,loadVar,Sem.run_bind,run_sureAddr,Result.andThen_ok,run_isAgg ht,Option.isSome_some,if_true,run_sizeOf_ag ht,run_loads hxl' hcell,Sem.run_pure]
 | none =>
  simp only [nAg] at hxl hcl
  obtain ⟨c,rfl⟩:∃ c,cs = [c]:=by
   cases cs with
   | nil => simp at hcl
   | cons c cs => cases cs with
    | nil => exact ⟨c,rfl⟩
    | cons d cs => simp at hcl
  obtain ⟨y,rfl⟩:∃ y,xs = [y]:=by
   cases xs with
   | nil => simp at hxl
   | cons c cs => cases cs with
    | nil => exact ⟨c,rfl⟩
    | cons d cs => simp at hxl
  simp only [packA,List.head?_cons,Option.some.injEq] at hv
  subst hv
  refine .still s ?_ (hrel.2 0 _ _ rfl rfl)
  have hc:=hcell 0 y rfl
  simp only [Nat.add_zero] at hc
  simp [Instr.loadAt,loadVar,run_sureAddr,run_isAgg ht,run_load,hc]
end Go.Am
example:Go.Am.cstV (.agg #[.int .i64 1,.bool true]) = some (.agg [.int .i64 1,.bool true]):=by kernel_rfl


set_option linter.unusedVariables false
set_option linter.unusedSimpArgs false
namespace Go.Am
variable {P:Program}
def szOf (P:Program) (t:TypeId):Option Nat:=(P.info? t).map (·.size)
def byOf (P:Program) (t:TypeId):Option Nat:=(P.info? t).map (·.bytes)
def zeroOf (P:Program) (t:TypeId):Option (List V):=(P.info? t).bind fun i => i.zero.bind fun z => cstVs z.cells.toList
theorem run_sizeOf' {t:TypeId} {n:Nat} (h:szOf P t = some n) (w:World):(sizeOf t).run P w = .ok n w:=by
 unfold szOf at h
 cases hi:P.info? t <;> simp [hi] at h
 subst h
 rw [run_sizeOf w hi]; simp [Program.cellsOf,hi]
theorem zero_rel {t:TypeId} {cs:List V} (h:zeroOf P t = some cs) (g:G) (w:World) :
  ∃ z,(∀ w',(zeroValue t).run P w' = .ok z w') ∧ z.cells.toList.length = cs.length ∧ ∀ (i:Nat) (c:V),cs[i]? = some c → ∃ y,z.cells[i]? = some y ∧ ∀ g w,VRel g w c y:=by
 unfold zeroOf at h
 cases hi:P.info? t with
 | none => simp [hi] at h
 | some i =>
  simp only [hi,Option.bind_some] at h
  cases hz:i.zero with
  | none => simp [hz] at h
  | some z =>
   simp only [hz,Option.bind_some] at h
   obtain ⟨h1,h2⟩:=cstVs_get _ _ h
   refine ⟨z,fun w' => ?_,h1,fun j c hj => ?_⟩
   ·simp [zeroValue,run_typeInfo (h:=hi),hz]
   ·obtain ⟨y,hy,hc⟩:=h2 j c hj
    exact ⟨y,by simpa using hy,fun g w => cst_rel g w hc⟩
def EffGoes (P:Program) (s:Sem Value) (g:G) (h:Heap) (w:World):Eff → Prop
 | .ret v => Goes P s g h w v h
 | .set o x v => Goes P s g h w v (h.set o x)
theorem goes_new {g:G} {h:Heap} {w:World} (s:Sim g h w) {o:Nat} {bd:Bd} {cs:List V} (hbd:bd = .var cs ∨ bd = .arr cs) {v:Nat → V} {eff:Eff}
  (he:mkA (fun o => h[o]?) o bd v = some eff) (xs:Array Value) (e:TypeId) (hv:∀ (i:Nat) (c:V),cs[i]? = some c → ∃ y,xs[i]? = some y ∧ VRel g w c y)
  (sem:Sem Value) (x:Value) (hrun:sem.run P w = .ok x { w with heap:=w.heap.push (.cells xs e) })
  (hx:∀ (g':G) (w':World) (ver:Nat),g'.loc o ver = some (w.heap.size,0) → w'.shape? w.heap.size = some (e,xs.size) → VRel g' w' (v ver) x):EffGoes P sem g h w eff:=by
 unfold mkA at he
 cases ho:h[o]? with
 | none => simp [ho] at he
 | some ob =>
  simp only [ho,Option.some.injEq] at he
  subst he
  obtain ⟨h1,h2,h3,h4⟩:=sim_new s ho bd cs hbd xs e hv
  exact ⟨_,_,x,hrun,h1,h2,hx _ _ _ h3 h4⟩
theorem ptr_rel {g:G} {w:World} {o ver b base off:Nat} (h:g.loc o ver = some (b,base)):VRel g w (.ptr o ver off) (.pointer (some (at_ b (base + off)))):=.ptr _ _ _ _ _ h
theorem goes_alloc {g:G} {h:Heap} {w:World} (s:Sim g h w) {o:Nat} {t:TypeId} {cs:List V} (hz:zeroOf P t = some cs) {eff:Eff}
  (he:mkA (fun o => h[o]?) o (.var cs) (fun v => .ptr o v 0) = some eff):EffGoes P (Instr.alloc t true (.tuple #[])) g h w eff:=by
 obtain ⟨z,hz1,hz2,hz3⟩:=zero_rel hz g w
 refine goes_new s (.inl rfl) he z.cells t (fun i c hi => let ⟨y,h1,h2⟩:=hz3 i c hi; ⟨y,h1,h2 _ _⟩) _ (.pointer (some (at_ w.heap.size 0))) ?_ (fun g' w' ver hg _ => ptr_rel hg)
 simp only [Instr.alloc,Sem.run_bind,hz1,Result.andThen_ok,newVar,newRow]
 rfl
theorem cells_get {g:G} {w:World} {cs:List V} {xs:Array Value} (h:Cells g w cs xs.toList) (i:Nat) (c:V) (hi:cs[i]? = some c):∃ y,xs[i]? = some y ∧ VRel g w c y:=by
 have hlt:i < xs.size:=by
  have:i < cs.length:=by rcases Nat.lt_or_ge i cs.length with k | k; exact k; simp [List.getElem?_eq_none k] at hi
  have:=h.1
  simp at this
  omega
 exact ⟨xs[i],by simp [hlt],h.2 i c _ hi (by simp [hlt])⟩
theorem goes_box {g:G} {h:Heap} {w:World} (s:Sim g h w) {o:Nat} {t:TypeId} {v:V} {x:Value} (hv:VRel g w v x) (hs:v.solid = true) {eff:Eff}
  (he:mkA (fun o => h[o]?) o (.var v.cells) (fun v => .ptr o v 0) = some eff):EffGoes P (Instr.box t x) g h w eff:=by
 refine goes_new s (.inl rfl) he x.cells t (cells_get (hv.cellsOf hs)) _ (.pointer (some (at_ w.heap.size 0))) ?_ (fun g' w' ver hg _ => ptr_rel hg)
 simp only [Instr.box,Sem.run_bind,newVar,newRow]
 rfl
theorem goes_storeA {g:G} {h:Heap} {w:World} (s:Sim g h w) {o ver off b base:Nat} {new:List V} {v:V} {eff:Eff} (he:storeA (fun o => h[o]?) o ver off new v = some eff)
  (hg:g.loc o ver = some (b,base)) (xs:List Value) (hxs:Cells g w new xs) (h1:∀ x ∈ xs,x.oneCell' = true) :
  ∃ w' h',eff = .set o h' v ∧ (storeCells (at_ b (base + off)) xs).run P w = .ok () w' ∧ Sim (g.put o ver (b,base)) (h.set o h') w' ∧ Ext g h w (g.put o ver (b,base)) (h.set o h') w':=by
 unfold storeA at he
 split at he
 ·rename_i cs x hc hx
  split at he
  ·rename_i hle
   cases he
   obtain ⟨x',b',base',hx',hv,hbd,hg',hblk,hlt,hsh,hfz,hlies⟩:=sim_cells s hc
   have hx2:h[o]? = some x:=hx
   rw [hx2] at hx'
   cases hx'
   rw [hg] at hg'
   cases hg'
   have:=sim_store s hx2 hv hbd hg hlt hlies hsh hfz hle xs hxs
   refine ⟨_,_,rfl,?_,this.1,this.2⟩
   have hcell:∀ j,j < xs.length → ∃ y,w.cell? (at_ b (base + off + j)) = some y:=by
    intro j hj
    obtain ⟨y,hy,-⟩:=hlies (off + j) _ (List.getElem?_eq_getElem (by have:=hxs.1; omega))
    exact ⟨y,by rw [show base + off + j = base + (off + j) by omega]; exact hy⟩
   have:=run_storeCells_cells (P:=P) b (base + off) xs 0 w (fun j hj => by
     obtain ⟨y,hy⟩:=hcell j hj
     simp only [Nat.add_zero]
     rw [show (⟨b,base + off + j,none⟩:Addr) = at_ b (base + off + j) from rfl,hy]; rfl)
    (fun j hj => by
     obtain ⟨y,hy⟩:=hcell j hj
     simp only [Nat.add_zero]
     cases hf:w.frozen? (at_ b (base + off + j)) with
     | false => rfl
     | true => exact absurd hy (hfz.1 _ hf y)) h1
   simpa using this
  ·cases he
 ·cases he
theorem Cells.oneCell {g:G} {w:World} {cs:List V} {xs:List Value} (h:Cells g w cs xs) (h1:cs.all V.oneCell = true):∀ x ∈ xs,x.oneCell' = true:=by
 intro x hx
 obtain ⟨i,hi,rfl⟩:=List.getElem_of_mem hx
 have hlt:i < cs.length:=by have:=h.1; omega
 have hr:=h.2 i cs[i] xs[i] (List.getElem?_eq_getElem hlt) (List.getElem?_eq_getElem hi)
 exact hr.oneCell (by simpa using List.all_eq_true.1 h1 cs[i] (List.getElem_mem hlt))
theorem solid_of_all {v:V} (h:v.cells.all V.oneCell = true):v.solid = true:=by
 cases v <;> simp [V.cells,V.oneCell,V.solid] at *
theorem goes_store {g:G} {h:Heap} {w:World} (s:Sim g h w) {t:TypeId} {n:Nat} (ht:szOf P t = some n) {o ver off:Nat} {v:V} {p x:Value} (hp:VRel g w (.ptr o ver off) p) (hv:VRel g w v x)
  (hn:v.cells.length = n) (hall:v.cells.all V.oneCell = true) {eff:Eff} (he:storeA (fun o => h[o]?) o ver off v.cells (.tup []) = some eff) :
  EffGoes P (do Instr.storeAt t p x; pure undef) g h w eff:=by
 cases hp with
 | ptr _ _ _ b base hg =>
  have hcells:=hv.cellsOf (solid_of_all hall)
  obtain ⟨w',h',rfl,hrun,hs',hext⟩:=goes_storeA (P:=P) s he hg x.cells.toList hcells (hcells.oneCell hall)
  refine ⟨_,w',undef,?_,hs',hext,.tup [] #[] rfl (by simp)⟩
  have hsz:x.cells.size = n:=by have:=hcells.1; simp at this; omega
  simp [Instr.storeAt,run_sureAddr,storeVar,run_sizeOf' ht,hsz,hrun]
theorem goes_bin {g : G} {h : Heap} {w : World} (s : Sim g h w) {op : BinOp} {t : TypeId} {a b v : V} {x y : Value} (ha : VRel g w a x) (hb : VRel g w b y) (hv : binA op a b = some v) :
    Goes P (binOp op t x y) g h w v h := by
  unfold binA at hv
  split at hv
  · rename_i k n k' m
    cases ha
    cases hb
    cases op
    case shl =>
      simp only at hv
      split at hv
      · cases hv
      · rename_i hneg
        cases hv
        exact .still s (by simp [binOp, Op.shift, hneg]) (.int _ _)
    case shr =>
      simp only at hv
      split at hv
      · cases hv
      · rename_i hneg
        cases hv
        exact .still s (by simp [binOp, Op.shift, hneg]) (.int _ _)
    all_goals
      simp only at hv
      split at hv
      · rename_i hk
        subst hk
        first
        | (cases hv; first
            | (refine .still s ?_ (.int _ _); simp [binOp, Op.intArith]; done)
            | (refine .still s ?_ (.int _ _); simp only [binOp, Op.intBits, ne_eq, not_true_eq_false, if_false]; rfl)
            | (refine .still s ?_ (.bool _); simp [binOp, Op.intCmp]; done))
        | (split at hv
           · cases hv
           · rename_i hz
             cases hv
             refine .still s ?_ (.int _ _); simp [binOp, Op.intDiv, hz])
      · cases hv
  · rename_i l m
    cases ha
    cases hb
    have e1 : ∀ l : List UInt8, (⟨⟨l⟩⟩ : ByteArray).toList = l := fun l => by simp
    cases op <;> simp only at hv
    case add =>
      split at hv
      · rename_i hle
        cases hv
        refine .still s ?_ (.str _)
        have : ¬ (((⟨⟨l⟩⟩ : ByteArray).size + (⟨⟨m⟩⟩ : ByteArray).size : Nat) : Int) > IntKind.i64.max := by
          simp [ByteArray.size, IntKind.max, IntKind.signed, IntKind.bits]; omega
        simp only [binOp, Op.stringOp, if_neg this, Sem.run_pure]
        first | rfl | (congr 2; done) | (congr 2; apply ByteArray.ext; simp)
      · cases hv
    all_goals
      first
        | (cases hv; done)
        | (cases hv; refine .still s ?_ (.bool _); simp [binOp, Op.stringOp, e1]; done)
  · cases hv
end Go.Am


set_option linter.unusedVariables false
set_option linter.unusedSimpArgs false
namespace Go.Am
variable {P:Program}
theorem goes_un {g:G} {h:Heap} {w:World} (s:Sim g h w) {op:UnOp} {a v:V} {x:Value} (ha:VRel g w a x) (hv:unA op a = some v):Goes P (Op.unary op x) g h w v h:=by
 unfold unA at hv
 split at hv
 ·cases ha
  cases op <;> simp at hv
  subst hv
  exact .still s rfl (.bool _)
 ·cases ha
  cases op <;> simp only [reduceCtorEq,Option.some.injEq] at hv
  ·subst hv
   exact .still s rfl (.int _ _)
  ·subst hv
   exact .still s rfl (.int _ _)
 ·cases hv
theorem goes_cint {g:G} {h:Heap} {w:World} (s:Sim g h w) {src dst:TypeId} {k k':IntKind} {n:Int} (hs:∃ d,P.underlying src = some d) (hd:P.underlying dst = some (.int k)) :
  Goes P (convert src dst (.int k' n)) g h w (.int k (k.wrap n)) h:=by
 obtain ⟨d,hd'⟩:=hs
 refine .still s ?_ (.int _ _)
 simp [convert,run_underlying hd',run_underlying hd,Conv.intToInt]
theorem goes_faddr {g:G} {h:Heap} {w:World} (s:Sim g h w) {t:TypeId} {fs:Array Field} {f:Field} {i n:Nat} (hu:P.underlying t = some (.struct fs)) (hf:fs[i]? = some f) (hn:szOf P f.type = some n) (hn0:n ≠ 0)
  {p:V} {x:Value} (hp:VRel g w p x) {v:V} (hv:(match p with | .ptr o ver off => some (V.ptr o ver (off + f.offset)) | .iptr c off => some (V.iptr c (off + f.offset)) | _ => none) = some v) :
  Goes P (Instr.fieldAt t x i) g h w v h:=by
 have run:∀ b off,(Instr.fieldAt t (.pointer (some (at_ b off))) i).run P w = .ok (.pointer (some (at_ b (off + f.offset)))) w:=by
  intro b off
  simp [Instr.fieldAt,run_underlying hu,hf,run_sureAddr,fieldPlace,run_sizeOf' hn,hn0,add_at]
 cases hp <;> simp only [Option.some.injEq,reduceCtorEq] at hv
 case ptr o ver off b base hg =>
  subst hv
  refine .still s (run _ _) ?_
  rw [Nat.add_assoc]
  exact .ptr _ _ _ _ _ hg
 case iptr cs off b base f' hi hc hv' =>
  subst hv
  refine .still s (run _ _) ?_
  rw [Nat.add_assoc]
  exact .iptr _ _ _ _ f' hi hc hv'
theorem indexed_of {n:Nat} {i:V} {j:Nat} (h:indexedI n i = some j):∃ k m,i = .int k m ∧ 0 ≤ m ∧ m < n ∧ m.toNat = j:=by
 unfold indexedI at h
 split at h
 ·rename_i k m
  split at h
  ·split at h
   ·cases h; exact ⟨k,m,rfl,by assumption,by assumption,rfl⟩
   ·cases h
  ·cases h
 ·cases h
theorem goes_iaddrA {g:G} {h:Heap} {w:World} (s:Sim g h w) {t e:TypeId} {n sz:Nat} (hu:P.underlying t = some (.array n e)) (hz:szOf P e = some sz)
  {p i:V} {x y:Value} (hp:VRel g w p x) (hi:VRel g w i y) {j:Nat} (hj:indexedI n i = some j)
  {v:V} (hv:(match p with | .ptr o ver off => some (V.ptr o ver (off + j * sz)) | .iptr c off => some (V.iptr c (off + j * sz)) | _ => none) = some v) :
  Goes P (Instr.indexAt t x y) g h w v h:=by
 obtain ⟨k,m,rfl,h0,h1,rfl⟩:=indexed_of hj
 cases hi
 have run:∀ b off,(Instr.indexAt t (.pointer (some (at_ b off))) (.int k m)).run P w = .ok (.pointer (some (at_ b (off + m.toNat * sz)))) w:=by
  intro b off
  simp [Instr.indexAt,asIntOf,run_underlying hu,run_sureAddr,h0,h1,run_sizeOf' hz,add_at]
 cases hp <;> simp only [Option.some.injEq,reduceCtorEq] at hv
 case ptr o ver off b base hg =>
  subst hv
  refine .still s (run _ _) ?_
  rw [Nat.add_assoc]
  exact .ptr _ _ _ _ _ hg
 case iptr cs off b base f' hi hc hv' =>
  subst hv
  refine .still s (run _ _) ?_
  rw [Nat.add_assoc]
  exact .iptr _ _ _ _ f' hi hc hv'
theorem goes_iaddrS {g:G} {h:Heap} {w:World} (s:Sim g h w) {t e:TypeId} {sz:Nat} (hu:P.underlying t = some (.slice e)) (hz:szOf P e = some sz)
  {p i:V} {x y:Value} (hp:VRel g w p x) (hi:VRel g w i y) {eff:Eff}
  (hv:iaddrSA sz p i = some eff) :
  EffGoes P (Instr.indexAt t x y) g h w eff:=by
 have run:∀ (len c:Nat) b off k (m:Int),0 ≤ m → m < len → (Instr.indexAt t (.slice (some (at_ b off)) len c) (.int k m)).run P w = .ok (.pointer (some (at_ b (off + m.toNat * sz)))) w:=by
  intro len c b off k m h0 h1
  simp [Instr.indexAt,asIntOf,run_underlying hu,h0,h1,run_sizeOf' hz,add_at]
 cases hp <;> simp only [iaddrSA,Option.some.injEq,reduceCtorEq] at hv
 case view o ver off len s' cap b base c n e' hg hl hk hs' hn =>
  split at hv
  ·rename_i hs; subst hs
   simp only [Option.map_eq_some_iff] at hv
   obtain ⟨j,hj,rfl⟩:=hv
   obtain ⟨k,m,rfl,h0,h1,rfl⟩:=indexed_of hj
   cases hi
   refine Goes.still s (run _ _ _ _ _ _ h0 h1) ?_
   rw [Nat.add_assoc]
   exact .ptr _ _ _ _ _ hg
  ·cases hv
 case sl L s' cap b off c f hi' hl hk hz' hc hv' =>
  split at hv
  ·rename_i hs; subst hs
   simp only [Option.bind_eq_some_iff,Option.map_eq_some_iff] at hv
   obtain ⟨j,hj,e',he,rfl⟩:=hv
   obtain ⟨k,m,rfl,h0,h1,rfl⟩:=indexed_of hj
   cases hi
   refine Goes.still s (run _ _ _ _ _ _ h0 h1) ?_
   have hlen:=hz' _ _ he
   have hlt:m.toNat < L.length:=by omega
   have hmul:(m.toNat + 1) * s' ≤ L.length * s':=Nat.mul_le_mul_right _ hlt
   rw [Nat.add_mul,Nat.one_mul] at hmul
   have:=VRel.iptr (g:=g) (w:=w) e'.cells 0 b (off + m.toNat * s') (fun j => f (m.toNat * s' + j)) (hi' (fun e => by rw [e] at hlt; simp at hlt))
    (fun j hj => by rw [Nat.add_assoc]; exact hc _ (by omega)) (fun j c hj => hv' _ _ _ _ he hj)
   simpa using this
  ·cases hv
 case sl0 s' cap a hk =>
  split at hv
  ·simp only [Option.bind_eq_some_iff,Option.map_eq_some_iff] at hv
   obtain ⟨j,hj,e',he,rfl⟩:=hv
   simp at he
  ·cases hv
theorem goes_part {g:G} {h:Heap} {w:World} (s:Sim g h w) {t:TypeId} {ag:Option Nat} (ht:agOf P t = some ag) {cs:List V} {xs:Array Value} (hx:xs.size = cs.length)
  (hc:∀ i c,cs[i]? = some c → VRel g w c (xs.getD i undef)) {off:Nat} (hle:off + nAg ag ≤ cs.length) {v:V} (hv:packA ag ((cs.drop off).take (nAg ag)) = some v) :
  Goes P (part t xs off) g h w v h:=by
 cases ag with
 | some n =>
  simp only [packA,nAg,Option.some.injEq] at hv hle
  subst hv
  refine .still s (x:=.agg (xs.extract off (off + n))) ?_ (.agg _ _ (by simp; omega) (fun i c hi => ?_))
  ·simp [part,run_isAgg ht,run_sizeOf_ag ht]
  ·have hin:i < n:=by rcases Nat.lt_or_ge i n with k | k; exact k; simp [List.getElem?_take,Nat.not_lt.2 k] at hi
   rw [List.getElem?_take_of_lt hin,List.getElem?_drop] at hi
   have:=hc _ _ hi
   have e:(xs.extract off (off + n)).getD i undef = xs.getD (off + i) undef:=by
    simp only [Array.getD_eq_getD_getElem?,Array.getElem?_extract]
    congr 1
    split
    ·rfl
    ·omega
   rw [e]
   exact this
 | none =>
  simp only [packA,nAg] at hv hle
  obtain ⟨c,hcc⟩:∃ c,cs[off]? = some c:=⟨_,List.getElem?_eq_getElem (by omega)⟩
  have hv':v = c:=by
   rw [List.head?_take,if_neg (by omega),List.head?_drop,hcc] at hv
   cases hv; rfl
  subst hv'
  have:=hc _ _ hcc
  refine .still s (x:=xs.getD off undef) ?_ this
  have hlt:off < xs.size:=by omega
  simp [part,run_isAgg ht,Array.getD_eq_getD_getElem?,hlt]
theorem goes_field {g:G} {h:Heap} {w:World} (s:Sim g h w) {t:TypeId} {fs:Array Field} {f:Field} {i:Nat} (hu:P.underlying t = some (.struct fs)) (hf:fs[i]? = some f)
  {ag:Option Nat} (ht:agOf P f.type = some ag) {cs:List V} {x:Value} (hx:VRel g w (.agg cs) x) (hle:f.offset + nAg ag ≤ cs.length) {v:V} (hv:packA ag ((cs.drop f.offset).take (nAg ag)) = some v) :
  Goes P (Instr.field t x i) g h w v h:=by
 cases hx with
 | agg _ xs hx hc =>
  obtain ⟨g',w',y,hr,rest⟩:=goes_part (P:=P) s ht hx hc hle hv
  exact ⟨g',w',y,by simp [Instr.field,run_underlying hu,hf,asAgg,hr],rest⟩
theorem goes_indexA {g:G} {h:Heap} {w:World} (s:Sim g h w) {t e:TypeId} {n sz:Nat} (hu:P.underlying t = some (.array n e)) (hz:szOf P e = some sz)
  {ag:Option Nat} (ht:agOf P e = some ag) {cs:List V} {i:V} {x y:Value} (hx:VRel g w (.agg cs) x) (hi:VRel g w i y) {j:Nat} (hj:indexedI n i = some j)
  (hle:j * sz + nAg ag ≤ cs.length) {v:V} (hv:packA ag ((cs.drop (j * sz)).take (nAg ag)) = some v):Goes P (Instr.index t x y) g h w v h:=by
 obtain ⟨k,m,rfl,h0,h1,rfl⟩:=indexed_of hj
 cases hi
 cases hx with
 | agg _ xs hx hc =>
  obtain ⟨g',w',y,hr,rest⟩:=goes_part (P:=P) s ht hx hc hle hv
  exact ⟨g',w',y,by simp [Instr.index,asIntOf,run_underlying hu,h0,h1,run_sizeOf' hz,hr],rest⟩
theorem goes_indexStr {g:G} {h:Heap} {w:World} (s:Sim g h w) {t:TypeId} (hu:P.underlying t = some .string) {b:List UInt8} {i:V} {x y:Value} (hx:VRel g w (.str b) x) (hi:VRel g w i y)
  {j:Nat} (hj:indexedI b.length i = some j) {c:UInt8} (hc:b[j]? = some c):Goes P (Instr.index t x y) g h w (.int .u8 c.toNat) h:=by
 obtain ⟨k,m,rfl,h0,h1,rfl⟩:=indexed_of hj
 cases hi
 cases hx
 refine .still s ?_ (.int _ _)
 have:(⟨⟨b⟩⟩:ByteArray)[m.toNat]? = some c:=by
  have hlt:m.toNat < b.length:=by omega
  have e:(⟨⟨b⟩⟩:ByteArray)[m.toNat]? = (⟨b⟩:Array UInt8)[m.toNat]?:=by
   have h1:m.toNat < (⟨⟨b⟩⟩:ByteArray).size:=hlt
   have h2:m.toNat < (⟨b⟩:Array UInt8).size:=hlt
   rw [getElem?_pos (⟨⟨b⟩⟩:ByteArray) m.toNat h1,getElem?_pos (⟨b⟩:Array UInt8) m.toNat h2]
   rfl
  rw [e]
  simpa using hc
 simp [Instr.index,asIntOf,run_underlying hu,h0,this]
theorem goes_extract {g:G} {h:Heap} {w:World} (s:Sim g h w) {vs:List V} {x:Value} (hx:VRel g w (.tup vs) x) {i:Nat} {v:V} (hv:vs[i]? = some v):Goes P (Instr.extract x i) g h w v h:=by
 cases hx with
 | tup _ xs hx hc =>
  have hlt:i < xs.size:=by
   have:i < vs.length:=by rcases Nat.lt_or_ge i vs.length with k | k; exact k; simp [List.getElem?_eq_none k] at hv
   omega
  have:=hc _ _ hv
  refine .still s (x:=xs.getD i undef) ?_ this
  simp [Instr.extract,Array.getD_eq_getD_getElem?,hlt]
theorem lenA_rel {g:G} {w:World} {v:V} {x:Value} (hx:VRel g w v x) {n:Nat} (hn:lenA v = some n):(∃ a c,x = .slice a n c) ∨ ∃ s:List UInt8,x = .string ⟨⟨s⟩⟩ ∧ v = .str s ∧ s.length = n:=by
 cases hx <;> simp [lenA] at hn
 ·subst hn; exact .inr ⟨_,rfl,rfl,rfl⟩
 ·subst hn; exact .inl ⟨_,_,rfl⟩
 ·subst hn; exact .inl ⟨_,_,rfl⟩
 ·subst hn; exact .inl ⟨_,_,rfl⟩
 ·subst hn; exact .inl ⟨_,_,rfl⟩
 ·subst hn; exact .inl ⟨_,_,rfl⟩
theorem goes_lenS {g:G} {h:Heap} {w:World} (s:Sim g h w) {t e:TypeId} {tt:TypeId} (hu:P.underlying t = some (.slice e)) {v:V} {x:Value} (hx:VRel g w v x) (hns:∀ b,v ≠ .str b) {n:Nat} (hn:lenA v = some n) :
  Goes P (Builtin.len_ #[t] tt #[x]) g h w (.int .i64 n) h:=by
 rcases lenA_rel hx hn with ⟨a,c,rfl⟩ | ⟨b,-,rfl,-⟩
 ·exact .still s (by simp [Builtin.len_,run_underlying hu,goInt]) (.int _ _)
 ·exact absurd rfl (hns b)
theorem goes_lenStr {g:G} {h:Heap} {w:World} (s:Sim g h w) {t:TypeId} {tt:TypeId} (hu:P.underlying t = some .string) {b:List UInt8} {x:Value} (hx:VRel g w (.str b) x) :
  Goes P (Builtin.len_ #[t] tt #[x]) g h w (.int .i64 b.length) h:=by
 cases hx
 refine .still s (x:=.int .i64 (⟨⟨b⟩⟩:ByteArray).size) ?_ (.int _ _)
 simp [Builtin.len_,run_underlying hu,goInt]
theorem goes_lenK {g:G} {h:Heap} {w:World} (s:Sim g h w) {t e:TypeId} {tt:TypeId} {n:Nat} (hu:P.underlying t = some (.array n e) ∨ ∃ t',P.underlying t = some (.pointer t') ∧ P.underlying t' = some (.array n e)) (x:Value) :
  Goes P (Builtin.len_ #[t] tt #[x]) g h w (.int .i64 n) h:=by
 refine .still s ?_ (.int _ _)
 rcases hu with hu | ⟨t',hu,hu'⟩
 ·simp [Builtin.len_,run_underlying hu,goInt]
 ·simp [Builtin.len_,run_underlying hu,run_underlying hu',goInt]
end Go.Am


set_option linter.unusedVariables false
set_option linter.unusedSimpArgs false
namespace Go.Am
variable {P:Program}
theorem flat_get (s:Nat):∀ (L:List V),(∀ e ∈ L,e.cells.length = s) → (L.flatMap V.cells).length = L.length * s ∧ ∀ (k:Nat) (c:V),(L.flatMap V.cells)[k]? = some c → ∃ i j e,k = i * s + j ∧ j < s ∧ L[i]? = some e ∧ e.cells[j]? = some c
 | [],_ => by simp
 | e :: L,h => by
  obtain ⟨h1,h2⟩:=flat_get s L (fun x hx => h x (by simp [hx]))
  have he:=h e (by simp)
  refine ⟨by simp only [List.flatMap_cons,List.length_append,he,h1,List.length_cons,Nat.add_mul,Nat.one_mul]; omega,fun k c hk => ?_⟩
  rw [List.flatMap_cons] at hk
  rcases Nat.lt_or_ge k s with hlt | hge
  ·rw [List.getElem?_append_left (by omega)] at hk
   exact ⟨0,k,e,by omega,hlt,rfl,hk⟩
  ·rw [List.getElem?_append_right (by omega),he] at hk
   obtain ⟨i,j,e',hij,hj,hi,hc⟩:=h2 _ _ hk
   exact ⟨i + 1,j,e',by rw [Nat.add_mul,Nat.one_mul]; omega,hj,by simpa using hi,hc⟩
theorem sl_cells {g:G} {w:World} {L:List V} {s b off:Nat} {f:Nat → Value} (hz:∀ (i:Nat) (e:V),L[i]? = some e → e.cells.length = s)
  (hc:∀ j,j < L.length * s → w.cell? (at_ b (off + j)) = some (f j)) (hv:∀ (i:Nat) (e:V) (j:Nat) (x:V),L[i]? = some e → e.cells[j]? = some x → VRel g w x (f (i * s + j)))
  {n:Nat} (hn:n ≤ L.length):∃ xs:List Value,xs.length = n * s ∧ (∀ j y,xs[j]? = some y → w.cell? (at_ b (off + j)) = some y) ∧ Cells g w ((L.take n).flatMap V.cells) xs ∧ ((L.take n).flatMap V.cells).length = n * s:=by
 have hall:∀ e ∈ L.take n,e.cells.length = s:=fun e he => by
  obtain ⟨i,hi,rfl⟩:=List.getElem_of_mem (List.mem_of_mem_take he)
  exact hz i _ (List.getElem?_eq_getElem hi)
 obtain ⟨h1,h2⟩:=flat_get s (L.take n) hall
 have hlen:((L.take n).flatMap V.cells).length = n * s:=by rw [h1,List.length_take,Nat.min_eq_left hn]
 have hmul:n * s ≤ L.length * s:=Nat.mul_le_mul_right _ hn
 refine ⟨(List.range (n * s)).map f,by simp,fun j y hy => ?_,⟨by rw [hlen]; simp,fun i c y hc' hy => ?_⟩,hlen⟩
 ·rcases Nat.lt_or_ge j (n * s) with hj | hj
  ·rw [List.getElem?_map,List.getElem?_range hj] at hy
   simp at hy
   subst hy
   exact hc j (by omega)
  ·rw [List.getElem?_eq_none (by simpa using hj)] at hy
   cases hy
 ·rcases Nat.lt_or_ge i (n * s) with hj | hj
  ·rw [List.getElem?_map,List.getElem?_range hj] at hy
   simp at hy
   subst hy
   obtain ⟨i',j,e,rfl,hj',hi',hcc⟩:=h2 _ _ hc'
   have:L[i']? = some e:=by
    rw [List.getElem?_take] at hi'
    split at hi'
    ·exact hi'
    ·cases hi'
   exact hv _ _ _ _ this hcc
  ·rw [List.getElem?_eq_none (by simpa using hj)] at hy
   cases hy
theorem goes_first {g:G} {h:Heap} {w:World} (s:Sim g h w) {sz n:Nat} {y:V} {x:Value} (hx:VRel g w y x) {cs:List V} (hf:firstA (fun o => h[o]?) sz n y = some cs) :
  ∃ xs:List Value,(∀ d:Nat,(Builtin.firstCells sz n x).run P { w with drawn:=d } = .ok xs.toArray { w with drawn:=d }) ∧ Cells g w cs xs ∧ xs.length = n * sz ∧ cs.length = n * sz:=by
 cases hx <;> simp only [firstA,reduceCtorEq] at hf
 case nils =>
  split at hf
  ·rename_i h0; subst h0
   cases hf
   exact ⟨[],fun d => by simp [Builtin.firstCells],⟨rfl,by simp⟩,by simp,by simp⟩
  ·cases hf
 case vend o ver s' b base x c m e hg hs' hn =>
  split at hf
  ·split at hf
   ·rename_i h0; subst h0
    cases hf
    exact ⟨[],fun d => by simp [Builtin.firstCells,loadCells,loadCellsFrom],⟨rfl,by simp⟩,by simp,by simp⟩
   ·cases hf
  ·cases hf
 case view o ver off len s' cap b base c m e hg hl hk hs' hn =>
  split at hf
  ·split at hf
   ·obtain ⟨b',off',xs,he,h1,h2,h3,h4⟩:=goes_loads s (.ptr o ver off b base hg) hf
    cases he
    exact ⟨xs,fun d => by simp only [Builtin.firstCells]; exact run_loads (w:={ w with drawn:=d }) h1 h3,h4,h1,h2⟩
   ·cases hf
  ·cases hf
 case sl L s' cap b off c f hi hl hk hz hc hv =>
  split at hf
  ·rename_i hs; subst hs
   split at hf
   ·rename_i hle
    cases hf
    obtain ⟨xs,h1,h2,h3,h4⟩:=sl_cells hz hc hv hle
    exact ⟨xs,fun d => by simp only [Builtin.firstCells]; exact run_loads (w:={ w with drawn:=d }) h1 h2,h3,h1,h4⟩
   ·cases hf
  ·cases hf
 case sl0 s' cap a hk =>
  split at hf
  ·split at hf
   ·rename_i hle
    have h0:n = 0:=by simpa using hle
    subst h0
    cases hf
    exact ⟨[],fun d => by simp [Builtin.firstCells,loadCells,loadCellsFrom],⟨rfl,by simp⟩,by simp,by simp⟩
   ·cases hf
  ·cases hf
 case str b =>
  split at hf
  ·rename_i hs; subst hs
   split at hf
   ·rename_i hle
    cases hf
    refine ⟨(b.take n).map fun c => .int .u8 c.toNat,?_,⟨by simp,fun i c y h1 h2 => ?_⟩,by simp [Nat.min_eq_left hle],by simp [Nat.min_eq_left hle]⟩
    ·intro d
     simp only [Builtin.firstCells,Sem.run_pure]
     congr 1
     apply Array.ext'
     have:((⟨⟨b⟩⟩:ByteArray).extract 0 n).data.toList = b.take n:=by
      simp [ByteArray.data_extract]
     simp [this]
    ·simp only [List.getElem?_map,Option.map_eq_some_iff] at h1 h2
     obtain ⟨a,ha,rfl⟩:=h1
     obtain ⟨a',ha',rfl⟩:=h2
     rw [ha] at ha'
     cases ha'
     exact .int _ _
   ·cases hf
  ·cases hf
theorem lenOf_rel {g:G} {w:World} {v:V} {x:Value} (hx:VRel g w v x) {n:Nat} (hn:lenA v = some n) (w':World):(Builtin.lenOf x).run P w' = .ok n w':=by
 rcases lenA_rel hx hn with ⟨a,c,rfl⟩ | ⟨b,rfl,-,rfl⟩
 ·simp [Builtin.lenOf]
 ·simp only [Builtin.lenOf,Sem.run_pure]
  rfl
theorem growBy_le (need:Nat):∀ (r c:Nat),c < need → 256 ≤ c → Builtin.growBy need r c ≤ 3 * need
 | 0,c,h,_ => by simp [Builtin.growBy]; omega
 | r + 1,c,h,h2 => by
  rw [Builtin.growBy]
  split
  ·omega
  ·rcases Nat.lt_or_ge (c + (c + 768) / 4) need with h1 | h1
   ·exact growBy_le need r _ h1 (by omega)
   ·cases r with
    | zero => simp [Builtin.growBy]; omega
    | succ r => rw [Builtin.growBy,if_pos h1]; omega
theorem nextcap_le {need old:Nat} (h:old < need):Builtin.nextslicecap need old ≤ 3 * need:=by
 unfold Builtin.nextslicecap
 split
 ·omega
 ·split
  ·omega
  ·exact growBy_le need 4 old h (by omega)
structure ElemOk (P:Program) (st e:TypeId) (i:TypeInfo) (z:Value) (sz by':Nat) (zc:List V):Prop where
 slice:P.underlying st = some (.slice e)
 info:P.info? e = some i
 zv:i.zero = some z
 size:i.size = sz
 bytes:i.bytes = by'
 zcells:z.cells.size = sz
 pos:0 < by'
 spos:0 < sz
theorem Later.drew (g:G) (w:World):Later g w g w.drew:=⟨rfl,fun _ _ _ h => h,fun _ h => h,fun _ _ => rfl,fun _ _ h => h⟩
theorem Sim.drew' {g:G} {h:Heap} {w:World} (s:Sim g h w):Sim g h w.drew:=s.drew _
theorem src_of {g:G} {h:Heap} {w:World} (s:Sim g h w) {sz n:Nat} {y:V} {x:Value} (hx:VRel g w y x) {cs:List V} (hf:firstA (fun o => h[o]?) sz n y = some cs) (hn:lenA y = some n)
  (h1:cs.all V.oneCell = true) {tx:TypeId} (hk:(∃ e',P.underlying tx = some (.slice e')) ∨ P.underlying tx = some .string) :
  ∃ xs,Src P sz tx x n xs w ∧ Cells g w cs xs:=by
 obtain ⟨xs,r1,r2,r3,r4⟩:=goes_first (P:=P) s hx hf
 exact ⟨xs,⟨hk,fun w' => lenOf_rel hx hn w',r1 w.drawn,r1 _,r3,r2.oneCell h1⟩,r2⟩
theorem goes_append_none {g:G} {h:Heap} {w:World} (s:Sim g h w) {st xt e tt:TypeId} {i:TypeInfo} {z:Value} {sz by':Nat} {zc:List V} (ok:ElemOk P st e i z sz by' zc)
  {x:V} {a:Option Addr} {l c:Nat} (hx:VRel g w x (.slice a l c)) (hl:l ≤ c) {Y:Value} (src:Src P sz xt Y 0 [] w):Goes P (Builtin.append_ #[st,xt] tt #[.slice a l c,Y]) g h w x h :=
 .still s (run_append_nothing w st xt tt e i ok.slice ok.info a l c hl Y (by rw [ok.size]; exact src)) hx
theorem cells_append {g:G} {w:World} {cs ds:List V} {xs ys:List Value} (h1:Cells g w cs xs) (h2:Cells g w ds ys):Cells g w (cs ++ ds) (xs ++ ys):=by
 refine ⟨by simp [h1.1,h2.1],fun i c x hc hx => ?_⟩
 rcases Nat.lt_or_ge i cs.length with hlt | hge
 ·rw [List.getElem?_append_left hlt] at hc
  rw [List.getElem?_append_left (by have:=h1.1; omega)] at hx
  exact h1.2 i c x hc hx
 ·rw [List.getElem?_append_right hge] at hc
  rw [List.getElem?_append_right (by have:=h1.1; omega),h1.1] at hx
  exact h2.2 _ c x hc hx
theorem run_grow {w:World} {st xt e tt:TypeId} {i:TypeInfo} {z:Value} {sz by':Nat} {zc:List V} (ok:ElemOk P st e i z sz by' zc) {a:Option Addr} {l c n:Nat} {Y:Value} {news olds:List Value}
  (src:Src P sz xt Y n news w) (hold:(Builtin.firstCells sz l (.slice a l c)).run P w.drew = .ok olds.toArray w.drew) (hol:olds.length = l * sz) (hlt:c < l + n) (hroom:(l + n) * by' ≤ maxBytes) :
  ∃ C rest,l + n ≤ C ∧ (olds ++ news ++ rest).length = C * sz ∧ (Builtin.append_ #[st,xt] tt #[.slice a l c,Y]).run P w =
   .ok (.slice (some (at_ w.heap.size 0)) (l + n) C) { w with drawn:=w.drawn + 1,heap:=w.heap.push (.cells (olds ++ news ++ rest).toArray e) }:=by
 have hmb:maxBytes = 1099511627776:=rfl
 have hle:l + n ≤ (l + n) * by':=Nat.le_mul_of_pos_right _ ok.pos
 have hcap:Builtin.nextslicecap (l + n) c * by' ≤ 3 * ((l + n) * by'):=by
  rw [← Nat.mul_assoc]
  exact Nat.mul_le_mul_right _ (nextcap_le hlt)
 have hrun:=run_append_grow_src w st xt tt e i z ok.slice ok.info ok.zv a l c olds (by rw [ok.size]; exact hold) Y n news (by rw [ok.size]; exact src) hlt (by omega) (by rw [ok.bytes]; omega)
 have hC:l + n ≤ grownCap w (l + n) c e:=by
  simp only [grownCap,Question.cut]
  omega
 refine ⟨grownCap w (l + n) c e,(Builtin.zeroCells z.cells (grownCap w (l + n) c e - (l + n))).toList,hC,?_,?_⟩
 ·have hz:=ok.zcells
  have hn:=src.newsLen
  have:(Builtin.zeroCells z.cells (grownCap w (l + n) c e - (l + n))).toList.length = (grownCap w (l + n) c e - (l + n)) * sz:=by simp [Builtin.zeroCells,hz]
  simp only [List.length_append,this,hol,hn]
  rw [← Nat.add_mul,← Nat.add_mul]
  congr 1
  omega
 ·have harr:(olds ++ news).toArray ++ Builtin.zeroCells z.cells (grownCap w (l + n) c e - (l + n)) = (olds ++ news ++ (Builtin.zeroCells z.cells (grownCap w (l + n) c e - (l + n))).toList).toArray:=by
   apply Array.ext'
   simp
  rw [hrun,harr]
  rfl
theorem goes_append_new {g:G} {h:Heap} {w:World} (s:Sim g h w) {st xt e tt:TypeId} {i:TypeInfo} {z:Value} {sz by':Nat} {zc:List V} (ok:ElemOk P st e i z sz by' zc)
  {a:Option Addr} {l c n:Nat} {Y:Value} {new oc:List V} {news olds:List Value} (src:Src P sz xt Y n news w) (hnew:Cells g w new news)
  (hold:∀ d:Nat,(Builtin.firstCells sz l (.slice a l c)).run P { w with drawn:=d } = .ok olds.toArray { w with drawn:=d }) (holds:Cells g w oc olds) (hol:olds.length = l * sz) (hlt:c < l + n) (hroom:(l + n) * by' ≤ maxBytes)
  {o:Nat} {eff:Eff} (he:mkA (fun o => h[o]?) o (.arr (oc ++ new)) (fun v => .view o v 0 (l + n) sz none) = some eff):EffGoes P (Builtin.append_ #[st,xt] tt #[.slice a l c,Y]) g h w eff:=by
 obtain ⟨C,rest,hC,hlen,hrun⟩:=run_grow (tt:=tt) ok src (hold _) hol hlt hroom
 unfold mkA at he
 cases ho:h[o]? with
 | none => simp [ho] at he
 | some ob =>
  simp only [ho,Option.some.injEq] at he
  subst he
  have hcells:=(cells_append holds hnew).later (Later.drew g w)
  obtain ⟨h1,h2,h3,h4⟩:=sim_new s.drew' ho (.arr (oc ++ new)) (oc ++ new) (.inr rfl) (olds ++ news ++ rest).toArray e (fun j v hj => by
   have hlt':j < (olds ++ news).length:=by
    have:j < (oc ++ new).length:=by rcases Nat.lt_or_ge j (oc ++ new).length with k | k; exact k; simp [List.getElem?_eq_none k] at hj
    have:=hcells.1
    omega
   refine ⟨(olds ++ news)[j],?_,hcells.2 j v _ hj (List.getElem?_eq_getElem hlt')⟩
   rw [List.getElem?_toArray,List.getElem?_append_left hlt',List.getElem?_eq_getElem hlt'])
  refine ⟨_,_,_,hrun,h1,(Ext.drew g h w _).trans h2,?_⟩
  refine .view o _ 0 (l + n) sz none w.heap.size 0 C _ e h3 hC (fun _ hk => by cases hk) h4 (fun _ => ?_)
  simp only [List.size_toArray,hlen]
  omega
end Go.Am


set_option linter.unusedVariables false
set_option linter.unusedSimpArgs false
namespace Go.Am
variable {P:Program}
theorem goes_append_room {g:G} {h:Heap} {w:World} (s:Sim g h w) {st xt e tt:TypeId} {i:TypeInfo} {z:Value} {sz by':Nat} {zc:List V} (ok:ElemOk P st e i z sz by' zc)
  {o ver off len c n:Nat} {cap:Option Nat} {b base:Nat} {Y:Value} {new:List V} {news:List Value} (src:Src P sz xt Y n news w) (hnew:Cells g w new news)
  (hg:g.loc o ver = some (b,base)) (hk:∀ k,cap = some k → c = k) {N:Nat} (hs:w.shape? b = some (e,N) ∨ ∃ e',w.shape? b = some (e',N)) (hn:cap = none → base + off + c * sz = N) (hroom:len + n ≤ c)
  {eff:Eff} (he:storeA (fun o => h[o]?) o ver (off + len * sz) new (.view o ver off (len + n) sz cap) = some eff) :
  EffGoes P (Builtin.append_ #[st,xt] tt #[.slice (some (at_ b (base + off))) len c,Y]) g h w eff:=by
 obtain ⟨w',h',rfl,hrun,hs',hext⟩:=goes_storeA (P:=P) s he hg news hnew src.one
 obtain ⟨e',hs⟩:∃ e',w.shape? b = some (e',N):=by rcases hs with h | h; exact ⟨_,h⟩; exact h
 -- the world that the stores leave
 have hcs:∃ cs,cellsAt (fun o => h[o]?) o ver = some cs ∧ off + len * sz + new.length ≤ cs.length:=by
  unfold storeA at he
  split at he
  ·rename_i cs x hc hx
   split at he
   ·exact ⟨cs,hc,by assumption⟩
   ·cases he
  ·cases he
 obtain ⟨cs,hc,hle⟩:=hcs
 obtain ⟨x,b',base',-,-,-,hg',-,-,-,hfz,hlies⟩:=sim_cells s hc
 rw [hg] at hg'
 cases hg'
 have hcell:∀ j,j < news.length → ∃ y,w.cell? ⟨b,base + off + len * sz + j,none⟩ = some y:=by
  intro j hj
  obtain ⟨y,hy,-⟩:=hlies (off + len * sz + j) _ (List.getElem?_eq_getElem (by have:=hnew.1; omega))
  exact ⟨y,by rw [show base + off + len * sz + j = base + (off + len * sz + j) by omega]; exact hy⟩
 have hrun2:=run_append_room_src w st xt tt e i ok.slice ok.info b (base + off) len c Y n news (by rw [ok.size]; exact src) hroom
  (fun j hj => by rw [ok.size]; obtain ⟨y,hy⟩:=hcell j hj; rw [hy]; rfl)
  (fun j hj => by
   rw [ok.size]
   obtain ⟨y,hy⟩:=hcell j hj
   cases hf:w.frozen? ⟨b,base + off + len * sz + j,none⟩ with
   | false => rfl
   | true => exact absurd hy (hfz.1 _ hf y))
 rw [ok.size] at hrun2
 have hst:=run_storeCells_cells (P:=P) b (base + (off + len * sz)) news 0 w (fun j hj => by
   obtain ⟨y,hy⟩:=hcell j hj
   rw [show base + (off + len * sz) + 0 + j = base + off + len * sz + j by omega,hy]; rfl)
  (fun j hj => by
   obtain ⟨y,hy⟩:=hcell j hj
   rw [show base + (off + len * sz) + 0 + j = base + off + len * sz + j by omega]
   cases hf:w.frozen? ⟨b,base + off + len * sz + j,none⟩ with
   | false => rfl
   | true => exact absurd hy (hfz.1 _ hf y)) src.one
 have hw:w' = w.setCells b (base + off + len * sz) news:=by
  have:=hrun.symm.trans hst
  simp only [Result.ok.injEq,true_and] at this
  rw [this,show base + (off + len * sz) + 0 = base + off + len * sz by omega]
 rw [← hw] at hrun2
 refine ⟨_,w',_,hrun2,hs',hext,?_⟩
 exact .view o ver off (len + n) sz cap b base c N e' (hext.loc _ _ _ hg) hroom hk (hext.shape _ _ hs) hn
theorem goes_renew {g:G} {h:Heap} {w:World} (s:Sim g h w) {o ver:Nat} {x:Ob} (hx:h[o]? = some x) (hver:x.ver = ver) {cs:List V} {xs:List Value} (hcells:Cells g w cs xs) (rest:List Value) (e:TypeId) (d:Nat) :
  Sim (g.put o (ver + 1) (w.heap.size,0)) (h.set o ⟨ver + 1,.arr cs⟩) { w with drawn:=d,heap:=w.heap.push (.cells (xs ++ rest).toArray e) } ∧
  Ext g h w (g.put o (ver + 1) (w.heap.size,0)) (h.set o ⟨ver + 1,.arr cs⟩) { w with drawn:=d,heap:=w.heap.push (.cells (xs ++ rest).toArray e) } ∧
  ({ w with drawn:=d,heap:=w.heap.push (.cells (xs ++ rest).toArray e) }:World).shape? w.heap.size = some (e,(xs ++ rest).length):=by
 have hL0:Later g w g { w with drawn:=d }:=⟨rfl,fun _ _ _ h => h,fun _ h => h,fun _ _ => rfl,fun _ _ h => h⟩
 have hc:=hcells.later hL0
 obtain ⟨h1,h2,h3,h4⟩:=sim_new (s.drew d) hx (.arr cs) cs (.inr rfl) (xs ++ rest).toArray e (fun j v hj => by
  have hlt:j < xs.length:=by
   have:j < cs.length:=by rcases Nat.lt_or_ge j cs.length with k | k; exact k; simp [List.getElem?_eq_none k] at hj
   have:=hc.1
   omega
  refine ⟨xs[j],?_,hc.2 j v _ hj (List.getElem?_eq_getElem hlt)⟩
  rw [List.getElem?_toArray,List.getElem?_append_left hlt,List.getElem?_eq_getElem hlt])
 rw [hver] at h1 h2 h3
 exact ⟨h1,(Ext.drew g h w d).trans h2,by simpa using h4⟩
theorem goes_append_end {g:G} {h:Heap} {w:World} (s:Sim g h w) {st xt e tt:TypeId} {i:TypeInfo} {z:Value} {sz by':Nat} {zc:List V} (ok:ElemOk P st e i z sz by' zc)
  {o ver c n:Nat} {b base p:Nat} {Y:Value} {new cs:List V} {news:List Value} (src:Src P sz xt Y n news w) (hnew:Cells g w new news)
  (hg:g.loc o ver = some (b,base)) {N:Nat} {e':TypeId} (hs:w.shape? b = some (e',N)) (hn':c = 0 ∨ p + c * sz = N) (hn0:n ≠ 0)
  (hc:cellsAt (fun o => h[o]?) o ver = some cs) (hroom:n * by' ≤ maxBytes) :
  EffGoes P (Builtin.append_ #[st,xt] tt #[.slice (some (at_ b p)) 0 c,Y]) g h w (.set o ⟨ver + 1,.arr new⟩ (.view o (ver + 1) 0 n sz none)):=by
 obtain ⟨x,b',base',hx,hver,hbd,hg',hblk,hlt,-,hfz,hlies⟩:=sim_cells s hc
 rw [hg] at hg'
 cases hg'
 have hfresh:g.loc o (ver + 1) = none:=by
  cases hq:g.loc o (ver + 1) with
  | none => rfl
  | some bb =>
   obtain ⟨y,hy,hty⟩:=s.loclt _ _ _ hq
   rw [hx] at hy
   cases hy
   omega
 have hnl:=src.newsLen
 rcases Nat.lt_or_ge c (0 + n) with hlt' | hfit
 ·obtain ⟨C,rest,hC,hlen,hrun⟩:=run_grow (tt:=tt) (a:=some (at_ b p)) (l:=0) (c:=c) (olds:=[]) ok src (by simp [Builtin.firstCells,loadCells,loadCellsFrom]) (by simp) hlt' (by simpa using hroom)
  obtain ⟨q1,q2,q3⟩:=goes_renew s hx hver hnew rest e (w.drawn + 1)
  refine ⟨_,_,_,by simpa using hrun,q1,q2,?_⟩
  rw [Nat.zero_add] at hC
  refine .view o _ 0 n sz none w.heap.size 0 C _ e (by simp [G.put]) hC (fun _ hk => by cases hk) q3 (fun _ => ?_)
  simp only [List.nil_append] at hlen
  rw [hlen]
  omega
 ·have hn:p + c * sz = N:=hn'.resolve_left (by omega)
  have hcN:p + n * sz ≤ N:=by
   have:n * sz ≤ c * sz:=Nat.mul_le_mul_right _ (by omega)
   omega
  have hcell:∀ j,j < news.length → ∃ y,w.cell? ⟨b,p + 0 * sz + j,none⟩ = some y:=fun j hj => cell_of_shape hs (by omega)
  have hnf:∀ j,j < news.length → w.frozen? ⟨b,p + 0 * sz + j,none⟩ = false:=fun j hj => by
   obtain ⟨y,hy⟩:=hcell j hj
   cases hf:w.frozen? ⟨b,p + 0 * sz + j,none⟩ with
   | false => rfl
   | true => exact absurd hy (hfz.1 _ hf y)
  have hrun:=run_append_room_src w st xt tt e i ok.slice ok.info b p 0 c Y n news (by rw [ok.size]; exact src) hfit
   (fun j hj => by rw [ok.size]; obtain ⟨y,hy⟩:=hcell j hj; rw [hy]; rfl) (fun j hj => by rw [ok.size]; exact hnf j hj)
  rw [ok.size] at hrun
  simp only [Nat.zero_mul,Nat.add_zero,Nat.zero_add] at hrun hcell hnf
  have himm:¬ g.imm b:=s.imm o b hblk
  have hL:Later g w (g.put o (ver + 1) (b,p)) (w.setCells b p news):=by
   refine ⟨rfl,fun o' t bb hq => ?_,fun _ h => h,fun k hk => setCells_other b news _ w k (fun e => himm (e ▸ hk)),fun k y hk => by rw [setCells_shape]; exact hk⟩
   simp only [G.put]
   split
   ·rename_i he
    obtain ⟨rfl,rfl⟩:=he
    rw [hfresh] at hq
    cases hq
   ·exact hq
  have hin:=World.cell?_setCells_in b news p w (fun j hj => by obtain ⟨y,hy⟩:=hcell j hj; rw [hy]; rfl)
  have hrel:BdRel (g.put o (ver + 1) (b,p)) (w.setCells b p news) b p (.arr new):=by
   refine ⟨⟨e',N,by rw [setCells_shape]; exact hs⟩,hfz.setCells hs news p,fun j v hj => ?_⟩
   ·have hjn:j < news.length:=by
     have:j < new.length:=by rcases Nat.lt_or_ge j new.length with k | k; exact k; simp [List.getElem?_eq_none k] at hj
     have:=hnew.1
     omega
    exact ⟨_,hin j hjn,(hnew.2 _ _ _ hj (List.getElem?_eq_getElem hjn)).later hL⟩
  have hrest:=setCells_rest b news p w
  have:=sim_set s (x':=⟨ver + 1,.arr new⟩) (b:=b) (base:=p) hx (by simp; omega) rfl (fun bb hq => by rw [hfresh] at hq; cases hq) (.inr hblk) (by rw [setCells_size]; exact hlt)
   (by rw [setCells_size]; exact Nat.le_refl _) (fun k y hk => by rw [setCells_shape]; exact hk) (fun k _ hk => setCells_other b news _ w k hk) hrest.1 hrest.2.1 hrest.2.2 hrel
  refine ⟨_,_,_,hrun,this.1,this.2,?_⟩
  have hv:=VRel.view (g:=g.put o (ver + 1) (b,p)) (w:=w.setCells b p news) o (ver + 1) 0 n sz none b p c N e' (by simp [G.put]) (by omega) (fun _ hk => by cases hk) (by rw [setCells_shape]; exact hs) (fun _ => by omega)
  simpa using hv
theorem goes_append_grow {g:G} {h:Heap} {w:World} (s:Sim g h w) {st xt e tt:TypeId} {i:TypeInfo} {z:Value} {sz by':Nat} {zc:List V} (ok:ElemOk P st e i z sz by' zc)
  {o ver off len c n:Nat} {b base:Nat} {Y:Value} {new cs:List V} {news:List Value} (src:Src P sz xt Y n news w) (hnew:Cells g w new news)
  (hg:g.loc o ver = some (b,base)) {N:Nat} {e':TypeId} (hs:w.shape? b = some (e',N)) (hn:base + off + c * sz = N) (hlc:len ≤ c)
  (hc:cellsAt (fun o => h[o]?) o ver = some cs) (hfront:off + len * sz = cs.length) (hroom:(len + n) * by' ≤ maxBytes) :
  EffGoes P (Builtin.append_ #[st,xt] tt #[.slice (some (at_ b (base + off))) len c,Y]) g h w (.set o ⟨ver + 1,.arr (cs.drop off ++ new)⟩ (.view o (ver + 1) 0 (len + n) sz none)):=by
 obtain ⟨x,b',base',hx,hver,hbd,hg',hblk,hlt,-,hfz,hlies⟩:=sim_cells s hc
 rw [hg] at hg'
 cases hg'
 have hfresh:g.loc o (ver + 1) = none:=by
  cases hq:g.loc o (ver + 1) with
  | none => rfl
  | some bb =>
   obtain ⟨y,hy,hty⟩:=s.loclt _ _ _ hq
   rw [hx] at hy
   cases hy
   omega
 have hnl:=src.newsLen
 have hdl:(cs.drop off).length = len * sz:=by simp; omega
 rcases Nat.lt_or_ge c (len + n) with hlt' | hfit
 ·-- a new row
  have hload:loadA (fun o => h[o]?) (len * sz) (.ptr o ver off) = some ((cs.drop off).take (len * sz)):=by simp [loadA,hc]; omega
  obtain ⟨b1,o1,olds,he1,l1,l2,l3,l4⟩:=goes_loads s (.ptr o ver off b base hg) hload
  cases he1
  have htake:(cs.drop off).take (len * sz) = cs.drop off:=by rw [← hdl,List.take_length]
  rw [htake] at l4
  obtain ⟨C,rest,hC,hlen,hrun⟩:=run_grow (tt:=tt) (a:=some (at_ b (base + off))) (c:=c) ok src (by simp only [Builtin.firstCells]; exact run_loads (w:=w.drew) l1 l3) l1 hlt' hroom
  have hcells:=(cells_append l4 hnew).later (Later.drew g w)
  have s':=s.drew (w.drawn + 1)
  have hnewb:({ w with drawn:=w.drawn + 1,heap:=w.heap.push (.cells (olds ++ news ++ rest).toArray e) }:World).heap[w.heap.size]? = some (.cells (olds ++ news ++ rest).toArray e):=by simp
  have hshape:({ w with drawn:=w.drawn + 1,heap:=w.heap.push (.cells (olds ++ news ++ rest).toArray e) }:World).shape? w.heap.size = some (e,(olds ++ news ++ rest).toArray.size):=by simp only [World.shape?,hnewb]
  have hframe:∀ k,k < w.heap.size → k ≠ w.heap.size → ({ w with drawn:=w.drawn + 1,heap:=w.heap.push (.cells (olds ++ news ++ rest).toArray e) }:World).heap[k]? = w.heap[k]?:=fun k hk _ => by
   show (w.heap.push _)[k]? = w.heap[k]?
   rw [Array.getElem?_push,if_neg (by omega)]
  have hL:Later g { w with drawn:=w.drawn + 1 } (g.put o (ver + 1) (w.heap.size,0)) { w with drawn:=w.drawn + 1,heap:=w.heap.push (.cells (olds ++ news ++ rest).toArray e) }:=by
   refine ⟨rfl,fun o' t bb hq => ?_,fun _ h => h,fun k hk => hframe k (s.immlt k hk) (by have:=s.immlt k hk; omega),fun k y hk => shape_push _ k y hk⟩
   simp only [G.put]
   split
   ·rename_i he
    obtain ⟨rfl,rfl⟩:=he
    rw [hfresh] at hq
    cases hq
   ·exact hq
  have hrel:BdRel (g.put o (ver + 1) (w.heap.size,0)) { w with drawn:=w.drawn + 1,heap:=w.heap.push (.cells (olds ++ news ++ rest).toArray e) } w.heap.size 0 (.arr (cs.drop off ++ new)):=by
   refine ⟨⟨_,_,hshape⟩,⟨fun j hj => ?_,fun lo hi hf => ?_⟩,fun j v hj => ?_⟩
   ·simp [World.frozen?,hnewb] at hj
   ·simp [fr?,hnewb] at hf; omega
   ·have hlt2:j < (olds ++ news).length:=by
     have:j < (cs.drop off ++ new).length:=by rcases Nat.lt_or_ge j (cs.drop off ++ new).length with k | k; exact k; simp [List.getElem?_eq_none k] at hj
     have:=hcells.1
     omega
    refine ⟨(olds ++ news)[j],?_,(hcells.2 j v _ hj (List.getElem?_eq_getElem hlt2)).later hL⟩
    simp only [World.cell?,hnewb,Option.isSome_none,Bool.false_eq_true,if_false,Nat.zero_add]
    rw [List.getElem?_toArray,List.getElem?_append_left hlt2,List.getElem?_eq_getElem hlt2]
  have:=sim_set s' (x':=⟨ver + 1,.arr (cs.drop off ++ new)⟩) (b:=w.heap.size) (base:=0) hx (by simp; omega) rfl (fun bb hq => by rw [hfresh] at hq; cases hq) (.inl (Nat.le_refl _)) (by simp) (by simp)
   (fun k y hk => shape_push _ k y hk) hframe rfl rfl rfl hrel
  refine ⟨_,_,_,hrun,this.1,(Ext.drew g h w _).trans this.2,?_⟩
  refine .view o _ 0 (len + n) sz none w.heap.size 0 C _ e (by simp [G.put]) hC (fun _ hk => by cases hk) hshape (fun _ => ?_)
  simp only [List.size_toArray,hlen]
  omega
 ·-- in its own place
  have hcN:base + cs.length + n * sz ≤ N:=by
   have:(len + n) * sz ≤ c * sz:=Nat.mul_le_mul_right _ hfit
   rw [Nat.add_mul] at this
   omega
  have hcell:∀ j,j < news.length → ∃ y,w.cell? ⟨b,base + off + len * sz + j,none⟩ = some y:=fun j hj => cell_of_shape hs (by omega)
  have hnf:∀ j,j < news.length → w.frozen? ⟨b,base + off + len * sz + j,none⟩ = false:=fun j hj => by
   obtain ⟨y,hy⟩:=hcell j hj
   cases hf:w.frozen? ⟨b,base + off + len * sz + j,none⟩ with
   | false => rfl
   | true => exact absurd hy (hfz.1 _ hf y)
  have hrun:=run_append_room_src w st xt tt e i ok.slice ok.info b (base + off) len c Y n news (by rw [ok.size]; exact src) hfit
   (fun j hj => by rw [ok.size]; obtain ⟨y,hy⟩:=hcell j hj; rw [hy]; rfl) (fun j hj => by rw [ok.size]; exact hnf j hj)
  rw [ok.size] at hrun
  have hlive:x.bd.lives = true:=by rcases hbd with e | e <;> rw [e] <;> rfl
  have himm:¬ g.imm b:=s.imm o b hblk
  have hL:Later g w (g.put o (ver + 1) (b,base + off)) (w.setCells b (base + off + len * sz) news):=by
   refine ⟨rfl,fun o' t bb hq => ?_,fun _ h => h,fun k hk => setCells_other b news _ w k (fun e => himm (e ▸ hk)),fun k y hk => by rw [setCells_shape]; exact hk⟩
   simp only [G.put]
   split
   ·rename_i he
    obtain ⟨rfl,rfl⟩:=he
    rw [hfresh] at hq
    cases hq
   ·exact hq
  have hin:=World.cell?_setCells_in b news (base + off + len * sz) w (fun j hj => by obtain ⟨y,hy⟩:=hcell j hj; rw [hy]; rfl)
  have hrel:BdRel (g.put o (ver + 1) (b,base + off)) (w.setCells b (base + off + len * sz) news) b (base + off) (.arr (cs.drop off ++ new)):=by
   refine ⟨⟨e',N,by rw [setCells_shape]; exact hs⟩,hfz.setCells hs news _,fun j v hj => ?_⟩
   ·rcases Nat.lt_or_ge j (len * sz) with hjl | hjl
    ·rw [List.getElem?_append_left (by omega),List.getElem?_drop] at hj
     obtain ⟨y,hy,hr⟩:=hlies _ _ hj
     refine ⟨y,?_,hr.later hL⟩
     rw [World.cell?_setCells_out b news _ w _ (fun _ _ => by simp; omega)]
     rw [show base + off + j = base + (off + j) by omega]
     exact hy
    ·rw [List.getElem?_append_right (by omega),hdl] at hj
     have hjn:j - len * sz < news.length:=by
      have:j - len * sz < new.length:=by rcases Nat.lt_or_ge (j - len * sz) new.length with k | k; exact k; simp [List.getElem?_eq_none k] at hj
      have:=hnew.1
      omega
     have h1:=hin (j - len * sz) hjn
     rw [show base + off + len * sz + (j - len * sz) = base + off + j by omega] at h1
     exact ⟨_,h1,(hnew.2 _ _ _ hj (List.getElem?_eq_getElem hjn)).later hL⟩
  have hrest:=setCells_rest b news (base + off + len * sz) w
  have:=sim_set s (x':=⟨ver + 1,.arr (cs.drop off ++ new)⟩) (b:=b) (base:=base + off) hx (by simp; omega) rfl (fun bb hq => by rw [hfresh] at hq; cases hq) (.inr hblk) (by rw [setCells_size]; exact hlt)
   (by rw [setCells_size]; exact Nat.le_refl _) (fun k y hk => by rw [setCells_shape]; exact hk) (fun k _ hk => setCells_other b news _ w k hk) hrest.1 hrest.2.1 hrest.2.2 hrel
  refine ⟨_,_,_,hrun,this.1,this.2,?_⟩
  have:=VRel.view (g:=g.put o (ver + 1) (b,base + off)) (w:=w.setCells b (base + off + len * sz) news) o (ver + 1) 0 (len + n) sz none b (base + off) c N e' (by simp [G.put]) hfit (fun _ hk => by cases hk) (by rw [setCells_shape]; exact hs) (fun _ => by omega)
  simpa using this
theorem goes_append {g:G} {h:Heap} {w:World} (s:Sim g h w) {st xt e tt:TypeId} {i:TypeInfo} {z:Value} {sz by':Nat} {zc:List V} (ok:ElemOk P st e i z sz by' zc)
  (hk:(∃ e',P.underlying xt = some (.slice e')) ∨ P.underlying xt = some .string) {x y:V} {X Y:Value} (hx:VRel g w x X) (hy:VRel g w y Y) {o:Nat} {eff:Eff}
  (he:appendA (fun o => h[o]?) o sz by' x y = some eff):EffGoes P (Builtin.append_ #[st,xt] tt #[X,Y]) g h w eff:=by
 unfold appendA at he
 split at he
 ·cases he
 rename_i n hn
 split at he
 ·cases he
 rename_i new hf
 split at he
 case isFalse => cases he
 rename_i h1
 obtain ⟨news,src,hnew⟩:=src_of s hy hf hn h1 hk
 have hnone:n = 0 → news = []:=fun h0 => by have:=src.newsLen; rw [h0] at this; simpa using this
 cases hx <;> (try simp only [reduceCtorEq] at he)
 case nils =>
  split at he
  ·rename_i h0
   cases he
   have e0:=hnone h0
   subst h0; subst e0
   exact goes_append_none s ok .nils (Nat.le_refl _) src
  ·rename_i h0
   split at he
   ·rename_i hroom
    have:=goes_append_new (tt:=tt) s ok (a:=none) (l:=0) (c:=0) (oc:=[]) (olds:=[]) src hnew (fun d => by simp [Builtin.firstCells]) ⟨rfl,by simp⟩ (by simp) (by omega) (by simpa using hroom) (o:=o) (eff:=eff) (by simpa using he)
    exact this
   ·cases he
 case sl L s' cap b off c f hi hl hk' hz hc hv =>
  cases cap with
  | none => simp at he
  | some k =>
   have hck:=hk' k rfl
   subst hck
   simp only at he
   split at he
   case isFalse => cases he
   rename_i hs
   subst hs
   split at he
   ·rename_i h0
    cases he
    have e0:=hnone h0
    subst h0; subst e0
    exact goes_append_none s ok (.sl L s' (some c) b off c f hi hl hk' hz hc hv) hl src
   ·rename_i h0
    split at he
    case isFalse => cases he
    rename_i hlt
    split at he
    case isFalse => cases he
    rename_i hroom
    obtain ⟨olds,r1,r2,r3,r4⟩:=goes_first (P:=P) (sz:=s') (n:=L.length) s (.sl L s' (some c) b off c f hi hl hk' hz hc hv) (cs:=L.flatMap V.cells) (by simp [firstA])
    exact goes_append_new s ok src hnew r1 r2 r3 hlt hroom he
 case sl0 s' cap a hk' =>
  cases cap with
  | none => simp at he
  | some k =>
   have hck:=hk' k rfl
   subst hck
   simp only at he
   split at he
   case isFalse => cases he
   rename_i hs
   subst hs
   split at he
   ·rename_i h0
    cases he
    have e0:=hnone h0
    subst h0; subst e0
    exact goes_append_none s ok (.sl0 s' (some 0) a hk') (Nat.le_refl _) src
   ·rename_i h0
    split at he
    case isFalse => cases he
    rename_i hlt
    split at he
    case isFalse => cases he
    rename_i hroom
    obtain ⟨olds,r1,r2,r3,r4⟩:=goes_first (P:=P) (sz:=s') (n:=0) s (.sl0 s' (some 0) a hk') (cs:=[]) (by simp [firstA])
    exact goes_append_new s ok src hnew r1 r2 r3 hlt hroom he
 case vend o' ver s' b base x c N e' hg hs' hN =>
  split at he
  case isFalse => cases he
  rename_i hs
  subst hs
  split at he
  ·cases he
  rename_i cs hc
  split at he
  ·rename_i h0
   cases he
   have e0:=hnone h0
   subst h0; subst e0
   exact goes_append_none s ok (.vend o' ver s' b base x c N e' hg hs' hN) (Nat.zero_le _) src
  rename_i h0
  split at he
  case isFalse => cases he
  rename_i hroom
  cases he
  exact goes_append_end s ok src hnew hg hs' hN h0 hc hroom
 case view o' ver off len s' cap b base c N e' hg hl hk' hs' hN =>
  split at he
  case isFalse => cases he
  rename_i hs
  subst hs
  split at he
  ·cases he
  rename_i cs hc
  split at he
  ·rename_i h0
   cases he
   have e0:=hnone h0
   subst h0; subst e0
   exact goes_append_none s ok (.view o' ver off len s' cap b base c N e' hg hl hk' hs' hN) hl src
  rename_i h0
  split at he
  case isFalse => cases he
  rename_i hle
  cases cap with
  | some k =>
   have hck:=hk' k rfl
   subst hck
   simp only at he
   split at he
   ·rename_i hroom
    exact goes_append_room s ok src hnew hg hk' (.inr ⟨_,hs'⟩) hN hroom he
   ·rename_i hroom
    split at he
    case isFalse => cases he
    rename_i hroom2
    have hload:loadA (fun o => h[o]?) (len * s') (.ptr o' ver off) = some ((cs.drop off).take (len * s')):=by simp [loadA,hc]; omega
    obtain ⟨olds,r1,r2,r3,r4⟩:=goes_first (P:=P) (sz:=s') (n:=len) s (.view o' ver off len s' (some c) b base c N e' hg hl hk' hs' hN) (cs:=(cs.drop off).take (len * s')) (by simp [firstA,hload])
    exact goes_append_new s ok src hnew r1 r2 r3 (by omega) hroom2 he
  | none =>
   simp only at he
   split at he
   ·rename_i hfront
    split at he
    case isFalse => cases he
    rename_i hroom
    cases he
    exact goes_append_grow s ok src hnew hg hs' (hN rfl) hl hc hfront hroom
   ·rename_i hfront
    have hle2:off + len * s' + new.length ≤ cs.length:=by
     unfold storeA at he
     split at he
     ·rename_i cs' x hc' hx
      rw [hc] at hc'
      cases hc'
      split at he
      ·assumption
      ·cases he
     ·cases he
    have hroom:len + n ≤ c:=by
     obtain ⟨_,b',base',-,-,-,hg',-,-,-,-,hlies⟩:=sim_cells s hc
     rw [hg] at hg'
     cases hg'
     have hnl:=src.newsLen
     have hn1:=hnew.1
     have hsp:=ok.spos
     have hpos:0 < n * s':=Nat.mul_pos (by omega) hsp
     obtain ⟨y,hy,-⟩:=hlies (cs.length - 1) _ (List.getElem?_eq_getElem (by omega))
     have:=shape_of_cell hs' hy
     have hNN:=hN rfl
     have hmul:(len + n) * s' ≤ c * s':=by rw [Nat.add_mul]; omega
     exact Nat.le_of_mul_le_mul_right hmul hsp
    exact goes_append_room s ok src hnew hg hk' (.inr ⟨_,hs'⟩) hN hroom he
theorem goes_copy {g:G} {h:Heap} {w:World} (s:Sim g h w) {dt xt e tt:TypeId} {sz:Nat} (hu:P.underlying dt = some (.slice e)) (hz:szOf P e = some sz) {x y:V} {X Y:Value} (hx:VRel g w x X) (hy:VRel g w y Y) {eff:Eff}
  (he:copyA (fun o => h[o]?) sz x y = some eff):EffGoes P (Builtin.copy_ #[dt,xt] tt #[X,Y]) g h w eff:=by
 unfold copyA at he
 split at he
 case h_2 => cases he
 rename_i dl sl hdl hsl
 simp only at he
 split at he
 ·cases he
 rename_i new hf
 split at he
 case isFalse => cases he
 rename_i h1
 obtain ⟨news,r1,r2,r3,r4⟩:=goes_first (P:=P) s hy hf
 have r1':=r1 w.drawn
 have hlen:=lenOf_rel (P:=P) hy hsl w
 cases hx <;> (try simp only [reduceCtorEq] at he)
 case nils =>
  cases he
  simp [lenA] at hdl
  subst hdl
  refine Goes.still s ?_ (.int _ _)
  have r1'':(Builtin.firstCells sz (Nat.min sl 0) Y).run P w = .ok news.toArray w:=r1'
  simp [Builtin.copy_,run_underlying hu,hlen,run_sizeOf' hz,goInt] at r1'' ⊢
  simp [r1'']
 case vend o ver s' b base x c N e' hg hs' hN =>
  cases he
  simp [lenA] at hdl
  subst hdl
  refine Goes.still s ?_ (.int _ _)
  have hnil:news = []:=by have r3':news.length = Nat.min sl 0 * sz:=r3; simpa using r3'
  subst hnil
  have r1'':(Builtin.firstCells sz (Nat.min sl 0) Y).run P w = .ok #[] w:=r1'
  simp [Builtin.copy_,run_underlying hu,hlen,run_sizeOf' hz,goInt] at r1'' ⊢
  simp [r1'',storeCells]
 case view o ver off len s' cap b base c N e' hg hl hk hs' hN =>
  simp [lenA] at hdl
  subst hdl
  split at he
  case isFalse => cases he
  rename_i hs
  subst hs
  have r1'':(Builtin.firstCells s' (Nat.min sl len) Y).run P w = .ok news.toArray w:=r1'
  split at he
  ·rename_i h0
   cases he
   have hnil:news = []:=by rw [h0] at r3; simpa using r3
   subst hnil
   refine Goes.still s ?_ (.int _ _)
   rw [h0] at r1''
   have h0':min sl len = 0:=h0
   simp [Builtin.copy_,run_underlying hu,hlen,run_sizeOf' hz,goInt,h0',r1'',storeCells]
  ·obtain ⟨w',h',rfl,hrun,hs2,hext⟩:=goes_storeA (P:=P) s he hg news r2 (r2.oneCell h1)
   refine ⟨_,w',.int .i64 (Nat.min sl len:Nat),?_,hs2,hext,.int _ _⟩
   have r1''':(Builtin.firstCells s' (min sl len) Y).run P w = .ok news.toArray w:=r1''
   simp [Builtin.copy_,run_underlying hu,hlen,run_sizeOf' hz,goInt,r1''',hrun]
end Go.Am


set_option linter.unusedVariables false
set_option linter.unusedSimpArgs false
namespace Go.Am
variable {P:Program}
def OptRel (g:G) (w:World):Option V → Option Value → Prop
 | none,none => True
 | some v,some x => VRel g w v x
 | _,_ => False
theorem int_of {g:G} {w:World} {v:V} {x:Value} (h:VRel g w v x) {n:Int} (hn:intOf? v = some n):∃ k,x = .int k n:=by
 cases h <;> simp [intOf?] at hn
 subst hn
 exact ⟨_,rfl⟩
theorem run_bound {g:G} {w:World} {v:V} {x:Value} (h:VRel g w v x) {y i:Nat} (c:BoundsCode)
  (hv:((intOf? v).bind fun i => if 0 ≤ i then if i ≤ (y:Int) then some i.toNat else none else none) = some i) (w':World):(Instr.sliceBound x y c).run P w' = .ok i w':=by
 simp only [Option.bind_eq_some_iff] at hv
 obtain ⟨n,hn,h1⟩:=hv
 obtain ⟨k,rfl⟩:=int_of h hn
 split at h1
 ·split at h1
  ·rename_i h0 hy
   cases h1
   simp [Instr.sliceBound,asIntOf,h0,hy]
  ·cases h1
 ·cases h1
theorem run_bounds {g:G} {w:World} {lo hi mx:Option V} {lo' hi' mx':Option Value} (h1:OptRel g w lo lo') (h2:OptRel g w hi hi') (h3:OptRel g w mx mx') {len cap cap' l h m:Nat} (isS:Bool)
  (hb:boundsA len cap lo hi mx = some (l,h,m)) (hc:cap ≤ cap') (w':World):(Instr.sliceBounds isS len cap' lo' hi' mx').run P w' = .ok (l,h,if mx.isSome then m else cap') w' ∧ l ≤ h ∧ (hi.isSome ∨ h = len) ∧ h ≤ (if mx.isSome ∨ hi.isSome then cap else h) ∧
   (mx.isSome → h ≤ m ∧ m ≤ cap) ∧ (mx = none → m = cap):=by
 unfold boundsA at hb
 split at hb
 ·cases hb
 rename_i m' hm
 split at hb
 ·cases hb
 rename_i h' hh
 split at hb
 ·cases hb
 rename_i l' hl
 cases hb
 have widen:∀ {v:V} {i:Nat},((intOf? v).bind fun i => if 0 ≤ i then if i ≤ (cap:Int) then some i.toNat else none else none) = some i →
   ((intOf? v).bind fun i => if 0 ≤ i then if i ≤ (cap':Int) then some i.toNat else none else none) = some i:=by
  intro v i hv
  simp only [Option.bind_eq_some_iff] at hv ⊢
  obtain ⟨n,hn,hv⟩:=hv
  refine ⟨n,hn,?_⟩
  split at hv
  ·split at hv
   ·rename_i a b
    rw [if_pos a,if_pos (by omega)]
    exact hv
   ·cases hv
  ·cases hv
 have bnd:∀ {v:V} {y i:Nat},((intOf? v).bind fun i => if 0 ≤ i then if i ≤ (y:Int) then some i.toNat else none else none) = some i → i ≤ y:=by
  intro v y i hv
  simp only [Option.bind_eq_some_iff] at hv
  obtain ⟨n,hn,hv⟩:=hv
  split at hv
  ·split at hv
   ·cases hv; omega
   ·cases hv
  ·cases hv
 cases mx with
 | some vm =>
  cases mx' with
  | none => exact h3.elim
  | some xm =>
   simp only at hm
   have q1:=run_bound (P:=P) h3 (if isS then .slice3Acap else .slice3Alen) (widen hm) w'
   cases hi with
   | none => simp at hh
   | some vh =>
    cases hi' with
    | none => exact h2.elim
    | some xh =>
     simp only at hh
     have q2:=run_bound (P:=P) h2 .slice3B hh w'
     cases lo with
     | none =>
      cases lo' with
      | some x => exact h1.elim
      | none =>
       simp at hl
       subst hl
       refine ⟨?_,by omega,.inl rfl,?_,?_,by simp⟩
       ·simp [Instr.sliceBounds,q1,q2]
       ·have:=bnd hh; have:=bnd hm; simp; omega
       ·intro _; exact ⟨bnd hh,bnd hm⟩
     | some vl =>
      cases lo' with
      | none => exact h1.elim
      | some xl =>
       simp only at hl
       have q3:=run_bound (P:=P) h1 .slice3C hl w'
       refine ⟨?_,bnd hl,.inl rfl,?_,?_,by simp⟩
       ·simp [Instr.sliceBounds,q1,q2,q3]
       ·have:=bnd hh; have:=bnd hm; simp; omega
       ·intro _; exact ⟨bnd hh,bnd hm⟩
 | none =>
  cases mx' with
  | some x => exact h3.elim
  | none =>
   simp only [Option.some.injEq] at hm
   subst hm
   cases hi with
   | none =>
    cases hi' with
    | some x => exact h2.elim
    | none =>
     simp at hh
     subst hh
     cases lo with
     | none =>
      cases lo' with
      | some x => exact h1.elim
      | none =>
       simp at hl
       subst hl
       exact ⟨by simp [Instr.sliceBounds],by omega,.inr rfl,by simp,by simp,by simp⟩
     | some vl =>
      cases lo' with
      | none => exact h1.elim
      | some xl =>
       simp only at hl
       have q3:=run_bound (P:=P) h1 .sliceB hl w'
       exact ⟨by simp [Instr.sliceBounds,q3],bnd hl,.inr rfl,by simp,by simp,by simp⟩
   | some vh =>
    cases hi' with
    | none => exact h2.elim
    | some xh =>
     simp only at hh
     have q2:=run_bound (P:=P) h2 (if isS then .sliceAcap else .sliceAlen) (widen hh) w'
     cases lo with
     | none =>
      cases lo' with
      | some x => exact h1.elim
      | none =>
       simp at hl
       subst hl
       refine ⟨by simp [Instr.sliceBounds,q2],by omega,.inl rfl,by have:=bnd hh; simp; omega,by simp,by simp⟩
     | some vl =>
      cases lo' with
      | none => exact h1.elim
      | some xl =>
       simp only at hl
       have q3:=run_bound (P:=P) h1 .sliceB hl w'
       exact ⟨by simp [Instr.sliceBounds,q2,q3],bnd hl,.inl rfl,by have:=bnd hh; simp; omega,by simp,by simp⟩
theorem goes_slA {g:G} {h:Heap} {w:World} (s:Sim g h w) {t e:TypeId} {n sz:Nat} (hu:P.underlying t = some (.array n e)) (hz:szOf P e = some sz)
  {o ver off:Nat} {x:Value} (hp:VRel g w (.ptr o ver off) x) (hsh:∃ cs,cellsAt (fun o => h[o]?) o ver = some cs) {lo hi mx:Option V} {lo' hi' mx':Option Value} (h1:OptRel g w lo lo') (h2:OptRel g w hi hi') (h3:OptRel g w mx mx')
  {l k m:Nat} (hb:boundsA n n lo hi mx = some (l,k,m)):Goes P (Instr.sliceAt t x lo' hi' mx') g h w (.view o ver (if m = l then off else off + l * sz) (k - l) sz (some (m - l))) h:=by
 obtain ⟨hrun,hlk,hkl,hkc,hm1,hm2⟩:=run_bounds (P:=P) h1 h2 h3 false hb (Nat.le_refl _) w
 obtain ⟨cs,hc⟩:=hsh
 cases hp with
 | ptr _ _ _ b base hg =>
  obtain ⟨_,b',base',-,-,-,hg',-,-,⟨e',N,hs⟩,-,-⟩:=sim_cells s hc
  rw [hg] at hg'
  cases hg'
  have hmm:(if mx.isSome then m else n) = m:=by
   cases mx with
   | none => simp [hm2 rfl]
   | some v => simp
  rw [hmm] at hrun
  have hkm:k ≤ m:=by
   cases mx with
   | none =>
    have:=hm2 rfl
    rcases hkl with hh | hh
    ·simp [hh] at hkc; omega
    ·omega
   | some v => exact (hm1 rfl).1
  refine .still s (x:=.slice (some (if m = l then at_ b (base + off) else (at_ b (base + off)).add (l * sz))) (k - l) (m - l)) ?_ ?_
  ·simp [Instr.sliceAt,run_underlying hu,run_sureAddr,hrun,run_sizeOf' hz]
  ·rw [add_at]
   have:=VRel.view (g:=g) (w:=w) o ver (if m = l then off else off + l * sz) (k - l) sz (some (m - l)) b base (m - l) N e' hg (by omega) (fun _ hk => by cases hk; rfl) hs (fun hk => by cases hk)
   split
   ·rename_i hml; simpa [hml] using this
   ·rename_i hml; simpa [hml,Nat.add_assoc] using this
theorem goes_slStr {g:G} {h:Heap} {w:World} (s:Sim g h w) {t:TypeId} (hu:P.underlying t = some .string) {b:List UInt8} {x:Value} (hx:VRel g w (.str b) x) {lo hi:Option V} {lo' hi':Option Value} (h1:OptRel g w lo lo') (h2:OptRel g w hi hi')
  {l k m:Nat} (hb:boundsA b.length b.length lo hi none = some (l,k,m)):Goes P (Instr.sliceAt t x lo' hi' none) g h w (.str ((b.take k).drop l)) h:=by
 obtain ⟨hrun,-⟩:=run_bounds (P:=P) (mx:=none) (mx':=none) h1 h2 trivial false hb (Nat.le_refl _) w
 cases hx
 have hrun':(Instr.sliceBounds false (⟨⟨b⟩⟩:ByteArray).size (⟨⟨b⟩⟩:ByteArray).size lo' hi' none).run P w = .ok (l,k,b.length) w:=hrun
 have hex:(⟨⟨b⟩⟩:ByteArray).extract l k = ⟨⟨(b.take k).drop l⟩⟩:=by
  apply ByteArray.ext
  rw [ByteArray.data_extract]
  apply Array.ext'
  simp [List.extract,List.drop_take]
 refine .still s (x:=.string ⟨⟨(b.take k).drop l⟩⟩) ?_ (.str _)
 simp [Instr.sliceAt,run_underlying hu,Instr.slice,hrun',hex]
theorem run_slS {w:World} {t e:TypeId} {sz:Nat} (hu:P.underlying t = some (.slice e)) (hz:szOf P e = some sz) {a:Option Addr} {len cap:Nat} {lo' hi' mx':Option Value} {l k m:Nat}
  (hr:(Instr.sliceBounds true len cap lo' hi' mx').run P w = .ok (l,k,m) w):(Instr.sliceAt t (.slice a len cap) lo' hi' mx').run P w = .ok (.slice (if m = l then a else a.map (·.add (l * sz))) (k - l) (m - l)) w:=by
 simp [Instr.sliceAt,run_underlying hu,Instr.slice,hr,run_sizeOf' hz]
theorem drop_take_get (L:List V) (l k i:Nat) (e:V) (h:((L.take k).drop l)[i]? = some e):L[l + i]? = some e:=by
 rw [List.getElem?_drop,List.getElem?_take] at h
 split at h
 ·exact h
 ·cases h
theorem goes_slS {g:G} {h:Heap} {w:World} (s:Sim g h w) {t e:TypeId} {sz:Nat} (hu:P.underlying t = some (.slice e)) (hz:szOf P e = some sz) (hsp:0 < sz)
  {x v:V} {X:Value} (hx:VRel g w x X) {lo hi mx:Option V} {lo' hi' mx':Option Value} (h1:OptRel g w lo lo') (h2:OptRel g w hi hi') (h3:OptRel g w mx mx')
  (hv:sliceA (fun o => h[o]?) sz x lo hi mx = some v):Goes P (Instr.sliceAt t X lo' hi' mx') g h w v h:=by
 cases hx <;> (try simp only [sliceA,reduceCtorEq] at hv)
 case nils =>
  simp only [Option.map_eq_some_iff] at hv
  obtain ⟨⟨l,k,m⟩,hb,rfl⟩:=hv
  obtain ⟨hrun,hlk,hkl,hkc,hm1,hm2⟩:=run_bounds (P:=P) h1 h2 h3 true hb (Nat.le_refl _) w
  have hk0:k = 0:=by
   rcases hkl with hh | hh
   ·simp [hh] at hkc; omega
   ·exact hh
  have hm0:m = 0:=by
   cases mx with
   | none => exact hm2 rfl
   | some v => have:=(hm1 rfl).2; omega
  have hl0:l = 0:=by omega
  subst hk0; subst hm0; subst hl0
  have hrun':(Instr.sliceBounds true 0 0 lo' hi' mx').run P w = .ok (0,0,0) w:=by
   rw [hrun]; cases mx <;> rfl
  exact .still s (by simpa using run_slS (a:=none) hu hz hrun') .nils
 case view o ver off len s' cap b base c N e' hg hl hk hs' hN =>
  cases cap with
  | some c' =>
   have:=hk c' rfl
   subst this
   simp only [sliceA] at hv
   split at hv
   case isFalse => cases hv
   rename_i hs
   subst hs
   simp only [Option.map_eq_some_iff] at hv
   obtain ⟨⟨l,k,m⟩,hb,rfl⟩:=hv
   obtain ⟨hrun,hlk,hkl,hkc,hm1,hm2⟩:=run_bounds (P:=P) h1 h2 h3 true hb (Nat.le_refl _) w
   have hmm:(if mx.isSome then m else c) = m:=by
    cases mx with
    | none => simp [hm2 rfl]
    | some v => simp
   rw [hmm] at hrun
   have hkm:k ≤ m:=by
    cases mx with
    | none =>
     have:=hm2 rfl
     rcases hkl with hh | hh
     ·simp [hh] at hkc; omega
     ·omega
    | some v => exact (hm1 rfl).1
   refine .still s (run_slS (a:=some (at_ b (base + off))) hu hz hrun) ?_
   have:=VRel.view (g:=g) (w:=w) o ver (if m = l then off else off + l * s') (k - l) s' (some (m - l)) b base (m - l) N e' hg (by omega) (fun _ hk => by cases hk; rfl) hs' (fun hk => by cases hk)
   by_cases hml:m = l
   ·simp only [if_pos hml] at this ⊢; exact this
   ·simp only [if_neg hml,Option.map_some,add_at,Nat.add_assoc] at this ⊢; exact this
  | none =>
   simp only [sliceA] at hv
   split at hv
   case isFalse => cases hv
   rename_i hs
   subst hs
   split at hv
   case h_2 => cases hv
   rename_i cs hc
   obtain ⟨x,b',base',-,-,-,hg',-,-,-,hfz,hlies⟩:=sim_cells s hc
   rw [hg] at hg'
   cases hg'
   have hNN:=hN rfl
   have hcap:(cs.length - off) / s' ≤ c:=by
    rcases Nat.lt_or_ge off cs.length with hlt | hge
    ·obtain ⟨y,hy,-⟩:=hlies (cs.length - 1) _ (List.getElem?_eq_getElem (by omega))
     have:=shape_of_cell hs' hy
     have hle:cs.length - off ≤ c * s':=by omega
     calc (cs.length - off) / s' ≤ c * s' / s':=Nat.div_le_div_right hle
      _ = c:=Nat.mul_div_cancel _ hsp
    ·rw [Nat.sub_eq_zero_of_le hge,Nat.zero_div]; exact Nat.zero_le _
   cases mx with
   | some vm =>
    simp only [Option.map_eq_some_iff] at hv
    obtain ⟨⟨l,k,m⟩,hb,rfl⟩:=hv
    obtain ⟨hrun,hlk,hkl,hkc,hm1,hm2⟩:=run_bounds (P:=P) h1 h2 h3 true hb hcap w
    simp only [Option.isSome_some,if_true] at hrun
    have hkm:=(hm1 rfl).1
    refine .still s (run_slS (a:=some (at_ b (base + off))) hu hz hrun) ?_
    have:=VRel.view (g:=g) (w:=w) o ver (if m = l then off else off + l * s') (k - l) s' (some (m - l)) b base (m - l) N e' hg (by omega) (fun _ hk => by cases hk; rfl) hs' (fun hk => by cases hk)
    by_cases hml:m = l
    ·simp only [if_pos hml] at this ⊢; exact this
    ·simp only [if_neg hml,Option.map_some,add_at,Nat.add_assoc] at this ⊢; exact this
   | none =>
    simp only [Option.bind_eq_some_iff] at hv
    obtain ⟨⟨l,k,m⟩,hb,hv⟩:=hv
    obtain ⟨hrun,hlk,hkl,hkc,hm1,hm2⟩:=run_bounds (P:=P) h1 h2 h3 true hb hcap w
    simp only [Option.isSome_none,Bool.false_eq_true,if_false] at hrun
    have hkc2:k ≤ c:=by
     rcases hkl with hh | hh
     ·simp [hh] at hkc; omega
     ·omega
    split at hv
    ·rename_i h0
     cases hv
     subst h0
     have:=run_slS (a:=some (at_ b (base + off))) hu hz hrun
     refine .still s this ?_
     have hv':=VRel.view (g:=g) (w:=w) o ver off k s' none b base c N e' hg hkc2 (fun _ hk => by cases hk) hs' hN
     split
     ·simpa using hv'
     ·simpa [add_at] using hv'
    ·split at hv
     ·rename_i h0 hlt
      cases hv
      have hne:¬ c = l:=by omega
      have:=run_slS (a:=some (at_ b (base + off))) hu hz hrun
      rw [if_neg hne] at this
      refine .still s this ?_
      have hmul:l * s' + (c - l) * s' = c * s':=by rw [← Nat.add_mul]; congr 1; omega
      have hv':=VRel.view (g:=g) (w:=w) o ver (off + l * s') (k - l) s' none b base (c - l) N e' hg (by omega) (fun _ hk => by cases hk) hs' (fun _ => by omega)
      simpa [add_at,Nat.add_assoc] using hv'
     ·rename_i h0 hlt
      cases hv
      have hkl':k - l = 0:=by omega
      have hr:=run_slS (a:=some (at_ b (base + off))) hu hz hrun
      refine .still s hr ?_
      rw [hkl']
      by_cases hml:c = l
      ·rw [if_pos hml]
       exact .vend o ver s' b base _ _ N e' hg hs' (.inl (by omega))
      ·rw [if_neg hml]
       simp only [Option.map_some,add_at]
       have hmul:l * s' + (c - l) * s' = c * s':=by rw [← Nat.add_mul]; congr 1; omega
       exact .vend o ver s' b base _ _ N e' hg hs' (.inr (by omega))
 case vend o ver s' b base x c N e' hg hs' hN =>
  split at hv
  case isFalse => cases hv
  rename_i hs
  subst hs
  simp only [Option.map_eq_some_iff] at hv
  obtain ⟨⟨l,k,m⟩,hb,rfl⟩:=hv
  cases mx with
  | some v => simp [boundsA,intOf?] at hb
  | none =>
   cases mx' with
   | some v => exact h3.elim
   | none =>
    obtain ⟨hrun,hlk,hkl,hkc,hm1,hm2⟩:=run_bounds (P:=P) (mx:=none) (mx':=none) h1 h2 trivial true hb (Nat.zero_le c) w
    simp only [Option.isSome_none,Bool.false_eq_true,if_false] at hrun
    have hk0:k = 0:=by
     rcases hkl with hh | hh
     ·simp [hh] at hkc; omega
     ·exact hh
    have hl0:l = 0:=by omega
    subst hk0; subst hl0
    have hr:=run_slS (a:=some (at_ b x)) hu hz hrun
    refine .still s hr ?_
    have:(if c = 0 then some (at_ b x) else (some (at_ b x)).map (·.add (0 * s'))) = some (at_ b x):=by split <;> simp [add_at]
    rw [this]
    exact .vend o ver s' b base x c N e' hg hs' hN
 case sl L s' cap b off c f hi' hl hk hz' hc hv' =>
  have sub:∀ (l k c':Nat) (cap':Option Nat),l ≤ k → k ≤ L.length → k - l ≤ c' → (∀ q,cap' = some q → c' = q) → ∀ off',(off' = off + l * s' ∨ l = k) →
    VRel g w (.sl ((L.take k).drop l) s' cap') (.slice (some (at_ b off')) (k - l) c'):=by
   intro l k c' cap' hlk hkL hkc hq off' hoff
   have hlen:((L.take k).drop l).length = k - l:=by simp; omega
   have hmul:l * s' + (k - l) * s' = k * s':=by rw [← Nat.add_mul]; congr 1; omega
   have hmul2:k * s' ≤ L.length * s':=Nat.mul_le_mul_right _ hkL
   have:=VRel.sl (g:=g) (w:=w) ((L.take k).drop l) s' cap' b off' c' (fun j => f (l * s' + j)) (fun hne => hi' (fun e => hne (by rw [e]; simp))) (by omega) hq (fun i e he => hz' _ _ (drop_take_get _ _ _ _ _ he))
    (fun j hj => by
     rw [hlen] at hj
     rcases hoff with hoff | hoff
     ·rw [hoff,Nat.add_assoc]; exact hc _ (by omega)
     ·subst hoff; simp at hj)
    (fun i e j x he hx => by
     have:=hv' (l + i) e j x (drop_take_get _ _ _ _ _ he) hx
     rwa [show (l + i) * s' + j = l * s' + (i * s' + j) by rw [Nat.add_mul]; omega] at this)
   rw [hlen] at this
   exact this
  cases cap with
  | some c' =>
   have:=hk c' rfl
   subst this
   simp only [sliceA] at hv
   split at hv
   case isFalse => cases hv
   rename_i hs
   subst hs
   simp only [Option.bind_eq_some_iff] at hv
   obtain ⟨⟨l,k,m⟩,hb,hv⟩:=hv
   split at hv
   case isFalse => cases hv
   rename_i hkL
   cases hv
   obtain ⟨hrun,hlk,hkl,hkc,hm1,hm2⟩:=run_bounds (P:=P) h1 h2 h3 true hb (Nat.le_refl _) w
   have hmm:(if mx.isSome then m else c) = m:=by
    cases mx with
    | none => simp [hm2 rfl]
    | some v => simp
   rw [hmm] at hrun
   have hkm:k ≤ m:=by
    cases mx with
    | none =>
     have:=hm2 rfl
     rcases hkl with hh | hh
     ·simp [hh] at hkc; omega
     ·omega
    | some v => exact (hm1 rfl).1
   have hr:=run_slS (a:=some (at_ b off)) hu hz hrun
   refine .still s hr ?_
   split
   ·rename_i hml
    exact sub l k (m - l) _ hlk hkL (by omega) (fun q hq => by cases hq; rfl) off (.inr (by omega))
   ·simp only [Option.map_some,add_at]
    exact sub l k (m - l) _ hlk hkL (by omega) (fun q hq => by cases hq; rfl) _ (.inl rfl)
  | none =>
   simp only [sliceA] at hv
   split at hv
   case isFalse => cases hv
   rename_i hs
   subst hs
   simp only [Option.map_eq_some_iff] at hv
   obtain ⟨⟨l,k,m⟩,hb,rfl⟩:=hv
   obtain ⟨hrun,hlk,hkl,hkc,hm1,hm2⟩:=run_bounds (P:=P) h1 h2 h3 true hb hl w
   have hkL:k ≤ L.length:=by
    rcases hkl with hh | hh
    ·simp [hh] at hkc; omega
    ·omega
   cases mx with
   | none =>
    simp only [Option.isSome_none,Bool.false_eq_true,if_false] at hrun ⊢
    have hr:=run_slS (a:=some (at_ b off)) hu hz hrun
    refine .still s hr ?_
    split
    ·rename_i hml
     exact sub l k (c - l) _ hlk hkL (by omega) (fun q hq => by cases hq) off (.inr (by omega))
    ·simp only [Option.map_some,add_at]
     exact sub l k (c - l) _ hlk hkL (by omega) (fun q hq => by cases hq) _ (.inl rfl)
   | some vm =>
    simp only [Option.isSome_some,if_true] at hrun ⊢
    have hkm:=(hm1 rfl).1
    have hr:=run_slS (a:=some (at_ b off)) hu hz hrun
    refine .still s hr ?_
    split
    ·rename_i hml
     exact sub l k (m - l) _ hlk hkL (by omega) (fun q hq => by cases hq; rfl) off (.inr (by omega))
    ·simp only [Option.map_some,add_at]
     exact sub l k (m - l) _ hlk hkL (by omega) (fun q hq => by cases hq; rfl) _ (.inl rfl)
 case sl0 s' cap a hk =>
  have sub:∀ (l k c':Nat) (cap':Option Nat),l = 0 → k = 0 → c' = 0 → (∀ q,cap' = some q → 0 = q) →
    VRel g w (.sl ((([]:List V).take k).drop l) s' cap') (.slice (if c' = l then some a else (some a).map (·.add (l * s'))) (k - l) (c' - l)):=by
   rintro l k c' cap' rfl rfl rfl hq
   exact .sl0 s' cap' a hq
  cases cap with
  | some c' =>
   have:=hk c' rfl
   subst this
   simp only [sliceA] at hv
   split at hv
   case isFalse => cases hv
   rename_i hs
   subst hs
   simp only [Option.bind_eq_some_iff] at hv
   obtain ⟨⟨l,k,m⟩,hb,hv⟩:=hv
   split at hv
   case isFalse => cases hv
   rename_i hkL
   cases hv
   obtain ⟨hrun,hlk,hkl,hkc,hm1,hm2⟩:=run_bounds (P:=P) h1 h2 h3 true hb (Nat.le_refl _) w
   have hk0:k = 0:=by simpa using hkL
   have hl0:l = 0:=by omega
   have hm0:m = 0:=by
    cases mx with
    | none => exact hm2 rfl
    | some v => have:=(hm1 rfl).2; omega
   have hmm:(if mx.isSome then m else 0) = m:=by
    cases mx with
    | none => simp [hm0]
    | some v => simp
   rw [hmm] at hrun
   have hr:=run_slS (a:=some a) hu hz hrun
   refine .still s hr ?_
   exact sub l k m _ hl0 hk0 hm0 (fun q hq => by cases hq; omega)
  | none =>
   simp only [sliceA] at hv
   split at hv
   case isFalse => cases hv
   rename_i hs
   subst hs
   simp only [Option.map_eq_some_iff] at hv
   obtain ⟨⟨l,k,m⟩,hb,rfl⟩:=hv
   obtain ⟨hrun,hlk,hkl,hkc,hm1,hm2⟩:=run_bounds (P:=P) h1 h2 h3 true hb (Nat.zero_le _) w
   have hk0:k = 0:=by
    rcases hkl with hh | hh
    ·simp [hh] at hkc; omega
    ·simpa using hh
   have hl0:l = 0:=by omega
   cases mx with
   | none =>
    simp only [Option.isSome_none,Bool.false_eq_true,if_false] at hrun ⊢
    have hr:=run_slS (a:=some a) hu hz hrun
    refine .still s hr ?_
    exact sub l k 0 _ hl0 hk0 rfl (fun q hq => by cases hq)
   | some vm =>
    simp only [Option.isSome_some,if_true] at hrun ⊢
    have hkm:=(hm1 rfl).2
    have hr:=run_slS (a:=some a) hu hz hrun
    refine .still s hr ?_
    have hm0:m = 0:=by simpa using hkm
    exact sub l k m _ hl0 hk0 hm0 (fun q hq => by cases hq; omega)
end Go.Am


set_option linter.unusedVariables false
set_option linter.unusedSimpArgs false
namespace Go.Am
variable {P:Program}
inductive Parts (g:G) (w:World) (place:Nat → Option (Nat × Nat)):List (Nat × Nat × V) → List (Nat × Value) → Prop where
 | nil:Parts g w place [] []
 | cons (i off size:Nat) (v:V) (x:Value) (l m) (hp:place i = some (off,size)) (hv:VRel g w v x) (h:Parts g w place l m):Parts g w place ((off,size,v) :: l) ((i,x) :: m)
theorem set_range (l:List Value) (k:Nat) (x:Value) (xs:List Value) (h:k + 1 + xs.length ≤ l.length) :
  (l.set k x).take (k + 1) ++ xs ++ (l.set k x).drop (k + 1 + xs.length) = l.take k ++ (x :: xs) ++ l.drop (k + (xs.length + 1)):=by
 apply List.ext_getElem?
 intro i
 have h1:((l.set k x).take (k + 1)).length = k + 1:=by simp; omega
 have h2:(l.take k).length = k:=by simp; omega
 rcases Nat.lt_trichotomy i k with hi | hi | hi
 ·rw [List.append_assoc,List.append_assoc,List.getElem?_append_left (by omega),List.getElem?_append_left (by omega),List.getElem?_take_of_lt (by omega),List.getElem?_take_of_lt hi,List.getElem?_set_ne (by omega)]
 ·subst hi
  have e1:((l.set i x).take (i + 1) ++ xs ++ (l.set i x).drop (i + 1 + xs.length))[i]? = some x:=by
   rw [List.append_assoc,List.getElem?_append_left (by omega),List.getElem?_take_of_lt (by omega),List.getElem?_set_self (by omega)]
  have e2:(l.take i ++ (x :: xs) ++ l.drop (i + (xs.length + 1)))[i]? = some x:=by
   rw [List.append_assoc,List.getElem?_append_right (by omega),h2,Nat.sub_self]
   rfl
  rw [e1,e2]
 ·rcases Nat.lt_or_ge i (k + 1 + xs.length) with hj | hj
  ·rw [List.append_assoc,List.append_assoc,List.getElem?_append_right (by omega),List.getElem?_append_left (by omega),List.getElem?_append_right (by omega),h1,h2,List.cons_append,show i - k = (i - (k + 1)) + 1 by omega,List.getElem?_cons_succ,
    List.getElem?_append_left (by omega)]
  ·have h3:((l.set k x).take (k + 1) ++ xs).length = k + 1 + xs.length:=by simp only [List.length_append,h1]
   have h4:(l.take k ++ (x :: xs)).length = k + (xs.length + 1):=by simp only [List.length_append,h2,List.length_cons]
   rw [List.getElem?_append_right (by omega),List.getElem?_append_right (by omega),h3,h4,List.getElem?_drop,List.getElem?_drop,List.getElem?_set_ne (by omega)]
   congr 1
   omega
theorem foldl_set (off:Nat):∀ (xs:List Value) (k:Nat) (cs:Array Value),off + k + xs.length ≤ cs.toList.length →
  ((xs.zipIdx k).foldl (fun (cs:Array Value) (p:Value × Nat) => cs.setIfInBounds (off + p.2) p.1) cs).toList = cs.toList.take (off + k) ++ xs ++ cs.toList.drop (off + k + xs.length)
 | [],k,cs,h => by simp
 | x :: xs,k,cs,h => by
  simp only [List.length_cons] at h
  rw [List.zipIdx_cons,List.foldl_cons,foldl_set off xs (k + 1) _ (by simp only [Array.toList_setIfInBounds,List.length_set]; omega)]
  simp only [Array.toList_setIfInBounds,List.length_cons,← Nat.add_assoc]
  exact set_range _ _ _ _ (by omega)
theorem fill_rel {g:G} {w:World} {place:Nat → Option (Nat × Nat)}:∀ {l:List (Nat × Nat × V)} {m:List (Nat × Value)} (hp:Parts g w place l m) {cs cs':List V} {xs:Array Value} (hc:Cells g w cs xs.toList) (hf:fillA cs l = some cs'),
  ∃ xs',Instr.fill place xs m = some xs' ∧ Cells g w cs' xs'.toList
 | _,_,.nil,cs,cs',xs,hc,hf => by
  simp only [fillA,Option.some.injEq] at hf
  subst hf
  exact ⟨xs,rfl,hc⟩
 | _,_,.cons i off size v x l m hpl hv h,cs,cs',xs,hc,hf => by
  have hs:v.solid = true:=by
   cases v <;> first | rfl | simp [fillA] at hf
  have hf':(if v.cells.length = size then if off + size ≤ cs.length then fillA (setRange cs off v.cells) l else none else none) = some cs':=by
   cases v <;> first | exact hf | simp [V.solid] at hs
  split at hf'
  case isFalse => cases hf'
  rename_i hsz
  split at hf'
  case isFalse => cases hf'
  rename_i hle
  have hcell:=hv.cellsOf hs
  have hxl:x.cells.size = size:=by have:=hcell.1; simp at this; omega
  have hcl:xs.size = cs.length:=by simpa using hc.1
  have hfold:=foldl_set off x.cells.toList 0 xs (by simp only [Array.length_toList]; omega)
  simp only [Nat.add_zero] at hfold
  have hlist:(Array.foldl (fun (cs:Array Value) (p:Value × Nat) => cs.setIfInBounds (off + p.2) p.1) xs x.cells.zipIdx).toList = xs.toList.take off ++ x.cells.toList ++ xs.toList.drop (off + x.cells.toList.length):=by
   rw [← hfold]
   congr 1
   rw [← Array.foldl_toList]
   simp
  obtain ⟨xs',h1,h2⟩:=fill_rel h (cs:=setRange cs off v.cells) (xs:=Array.foldl (fun (cs:Array Value) (p:Value × Nat) => cs.setIfInBounds (off + p.2) p.1) xs x.cells.zipIdx) (by
   rw [hlist]
   refine ⟨by simp [setRange]; omega,fun j c y h1 h2 => ?_⟩
   rw [setRange_get _ _ _ (by omega)] at h1
   have hy:(xs.toList.take off ++ x.cells.toList ++ xs.toList.drop (off + x.cells.toList.length))[j]? = if off ≤ j ∧ j < off + v.cells.length then x.cells.toList[j - off]? else xs.toList[j]?:=by
    have hl:x.cells.toList.length = v.cells.length:=hcell.1
    rw [hl]
    by_cases a1:j < off
    ·rw [if_neg (by omega),List.append_assoc,List.getElem?_append_left (by simp; omega),List.getElem?_take_of_lt a1]
    ·by_cases a2:j < off + v.cells.length
     ·rw [if_pos ⟨by omega,a2⟩,List.append_assoc,List.getElem?_append_right (by simp; omega),List.getElem?_append_left (by simp; omega)]
      congr 1
      simp
      omega
     ·rw [if_neg (by omega),List.getElem?_append_right (by simp; omega),List.getElem?_drop]
      congr 1
      simp
      omega
   rw [hy] at h2
   split at h1
   ·rename_i hin
    rw [if_pos hin] at h2
    exact hcell.2 _ _ _ h1 h2
   ·rename_i hin
    rw [if_neg hin] at h2
    exact hc.2 _ _ _ h1 h2) hf'
  refine ⟨xs',?_,h2⟩
  rw [Instr.fill,hpl]
  simp only
  rw [if_neg (by simp; omega)]
  exact h1
def placesOf (P:Program) (t:TypeId):Option (Nat → Option (Nat × Nat)) :=
 match P.underlying t with
 | some (.array _ e) => (P.info? e).map fun ie => fun i => some (i * ie.size,ie.size)
 | some (.struct fields) => (fields.toList.mapM (fun f => (P.info? f.type).map fun i => (f.offset,i.size))).map fun places => fun i => places.toArray[i]?
 | _ => none
theorem zeroOf_info {t:TypeId} {cs:List V} (h:zeroOf P t = some cs) (g:G) (w:World):∃ it z,P.info? t = some it ∧ it.zero = some z ∧ Cells g w cs z.cells.toList:=by
 unfold zeroOf at h
 cases hi:P.info? t with
 | none => simp [hi] at h
 | some i =>
  simp only [hi,Option.bind_some] at h
  cases hz:i.zero with
  | none => simp [hz] at h
  | some z =>
   simp only [hz,Option.bind_some] at h
   obtain ⟨h1,h2⟩:=cstVs_get _ _ h
   refine ⟨i,z,rfl,hz,h1,fun j c x hj hx => ?_⟩
   obtain ⟨y,hy,hc⟩:=h2 j c hj
   rw [hx] at hy
   cases hy
   exact cst_rel g w hc
theorem goes_build {g:G} {h:Heap} {w:World} (s:Sim g h w) {t:TypeId} {zero cs:List V} (hz:zeroOf P t = some zero) {pl:Nat → Option (Nat × Nat)} (hpl:placesOf P t = some pl) {l:List (Nat × Nat × V)} {m:Array (Nat × Value)}
  (hp:Parts g w pl l m.toList) (hf:fillA zero l = some cs):Goes P (Instr.build t m) g h w (.agg cs) h:=by
 obtain ⟨it,z,hi,hzz,hc0⟩:=zeroOf_info hz g w
 obtain ⟨xs',h1,h2⟩:=fill_rel hp hc0 hf
 refine .still s (x:=.agg xs') (run_build w t m xs' ?_) (by have:=h2.agg; simpa using this)
 unfold placesOf at hpl
 unfold Program.built
 split at hpl
 ·rename_i n e hu
  simp only [Option.map_eq_some_iff] at hpl
  obtain ⟨ie,hie,rfl⟩:=hpl
  simp only [hi,hu,hzz,hie]
  exact h1
 ·rename_i fields hu
  simp only [Option.map_eq_some_iff] at hpl
  obtain ⟨places,hps,rfl⟩:=hpl
  simp only [hi,hu,hzz,hps]
  exact h1
 ·cases hpl
theorem sim_imm {g:G} {h:Heap} {w:World} (s:Sim g h w) (c:Array Value) (e:TypeId) :
  let w':World:={ w with heap:=w.heap.push (.cells c e) }
  let g':G:=⟨g.loc,fun b => g.imm b ∨ b = w.heap.size,g.code⟩
  Sim g' h w' ∧ Ext g h w g' h w' ∧ g'.imm w.heap.size ∧ (∀ i,w'.cell? (at_ w.heap.size i) = c[i]?):=by
 intro w' g'
 have hframe:∀ k,k < w.heap.size → w'.heap[k]? = w.heap[k]?:=fun k hk => by
  show (w.heap.push _)[k]? = _
  rw [Array.getElem?_push,if_neg (by omega)]
 have hL:Later g w g' w':=⟨rfl,fun _ _ _ h => h,fun _ h => .inl h,fun k hk => hframe k (s.immlt k hk),fun k y hk => shape_push _ k y hk⟩
 have hblk:∀ o,blk g' h o = blk g h o:=fun o => rfl
 have hlt:∀ o b,blk g h o = some b → b < w.heap.size:=fun o b hb => by
  obtain ⟨x,base,hx,hl,hg⟩:=blk_some hb
  obtain ⟨b',base',hg',hlt,-⟩:=s.obs o x hx hl
  rw [hg] at hg'
  cases hg'
  exact hlt
 refine ⟨⟨fun o x hx hl => ?_,s.inj,fun o b hb hi => ?_,fun b hb => ?_,s.loclt⟩,
  ⟨rfl,fun _ _ _ h => h,fun _ h => .inl h,fun b hb => ?_,by simp [w'],fun k y hk => shape_push _ k y hk,fun b hb _ => hframe b hb,fun o b hb _ => ⟨o,hb⟩,rfl,rfl,rfl⟩,.inr rfl,fun i => ?_⟩
 ·obtain ⟨b,base,h1,h2,h3⟩:=s.obs o x hx hl
  exact ⟨b,base,h1,by simp [w']; omega,h3.later hL (hframe b h2)⟩
 ·rcases hi with hi | hi
  ·exact s.imm o b hb hi
  ·have:=hlt o b hb; omega
 ·rcases hb with hb | hb
  ·have:=s.immlt b hb; simp [w']; omega
  ·simp [w']; omega
 ·rcases hb with hb | hb
  ·exact .inl hb
  ·exact .inr (by omega)
 ·simp [w',World.cell?]
theorem wrap_cells:∀ (l:List V) (h:∀ c ∈ l,c.oneCell = true),(wrapV l).cells = l
 | [],_ => rfl
 | [x],h => by
  have:=h x (by simp)
  cases x <;> first | (simp [V.oneCell] at this; done) | rfl
 | x :: y :: l,_ => rfl
theorem goes_bslice {g : G} {h : Heap} {w : World} (s : Sim g h w) {t e : TypeId} {sz len : Nat} (hu : P.underlying t = some (.slice e)) (hz : szOf P e = some sz) {zero : List V} (hzero : zeroOf P e = some zero) (hzl : zero.length = sz) (hroom : len * sz ≤ 2 ^ 24)
    {row cs : List V} (hrow : row = (List.range (len * sz)).map fun i => zero.getD (i % zero.length) .junk) {l : List (Nat × Nat × V)} {m : Array (Nat × Value)} (hp : Parts g w (fun i => some (i * sz, sz)) l m.toList) (hf : fillA row l = some cs) (h1 : cs.all V.oneCell = true) :
    Goes P (Instr.buildSlice t len m) g h w (.sl ((List.range len).map fun i => wrapV ((cs.drop (i * sz)).take sz)) sz (some len)) h := by
  obtain ⟨it, z, hi, hzz, hc0⟩ := zeroOf_info hzero g w
  have hzsz : z.cells.size = sz := by have := hc0.1; simp at this; omega
  have hrow0 : Cells g w row ((Array.range (len * sz)).map fun i => z.cells[i % z.cells.size]!).toList := by
    refine ⟨by rw [hrow]; simp, fun i c x hc hx => ?_⟩
    rw [hrow, List.getElem?_map] at hc
    rcases Nat.lt_or_ge i (len * sz) with hlt | hge
    · rw [List.getElem?_range hlt] at hc
      simp only [Option.map_some, Option.some.injEq] at hc
      have hpos : 0 < sz := by rcases Nat.eq_zero_or_pos sz with h0 | h0; · rw [h0] at hlt; simp at hlt
                               · exact h0
      have hmod : i % sz < sz := Nat.mod_lt _ hpos
      have hx' : x = z.cells[i % z.cells.size]! := by
        simp [hlt] at hx
        exact hx.symm
      rw [hzl] at hc
      have h1 : zero[i % sz]? = some c := by
        rw [← hc, List.getD_eq_getElem?_getD, List.getElem?_eq_getElem (by omega)]
        rfl
      rw [hx', hzsz]
      have h2 : z.cells.toList[i % sz]? = some (z.cells[i % sz]!) := by
        have : i % sz < z.cells.size := by omega
        simp [this]
      exact hc0.2 _ _ _ h1 h2
    · rw [List.getElem?_eq_none (by simpa using hge)] at hc
      cases hc
  obtain ⟨xs', h2, h3⟩ := fill_rel hp hrow0 hf
  obtain ⟨q1, q2, q3, q4⟩ := sim_imm s xs' e
  have hlen : cs.length = len * sz := by
    have hfl : ∀ (l : List (Nat × Nat × V)) (a b : List V), fillA a l = some b → b.length = a.length := by
      intro l
      induction l with
      | nil => intro a b h; simp [fillA] at h; rw [h]
      | cons p l ih =>
        obtain ⟨off, size, v⟩ := p
        intro a b h
        have h' : (if v.cells.length = size then if off + size ≤ a.length then fillA (setRange a off v.cells) l else none else none) = some b := by
          cases v <;> first | exact h | simp [fillA] at h
        split at h'
        case isFalse => cases h'
        split at h'
        case isFalse => cases h'
        rw [ih _ _ h', setRange_length _ _ _ (by omega)]
    rw [hfl _ _ _ hf, hrow]
    simp
  have hxl : xs'.size = len * sz := by have := h3.1; simp at this; omega
  refine ⟨_, _, .slice (some (at_ w.heap.size 0)) len len, ?_, q1, q2, ?_⟩
  · have hnot : ¬ (len * sz > 2 ^ 24) := by omega
    have hzv : (zeroValue e).run P w = .ok z w := by simp [zeroValue, run_typeInfo (h := hi), hzz]
    have hfill : ∀ zz : Array Value, (len * sz = 0 ∨ zz = z.cells) → Instr.fill (fun i => some (i * sz, sz)) ((Array.range (len * sz)).map fun i => zz[i % zz.size]!) m.toList = some xs' := by
      intro zz hzz'
      rcases hzz' with h0 | rfl
      · have : ((Array.range (len * sz)).map fun i => zz[i % zz.size]!) = ((Array.range (len * sz)).map fun i => z.cells[i % z.cells.size]!) := by rw [h0]; simp
        rw [this]
        exact h2
      · exact h2
    by_cases h0 : len * sz = 0
    · have hf0 := hfill #[] (.inl h0)
      simp only [Instr.buildSlice, Sem.run_bind, run_underlying hu, Result.andThen_ok, run_sizeOf' hz, if_neg hnot, if_pos h0, Sem.run_pure, hf0, newRow]
      rfl
    · have hf0 := hfill z.cells (.inr rfl)
      simp only [Instr.buildSlice, Sem.run_bind, run_underlying hu, Result.andThen_ok, run_sizeOf' hz, if_neg hnot, if_neg h0, hzv, Sem.run_pure, hf0, newRow]
      rfl
  · have hL := q2.later s
    have hget : ∀ (i : Nat) (el : V), ((List.range len).map fun i => wrapV ((cs.drop (i * sz)).take sz))[i]? = some el → i < len ∧ el.cells = (cs.drop (i * sz)).take sz ∧ ((cs.drop (i * sz)).take sz).length = sz := by
      intro i el hel
      rcases Nat.lt_or_ge i len with hlt | hge
      · rw [List.getElem?_map, List.getElem?_range hlt] at hel
        simp only [Option.map_some, Option.some.injEq] at hel
        have hmul : (i + 1) * sz ≤ len * sz := Nat.mul_le_mul_right _ hlt
        rw [Nat.add_mul, Nat.one_mul] at hmul
        refine ⟨hlt, ?_, by simp; omega⟩
        rw [← hel]
        exact wrap_cells ((cs.drop (i * sz)).take sz) (fun c hc => by simpa using List.all_eq_true.1 h1 c (List.mem_of_mem_drop (List.mem_of_mem_take hc)))
      · rw [List.getElem?_eq_none (by simpa using hge)] at hel
        cases hel
    have := VRel.sl (g := ⟨g.loc, fun b => g.imm b ∨ b = w.heap.size, g.code⟩) (w := { w with heap := w.heap.push (.cells xs' e) }) ((List.range len).map fun i => wrapV ((cs.drop (i * sz)).take sz)) sz (some len) w.heap.size 0 len (fun j => xs'.getD j undef) (fun _ => q3) (by simp) (fun k hk => by cases hk; rfl) ?_ ?_ ?_
    · simpa using this
    · intro i el hel
      rw [(hget i el hel).2.1]
      exact (hget i el hel).2.2
    · intro j hj
      simp only [List.length_map, List.length_range] at hj
      rw [q4]
      have hlt : j < xs'.size := by omega
      simp [Array.getD_eq_getD_getElem?, hlt]
    · intro i el j x hel hx
      obtain ⟨hi1, hi2, hi3⟩ := hget i el hel
      rw [hi2, List.getElem?_take] at hx
      split at hx
      case isFalse => cases hx
      rw [List.getElem?_drop] at hx
      have hlt : i * sz + j < xs'.toList.length := by
        have : i * sz + j < cs.length := by rcases Nat.lt_or_ge (i * sz + j) cs.length with k | k; exact k; simp [List.getElem?_eq_none k] at hx
        simp
        omega
      have hr := h3.2 (i * sz + j) x _ hx (List.getElem?_eq_getElem hlt)
      have : xs'.getD (i * sz + j) undef = xs'.toList[i * sz + j] := by
        have : i * sz + j < xs'.size := by simpa using hlt
        simp [Array.getD_eq_getD_getElem?, this]
      rw [this]
      exact hr.later hL
end Go.Am


set_option linter.unusedVariables false
set_option linter.unusedSimpArgs false
namespace Go.Am
variable {P:Program}
def kindsF (rec:TypeId → Option (List CK)) (size:TypeId → Nat):List Field → Nat → Option (List CK)
 | [],_ => some []
 | f :: fs,off =>
  if f.offset = off ∧ f.name ≠ "_" then
   match rec f.type with
   | some ks => if 0 < ks.length ∧ ks.length = size f.type then (kindsF rec size fs (off + ks.length)).map (ks ++ ·) else none
   | none => none
  else none
def kindsOf (P:Program):Nat → TypeId → Option (List CK)
 | 0,_ => none
 | d + 1,t =>
  match P.underlying t with
  | some .bool => some [.b]
  | some (.int k) => some [.i k]
  | some .string => some [.s]
  | some (.struct fs) => if P.stoodInHeld t then none else kindsF (kindsOf P d) P.cellsOf fs.toList 0
  | some (.array n e) =>
   match kindsOf P d e with
   | some ks => if 0 < ks.length ∧ ks.length = P.cellsOf e ∧ (P.info? e).isSome then some (List.replicate n ks).flatten else none
   | none => none
  | _ => none
def CK.desc:CK → TypeDesc
 | .b => .bool
 | .i k => .int k
 | .s => .string
theorem eqCell_rel {g:G} {w:World} {k:CK} {a b:V} {x y:Value} (ha:VRel g w a x) (hb:VRel g w b y) {r:Bool} (h:eqCell k a b = some r) (t:TypeId) (d:Nat)
  (ht:P.underlying t = some k.desc) (w':World):(Op.equalIn (d + 1) t x y).run P w' = .ok r w' ∧ x.cells = #[x] ∧ y.cells = #[y]:=by
 cases k with
 | b =>
  cases ha <;> cases hb <;> simp only [eqCell,reduceCtorEq,Option.some.injEq] at h
  subst h
  exact ⟨run_equalIn_bool (P:=P) w' d t _ _ ht,rfl,rfl⟩
 | i k =>
  cases ha <;> cases hb <;> simp only [eqCell,reduceCtorEq] at h
  split at h
  case isFalse => cases h
  split at h
  case isFalse => cases h
  rename_i h1 h2
  subst h1; subst h2
  cases h
  exact ⟨run_equalIn_int (w:=w') d t _ _ _ _ ht,rfl,rfl⟩
 | s =>
  cases ha <;> cases hb <;> simp only [eqCell,reduceCtorEq,Option.some.injEq] at h
  subst h
  have:=run_equalIn_string (P:=P) (w:=w') d t ⟨⟨by assumption⟩⟩ ⟨⟨by assumption⟩⟩ ht
  refine ⟨?_,rfl,rfl⟩
  rename_i l m
  have:=run_equalIn_string (P:=P) (w:=w') d t ⟨⟨l⟩⟩ ⟨⟨m⟩⟩ ht
  simpa using this
theorem eqCells_len:∀ (ks:List CK) (as bs:List V) (r:Bool),eqCells ks as bs = some r → as.length = ks.length ∧ bs.length = ks.length
 | [],[],[],_,_ => ⟨rfl,rfl⟩
 | k :: ks,a :: as,b :: bs,r,h => by
  simp only [eqCells] at h
  split at h
  ·rename_i x y h1 h2
   obtain ⟨e1,e2⟩:=eqCells_len ks as bs _ h2
   exact ⟨by simp [e1],by simp [e2]⟩
  ·cases h
 | [],[],_ :: _,_,h => by simp [eqCells] at h
 | [],_ :: _,_,_,h => by simp [eqCells] at h
 | _ :: _,[],_,_,h => by simp [eqCells] at h
 | _ :: _,_ :: _,[],_,h => by simp [eqCells] at h
theorem eqCells_split:∀ (k1 k2:List CK) (as bs:List V) (r:Bool),eqCells (k1 ++ k2) as bs = some r →
  ∃ r1 r2,eqCells k1 (as.take k1.length) (bs.take k1.length) = some r1 ∧ eqCells k2 (as.drop k1.length) (bs.drop k1.length) = some r2 ∧ r = (r1 && r2)
 | [],k2,as,bs,r,h => ⟨true,r,by simp [eqCells],by simpa using h,by simp⟩
 | k :: k1,k2,[],bs,r,h => by cases bs <;> simp [eqCells] at h
 | k :: k1,k2,a :: as,[],r,h => by simp [eqCells] at h
 | k :: k1,k2,a :: as,b :: bs,r,h => by
  simp only [List.cons_append,eqCells] at h
  split at h
  ·rename_i x y h1 h2
   cases h
   obtain ⟨r1,r2,e1,e2,rfl⟩:=eqCells_split k1 k2 as bs _ h2
   exact ⟨x && r1,r2,by simp [eqCells,h1,e1],by simpa using e2,by simp [Bool.and_assoc]⟩
  ·cases h
def Is (P:Program) (g:G) (w:World) (t:TypeId) (as:List V) (x:Value):Prop :=
 match P.underlying t with
 | some (.struct _) | some (.array _ _) => ∃ cs:Array Value,x = .agg cs ∧ Cells g w as cs.toList
 | _ => ∃ a,as = [a] ∧ VRel g w a x
theorem Cells.sub {g:G} {w:World} {as:List V} {xs:List Value} (h:Cells g w as xs) (off n:Nat):Cells g w ((as.drop off).take n) ((xs.drop off).take n):=by
 refine ⟨by simp [h.1],fun i c x hc hx => ?_⟩
 rw [List.getElem?_take] at hc hx
 split at hc
 ·rename_i hlt
  rw [if_pos hlt,List.getElem?_drop] at hx
  rw [List.getElem?_drop] at hc
  exact h.2 _ _ _ hc hx
 ·cases hc
theorem kinds_scalar {d:Nat} {t:TypeId} {ks:List CK} (hk:kindsOf P d t = some ks) :
  (∃ n e,P.underlying t = some (.array n e)) ∨ (∃ fs,P.underlying t = some (.struct fs)) ∨ ∃ k:CK,P.underlying t = some k.desc ∧ ks = [k]:=by
 cases d with
 | zero => simp [kindsOf] at hk
 | succ d =>
  unfold kindsOf at hk
  split at hk
  ·rename_i hu; cases hk; exact .inr (.inr ⟨.b,hu,rfl⟩)
  ·rename_i k hu; cases hk; exact .inr (.inr ⟨.i k,hu,rfl⟩)
  ·rename_i hu; cases hk; exact .inr (.inr ⟨.s,hu,rfl⟩)
  ·rename_i fs hu; exact .inr (.inl ⟨fs,hu⟩)
  ·rename_i n e hu; exact .inl ⟨n,e,hu⟩
  ·cases hk
theorem part_is {g:G} {w:World} {t:TypeId} {ks:List CK} {d:Nat} (hk:kindsOf P d t = some ks) (hl:ks.length = P.cellsOf t) {as:List V} {xs:Array Value} (hc:Cells g w as xs.toList) {off:Nat} (hle:off + ks.length ≤ as.length) :
  ∃ x,(∀ w,(part t xs off).run P w = .ok x w) ∧ Is P g w t ((as.drop off).take ks.length) x:=by
 have agg:(∃ n e,P.underlying t = some (.array n e)) ∨ (∃ fs,P.underlying t = some (.struct fs)) → ∃ x,(∀ w,(part t xs off).run P w = .ok x w) ∧ Is P g w t ((as.drop off).take ks.length) x:=by
  intro hu
  have hi:∃ i,P.info? t = some i:=by rcases hu with ⟨n,e,hu⟩ | ⟨fs,hu⟩ <;> exact info_of_underlying hu
  obtain ⟨i,hi⟩:=hi
  have he:(xs.extract off (off + P.cellsOf t)).toList = (xs.toList.drop off).take ks.length:=by
   rw [Array.toList_extract,hl]
   simp [List.extract]
  refine ⟨.agg (xs.extract off (off + P.cellsOf t)),fun w => ?_,?_⟩
  ·rcases hu with ⟨n,e,hu⟩ | ⟨fs,hu⟩ <;> simp [part,isAgg,run_underlying hu,run_sizeOf w hi]
  ·rcases hu with ⟨n,e,hu⟩ | ⟨fs,hu⟩ <;> (simp only [Is,hu]; exact ⟨_,rfl,by rw [he]; exact hc.sub _ _⟩)
 rcases kinds_scalar hk with hu | hu | ⟨k,hu,rfl⟩
 ·exact agg (.inl hu)
 ·exact agg (.inr hu)
 ·have hlt:off < as.length:=by simp only [List.length_cons,List.length_nil] at hle; omega
  have hlx:off < xs.toList.length:=by have:=hc.1; omega
  have hlx':off < xs.size:=by simpa using hlx
  have hr:=hc.2 off _ _ (List.getElem?_eq_getElem hlt) (List.getElem?_eq_getElem hlx)
  refine ⟨xs[off],fun w => ?_,?_⟩
  ·cases k <;> simp [CK.desc] at hu <;> simp [part,isAgg,run_underlying hu,hlx']
  ·have h1:(as.drop off).take [k].length = [as[off]]:=by
    simp only [List.length_cons,List.length_nil,Nat.zero_add,List.take_one,List.head?_drop,List.getElem?_eq_getElem hlt]
    rfl
   rw [h1]
   have hr':VRel g w as[off] xs[off]:=by simpa using hr
   cases k <;> simp only [CK.desc] at hu <;> simp only [Is,hu] <;> exact ⟨_,rfl,hr'⟩
theorem eq_rel (P:Program) (g:G) (w:World) (dd:Nat):∀ (d:Nat) (t:TypeId) (ks:List CK) (as bs:List V) (x y:Value) (r:Bool),kindsOf P d t = some ks → Is P g w t as x → Is P g w t bs y → eqCells ks as bs = some r →
  ∀ w',(Op.equalIn (dd + d) t x y).run P w' = .ok r w'
 | 0,t,ks,as,bs,x,y,r,hk,_,_,_ => by simp [kindsOf] at hk
 | d + 1,t,ks,as,bs,x,y,r,hk,hx,hy,he => by
  intro w'
  have IH:=eq_rel P g w dd d
  have scalar:∀ k:CK,P.underlying t = some k.desc → ks = [k] → (Op.equalIn (dd + (d + 1)) t x y).run P w' = .ok r w':=by
   intro k hu hks
   subst hks
   have hx':∃ a,as = [a] ∧ VRel g w a x:=by cases k <;> simp only [CK.desc] at hu <;> simpa only [Is,hu] using hx
   have hy':∃ a,bs = [a] ∧ VRel g w a y:=by cases k <;> simp only [CK.desc] at hu <;> simpa only [Is,hu] using hy
   obtain ⟨a,rfl,ha⟩:=hx'
   obtain ⟨b,rfl,hb⟩:=hy'
   simp only [eqCells] at he
   split at he
   ·rename_i r1 r2 h1 h2
    cases h2
    simp only [Bool.and_true,Option.some.injEq] at he
    subst he
    exact (eqCell_rel ha hb h1 t (dd + d) hu w').1
   ·cases he
  unfold kindsOf at hk
  split at hk
  ·rename_i hu; cases hk; exact scalar .b hu rfl
  ·rename_i k hu; cases hk; exact scalar (.i k) hu rfl
  ·rename_i hu; cases hk; exact scalar .s hu rfl
  ·rename_i fs hu
   split at hk
   ·cases hk
   rename_i hst
   simp only [Is,hu] at hx hy
   obtain ⟨xs,rfl,hxs⟩:=hx
   obtain ⟨ys,rfl,hys⟩:=hy
   have hfs:P.fieldsOf t = fs:=by simp [Program.fieldsOf,hu]
   rw [show dd + (d + 1) = (dd + d) + 1 by omega,run_equalIn_struct w' (dd + d) t xs ys (by rw [hfs]; exact hu) (by simpa using hst),hfs]
   have key:∀ (l:List Field) (off:Nat) (ks:List CK) (as' bs':List V) (r:Bool),kindsF (kindsOf P d) P.cellsOf l off = some ks → as' = as.drop off → bs' = bs.drop off → eqCells ks as' bs' = some r →
     (Op.eqFields (dd + d) xs ys l).run P w' = .ok r w':=by
    intro l
    induction l with
    | nil =>
     intro off ks as' bs' r hk h1 h2 he
     simp only [kindsF,Option.some.injEq] at hk
     subst hk
     obtain ⟨e1,e2⟩:=eqCells_len _ _ _ _ he
     have e1':as' = []:=List.length_eq_zero_iff.1 e1
     have e2':bs' = []:=List.length_eq_zero_iff.1 e2
     rw [e1',e2'] at he
     simp only [eqCells,Option.some.injEq] at he
     subst he
     simp [Op.eqFields]
    | cons f l ih =>
     intro off ks as' bs' r hk h1 h2 he
     simp only [kindsF] at hk
     split at hk
     case isFalse => cases hk
     rename_i hoff
     split at hk
     case h_2 => cases hk
     rename_i k1 hk1
     split at hk
     case isFalse => cases hk
     rename_i hlen
     simp only [Option.map_eq_some_iff] at hk
     obtain ⟨k2,hk2,rfl⟩:=hk
     obtain ⟨r1,r2,e1,e2,rfl⟩:=eqCells_split _ _ _ _ _ he
     obtain ⟨l1,l2⟩:=eqCells_len _ _ _ _ he
     rw [h1] at l1
     rw [h2] at l2
     simp only [List.length_append,List.length_drop] at l1 l2
     obtain ⟨x1,p1,i1⟩:=part_is (g:=g) (w:=w) hk1 hlen.2 hxs (off:=f.offset) (by omega)
     obtain ⟨y1,p2,i2⟩:=part_is (g:=g) (w:=w) hk1 hlen.2 hys (off:=f.offset) (by omega)
     rw [h1] at e1 e2
     rw [h2] at e1 e2
     have q1:=IH f.type k1 _ _ x1 y1 r1 hk1 i1 i2 (by rw [hoff.1]; exact e1) w'
     have q2:=ih (off + k1.length) k2 _ _ r2 hk2 rfl rfl (by simpa [List.drop_drop] using e2)
     have hn : f.name ≠ "_" := hoff.2
     simp only [Op.eqFields,hn,ne_eq,not_false_eq_true,if_true,Sem.run_bind,p1,p2,q1,Result.andThen_ok]
     cases r1
     ·simp
     ·simpa using q2
   exact key fs.toList 0 ks as bs r hk (by simp) (by simp) he
  ·rename_i n e hu
   split at hk
   case h_2 => cases hk
   rename_i k1 hk1
   split at hk
   case isFalse => cases hk
   rename_i hlen
   cases hk
   simp only [Is,hu] at hx hy
   obtain ⟨xs,rfl,hxs⟩:=hx
   obtain ⟨ys,rfl,hys⟩:=hy
   obtain ⟨i,hi⟩:=Option.isSome_iff_exists.1 hlen.2.2
   rw [show dd + (d + 1) = (dd + d) + 1 by omega,run_equalIn_array w' (dd + d) xs ys hu hi]
   have key:∀ (m i0:Nat) (r:Bool),eqCells (List.replicate m k1).flatten (as.drop (i0 * P.cellsOf e)) (bs.drop (i0 * P.cellsOf e)) = some r →
     (Op.eqItems (dd + d) e (P.cellsOf e) xs ys (List.range' i0 m)).run P w' = .ok r w':=by
    intro m
    induction m with
    | zero =>
     intro i0 r he
     obtain ⟨e1,e2⟩:=eqCells_len _ _ _ _ he
     have e1':=List.length_eq_zero_iff.1 e1
     have e2':=List.length_eq_zero_iff.1 e2
     rw [e1',e2'] at he
     simp [eqCells] at he
     subst he
     simp [Op.eqItems]
    | succ m ih =>
     intro i0 r he
     rw [List.replicate_succ,List.flatten_cons] at he
     obtain ⟨r1,r2,e1,e2,rfl⟩:=eqCells_split _ _ _ _ _ he
     obtain ⟨l1,l2⟩:=eqCells_len _ _ _ _ he
     simp only [List.length_append,List.length_drop] at l1 l2
     have hz:=hlen.1
     obtain ⟨x1,p1,i1⟩:=part_is (g:=g) (w:=w) hk1 hlen.2.1 hxs (off:=i0 * P.cellsOf e) (by omega)
     obtain ⟨y1,p2,i2⟩:=part_is (g:=g) (w:=w) hk1 hlen.2.1 hys (off:=i0 * P.cellsOf e) (by omega)
     have q1:=IH e k1 _ _ x1 y1 r1 hk1 i1 i2 e1 w'
     have q2:=ih (i0 + 1) r2 (by rw [Nat.add_mul,Nat.one_mul,← hlen.2.1]; rw [← hlen.2.1] at e2; simpa [List.drop_drop] using e2)
     rw [List.range'_succ]
     simp only [Op.eqItems,Sem.run_bind,p1,p2,q1,Result.andThen_ok]
     cases r1
     ·simp
     ·simpa using q2
   have:=key n 0 r (by simpa using he)
   rwa [List.range_eq_range']
  ·cases hk
end Go.Am


set_option linter.unusedVariables false
set_option linter.unusedSimpArgs false
namespace Go.Am
variable {P:Program}
def eqOp (neg:Bool):BinOp:=match neg with | true => .neq | false => .eql
theorem run_eqGuard_agg {w:World} {op:BinOp} {t:TypeId} {x y:Operand} {a b:Value} (h:(∃ c d,a = .agg c ∧ b = .agg d) → P.eqGuardType P.depth t = false) (hn:¬ (a = .nilIface ∧ b = .nilIface)):(eqGuard op t x y a b).run P w = .ok () w:=by
 have key:∀ a b:Value,((∃ c d,a = .agg c ∧ b = .agg d) → P.eqGuardType P.depth t = false) → ¬ (a = .nilIface ∧ b = .nilIface) → (match a,b with
   | .nilIface,.nilIface =>
    if (x matches .const _) || (y matches .const _) then pure () else do
    if ← Op.eqGuardIn Op.maxDepth t a b then unsupported (.noEntry "binop/eql: two nil values of an interface type with methods, neither of them the literal nil")
   | .agg _,.agg _ => do
    if !(← program).eqGuardType (← program).depth t then pure () else
    if ← Op.eqGuardIn Op.maxDepth t a b then unsupported (.noEntry "binop/eql: two nil values of an interface type with methods, in a part of a struct or an array")
   | _,_ => pure ():Sem Unit).run P w = .ok () w:=by
  intro a b h hn
  cases a <;> cases b <;> first
   | rfl
   | (exact absurd ⟨rfl,rfl⟩ hn)
   | (have:=h ⟨_,_,rfl,rfl⟩; simp [this])
 cases op <;> first
  | rfl
  | (simp only [eqGuard]; exact key a b h hn)
theorem flat_rep (zero:List V):∀ (n i:Nat) (v:V),(List.replicate n zero).flatten[i]? = some v → i < n * zero.length ∧ zero[i % zero.length]? = some v
 | 0,i,v,h => by simp at h
 | n + 1,i,v,h => by
  rw [List.replicate_succ,List.flatten_cons] at h
  rcases Nat.lt_or_ge i zero.length with hlt | hge
  ·rw [List.getElem?_append_left hlt] at h
   exact ⟨by rw [Nat.add_mul,Nat.one_mul]; omega,by rw [Nat.mod_eq_of_lt hlt]; exact h⟩
  ·rw [List.getElem?_append_right hge] at h
   obtain ⟨h1,h2⟩:=flat_rep zero n _ v h
   refine ⟨by rw [Nat.add_mul,Nat.one_mul]; omega,?_⟩
   rw [Nat.mod_eq_sub_mod hge]
   exact h2
theorem goes_eqc {g:G} {h:Heap} {w:World} (s:Sim g h w) {neg:Bool} {t:TypeId} {ks:List CK} {d:Nat} (hd:d ≤ 10000) (hk:kindsOf P d t = some ks) {as bs:List V} {X Y:Value} (hx:Is P g w t as X) (hy:Is P g w t bs Y)
  (hns:P.underlying t = some .bool ∨ ∃ c d,X = .agg c ∧ Y = .agg d) {r:Bool} (he:eqCells ks as bs = some r):Goes P (binOp (eqOp neg) t X Y) g h w (.bool (negB neg r)) h:=by
 have hq:=eq_rel P g w (10000 - d) d t ks as bs X Y r hk hx hy he w
 rw [show 10000 - d + d = 10000 by omega] at hq
 refine .still s ?_ (.bool _)
 have heq:(Op.equal t X Y).run P w = .ok r w:=hq
 have key:∀ op,(op = .eql ∨ op = .neq) → (binOp op t X Y) = (match op with | .eql => do pure (.bool (← Op.equal t X Y)) | _ => do pure (.bool (!(← Op.equal t X Y)))):=by
  intro op hop
  rcases hns with hu | ⟨c,e,rfl,rfl⟩
  ·simp only [Is,hu] at hx hy
   obtain ⟨a,rfl,ha⟩:=hx
   obtain ⟨b,rfl,hb⟩:=hy
   cases d with
   | zero => simp [kindsOf] at hk
   | succ d =>
    simp only [kindsOf,hu,Option.some.injEq] at hk
    subst hk
    simp only [eqCells] at he
    cases ha <;> simp only [eqCell,reduceCtorEq] at he
    cases hb <;> simp only [eqCell,reduceCtorEq] at he
    rcases hop with rfl | rfl <;> rfl
  ·rcases hop with rfl | rfl <;> rfl
 cases neg
 ·show (binOp .eql t X Y).run P w = _
  rw [key .eql (.inl rfl)]
  simp [heq,negB]
 ·show (binOp .neq t X Y).run P w = _
  rw [key .neq (.inr rfl)]
  simp [heq,negB]
theorem is_agg {g:G} {w:World} {t:TypeId} (hu:(∃ n e,P.underlying t = some (.array n e)) ∨ (∃ fs,P.underlying t = some (.struct fs))) {cs:List V} {X:Value} (hx:VRel g w (.agg cs) X):Is P g w t cs X:=by
 cases hx with
 | agg _ xs hx hc =>
  have hcells:=VRel.cellsOf (VRel.agg (g:=g) (w:=w) cs xs hx hc) rfl
  rcases hu with ⟨n,e,hu⟩ | ⟨fs,hu⟩ <;> (simp only [Is,hu]; exact ⟨xs,rfl,by simpa [V.cells,Value.cells] using hcells⟩)
theorem is_bool {g:G} {w:World} {t:TypeId} (hu:P.underlying t = some .bool) {v:V} {X:Value} (hx:VRel g w v X):Is P g w t [v] X:=by
 simp only [Is,hu]
 exact ⟨v,rfl,hx⟩
def NK.nil:NK → Value
 | .p => .pointer none
 | .s => .slice none 0 0
 | .m => .map none
 | .f => .nilFunc
 | .i => .nilIface
def nkOf (P:Program) (t:TypeId):Option NK :=
 match P.underlying t with
 | some (.pointer _) => some .p
 | some (.slice _) => some .s
 | some (.map ..) => some .m
 | some (.func ..) => some .f
 | some (.interface _) => some .i
 | _ => none
def NK.fits (k:NK) (X:Value) (b:Bool):Prop :=
 match k with
 | .p => ∃ a,X = .pointer a ∧ a.isNone = b
 | .s => ∃ a l c,X = .slice a l c ∧ a.isNone = b
 | .m => ∃ m,X = .map m ∧ m.isNone = b
 | .f => (X = .nilFunc ∧ b = true) ∨ ∃ f x y,X = .func f x y ∧ b = false
 | .i => (X = .nilIface ∧ b = true) ∨ ∃ t v,X = .iface t v ∧ b = false
theorem isNil_fits {g:G} {w:World} {k:NK} {v:V} {X:Value} (hx:VRel g w v X) {b:Bool} (hb:isNil k v = some b):k.fits X b:=by
 cases hx <;> cases k <;> simp only [isNil,reduceCtorEq,Option.some.injEq] at hb <;> subst hb <;> simp [NK.fits]
theorem run_eqnilIn {t:TypeId} {k:NK} (hk:nkOf P t = some k) {X:Value} {b:Bool} (hf:k.fits X b) (w':World) (d:Nat) :
  (Op.equalIn (d + 1) t X k.nil).run P w' = .ok b w' ∧ (Op.equalIn (d + 1) t k.nil X).run P w' = .ok b w':=by
 unfold nkOf at hk
 split at hk <;> cases hk <;> rename_i hu <;> simp only [NK.fits] at hf
 ·obtain ⟨a,rfl,rfl⟩:=hf
  cases a <;> simp [NK.nil,Op.equalIn,run_underlying hu]
 ·obtain ⟨a,l,c,rfl,rfl⟩:=hf
  cases a <;> simp [NK.nil,Op.equalIn,run_underlying hu]
 ·obtain ⟨a,rfl,rfl⟩:=hf
  cases a <;> simp [NK.nil,Op.equalIn,run_underlying hu]
 ·rcases hf with ⟨rfl,rfl⟩ | ⟨f,x,y,rfl,rfl⟩ <;> simp [NK.nil,Op.equalIn,run_underlying hu]
 ·rcases hf with ⟨rfl,rfl⟩ | ⟨f,x,rfl,rfl⟩ <;> simp [NK.nil,Op.equalIn,run_underlying hu]
theorem run_eqnil {t:TypeId} {k:NK} (hk:nkOf P t = some k) {X:Value} {b:Bool} (hf:k.fits X b) (w':World) :
  (Op.equal t X k.nil).run P w' = .ok b w' ∧ (Op.equal t k.nil X).run P w' = .ok b w' ∧
   (∀ op,(op = .eql ∨ op = .neq) → binOp op t X k.nil = (match op with | .eql => do pure (.bool (← Op.equal t X k.nil)) | _ => do pure (.bool (!(← Op.equal t X k.nil)))) ∧
    binOp op t k.nil X = (match op with | .eql => do pure (.bool (← Op.equal t k.nil X)) | _ => do pure (.bool (!(← Op.equal t k.nil X))))):=by
 obtain ⟨q1,q2⟩:=run_eqnilIn hk hf w' 9999
 refine ⟨q1,q2,?_⟩
 intro op hop
 cases k <;> simp only [NK.fits] at hf
 ·obtain ⟨a,rfl,-⟩:=hf
  rcases hop with rfl | rfl <;> exact ⟨rfl,rfl⟩
 ·obtain ⟨a,l,c,rfl,-⟩:=hf
  rcases hop with rfl | rfl <;> exact ⟨rfl,rfl⟩
 ·obtain ⟨a,rfl,-⟩:=hf
  rcases hop with rfl | rfl <;> exact ⟨rfl,rfl⟩
 ·rcases hf with ⟨rfl,-⟩ | ⟨f,x,y,rfl,-⟩ <;> rcases hop with rfl | rfl <;> exact ⟨rfl,rfl⟩
 ·rcases hf with ⟨rfl,-⟩ | ⟨f,x,rfl,-⟩ <;> rcases hop with rfl | rfl <;> exact ⟨rfl,rfl⟩
theorem goes_eqnil {g:G} {h:Heap} {w:World} (s:Sim g h w) {t:TypeId} {k:NK} (hk:nkOf P t = some k) {v:V} {X:Value} (hx:VRel g w v X) {b:Bool} (hb:isNil k v = some b) (neg:Bool) :
  Goes P (binOp (eqOp neg) t X k.nil) g h w (.bool (negB neg b)) h ∧ Goes P (binOp (eqOp neg) t k.nil X) g h w (.bool (negB neg b)) h:=by
 obtain ⟨r1,r2,hop⟩:=run_eqnil (P:=P) hk (isNil_fits hx hb) w
 cases neg
 ·obtain ⟨e1,e2⟩:=hop .eql (.inl rfl)
  refine ⟨.still s ?_ (.bool _),.still s ?_ (.bool _)⟩
  ·show (binOp .eql _ _ _).run P w = _; rw [e1]; simp [r1,negB]
  ·show (binOp .eql _ _ _).run P w = _; rw [e2]; simp [r2,negB]
 ·obtain ⟨e1,e2⟩:=hop .neq (.inr rfl)
  refine ⟨.still s ?_ (.bool _),.still s ?_ (.bool _)⟩
  ·show (binOp .neq _ _ _).run P w = _; rw [e1]; simp [r1,negB]
  ·show (binOp .neq _ _ _).run P w = _; rw [e2]; simp [r2,negB]
theorem goes_mkslice {g : G} {h : Heap} {w : World} (s : Sim g h w) {t e : TypeId} {sz by' : Nat} {zero : List V} (hu : P.underlying t = some (.slice e)) (hz : szOf P e = some sz) (hb : byOf P e = some by') (hzero : zeroOf P e = some zero) (hzl : zero.length = sz)
    {kl kc : IntKind} {l c : Int} (h0 : 0 ≤ l) (h1 : l ≤ c) (h2 : c.toNat * by' ≤ maxBytes) (h3 : c.toNat ≤ maxBytes) {o : Nat} {eff : Eff}
    (he : mkA (fun o => h[o]?) o (.arr (List.replicate c.toNat zero).flatten) (fun v => .view o v 0 l.toNat sz (some c.toNat)) = some eff) :
    EffGoes P (Instr.makeSlice t (.int kl l) (.int kc c)) g h w eff := by
  obtain ⟨it, z, hi, hzz, hc0⟩ := zeroOf_info hzero g w
  have hzsz : z.cells.size = sz := by have := hc0.1; simp at this; omega
  have hmb : maxBytes = 1099511627776 := rfl
  have hib : it.bytes = by' := by simpa [byOf, hi] using hb
  have wl : IntKind.i64.wrap l = l := IntWalk.i64_in l ⟨by omega, by omega⟩
  have wc : IntKind.i64.wrap c = c := IntWalk.i64_in c ⟨by omega, by omega⟩
  have hrow : ∀ i v, (List.replicate c.toNat zero).flatten[i]? = some v → i < c.toNat * sz ∧ ∃ y, z.cells[i % sz]? = some y ∧ VRel g w v y := by
    intro i v hv
    obtain ⟨h1, h2⟩ := flat_rep _ _ _ _ hv
    rw [hzl] at h1 h2
    obtain ⟨y, hy, hr⟩ := cells_get hc0 _ _ h2
    exact ⟨h1, y, hy, hr⟩
  have hcc : (it.bytes : Int) * c ≤ 281474976710656 := by
    rw [hib, Int.mul_comm]
    have : ((c.toNat * by' : Nat) : Int) ≤ 1099511627776 := by omega
    rw [Int.natCast_mul, Int.toNat_of_nonneg (by omega)] at this
    omega
  refine goes_new s (.inr rfl) he (madeCells z.cells (c.toNat * it.size)) e (fun i v hiv => ?_) _ (.slice (some (at_ w.heap.size 0)) l.toNat c.toNat)
    (run_make w t e it z hu hi hzz kl kc l c h0 h1 hcc (by omega)) (fun g' w' ver hg hs => .view o ver 0 l.toNat sz (some c.toNat) w.heap.size 0 c.toNat _ e hg (by omega) (fun k hk => by cases hk; rfl) hs (fun hk => by cases hk))
  obtain ⟨hlt, y, hy, hr⟩ := hrow i v hiv
  refine ⟨y, ?_, hr⟩
  have hsz : it.size = sz := by simpa [szOf, hi] using hz
  have hpos : 0 < sz := by rcases Nat.eq_zero_or_pos sz with h0 | h0
                           · rw [h0] at hlt; simp at hlt
                           · exact h0
  have hm : i % sz < z.cells.size := by rw [hzsz]; exact Nat.mod_lt _ hpos
  have hy' : z.cells[i % sz]! = y := by
    rw [getElem!_pos z.cells (i % sz) hm]
    rw [Array.getElem?_eq_getElem hm] at hy
    exact Option.some.inj hy
  simp [madeCells, hsz, hlt, hzsz, hy']
end Go.Am


set_option linter.unusedVariables false
set_option linter.unusedSimpArgs false
namespace Go.Am
variable {P:Program}
def mm2 (mx:Bool) (A B:Value):Sem Value:=match mx with | true => Builtin.max2 A B | false => Builtin.min2 A B
def mmB (mx:Bool) (ats:Array TypeId) (ty:TypeId) (args:Array Value):Sem Value:=match mx with | true => Builtin.max_ ats ty args | false => Builtin.min_ ats ty args
theorem mm_run {g:G} {w:World} {mx:Bool} {a b v:V} {A B:Value} (ha:VRel g w a A) (hb:VRel g w b B) (hv:mmA mx a b = some v) :
  ∃ X,(mm2 mx A B).run P w = .ok X w ∧ VRel g w v X:=by
 cases ha <;> simp only [mmA,reduceCtorEq] at hv
 cases hb <;> simp only [reduceCtorEq] at hv
 simp only [Option.some.injEq] at hv
 subst hv
 cases mx
 ·exact ⟨_,by simp only [mm2,Builtin.min2]; rfl,.int _ _⟩
 ·exact ⟨_,by simp only [mm2,Builtin.max2]; rfl,.int _ _⟩
theorem mm_fold {g:G} {w:World} {mx:Bool}:∀ {l:List V} {L:List Value} {a v:V} {A:Value},VRel g w a A → L.length = l.length → (∀ (i:Nat) (c:V),l[i]? = some c → ∃ x,L[i]? = some x ∧ VRel g w c x) → l.foldlM (mmA mx) a = some v →
  ∃ X,(L.foldlM (mm2 mx) A).run P w = .ok X w ∧ VRel g w v X
 | [],L,a,v,A,ha,hl,_,hv => by
  have:L = []:=List.length_eq_zero_iff.1 hl
  subst this
  simp only [List.foldlM_nil,Option.pure_def,Option.some.injEq] at hv
  subst hv
  exact ⟨A,rfl,ha⟩
 | b :: l,L,a,v,A,ha,hl,hr,hv => by
  cases L with
  | nil => simp at hl
  | cons B L =>
   simp only [List.foldlM_cons,Option.bind_eq_bind,Option.bind_eq_some_iff] at hv
   obtain ⟨c,hc,hv⟩:=hv
   obtain ⟨B',hB,hb⟩:=hr 0 b rfl
   simp at hB
   subst hB
   obtain ⟨X,hX,hx⟩:=mm_run (P:=P) ha hb hc
   obtain ⟨Y,hY,hy⟩:=mm_fold (l:=l) (L:=L) hx (by simpa using hl) (fun i c hi => by simpa using hr (i + 1) c (by simpa using hi)) hv
   refine ⟨Y,?_,hy⟩
   simp only [List.foldlM_cons,Sem.run_bind,hX,Result.andThen_ok,hY]
theorem goes_mm {g:G} {h:Heap} {w:World} (s:Sim g h w) {mx:Bool} {ats:Array TypeId} {ty:TypeId} {a v:V} {l:List V} {A:Value} {L:List Value} (ha:VRel g w a A) (hl:L.length = l.length) (hr:∀ (i:Nat) (c:V),l[i]? = some c → ∃ x,L[i]? = some x ∧ VRel g w c x)
  (hv:l.foldlM (mmA mx) a = some v):Goes P (mmB mx ats ty (List.toArray (A :: L))) g h w v h:=by
 obtain ⟨X,hX,hx⟩:=mm_fold (P:=P) ha hl hr hv
 refine .still s (x:=X) ?_ hx
 cases mx
 ·exact hX
 ·exact hX
theorem goes_clear {g : G} {h : Heap} {w : World} (s : Sim g h w) {st e tt : TypeId} {sz : Nat} {zero : List V} (hu : P.underlying st = some (.slice e)) (hz : szOf P e = some sz) (hzero : zeroOf P e = some zero) (hzl : zero.length = sz) (h1 : zero.all V.oneCell = true)
    {x : V} {X : Value} (hx : VRel g w x X) {eff : Eff}
    (he : clearA (fun o => h[o]?) sz zero x = some eff) : EffGoes P (Builtin.clear_ #[st] tt #[X]) g h w eff := by
  have unit : VRel g w (.tup []) (.tuple #[]) := .tup [] #[] rfl (by simp)
  unfold clearA at he
  cases hx with
  | nils =>
    simp only [Option.some.injEq] at he
    subst he
    exact Goes.still s (by simp [Builtin.clear_, run_underlying hu]) unit
  | vend o t s' b base x c n e' hg hs hn =>
    simp only [Option.some.injEq] at he
    subst he
    exact Goes.still s (by simp [Builtin.clear_, run_underlying hu]) unit
  | sl L s' cap b off c f hi hl hk hz' hc hv =>
    cases L with
    | nil =>
      simp only [Option.some.injEq] at he
      subst he
      exact Goes.still s (by simp [Builtin.clear_, run_underlying hu]) unit
    | cons y L => simp at he
  | sl0 s' cap a hk =>
    simp only [Option.some.injEq] at he
    subst he
    exact Goes.still s (by simp [Builtin.clear_, run_underlying hu]) unit
  | view o ver off len s' cap b base c n e' hg hlc hk hs hn =>
    simp only at he
    split at he
    · rename_i h0
      subst h0
      simp only [Option.some.injEq] at he
      subst he
      exact Goes.still s (by simp [Builtin.clear_, run_underlying hu]) unit
    rename_i h0
    split at he
    case isFalse => cases he
    rename_i hs'
    subst hs'
    obtain ⟨it, z, hi, hzz, hc0⟩ := zeroOf_info hzero g w
    have hzsz : z.cells.size = s' := by have := hc0.1; simp at this; omega
    have hcells : Cells g w (List.replicate len zero).flatten (Builtin.zeroCells z.cells len).toList := by
      refine ⟨by simp [Builtin.zeroCells, hzsz, hzl], fun i v y hv hy => ?_⟩
      obtain ⟨h1, h2⟩ := flat_rep _ _ _ _ hv
      rw [hzl] at h1 h2
      obtain ⟨y', hy', hr⟩ := cells_get hc0 _ _ h2
      have hpos : 0 < s' := by rcases Nat.eq_zero_or_pos s' with h0 | h0
                               · rw [h0] at h1; simp at h1
                               · exact h0
      have hm : i % s' < z.cells.size := by rw [hzsz]; exact Nat.mod_lt _ hpos
      have : y = y' := by
        simp [Builtin.zeroCells, hzsz, h1] at hy
        rw [← hy]
        rw [Array.getElem?_eq_getElem hm] at hy'
        rw [getElem!_pos z.cells (i % s') hm]
        exact Option.some.inj hy'
      rw [this]
      exact hr
    have hone : ∀ x ∈ (Builtin.zeroCells z.cells len).toList, x.oneCell' = true := hcells.oneCell (by
      rw [List.all_eq_true]
      intro c hc
      rw [List.mem_flatten] at hc
      obtain ⟨l, hl, hc⟩ := hc
      rw [List.eq_of_mem_replicate hl] at hc
      exact List.all_eq_true.1 h1 c hc)
    obtain ⟨w', h', rfl, hrun, hs1, hx1⟩ := goes_storeA (P := P) s he hg _ hcells hone
    refine ⟨_, w', .tuple #[], ?_, hs1, hx1, .tup [] #[] rfl (by simp)⟩
    have hzv : (zeroValue e).run P w = .ok z w := by simp [zeroValue, run_typeInfo (h := hi), hzz]
    have hlen0 : ∃ k, len = k + 1 := ⟨len - 1, by omega⟩
    obtain ⟨k, rfl⟩ := hlen0
    simp only [Builtin.clear_]
    simp [run_underlying hu, hzv, hrun]
  | _ => simp at he
theorem run_bslice {g : G} {h : Heap} {w : World} (s : Sim g h w) {t e : TypeId} {sz len : Nat} (hu : P.underlying t = some (.slice e)) (hz : szOf P e = some sz) {zero : List V} (hzero : zeroOf P e = some zero) (hzl : zero.length = sz) (hroom : len * sz ≤ 2 ^ 24)
    {row cs : List V} (hrow : row = (List.range (len * sz)).map fun i => zero.getD (i % zero.length) .junk) {l : List (Nat × Nat × V)} {m : Array (Nat × Value)} (hp : Parts g w (fun i => some (i * sz, sz)) l m.toList) (hf : fillA row l = some cs) :
    ∃ xs' : Array Value, (Instr.buildSlice t len m).run P w = .ok (.slice (some (at_ w.heap.size 0)) len len) { w with heap := w.heap.push (.cells xs' e) } ∧ Cells g w cs xs'.toList ∧ cs.length = len * sz := by
  obtain ⟨it, z, hi, hzz, hc0⟩ := zeroOf_info hzero g w
  have hzsz : z.cells.size = sz := by have := hc0.1; simp at this; omega
  have hrow0 : Cells g w row ((Array.range (len * sz)).map fun i => z.cells[i % z.cells.size]!).toList := by
    refine ⟨by rw [hrow]; simp, fun i c x hc hx => ?_⟩
    rw [hrow, List.getElem?_map] at hc
    rcases Nat.lt_or_ge i (len * sz) with hlt | hge
    · rw [List.getElem?_range hlt] at hc
      simp only [Option.map_some, Option.some.injEq] at hc
      have hpos : 0 < sz := by rcases Nat.eq_zero_or_pos sz with h0 | h0; · rw [h0] at hlt; simp at hlt
                               · exact h0
      have hmod : i % sz < sz := Nat.mod_lt _ hpos
      have hx' : x = z.cells[i % z.cells.size]! := by
        simp [hlt] at hx
        exact hx.symm
      rw [hzl] at hc
      have h1 : zero[i % sz]? = some c := by
        rw [← hc, List.getD_eq_getElem?_getD, List.getElem?_eq_getElem (by omega)]
        rfl
      rw [hx', hzsz]
      have h2 : z.cells.toList[i % sz]? = some (z.cells[i % sz]!) := by
        have : i % sz < z.cells.size := by omega
        simp [this]
      exact hc0.2 _ _ _ h1 h2
    · rw [List.getElem?_eq_none (by simpa using hge)] at hc
      cases hc
  obtain ⟨xs', h2, h3⟩ := fill_rel hp hrow0 hf
  have hlen : cs.length = len * sz := by
    have hfl : ∀ (l : List (Nat × Nat × V)) (a b : List V), fillA a l = some b → b.length = a.length := by
      intro l
      induction l with
      | nil => intro a b h; simp [fillA] at h; rw [h]
      | cons p l ih =>
        obtain ⟨off, size, v⟩ := p
        intro a b h
        have h' : (if v.cells.length = size then if off + size ≤ a.length then fillA (setRange a off v.cells) l else none else none) = some b := by
          cases v <;> first | exact h | simp [fillA] at h
        split at h'
        case isFalse => cases h'
        split at h'
        case isFalse => cases h'
        rw [ih _ _ h', setRange_length _ _ _ (by omega)]
    rw [hfl _ _ _ hf, hrow]
    simp
  have hxl : xs'.size = len * sz := by have := h3.1; simp at this; omega
  refine ⟨xs', ?_, h3, hlen⟩
  have hnot : ¬ (len * sz > 2 ^ 24) := by omega
  have hzv : (zeroValue e).run P w = .ok z w := by simp [zeroValue, run_typeInfo (h := hi), hzz]
  have hfill : ∀ zz : Array Value, (len * sz = 0 ∨ zz = z.cells) → Instr.fill (fun i => some (i * sz, sz)) ((Array.range (len * sz)).map fun i => zz[i % zz.size]!) m.toList = some xs' := by
    intro zz hzz'
    rcases hzz' with h0 | rfl
    · have : ((Array.range (len * sz)).map fun i => zz[i % zz.size]!) = ((Array.range (len * sz)).map fun i => z.cells[i % z.cells.size]!) := by rw [h0]; simp
      rw [this]
      exact h2
    · exact h2
  by_cases h0 : len * sz = 0
  · have hf0 := hfill #[] (.inl h0)
    simp only [Instr.buildSlice, Sem.run_bind, run_underlying hu, Result.andThen_ok, run_sizeOf' hz, if_neg hnot, if_pos h0, Sem.run_pure, hf0, newRow]
    rfl
  · have hf0 := hfill z.cells (.inr rfl)
    simp only [Instr.buildSlice, Sem.run_bind, run_underlying hu, Result.andThen_ok, run_sizeOf' hz, if_neg hnot, if_neg h0, hzv, Sem.run_pure, hf0, newRow]
    rfl
theorem goes_bnew {g:G} {h:Heap} {w:World} (s:Sim g h w) {t e:TypeId} {sz len:Nat} (hu:P.underlying t = some (.slice e)) (hz:szOf P e = some sz) {zero:List V} (hzero:zeroOf P e = some zero) (hzl:zero.length = sz) (hroom:len * sz ≤ 2 ^ 24)
  {row cs:List V} (hrow:row = (List.range (len * sz)).map fun i => zero.getD (i % zero.length) .junk) {l:List (Nat × Nat × V)} {m:Array (Nat × Value)} (hp:Parts g w (fun i => some (i * sz,sz)) l m.toList) (hf:fillA row l = some cs) {o:Nat} {eff:Eff}
  (he:mkA (fun o => h[o]?) o (.arr cs) (fun v => .view o v 0 len sz (some len)) = some eff):EffGoes P (Instr.buildSlice t len m) g h w eff:=by
 obtain ⟨xs',hrun,hc,hl⟩:=run_bslice (P:=P) s hu hz hzero hzl hroom hrow hp hf
 exact goes_new s (.inr rfl) he xs' e (fun i c hi => cells_get hc i c hi) _ _ hrun
  (fun g' w' ver hg hs => .view o ver 0 len sz (some len) w.heap.size 0 len _ e hg (Nat.le_refl _) (fun k hk => by cases hk; rfl) hs (fun hk => by cases hk))
theorem freeze_heap (w:World) (a:Addr) (k:Nat):(w.freeze a 1).heap[k]? = if a.block = k then (w.heap[k]?).map (fun | .cells c e (lo,hi) => .cells c e (if lo == hi then (a.off,a.off + 1) else (min lo a.off,max hi (a.off + 1))) | o => o) else w.heap[k]?:=by
 unfold World.freeze
 rw [if_neg (by decide)]
 simp only [Array.getElem?_modify]
 by_cases h:a.block = k
 ·rw [if_pos h,if_pos h]
  cases w.heap[k]? with
  | none => rfl
  | some o => cases o <;> rfl
 ·rw [if_neg h,if_neg h]
theorem freeze_cell (w:World) (a b:Addr):(w.freeze a 1).cell? b = w.cell? b:=by
 unfold World.cell?
 rw [freeze_heap]
 by_cases h:a.block = b.block
 ·rw [if_pos h]
  cases w.heap[b.block]? with
  | none => rfl
  | some o => cases o <;> rfl
 ·rw [if_neg h]
theorem freeze_shape (w:World) (a:Addr) (k:Nat):(w.freeze a 1).shape? k = w.shape? k:=by
 unfold World.shape?
 rw [freeze_heap]
 by_cases h:a.block = k
 ·rw [if_pos h]
  cases w.heap[k]? with
  | none => rfl
  | some o => cases o <;> rfl
 ·rw [if_neg h]
theorem sim_freeze {g:G} {h:Heap} {w:World} (s:Sim g h w) {o b n:Nat} {e:TypeId} (hb:blk g h o = some b) (hs:w.shape? b = some (e,n)):Sim g h (w.freeze (at_ b n) 1) ∧ Ext g h w g h (w.freeze (at_ b n) 1):=by
 have hother:∀ k,k ≠ b → (w.freeze (at_ b n) 1).heap[k]? = w.heap[k]?:=fun k hk => by
  rw [freeze_heap,if_neg (Ne.symm hk)]
 have hL:Later g w g (w.freeze (at_ b n) 1):=⟨rfl,fun _ _ _ h => h,fun _ h => h,fun k hk => hother k (fun e => s.imm o b hb (e ▸ hk)),fun k y hk => by rw [freeze_shape]; exact hk⟩
 have hsize:(w.freeze (at_ b n) 1).heap.size = w.heap.size:=by unfold World.freeze; rw [if_neg (by decide)]; simp
 have hnf:NF w b → NF (w.freeze (at_ b n) 1) b:=by
  intro hf
  obtain ⟨c,fr,hw⟩:∃ c fr,w.heap[b]? = some (.cells c e fr) ∧ c.size = n:=by
   unfold World.shape? at hs
   split at hs
   ·rename_i c e' fr hw; cases hs; exact ⟨c,fr,hw,rfl⟩
   ·cases hs
  obtain ⟨hw,hn⟩:=hw
  obtain ⟨lo,hi⟩:=fr
  have hle:=hf.2 lo hi (by simp [fr?,hw])
  have hnew:(w.freeze (at_ b n) 1).heap[b]? = some (.cells c e (if lo == hi then (n,n + 1) else (min lo n,max hi (n + 1)))):=by
   rw [freeze_heap,hw]
   simp [at_]
  have hcell:∀ i x,w.cell? (at_ b i) = some x ↔ c[i]? = some x:=fun i x => by simp [World.cell?,hw,at_]
  have hlo:lo ≠ hi → n ≤ lo:=by
   intro hne
   rcases Nat.lt_or_ge lo n with hlt | hge
   ·exfalso
    refine hf.1 lo ?_ c[lo] ((hcell _ _).2 (by simp [hn,hlt]))
    simp [World.frozen?,hw,at_]
    omega
   ·exact hge
  refine ⟨fun i hi' x hx => ?_,fun lo' hi' hfr => ?_⟩
  ·rw [freeze_cell,hcell] at hx
   have hlt:i < n:=by
    rcases Nat.lt_or_ge i n with h1 | h1
    ·exact h1
    ·rw [Array.getElem?_eq_none (by omega)] at hx; cases hx
   simp only [World.frozen?,at_,hnew] at hi'
   by_cases hlh:lo = hi
   ·subst hlh
    simp at hi'
    omega
   ·have:=hlo hlh
    have hb':(lo == hi) = false:=by simpa using hlh
    simp only [hb',Bool.false_eq_true,if_false,Bool.and_eq_true,decide_eq_true_eq] at hi'
    omega
  ·simp only [fr?,hnew,Option.some.injEq] at hfr
   split at hfr <;> cases hfr <;> omega
 refine ⟨⟨fun o' x hx hl => ?_,s.inj,s.imm,fun k hk => by rw [hsize]; exact s.immlt k hk,s.loclt⟩,
  ⟨rfl,fun _ _ _ h => h,fun _ h => h,fun _ h => .inl h,by rw [hsize]; exact Nat.le_refl _,fun k y hk => by rw [freeze_shape]; exact hk,fun k hk hno => hother k (fun e => hno o (e ▸ hb)),fun o' k hk _ => ⟨o',hk⟩,?_,?_,?_⟩⟩
 ·obtain ⟨b',base,h1,h2,h3⟩:=s.obs o' x hx hl
  refine ⟨b',base,h1,by rw [hsize]; exact h2,?_⟩
  by_cases hbb:b' = b
  ·subst hbb
   have cells:∀ cs,(∃ e n,w.shape? b' = some (e,n)) ∧ NF w b' ∧ Lies g w b' base cs → (∃ e1 n1,(w.freeze (at_ b' n) 1).shape? b' = some (e1,n1)) ∧ NF (w.freeze (at_ b' n) 1) b' ∧ Lies g (w.freeze (at_ b' n) 1) b' base cs:=by
    rintro cs ⟨q1,q2,q3⟩
    refine ⟨⟨e,n,by rw [freeze_shape]; exact hs⟩,hnf q2,fun i c hc => ?_⟩
    obtain ⟨y,hy,hr⟩:=q3 i c hc
    exact ⟨y,by rw [freeze_cell]; exact hy,hr.later hL⟩
   cases hbd:x.bd with
   | dead => trivial
   | var cs => rw [hbd] at h3; exact cells cs h3
   | arr cs => rw [hbd] at h3; exact cells cs h3
   | loop st pend t fb f k =>
    rw [hbd] at h3
    obtain ⟨-,rec,hrec,-⟩:=h3
    unfold World.shape? at hs
    rw [hrec] at hs
    cases hs
   | map es =>
    rw [hbd] at h3
    obtain ⟨-,-,p,es',clock,-,hes,-⟩:=h3
    unfold World.shape? at hs
    rw [hes] at hs
    cases hs
  ·exact h3.later hL (hother b' hbb)
 all_goals (unfold World.freeze; rw [if_neg (by decide)])
theorem goes_mark {g:G} {h:Heap} {w:World} (s:Sim g h w) {t e:TypeId} (hu:P.underlying t = some (.slice e)) (hb:P.underlying e = some (.int .u8)) {o ver off len sz:Nat} {cap:Option Nat} {x:Value} (hx:VRel g w (.view o ver off len sz cap) x)
  {all:List V} (hc:cellsAt (fun o => h[o]?) o ver = some all):Goes P (convert t t x) g h w (.view o ver off len sz cap) h:=by
 cases hx with
 | view _ _ _ _ _ _ b base c n e' hg hl hk hs hn =>
  obtain ⟨_,b',base',-,-,-,hg',hblk,-,-,-,-⟩:=sim_cells s hc
  rw [hg] at hg'
  cases hg'
  obtain ⟨s',x'⟩:=sim_freeze s hblk hs
  refine ⟨g,_,_,?_,s',x',.view o ver off len sz cap b base c n e' hg hl hk (x'.shape _ _ hs) hn⟩
  have hsh:(shape (at_ b (base + off)).block).run P w = .ok (some (e',n)) w:=by simp [at_,hs]
  simp [convert,run_underlying hu,run_underlying hb,markStringish,hs,at_]
theorem goes_b2s {g:G} {h:Heap} {w:World} (s:Sim g h w) {src dst e:TypeId} (hu:P.underlying src = some (.slice e)) (hb:P.underlying e = some (.int .u8)) (hd:P.underlying dst = some .string) {y:V} {x:Value} (hx:VRel g w y x)
  {n:Nat} (hn:lenA y = some n) {cs:List V} (hf:firstA (fun o => h[o]?) 1 n y = some cs) (hns:∀ b,y ≠ .str b) {l:List UInt8} (hl:(cs.mapM fun (c:V) => match c with | .int .u8 n => some (UInt8.ofNat n.toNat) | _ => none) = some l) :
  Goes P (convert src dst x) g h w (.str l) h:=by
 obtain ⟨xs,hrun,hcells,hxl,hcl⟩:=goes_first (P:=P) s hx hf
 obtain ⟨ns,hxs,hls⟩:∃ ns:List Int,xs = ns.map (Value.int .u8) ∧ l = ns.map fun n => UInt8.ofNat n.toNat:=by
  have key:∀ (cs:List V) (xs:List Value) (l:List UInt8),Cells g w cs xs → (cs.mapM fun (c:V) => match c with | .int .u8 n => some (UInt8.ofNat n.toNat) | _ => none) = some l → ∃ ns:List Int,xs = ns.map (Value.int .u8) ∧ l = ns.map fun n => UInt8.ofNat n.toNat:=by
   intro cs
   induction cs with
   | nil =>
    intro xs l hc hl
    simp at hl
    subst hl
    have:xs = []:=List.length_eq_zero_iff.1 hc.1
    exact ⟨[],by simp [this],rfl⟩
   | cons c cs ih =>
    intro xs l hc hl
    simp only [List.mapM_cons,Option.bind_eq_bind,Option.bind_eq_some_iff,Option.pure_def,Option.some.injEq] at hl
    obtain ⟨b,hb,l',hl',rfl⟩:=hl
    cases xs with
    | nil => exact absurd hc.1 (by simp)
    | cons x xs =>
     obtain ⟨ns,h1,h2⟩:=ih xs l' ⟨by simpa using hc.1,fun i c x h1 h2 => hc.2 (i + 1) c x (by simpa using h1) (by simpa using h2)⟩ hl'
     have hr:=hc.2 0 c x rfl rfl
     split at hb
     ·rename_i n
      cases hb
      cases hr
      exact ⟨n :: ns,by simp [h1],by simp [h2]⟩
     ·cases hb
  exact key cs xs l hcells hl
 subst hxs hls
 refine .still s (x:=.string ⟨⟨ns.map fun n => UInt8.ofNat n.toNat⟩⟩) ?_ (.str _)
 have hr:=hrun w.drawn
 cases hx with
 | str b => exact absurd rfl (hns b)
 | nils =>
  have:ns = []:=by
   simp only [lenA,Option.some.injEq] at hn
   subst hn
   simpa using hxl
  subst this
  exact run_convert_bytes_nil w src e hu hb 0 0 dst hd
 | view o t off len sz cap b base c n' e' hg hlc hk hs hn' =>
  simp only [lenA,Option.some.injEq] at hn
  subst hn
  rw [run_convert_bytes_string w src dst e _ _ _ hu hb hd]
  have hr':(loadCells (at_ b (base + off)) len).run P w = .ok (ns.map (Value.int .u8)).toArray w:=by simpa [Builtin.firstCells] using hr
  rw [run_bytesToString w _ len c ns hr',foldl_push_bytes]
  simp [ByteArray.empty,ByteArray.emptyWithCapacity]
  rfl
 | vend o t sz b base p c n' e' hg hs hn' =>
  simp only [lenA,Option.some.injEq] at hn
  subst hn
  rw [run_convert_bytes_string w src dst e _ _ _ hu hb hd]
  have hr':(loadCells (at_ b p) 0).run P w = .ok (ns.map (Value.int .u8)).toArray w:=by simpa [Builtin.firstCells] using hr
  rw [run_bytesToString w _ 0 c ns hr',foldl_push_bytes]
  simp [ByteArray.empty,ByteArray.emptyWithCapacity]
  rfl
 | sl L sz cap b off c f hi hlc hk hz hc hv =>
  simp only [lenA,Option.some.injEq] at hn
  subst hn
  rw [run_convert_bytes_string w src dst e _ _ _ hu hb hd]
  have hr':(loadCells (at_ b off) L.length).run P w = .ok (ns.map (Value.int .u8)).toArray w:=by simpa [Builtin.firstCells] using hr
  rw [run_bytesToString w _ L.length c ns hr',foldl_push_bytes]
  simp [ByteArray.empty,ByteArray.emptyWithCapacity]
  rfl
 | sl0 sz cap a hk =>
  simp only [lenA,List.length_nil,Option.some.injEq] at hn
  subst hn
  rw [run_convert_bytes_string w src dst e _ _ _ hu hb hd]
  have hr':(loadCells a 0).run P w = .ok (ns.map (Value.int .u8)).toArray w:=by simpa [Builtin.firstCells] using hr
  rw [run_bytesToString w _ 0 0 ns hr',foldl_push_bytes]
  simp [ByteArray.empty,ByteArray.emptyWithCapacity]
  rfl
 | _ => simp [lenA] at hn
theorem freeze_alloc (w:World) (C:Array Value) (e:TypeId) (n:Nat):({ w with heap:=w.heap.push (.cells C e) }:World).freeze (at_ w.heap.size n) 1 = { w with heap:=w.heap.push (.cells C e (n,n + 1)) }:=by
 have hm:∀ (a:Array Obj) (x:Obj) (f:Obj → Obj),(a.push x).modify a.size f = a.push (f x):=by
  intro a x f
  apply Array.ext
  ·simp
  ·intro i h1 h2
   simp only [Array.getElem_modify,Array.getElem_push]
   by_cases h:a.size = i
   ·subst h
    simp
   ·have hi:i < a.size:=by simp at h1; omega
    simp [h,hi]
 unfold World.freeze
 rw [if_neg (by decide)]
 simp only [at_]
 rw [hm]
 rfl
theorem goes_s2b {g:G} {h:Heap} {w:World} (s:Sim g h w) {src dst e:TypeId} (hs:P.underlying src = some .string) (hd:P.underlying dst = some (.slice e)) (hb:P.underlying e = some (.int .u8)) {b:List UInt8} {x:Value} (hx:VRel g w (.str b) x)
  {o:Nat} {eff:Eff} (he:mkA (fun o => h[o]?) o (.arr (b.map fun c => .int .u8 c.toNat)) (fun v => .view o v 0 b.length 1 none) = some eff):EffGoes P (convert src dst x) g h w eff:=by
 cases hx
 unfold mkA at he
 cases ho:h[o]? with
 | none => simp [ho] at he
 | some ob =>
  simp only [ho,Option.some.injEq] at he
  subst he
  have hrun:=run_bytes_of_string (P:=P) w src dst e ⟨⟨b⟩⟩ hs hd hb
  generalize hC:bytesRow ⟨⟨b⟩⟩ (grownCap w (ByteArray.mk ⟨b⟩).size 0 e) = C at hrun
  have hsz:(ByteArray.mk ⟨b⟩).size = b.length:=rfl
  have hcap:b.length ≤ grownCap w (ByteArray.mk ⟨b⟩).size 0 e:=by
   rw [← hsz]
   simp only [grownCap,Question.cut]
   omega
  have hCs:C.size = grownCap w (ByteArray.mk ⟨b⟩).size 0 e:=by
   rw [← hC]
   simp only [bytesRow,Array.size_append,Array.size_map,Array.size_replicate]
   have:(ByteArray.mk ⟨b⟩).data.size = b.length:=rfl
   rw [this,hsz]
   rw [hsz] at hcap
   omega
  obtain ⟨h1,h2,h3,h4⟩:=sim_new s.drew' ho (.arr (b.map fun c => .int .u8 c.toNat)) (b.map fun c => .int .u8 c.toNat) (.inr rfl) C e (fun i v hi => by
   rw [List.getElem?_map] at hi
   simp only [Option.map_eq_some_iff] at hi
   obtain ⟨c,hc,rfl⟩:=hi
   refine ⟨.int .u8 c.toNat,?_,.int _ _⟩
   have hlt:i < b.length:=by rcases Nat.lt_or_ge i b.length with k | k; exact k; simp [List.getElem?_eq_none k] at hc
   rw [← hC,bytesRow,Array.getElem?_append_left (by simpa using hlt)]
   simp [hc])
  have hblk:blk (g.put o (ob.ver + 1) (w.drew.heap.size,0)) (h.set o ⟨ob.ver + 1,.arr (b.map fun c => V.int .u8 c.toNat)⟩) o = some w.drew.heap.size:=by
   have hlt:o < h.length:=by rcases Nat.lt_or_ge o h.length with k | k; exact k; simp [List.getElem?_eq_none k] at ho
   exact blk_of (by rw [List.getElem?_set_self hlt]) rfl h3
  obtain ⟨f1,f2⟩:=sim_freeze h1 hblk h4
  have hsz2:w.drew.heap.size = w.heap.size:=rfl
  have heq:=freeze_alloc w.drew C e C.size
  rw [hsz2] at heq
  have hrun':(convert src dst (.string ⟨⟨b⟩⟩)).run P w = .ok (.slice (some ⟨w.heap.size,0,none⟩) b.length (grownCap w (ByteArray.mk ⟨b⟩).size 0 e)) { w.drew with heap:=w.drew.heap.push (.cells C e (C.size,C.size + 1)) }:=hrun
  rw [← heq] at hrun'
  refine ⟨_,_,_,hrun',f1,((Ext.drew g h w _).trans h2).trans f2,?_⟩
  exact .view o _ 0 b.length 1 none w.heap.size 0 _ _ e h3 hcap (fun k hk => by cases hk) (f2.shape _ _ h4) (fun _ => by rw [← hCs]; omega)
theorem goes_slAi {g:G} {h:Heap} {w:World} (s:Sim g h w) {t e:TypeId} {n sz:Nat} (hu:P.underlying t = some (.array n e)) (hz:szOf P e = some sz)
  {cs:List V} {off:Nat} {x:Value} (hp:VRel g w (.iptr cs off) x) {lo hi mx:Option V} {lo' hi' mx':Option Value} (h1:OptRel g w lo lo') (h2:OptRel g w hi hi') (h3:OptRel g w mx mx')
  {l k m:Nat} (hb:boundsA n n lo hi mx = some (l,k,m)) (hle:off + n * sz ≤ cs.length) (hone:cs.all V.oneCell = true) :
  Goes P (Instr.sliceAt t x lo' hi' mx') g h w (.sl ((List.range (k - l)).map fun i => wrapV ((cs.drop (off + (l + i) * sz)).take sz)) sz (some (m - l))) h:=by
 obtain ⟨hrun,hlk,hkl,hkc,hm1,hm2⟩:=run_bounds (P:=P) h1 h2 h3 false hb (Nat.le_refl _) w
 cases hp with
 | iptr _ _ b base f hi0 hc hv =>
  have hmm:(if mx.isSome then m else n) = m:=by
   cases mx with
   | none => simp [hm2 rfl]
   | some v => simp
  rw [hmm] at hrun
  have hkm:k ≤ m ∧ m ≤ n:=by
   cases mx with
   | none =>
    have:=hm2 rfl
    rcases hkl with hh | hh
    ·simp [hh] at hkc; omega
    ·omega
   | some v => exact ⟨(hm1 rfl).1,(hm1 rfl).2⟩
  refine .still s (x:=.slice (some (if m = l then at_ b (base + off) else (at_ b (base + off)).add (l * sz))) (k - l) (m - l)) ?_ ?_
  ·simp [Instr.sliceAt,run_underlying hu,run_sureAddr,hrun,run_sizeOf' hz]
  ·rw [add_at]
   have hget:∀ (i:Nat) (el:V),((List.range (k - l)).map fun i => wrapV ((cs.drop (off + (l + i) * sz)).take sz))[i]? = some el → i < k - l ∧ el.cells = (cs.drop (off + (l + i) * sz)).take sz ∧ ((cs.drop (off + (l + i) * sz)).take sz).length = sz:=by
    intro i el hel
    rcases Nat.lt_or_ge i (k - l) with hlt | hge
    ·rw [List.getElem?_map,List.getElem?_range hlt] at hel
     simp only [Option.map_some,Option.some.injEq] at hel
     have hmul:(l + i + 1) * sz ≤ n * sz:=Nat.mul_le_mul_right _ (by omega)
     rw [Nat.add_mul (l + i),Nat.one_mul] at hmul
     refine ⟨hlt,?_,by simp; omega⟩
     rw [← hel]
     exact wrap_cells _ (fun c hc' => by simpa using List.all_eq_true.1 hone c (List.mem_of_mem_drop (List.mem_of_mem_take hc')))
    ·rw [List.getElem?_eq_none (by simpa using hge)] at hel
     cases hel
   have key:=VRel.sl (g:=g) (w:=w) ((List.range (k - l)).map fun i => wrapV ((cs.drop (off + (l + i) * sz)).take sz)) sz (some (m - l)) b (base + off + l * sz) (m - l) (fun j => f (off + l * sz + j)) (fun _ => hi0) (by simp; omega) (fun k hk => by cases hk; rfl)
    (fun i el hel => by rw [(hget i el hel).2.1]; exact (hget i el hel).2.2)
    (fun j hj => by
     simp only [List.length_map,List.length_range] at hj
     have h4:(k - l) * sz + l * sz ≤ n * sz:=by rw [← Nat.add_mul]; exact Nat.mul_le_mul_right _ (by omega)
     rw [show base + off + l * sz + j = base + (off + l * sz + j) by omega]
     exact hc _ (by omega))
    (fun i el j x hel hx => by
     obtain ⟨hi1,hi2,hi3⟩:=hget i el hel
     rw [hi2,List.getElem?_take] at hx
     split at hx
     case isFalse => cases hx
     rw [List.getElem?_drop] at hx
     have:=hv _ _ hx
     rw [Nat.add_mul] at this
     rw [show off + l * sz + (i * sz + j) = off + (l * sz + i * sz) + j by omega]
     exact this)
   simp only [List.length_map,List.length_range] at key
   split
   ·rename_i hml
    have h0:k - l = 0:=by omega
    rw [h0]
    have:=VRel.sl (g:=g) (w:=w) [] sz (some (m - l)) b (base + off) (m - l) f (fun _ => hi0) (Nat.zero_le _) (fun k hk => by cases hk; rfl) (fun i e h => by simp at h) (fun j hj => by simp at hj) (fun i e j x h => by simp at h)
    exact this
   ·exact key
end Go.Am


set_option linter.unusedVariables false
set_option linter.unusedSimpArgs false
namespace Go.Am
variable {P:Program}
theorem put_same {g:G} {o ver:Nat} {bb:Nat × Nat} (h:g.loc o ver = some bb):g.put o ver bb = g:=by
 have:(fun o' t => if o' = o ∧ t = ver then some bb else g.loc o' t) = g.loc:=by
  funext o' t
  split
  ·rename_i he; obtain ⟨rfl,rfl⟩:=he; exact h.symm
  ·rfl
 unfold G.put
 rw [this]
theorem sim_loop {g:G} {h:Heap} {w:World} (s:Sim g h w) {o ver st fb f k:Nat} {pend:Option (Option Nat)} {t:List V} (hx:h[o]? = some ⟨ver,.loop st pend t fb f k⟩) :
  ∃ b rec,g.loc o ver = some (b,0) ∧ blk g h o = some b ∧ b < w.heap.size ∧ w.heap[b]? = some (.loop rec) ∧ stateN rec.state = st ∧ rec.pending = pend.map jumpC ∧ g.code f k = some ⟨rec.params,rec.assign,rec.body⟩ ∧
   rec.tmps.size = t.length ∧ ∀ (i:Nat) (v:V),t[i]? = some v → VRel g w v (rec.tmps.getD i undef):=by
 obtain ⟨b,base,h1,h2,h3⟩:=s.obs o _ hx rfl
 obtain ⟨rfl,rec,q1,q2,q3,q4,q5,q6⟩:=h3
 exact ⟨b,rec,h1,blk_of hx rfl h1,h2,q1,q2,q3,q4,q5,q6⟩
theorem sim_turn {g:G} {h:Heap} {w:World} (s:Sim g h w) {o ver st fb f k b:Nat} {pend:Option (Option Nat)} {t:List V} {rec:Loop} (hx:h[o]? = some ⟨ver,.loop st pend t fb f k⟩) (hg:g.loc o ver = some (b,0)) (hw:w.heap[b]? = some (.loop rec))
  {rec':Loop} {st':Nat} {pend':Option (Option Nat)} (h1:stateN rec'.state = st') (h2:rec'.pending = pend'.map jumpC) (h3:rec'.params = rec.params) (h4:rec'.assign = rec.assign) (h5:rec'.body = rec.body) (h6:rec'.tmps = rec.tmps) :
  Sim g (h.set o ⟨ver,.loop st' pend' t fb f k⟩) (w.putObj b (.loop rec')) ∧ Ext g h w g (h.set o ⟨ver,.loop st' pend' t fb f k⟩) (w.putObj b (.loop rec')):=by
 obtain ⟨b',rec0,q0,q1,q2,q3,q4,q5,q6,q7,q8⟩:=sim_loop s hx
 rw [hg] at q0
 cases q0
 rw [hw] at q3
 cases q3
 have hshape:∀ k y,w.shape? k = some y → (w.putObj b (.loop rec')).shape? k = some y:=by
  intro k y hk
  by_cases e:k = b
  ·subst e
   simp [World.shape?,hw] at hk
  ·unfold World.shape? at hk ⊢
   rw [World.putObj_heap_other e]
   exact hk
 have hframe:∀ k,k < w.heap.size → k ≠ b → (w.putObj b (.loop rec')).heap[k]? = w.heap[k]?:=fun k _ hk => World.putObj_heap_other hk
 have hL:Later g w g (w.putObj b (.loop rec')):=⟨rfl,fun _ _ _ h => h,fun _ h => h,fun k hk => hframe k (s.immlt k hk) (fun e => s.imm o b q1 (e ▸ hk)),hshape⟩
 have:=sim_set s (x':=⟨ver,.loop st' pend' t fb f k⟩) (b:=b) (base:=0) (w':=w.putObj b (.loop rec')) hx (Nat.le_refl _) rfl (fun bb hq => by rw [hg] at hq; cases hq; rfl) (.inr q1) (by simp [World.putObj]; exact q2) (by simp [World.putObj]) hshape hframe rfl rfl rfl
  (by
   show BdRel (g.put o ver (b,0)) _ b 0 _
   rw [put_same hg]
   exact ⟨rfl,rec',World.putObj_heap_same q2,h1,h2,by rw [h3,h4,h5]; exact q6,by rw [h6]; exact q7,fun i v hi => by rw [h6]; exact (q8 i v hi).later hL⟩)
 rw [show g.put o ver (b,0) = g from put_same hg] at this
 exact this
theorem shape_alloc {w:World} (x:Obj) {k:Nat} {y:TypeId × Nat} (h:w.shape? k = some y):(w.alloc x).shape? k = some y:=shape_push x k y h
theorem heap_alloc {w:World} (x:Obj) {k:Nat} (h:k < w.heap.size):(w.alloc x).heap[k]? = w.heap[k]?:=by
 show (w.heap.push x)[k]? = _
 rw [Array.getElem?_push,if_neg (by omega)]
theorem sim_lay {g:G} {h:Heap} {w:World} (s:Sim g h w) (x:Obj):Sim g h (w.alloc x) ∧ Ext g h w g h (w.alloc x):=by
 have hL:Later g w g (w.alloc x):=⟨rfl,fun _ _ _ h => h,fun _ h => h,fun k hk => heap_alloc x (s.immlt k hk),fun k y hk => shape_alloc x hk⟩
 refine ⟨⟨fun o y hy hl => ?_,s.inj,s.imm,fun b hb => by rw [World.size_alloc]; have:=s.immlt b hb; omega,s.loclt⟩,
  ⟨rfl,fun _ _ _ h => h,fun _ h => h,fun _ h => .inl h,by rw [World.size_alloc]; omega,fun k y hk => shape_alloc x hk,fun k hk _ => heap_alloc x hk,fun o b hb _ => ⟨o,hb⟩,rfl,rfl,rfl⟩⟩
 obtain ⟨b,base,h1,h2,h3⟩:=s.obs o y hy hl
 exact ⟨b,base,h1,by rw [World.size_alloc]; omega,h3.later hL (heap_alloc x h2)⟩
theorem sim_newloop {g:G} {h:Heap} {w:World} (s:Sim g h w) {o:Nat} {x:Ob} (hx:h[o]? = some x) {t:List V} {fb f k:Nat} {rec:Loop} (h1:rec.state = .ready) (h2:rec.pending = none)
  (h3:g.code f k = some ⟨rec.params,rec.assign,rec.body⟩) (h4:rec.tmps.size = t.length) (h5:∀ (i:Nat) (v:V),t[i]? = some v → VRel g w v (rec.tmps.getD i undef)) :
  Sim (g.put o (x.ver + 1) (w.heap.size,0)) (h.set o ⟨x.ver + 1,.loop 0 none t fb f k⟩) (w.alloc (.loop rec)) ∧ Ext g h w (g.put o (x.ver + 1) (w.heap.size,0)) (h.set o ⟨x.ver + 1,.loop 0 none t fb f k⟩) (w.alloc (.loop rec)):=by
 have hfresh:g.loc o (x.ver + 1) = none:=by
  cases hq:g.loc o (x.ver + 1) with
  | none => rfl
  | some bb =>
   obtain ⟨y,hy,hty⟩:=s.loclt _ _ _ hq
   rw [hx] at hy
   cases hy
   omega
 have hloc:∀ o' t bb,g.loc o' t = some bb → (g.put o (x.ver + 1) (w.heap.size,0)).loc o' t = some bb:=by
  intro o' t bb hg
  simp only [G.put]
  split
  ·rename_i he
   obtain ⟨rfl,rfl⟩:=he
   rw [hfresh] at hg
   cases hg
  ·exact hg
 have hL:Later g w (g.put o (x.ver + 1) (w.heap.size,0)) (w.alloc (.loop rec)):=⟨rfl,hloc,fun _ h => h,fun k hk => heap_alloc _ (s.immlt k hk),fun k y hk => shape_alloc _ hk⟩
 refine sim_set s (x':=⟨x.ver + 1,.loop 0 none t fb f k⟩) (b:=w.heap.size) (base:=0) (w':=w.alloc (.loop rec)) hx (by simp) rfl
  (fun bb hg => by rw [hfresh] at hg; cases hg) (.inl (Nat.le_refl _)) (by rw [World.size_alloc]; omega) (by rw [World.size_alloc]; omega) (fun k y hk => shape_alloc _ hk) (fun k hk _ => heap_alloc _ hk) rfl rfl rfl ?_
 exact ⟨rfl,rec,World.alloc_heap_new w _,by rw [h1]; rfl,by rw [h2]; rfl,h3,h4,fun i v hi => (h5 i v hi).later hL⟩
end Go.Am


set_option linter.unusedVariables false
set_option linter.unusedSimpArgs false
namespace Go.Am
variable {P:Program}
theorem goes_s2ap {g:G} {h:Heap} {w:World} (s:Sim g h w) {arr e:TypeId} {n sz:Nat} (hu:P.underlying arr = some (.array n e)) (hn:n ≠ 0) {p v:V} {x:Value} (hp:VRel g w p x) (hv:s2apA n sz p = some v) :
  Goes P (Instr.arrayAt arr x) g h w v h:=by
 have run:∀ (len c:Nat) (a:Addr),n ≤ len → (Instr.arrayAt arr (.slice (some a) len c)).run P w = .ok (.pointer (some a)) w:=by
  intro len c a hl
  have:¬ len < n:=by omega
  simp [Instr.arrayAt,run_underlying hu,this]
 cases hp <;> simp only [s2apA,reduceCtorEq] at hv
 case view o ver off len s' cap b base c n' e' hg hl hk hs' hn' =>
  split at hv
  ·split at hv
   ·rename_i h2
    cases hv
    exact Goes.still s (run _ _ _ h2) (.ptr _ _ _ _ _ hg)
   ·cases hv
  ·cases hv
 case sl L s' cap b off c f hi hl hk hz hc hv' =>
  split at hv
  ·rename_i h1
   subst h1
   split at hv
   ·rename_i h2
    cases hv
    refine Goes.still s (run _ _ _ h2) ?_
    have hall:∀ e ∈ L.take n,e.cells.length = s':=fun e he => by
     obtain ⟨i,hi,rfl⟩:=List.getElem_of_mem (List.mem_of_mem_take he)
     exact hz i _ (List.getElem?_eq_getElem hi)
    obtain ⟨f1,f2⟩:=flat_get s' (L.take n) hall
    have hlen:((L.take n).flatMap V.cells).length = n * s':=by rw [f1,List.length_take,Nat.min_eq_left h2]
    have hmul:n * s' ≤ L.length * s':=Nat.mul_le_mul_right _ h2
    have:=VRel.iptr (g:=g) (w:=w) ((L.take n).flatMap V.cells) 0 b off f (hi (fun e => by rw [e] at h2; simp at h2; omega))
     (fun j hj => hc j (by omega)) (fun j c hj => by
      obtain ⟨i,k,e,rfl,hk',hi',hcc⟩:=f2 j c hj
      have:L[i]? = some e:=by
       rw [List.getElem?_take] at hi'
       split at hi'
       ·exact hi'
       ·cases hi'
      exact hv' _ _ _ _ this hcc)
    simpa using this
   ·cases hv
  ·cases hv
 case sl0 s' cap a hk =>
  split at hv
  ·split at hv
   ·rename_i h2; simp at h2; exact absurd h2 hn
   ·cases hv
  ·cases hv
def agKey (P:Program) (t:TypeId):Option Bool :=
 match P.underlying t with
 | some .bool | some (.int _) | some .string => some false
 | some (.struct _) => some true
 | _ => none
theorem key_is {g:G} {w:World} {t:TypeId} {ag:Bool} (ha:agKey P t = some ag) {k:V} {K:Value} (hr:VRel g w k K) {cs:List V} (hc:keyC ag k = some cs):Is P g w t cs K:=by
 unfold agKey at ha
 split at ha
 ·rename_i hu; cases ha
  cases k <;> simp only [keyC,Option.some.injEq,reduceCtorEq] at hc <;> subst hc <;> simp only [Is,hu] <;> exact ⟨_,rfl,hr⟩
 ·rename_i hu; cases ha
  cases k <;> simp only [keyC,Option.some.injEq,reduceCtorEq] at hc <;> subst hc <;> simp only [Is,hu] <;> exact ⟨_,rfl,hr⟩
 ·rename_i hu; cases ha
  cases k <;> simp only [keyC,Option.some.injEq,reduceCtorEq] at hc <;> subst hc <;> simp only [Is,hu] <;> exact ⟨_,rfl,hr⟩
 ·rename_i fs hu; cases ha
  cases k <;> simp only [keyC,Option.some.injEq,reduceCtorEq] at hc
  subst hc
  exact is_agg (.inr ⟨fs,hu⟩) hr
 ·cases ha
theorem keyC_cells {ag:Bool} {k:V} {cs:List V} (h:keyC ag k = some cs):k.cells = cs:=by
 unfold keyC at h
 split at h
 ·cases h; rfl
 ·cases h
 ·cases h
 ·rename_i hne
  cases h
  cases k <;> first | rfl | exact absurd rfl (hne _)
theorem eqCell_true {k:CK} {a b:V} (h:eqCell k a b = some true):a = b:=by
 unfold eqCell at h
 split at h
 ·simp at h; rw [h]
 ·rename_i q k1 x k2 y
  by_cases e1:k1 = q
  ·by_cases e2:k2 = q
   ·rw [if_pos e1,if_pos e2] at h
    have h3:x = y:=by simpa using h
    rw [e1,e2,h3]
   ·rw [if_pos e1,if_neg e2] at h; cases h
  ·rw [if_neg e1] at h; cases h
 ·simp at h; rw [h]
 ·cases h
theorem eqCells_true:∀ {ks:List CK} {as bs:List V},eqCells ks as bs = some true → as = bs
 | [],[],[],_ => rfl
 | [],_ :: _,_,h => by simp [eqCells] at h
 | [],[],_ :: _,h => by simp [eqCells] at h
 | _ :: _,[],_,h => by simp [eqCells] at h
 | _ :: _,_ :: _,[],h => by simp [eqCells] at h
 | k :: ks,a :: as,b :: bs,h => by
  simp only [eqCells] at h
  split at h
  ·rename_i x y h1 h2
   simp only [Option.some.injEq,Bool.and_eq_true] at h
   obtain ⟨rfl,rfl⟩:=h
   rw [eqCell_true h1,eqCells_true h2]
  ·cases h
theorem eqCell_self {k:CK} {a b:V} {r:Bool} (h:eqCell k a b = some r):eqCell k a a = some true:=by
 unfold eqCell at h
 split at h
 ·simp [eqCell]
 ·split at h
  ·split at h
   ·rename_i h1 h2; simp [eqCell,h1]
   ·cases h
  ·cases h
 ·simp [eqCell]
 ·cases h
theorem eqCells_own:∀ {ks:List CK} {as bs:List V} {r:Bool},eqCells ks as bs = some r → eqCells ks as as = some true
 | [],[],[],_,_ => rfl
 | [],_ :: _,_,_,h => by simp [eqCells] at h
 | [],[],_ :: _,_,h => by simp [eqCells] at h
 | _ :: _,[],_,_,h => by simp [eqCells] at h
 | _ :: _,_ :: _,[],_,h => by simp [eqCells] at h
 | k :: ks,a :: as,b :: bs,r,h => by
  simp only [eqCells] at h
  split at h
  ·rename_i x y h1 h2
   simp only [eqCells,eqCell_self h1,eqCells_own h2,Bool.and_self]
  ·cases h
theorem ba_beq (a b:List UInt8):(({ data:={ toList:=a } }:ByteArray) == { data:={ toList:=b } }) = (a == b):=by
 show (({ toList:=a }:Array UInt8) == { toList:=b }) = _
 simp
theorem plain_vals {g:G} {w:World} {k:CK} {a:V} {X Y:Value} (h:eqCell k a a = some true) (hx:VRel g w a X) (hy:VRel g w a Y):X = Y ∧ ∀ n,Instr.sameBits n X X = true:=by
 unfold eqCell at h
 split at h
 ·cases hx; cases hy; exact ⟨rfl,fun n => by cases n <;> simp [Instr.sameBits]⟩
 ·cases hx; cases hy; exact ⟨rfl,fun n => by cases n <;> simp [Instr.sameBits]⟩
 ·cases hx; cases hy; exact ⟨rfl,fun n => by cases n <;> simp only [Instr.sameBits,ba_beq,beq_self_eq_true]⟩
 ·cases h
theorem plain_lists {g:G} {w:World}:∀ {ks:List CK} {as:List V} {xs ys:List Value},eqCells ks as as = some true → Cells g w as xs → Cells g w as ys → xs = ys ∧ ∀ x ∈ xs,∀ n,Instr.sameBits n x x = true
 | ks,[],xs,ys,_,hx,hy => by
  have h1:xs = []:=List.length_eq_zero_iff.1 hx.1
  have h2:ys = []:=List.length_eq_zero_iff.1 hy.1
  subst h1; subst h2
  exact ⟨rfl,fun x hx => by cases hx⟩
 | [],a :: as,_,_,h,_,_ => by simp [eqCells] at h
 | k :: ks,a :: as,xs,ys,h,hx,hy => by
  simp only [eqCells] at h
  split at h
  case h_2 => cases h
  rename_i u v h1 h2
  simp only [Option.some.injEq,Bool.and_eq_true] at h
  obtain ⟨rfl,rfl⟩:=h
  cases xs with
  | nil => have:=hx.1; simp at this
  | cons X xs =>
   cases ys with
   | nil => have:=hy.1; simp at this
   | cons Y ys =>
    obtain ⟨rfl,e2⟩:=plain_vals h1 (hx.2 0 a X rfl rfl) (hy.2 0 a Y rfl rfl)
    obtain ⟨rfl,e4⟩:=plain_lists h2 (xs:=xs) (ys:=ys) ⟨by have:=hx.1; simpa using this,fun i c x h1 h2 => hx.2 (i + 1) c x (by simpa using h1) (by simpa using h2)⟩ ⟨by have:=hy.1; simpa using this,fun i c x h1 h2 => hy.2 (i + 1) c x (by simpa using h1) (by simpa using h2)⟩
    exact ⟨rfl,fun x hx n => by
     rcases List.mem_cons.1 hx with rfl | hx
     ·exact e2 n
     ·exact e4 x hx n⟩
theorem key_same {g:G} {w:World} {t:TypeId} {ag:Bool} (ha:agKey P t = some ag) {ks:List CK} {cs:List V} (hs:eqCells ks cs cs = some true) {K K':Value} (h1:Is P g w t cs K) (h2:Is P g w t cs K'):K = K' ∧ ∀ n,Instr.sameBits (n + 1) K K = true:=by
 have scalar:(∃ a,cs = [a] ∧ VRel g w a K) → (∃ a,cs = [a] ∧ VRel g w a K') → K = K' ∧ ∀ n,Instr.sameBits (n + 1) K K = true:=by
  rintro ⟨a,rfl,r1⟩ ⟨b,e,r2⟩
  obtain rfl:a = b:=by simpa using e
  cases ks with
  | nil => simp [eqCells] at hs
  | cons k ks =>
   simp only [eqCells] at hs
   split at hs
   ·rename_i u v q1 q2
    simp only [Option.some.injEq,Bool.and_eq_true] at hs
    obtain ⟨rfl,-⟩:=hs
    obtain ⟨p1,p2⟩:=plain_vals q1 r1 r2
    exact ⟨p1,fun n => p2 _⟩
   ·cases hs
 unfold agKey at ha
 split at ha
 ·rename_i hu; simp only [Is,hu] at h1 h2; exact scalar h1 h2
 ·rename_i hu; simp only [Is,hu] at h1 h2; exact scalar h1 h2
 ·rename_i hu; simp only [Is,hu] at h1 h2; exact scalar h1 h2
 ·rename_i fs hu
  simp only [Is,hu] at h1 h2
  obtain ⟨xs,rfl,c1⟩:=h1
  obtain ⟨ys,rfl,c2⟩:=h2
  obtain ⟨e1,e2⟩:=plain_lists hs c1 c2
  refine ⟨by rw [Array.ext' e1],fun n => ?_⟩
  simp only [Instr.sameBits,beq_self_eq_true,Bool.true_and,List.all_eq_true]
  rintro ⟨x,y⟩ hm
  have:x = y ∧ x ∈ xs.toList:=by
   generalize xs.toList = l at hm
   clear c1 c2 e1 e2
   induction l with
   | nil => simp at hm
   | cons z l ih =>
    simp only [List.zip_cons_cons,List.mem_cons,Prod.mk.injEq] at hm
    rcases hm with ⟨rfl,rfl⟩ | hm
    ·simp
    ·obtain ⟨q1,q2⟩:=ih hm
     exact ⟨q1,by simp [q2]⟩
  obtain ⟨rfl,hx⟩:=this
  exact e2 x hx n
 ·cases ha
theorem run_checkKey_scalar {t:TypeId} {k:CK} (hu:P.underlying t = some k.desc) (em:Bool) (n:Nat) (x:Value) (w:World):(Instr.checkKey em (n + 1) t x).run P w = .ok () w:=by
 unfold Instr.checkKey
 simp only [Sem.run_bind,run_underlying hu,Result.andThen_ok]
 cases k <;> cases x <;> simp [CK.desc]
theorem kinds1 {t:TypeId} {ks:List CK} (hk:kindsOf P 1 t = some ks) (hl:0 < ks.length):∃ k:CK,P.underlying t = some k.desc:=by
 rcases kinds_scalar hk with ⟨n,e,hu⟩ | ⟨fs,hu⟩ | ⟨k,hu,-⟩
 ·simp [kindsOf,hu] at hk
 ·simp only [kindsOf,hu] at hk
  split at hk
  ·cases hk
  ·cases hfs:fs.toList with
   | nil => simp only [hfs,kindsF,Option.some.injEq] at hk; subst hk; simp at hl
   | cons f l =>
    simp only [hfs,kindsF] at hk
    split at hk <;> cases hk
 ·exact ⟨k,hu⟩
theorem run_checkKey' {g:G} {w:World} {t:TypeId} {ag:Bool} (ha:agKey P t = some ag) {ks:List CK} (hk:kindsOf P 2 t = some ks) {cs:List V} {K:Value} (hi:Is P g w t cs K) (hl:ks.length = cs.length) (em:Bool) (n:Nat) (w':World) :
  (Instr.checkKey em (n + 2) t K).run P w' = .ok () w':=by
 have scalar:∀ k:CK,P.underlying t = some k.desc → (Instr.checkKey em (n + 2) t K).run P w' = .ok () w':=fun k hu => run_checkKey_scalar hu em (n + 1) K w'
 unfold agKey at ha
 split at ha
 ·rename_i hu; exact scalar .b hu
 ·rename_i k hu; exact scalar (.i k) hu
 ·rename_i hu; exact scalar .s hu
 ·rename_i fs hu
  simp only [Is,hu] at hi
  obtain ⟨xs,rfl,hc⟩:=hi
  simp only [kindsOf,hu] at hk
  split at hk
  ·cases hk
  rw [Instr.checkKey]
  simp only [Sem.run_bind,run_underlying hu,Result.andThen_ok]
  rw [← Array.forIn_toList]
  have each:∀ (L:List Field) (off:Nat) (ks':List CK),kindsF (kindsOf P 1) P.cellsOf L off = some ks' → off + ks'.length ≤ cs.length →
    ∀ f ∈ L, f.name ≠ "_" ∧ (∃ x, ∀ w, (part f.type xs f.offset).run P w = .ok x w) ∧ ∃ k : CK, P.underlying f.type = some k.desc := by
   intro L
   induction L with
   | nil => intro off ks' _ _ f hf; cases hf
   | cons f L ih =>
    intro off ks' hk' hle
    simp only [kindsF] at hk'
    split at hk'
    case isFalse => cases hk'
    rename_i hoff
    split at hk'
    case h_2 => cases hk'
    rename_i k1 hk1
    split at hk'
    case isFalse => cases hk'
    rename_i hlen
    simp only [Option.map_eq_some_iff] at hk'
    obtain ⟨k2,hk2,rfl⟩:=hk'
    rw [List.length_append] at hle
    obtain ⟨x,hx,-⟩:=part_is (P:=P) (g:=g) (w:=w) hk1 hlen.2 hc (off:=off) (by omega)
    intro f' hf'
    rcases List.mem_cons.1 hf' with rfl | hf'
    ·exact ⟨hoff.2,⟨x,by rw [hoff.1]; exact hx⟩,kinds1 hk1 hlen.1⟩
    ·exact ih _ _ hk2 (by omega) f' hf'
  have each':=each fs.toList 0 ks hk (by omega)
  clear each
  generalize fs.toList = L at each'
  induction L with
  | nil => simp
  | cons f L ih =>
   obtain ⟨h1,⟨x,h2⟩,k,h3⟩:=each' f (by simp)
   have h4:=run_checkKey_scalar h3 em n x w'
   simp only [List.forIn_cons,Sem.run_bind,h1,ne_eq,not_false_eq_true,if_true,Result.andThen_ok,h2,h4,Sem.run_pure]
   exact ih (fun y hy => each' y (by simp [hy]))
 ·cases ha
def hitAt (ag:Bool) (ks:List CK) (cs:List V):List (V × V) → List MapEntry → Nat → Option (Nat × Value)
 | x :: p,e :: l,i => match mhitB ag ks cs x with | true => some (i,e.val) | false => hitAt ag ks cs p l (i + 1)
 | _,_,_ => none
theorem hitAt_some {ag:Bool} {ks:List CK} {cs:List V}:∀ {p:List (V × V)} {l:List MapEntry} {i j:Nat} {v:Value},hitAt ag ks cs p l i = some (j,v) → ∃ k x e,j = i + k ∧ p[k]? = some x ∧ l[k]? = some e ∧ e.val = v ∧ mhitB ag ks cs x = true
 | [],_,_,_,_,h => by simp [hitAt] at h
 | _ :: _,[],_,_,_,h => by simp [hitAt] at h
 | x :: p,e :: l,i,j,v,h => by
  simp only [hitAt] at h
  split at h
  ·rename_i hb
   simp only [Option.some.injEq,Prod.mk.injEq] at h
   obtain ⟨rfl,rfl⟩:=h
   exact ⟨0,x,e,rfl,rfl,rfl,rfl,hb⟩
  ·obtain ⟨k,y,f,h1,h2,h3,h4,h5⟩:=hitAt_some h
   exact ⟨k + 1,y,f,by omega,by simpa using h2,by simpa using h3,h4,h5⟩
theorem hitAt_none {ag:Bool} {ks:List CK} {cs:List V}:∀ {p:List (V × V)} {l:List MapEntry} {i:Nat},l.length = p.length → hitAt ag ks cs p l i = none → ∀ x ∈ p,mhitB ag ks cs x = false
 | [],_,_,_,_ => fun x hx => by cases hx
 | _ :: _,[],_,hl,_ => by simp at hl
 | x :: p,e :: l,i,hl,h => by
  simp only [hitAt] at h
  split at h
  ·cases h
  ·rename_i hb
   intro y hy
   rcases List.mem_cons.1 hy with rfl | hy
   ·exact hb
   ·exact hitAt_none (by simpa using hl) h y hy
theorem mhit_cells {ag:Bool} {ks:List CK} {cs:List V} {x:V × V} (h:mhitB ag ks cs x = true):x.1.cells = cs ∧ eqCells ks cs cs = some true:=by
 unfold mhitB mhit at h
 split at h
 ·rename_i b hb
  subst h
  split at hb
  ·rename_i ce hce
   have e:=eqCells_true hb
   exact ⟨(keyC_cells hce).trans e.symm,eqCells_own hb⟩
  ·cases hb
 ·cases h
theorem MRel.tail {g:G} {w:World} {x:V × V} {p:List (V × V)} {e:MapEntry} {l:List MapEntry} (h:MRel g w (x :: p) (e :: l)):MRel g w p l :=
 ⟨by have:=h.1; simpa using this,fun i x e h1 h2 => h.2 (i + 1) x e (by simpa using h1) (by simpa using h2)⟩
theorem run_findAsking' {g:G} {w:World} {t:TypeId} {ag:Bool} (ha:agKey P t = some ag) {ks:List CK} (hk:kindsOf P 2 t = some ks) {cs:List V} {K:Value} (hi:Is P g w t cs K) (w':World) :
  ∀ (p:List (V × V)) (l:List MapEntry) (i:Nat),MRel g w p l → (∀ x ∈ p,(mhit ag ks cs x).isSome = true) → (Instr.findAsking t K l i).run P w' = .ok (hitAt ag ks cs p l i) w'
 | [],[],i,_,_ => by simp [Instr.findAsking,hitAt]
 | [],e :: l,i,hr,_ => by have:=hr.1; simp at this
 | x :: p,[],i,hr,_ => by have:=hr.1; simp at this
 | x :: p,e :: l,i,hr,hm => by
  obtain ⟨r1,r2⟩:=hr.2 0 x e rfl rfl
  have h0:=hm x (by simp)
  have hb:mhit ag ks cs x = some (mhitB ag ks cs x):=by
   unfold mhitB
   cases hq:mhit ag ks cs x with
   | none => rw [hq] at h0; cases h0
   | some b => rfl
  have hq:=hb
  unfold mhit at hb
  split at hb
  case h_2 => cases hb
  rename_i ce hce
  have hie:=key_is ha r1 hce
  have:=eq_rel P g w 9998 2 t ks cs ce K e.key (mhitB ag ks cs x) hk hi hie hb w'
  have he:(Op.equal t K e.key).run P w' = .ok (mhitB ag ks cs x) w':=this
  have ih:=run_findAsking' ha hk hi w' p l (i + 1) hr.tail (fun y hy => hm y (by simp [hy]))
  simp only [Instr.findAsking,Sem.run_bind,he,Result.andThen_ok]
  cases hh:mhitB ag ks cs x with
  | true => simp [hitAt,hh]
  | false => simp [hitAt,hh,ih]
theorem run_findNow' {g:G} {w:World} {t:TypeId} {k:CK} (hu:P.underlying t = some k.desc) {cs:List V} {K:Value} (hi:Is P g w t cs K) :
  ∀ (p:List (V × V)) (l:List MapEntry) (i:Nat),MRel g w p l → (∀ x ∈ p,(mhit false [k] cs x).isSome = true) → Instr.findNow k.desc K l i = some (hitAt false [k] cs p l i)
 | [],[],i,_,_ => by simp [Instr.findNow,hitAt]
 | [],e :: l,i,hr,_ => by have:=hr.1; simp at this
 | x :: p,[],i,hr,_ => by have:=hr.1; simp at this
 | x :: p,e :: l,i,hr,hm => by
  obtain ⟨r1,r2⟩:=hr.2 0 x e rfl rfl
  have h0:=hm x (by simp)
  have hb:mhit false [k] cs x = some (mhitB false [k] cs x):=by
   unfold mhitB
   cases hq:mhit false [k] cs x with
   | none => rw [hq] at h0; cases h0
   | some b => rfl
  have hi':∃ a,cs = [a] ∧ VRel g w a K:=by cases k <;> simp only [CK.desc] at hu <;> simpa only [Is,hu] using hi
  obtain ⟨a,rfl,ra⟩:=hi'
  have ih:=run_findNow' hu hi p l (i + 1) hr.tail (fun y hy => hm y (by simp [hy]))
  have hs:Instr.sameNow k.desc K e.key = some (mhitB false [k] [a] x):=by
   unfold mhit at hb
   split at hb
   case h_2 => cases hb
   rename_i ce hce
   have hx1:∃ c,ce = [c] ∧ x.1 = c:=by
    cases hx:x.1 <;> simp only [keyC,hx,Option.some.injEq,reduceCtorEq] at hce <;> exact ⟨_,hce.symm,rfl⟩
   obtain ⟨c,rfl,hxc⟩:=hx1
   rw [hxc] at r1
   generalize e.key = Y at r1 ⊢
   generalize mhitB false [k] [a] x = r at hb ⊢
   simp only [eqCells] at hb
   split at hb
   case h_2 => cases hb
   rename_i u v q1 q2
   simp only [Option.some.injEq] at q2 hb
   subst q2
   rw [Bool.and_true] at hb
   subst hb
   cases k with
   | b =>
    cases a <;> cases c <;> simp only [eqCell,reduceCtorEq,Option.some.injEq] at q1
    cases ra; cases r1
    subst q1
    rfl
   | i q =>
    cases a <;> cases c <;> simp only [eqCell,reduceCtorEq] at q1
    split at q1
    case isFalse => cases q1
    split at q1
    case isFalse => cases q1
    rename_i e1 e2
    subst e1; subst e2
    cases ra; cases r1
    simp only [Option.some.injEq] at q1
    subst q1
    simp [Instr.sameNow,CK.desc]
   | s =>
    cases a <;> cases c <;> simp only [eqCell,reduceCtorEq,Option.some.injEq] at q1
    cases ra; cases r1
    subst q1
    simp only [Instr.sameNow,CK.desc,ba_beq]
  simp only [Instr.findNow,hs]
  cases hh:mhitB false [k] [a] x with
  | true => simp [hitAt,hh]
  | false => simp [hitAt,hh,ih]
theorem run_findKey' {g:G} {w:World} {t:TypeId} {ag:Bool} (ha:agKey P t = some ag) {ks:List CK} (hk:kindsOf P 2 t = some ks) {cs:List V} {K:Value} (hi:Is P g w t cs K) (w':World) {p:List (V × V)} {l:List MapEntry} (hr:MRel g w p l)
  (hm:∀ x ∈ p,(mhit ag ks cs x).isSome = true):(Instr.findKey t K l).run P w' = .ok (hitAt ag ks cs p l 0) w':=by
 have scalar:∀ k:CK,P.underlying t = some k.desc → ag = false → (Instr.findKey t K l).run P w' = .ok (hitAt ag ks cs p l 0) w':=by
  rintro k hu rfl
  have hks:ks = [k]:=by cases k <;> simp only [CK.desc] at hu <;> simp only [kindsOf,hu,Option.some.injEq] at hk <;> exact hk.symm
  subst hks
  simp [Instr.findKey,run_underlying hu,run_findNow' hu hi p l 0 hr hm]
 have ha':=ha
 unfold agKey at ha
 split at ha
 ·rename_i hu; cases ha; exact scalar .b hu rfl
 ·rename_i k hu; cases ha; exact scalar (.i k) hu rfl
 ·rename_i hu; cases ha; exact scalar .s hu rfl
 ·rename_i fs hu
  cases ha
  have hask:=run_findAsking' ha' hk hi w' p l 0 hr hm
  cases l with
  | nil =>
   cases p with
   | nil => simp [Instr.findKey,run_underlying hu,Instr.findNow,hitAt]
   | cons x p => have:=hr.1; simp at this
  | cons e l =>
   simp only [Is,hu] at hi
   obtain ⟨xs,rfl,-⟩:=hi
   have:Instr.sameNow (.struct fs) (.agg xs) e.key = none:=by cases e.key <;> rfl
   simp [Instr.findKey,run_underlying hu,Instr.findNow,this,hask]
 ·cases ha
theorem apart_mem {es:List (V × V)} (h:KeysApart es) {x y:V × V} (hx:x ∈ es) (hy:y ∈ es) (he:x.1.cells = y.1.cells):x = y:=by
 induction es with
 | nil => cases hx
 | cons z es ih =>
  obtain ⟨h1,h2⟩:=List.pairwise_cons.1 h
  rcases List.mem_cons.1 hx with rfl | hx'
  ·rcases List.mem_cons.1 hy with rfl | hy'
   ·rfl
   ·exact absurd he (h1 y hy')
  ·rcases List.mem_cons.1 hy with rfl | hy'
   ·exact absurd he.symm (h1 x hx')
   ·exact ih h2 hx' hy'
theorem KeysApart.perm {p es:List (V × V)} (h:KeysApart es) (hp:p.Perm es):KeysApart p:=by
 unfold KeysApart at h ⊢
 exact (List.Perm.pairwise_iff (fun {a b} (h:a.1.cells ≠ b.1.cells) => h.symm) hp).2 h
theorem KeysApart.idx {es:List (V × V)} (h:KeysApart es) {i j:Nat} {x y:V × V} (hi:es[i]? = some x) (hj:es[j]? = some y) (he:x.1.cells = y.1.cells):i = j:=by
 induction es generalizing i j with
 | nil => simp at hi
 | cons z es ih =>
  obtain ⟨h1,h2⟩:=List.pairwise_cons.1 h
  cases i with
  | zero =>
   cases j with
   | zero => rfl
   | succ j =>
    simp at hi hj
    subst hi
    exact absurd he (h1 y (List.mem_of_getElem? hj))
  | succ i =>
   cases j with
   | zero =>
    simp at hi hj
    subst hj
    exact absurd he.symm (h1 x (List.mem_of_getElem? hi))
   | succ j => have:=ih h2 (i:=i) (j:=j) (by simpa using hi) (by simpa using hj); omega
theorem sim_map {g:G} {h:Heap} {w:World} (s:Sim g h w) {o ver:Nat} {es:List (V × V)} (hm:mapAt (fun o => h[o]?) o ver = some es) :
  ∃ b p es' clock,h[o]? = some ⟨ver,.map es⟩ ∧ g.loc o ver = some (b,0) ∧ blk g h o = some b ∧ b < w.heap.size ∧ KeysApart es ∧ p.Perm es ∧ w.heap[b]? = some (.map es' clock) ∧ MRel g w p es'.toList ∧ Borns es'.toList clock:=by
 have hx:h[o]? = some ⟨ver,.map es⟩:=by
  unfold mapAt at hm
  split at hm
  ·rename_i v es' he
   split at hm
   ·rename_i hv; cases hm; subst hv; exact he
   ·cases hm
  ·cases hm
 obtain ⟨b,base,h1,h2,h3⟩:=s.obs o _ hx rfl
 obtain ⟨rfl,ka,p,es',clock,q1,q2,q3,q4⟩:=h3
 exact ⟨b,p,es',clock,hx,h1,blk_of hx rfl h1,h2,ka,q1,q2,q3,q4⟩
theorem sim_putmap {g:G} {h:Heap} {w:World} (s:Sim g h w) {o ver b:Nat} {es:List (V × V)} (hx:h[o]? = some ⟨ver,.map es⟩) (hg:g.loc o ver = some (b,0)) (hbk:blk g h o = some b) (hlt:b < w.heap.size) {es0:Array MapEntry} {clock0:Nat} (hw:w.heap[b]? = some (.map es0 clock0))
  {es2 p2:List (V × V)} {es':Array MapEntry} {clock:Nat} (ka:KeysApart es2) (hp:p2.Perm es2) (hr:MRel g w p2 es'.toList) (hb:Borns es'.toList clock) :
  Sim g (h.set o ⟨ver,.map es2⟩) (w.putObj b (.map es' clock)) ∧ Ext g h w g (h.set o ⟨ver,.map es2⟩) (w.putObj b (.map es' clock)):=by
 have hshape:∀ k y,w.shape? k = some y → (w.putObj b (.map es' clock)).shape? k = some y:=by
  intro k y hk
  by_cases e:k = b
  ·subst e
   simp [World.shape?,hw] at hk
  ·unfold World.shape? at hk ⊢
   rw [World.putObj_heap_other e]
   exact hk
 have hframe:∀ k,k < w.heap.size → k ≠ b → (w.putObj b (.map es' clock)).heap[k]? = w.heap[k]?:=fun k _ hk => World.putObj_heap_other hk
 have hL:Later g w g (w.putObj b (.map es' clock)):=⟨rfl,fun _ _ _ h => h,fun _ h => h,fun k hk => hframe k (s.immlt k hk) (fun e => s.imm o b hbk (e ▸ hk)),hshape⟩
 have:=sim_set s (x':=⟨ver,.map es2⟩) (b:=b) (base:=0) (w':=w.putObj b (.map es' clock)) hx (Nat.le_refl _) rfl (fun bb hq => by rw [hg] at hq; cases hq; rfl) (.inr hbk) (by simp [World.putObj]; exact hlt) (by simp [World.putObj]) hshape hframe rfl rfl rfl
  (by
   show BdRel (g.put o ver (b,0)) _ b 0 _
   rw [put_same hg]
   exact ⟨rfl,ka,p2,es',clock,hp,World.putObj_heap_same hlt,hr.later hL,hb⟩)
 rw [show g.put o ver (b,0) = g from put_same hg] at this
 exact this
theorem run_getMap {w:World} {r:Nat} {es:Array MapEntry} {clock:Nat} (hb:w.heap[r]? = some (.map es clock)):(getObj r).run P w = .ok (.map es clock) w:=by simp [getObj,Sem.run,hb]
theorem run_setMap {w:World} {r:Nat} {es:Array MapEntry} {clock:Nat} (o:Obj) (hb:w.heap[r]? = some (.map es clock)):(setObj r o).run P w = .ok () (w.putObj r o):=by simp [setObj,Sem.run,hb,World.putObj]
def zeroVal (P:Program) (t:TypeId):Option V:=(P.info? t).bind fun i => i.zero.bind cstV
theorem zeroVal_rel {t:TypeId} {v:V} (h:zeroVal P t = some v) (g:G) (w:World):∃ z,(∀ w',(zeroValue t).run P w' = .ok z w') ∧ VRel g w v z:=by
 unfold zeroVal at h
 simp only [Option.bind_eq_some_iff] at h
 obtain ⟨i,hi,z,hz,hv⟩:=h
 exact ⟨z,fun w' => by simp [zeroValue,run_typeInfo (h:=hi),hz],cst_rel g w hv⟩
theorem mapOk_spec {ag:Bool} {ks:List CK} {cs:List V} {es:List (V × V)} (h:mapOk ag ks cs es = true):eqCells ks cs cs = some true ∧ ks.length = cs.length ∧ ∀ x ∈ es,(mhit ag ks cs x).isSome = true:=by
 unfold mapOk at h
 simp only [Bool.and_eq_true,List.all_eq_true] at h
 obtain ⟨h1,h2⟩:=h
 obtain ⟨r,hr⟩:=Option.isSome_iff_exists.1 h1
 exact ⟨eqCells_own hr,(eqCells_len _ _ _ _ hr).1.symm,h2⟩
theorem hit_hit {ag:Bool} {ks:List CK} {cs:List V} {es:List (V × V)} (ka:KeysApart es) {x y:V × V} (hx:x ∈ es) (hy:y ∈ es) (h1:mhitB ag ks cs x = true) (h2:mhitB ag ks cs y = true):x = y :=
 apart_mem ka hx hy ((mhit_cells h1).1.trans (mhit_cells h2).1.symm)
theorem goes_mget {g:G} {h:Heap} {w:World} (s:Sim g h w) {mt kt et:TypeId} (hu:P.underlying mt = some (.map kt et)) {ag:Bool} (ha:agKey P kt = some ag) {ks:List CK} (hk:kindsOf P 2 kt = some ks) {z:V} (hz:zeroVal P et = some z)
  {m k:V} {M K:Value} (hm:VRel g w m M) (hK:VRel g w k K) {ok:Bool} {v:V} (hv:mgetA (fun o => h[o]?) ag ks z ok m k = some v):Goes P (Instr.lookup mt M K ok) g h w v h:=by
 unfold mgetA at hv
 split at hv
 case h_1 => cases hv
 rename_i cs hcs
 have hi:=key_is ha hK hcs
 obtain ⟨Z,hZ,hZr⟩:=zeroVal_rel hz g w
 have fin:∀ (v:V) (x:Value) (b:Bool),VRel g w v x → VRel g w (okV ok v b) (if ok then .tuple #[x,.bool b] else x):=by
  intro v x b hr
  cases ok
  ·exact hr
  ·refine .tup _ _ rfl fun i c hc => ?_
   match i with
   | 0 => simp at hc; subst hc; exact hr
   | 1 => simp at hc; subst hc; exact .bool b
   | _ + 2 => simp at hc
 split at hv
 ·split at hv
  case h_2 => cases hv
  rename_i hok
  cases hv
  obtain ⟨o1,o2,-⟩:=mapOk_spec hok
  have hck:=run_checkKey' ha hk hi o2 true 9998 w
  cases hm
  refine .still s ?_ (fin _ _ _ hZr)
  have hf:(Instr.findKey kt K []).run P w = .ok none w:=by
   have:=run_findKey' ha hk hi w (p:=[]) (l:=[]) ⟨rfl,fun i x e h => by simp at h⟩ (fun x hx => by cases hx)
   simpa [hitAt] using this
  simp [Instr.lookup,run_underlying hu,hck,hf,hZ]
 ·rename_i o ver
  split at hv
  ·cases hv
  rename_i es hes
  split at hv
  case h_2 => cases hv
  rename_i hok
  obtain ⟨o1,o2,o3⟩:=mapOk_spec hok
  obtain ⟨b,p,es',clock,q1,q2,q3,q4,ka,q5,q6,q7,q8⟩:=sim_map s hes
  have hck:=run_checkKey' ha hk hi o2 es'.isEmpty 9998 w
  have hf:=run_findKey' ha hk hi w q7 (fun x hx => o3 x (q5.mem_iff.1 hx))
  cases hm with
  | map _ _ b' hl =>
   rw [q2] at hl
   cases hl
   cases hh:hitAt ag ks cs p es'.toList 0 with
   | none =>
    rw [hh] at hf
    have hn:=hitAt_none q7.1 hh
    have:es.find? (mhitB ag ks cs) = none:=List.find?_eq_none.2 fun x hx => by rw [hn x (q5.mem_iff.2 hx)]; decide
    rw [this] at hv
    cases hv
    refine .still s ?_ (fin _ _ _ hZr)
    simp [Instr.lookup,run_underlying hu,run_getMap q6,hck,hf,hZ]
   | some r =>
    obtain ⟨j,V'⟩:=r
    rw [hh] at hf
    obtain ⟨i,x,e,-,hp,hl,rfl,hb⟩:=hitAt_some hh
    have hxm:x ∈ es:=q5.mem_iff.1 (List.mem_of_getElem? hp)
    obtain ⟨y,hy⟩:∃ y,es.find? (mhitB ag ks cs) = some y:=by
     cases hfd:es.find? (mhitB ag ks cs) with
     | some y => exact ⟨y,rfl⟩
     | none => have:=List.find?_eq_none.1 hfd x hxm; rw [hb] at this; exact absurd rfl this
    have hyb:=List.find?_some hy
    have hym:=List.mem_of_find?_eq_some hy
    obtain rfl:=hit_hit ka hxm hym hb hyb
    rw [hy] at hv
    cases hv
    refine .still s ?_ (fin _ _ _ (q7.2 i x e hp hl).2)
    simp [Instr.lookup,run_underlying hu,run_getMap q6,hck,hf]
 ·cases hv
theorem map_modify_born {l:List MapEntry} {i:Nat} {f:MapEntry → MapEntry} (hf:∀ e,(f e).born = e.born):(l.modify i f).map (·.born) = l.map (·.born):=by
 apply List.ext_getElem?
 intro j
 rw [List.getElem?_map,List.getElem?_map,List.getElem?_modify]
 cases l[j]? with
 | none => rfl
 | some e =>
  simp only [Option.map_eq_map,Option.map_some]
  split <;> simp [hf]
theorem Borns.modify {l:List MapEntry} {clock i:Nat} {f:MapEntry → MapEntry} (h:Borns l clock) (hf:∀ e,(f e).born = e.born):Borns (l.modify i f) clock:=by
 refine ⟨fun e he => ?_,by rw [map_modify_born hf]; exact h.2⟩
 have h1:e.born ∈ (l.modify i f).map (·.born):=List.mem_map.2 ⟨e,he,rfl⟩
 rw [map_modify_born hf] at h1
 obtain ⟨e',he',h2⟩:=List.mem_map.1 h1
 have:=h.1 e' he'
 omega
theorem Borns.push {l:List MapEntry} {clock:Nat} {e:MapEntry} (h:Borns l clock) (he:e.born = clock):Borns (l ++ [e]) (clock + 1):=by
 refine ⟨fun x hx => ?_,?_⟩
 ·rcases List.mem_append.1 hx with hx | hx
  ·have:=h.1 x hx; omega
  ·obtain rfl:=List.mem_singleton.1 hx; omega
 ·rw [List.map_append,List.nodup_append]
  refine ⟨h.2,by simp,fun a ha b hb => ?_⟩
  obtain ⟨x,hx,rfl⟩:=List.mem_map.1 ha
  have:=h.1 x hx
  simp at hb
  omega
theorem Borns.erase {l:List MapEntry} {clock i:Nat} (h:Borns l clock):Borns (l.eraseIdx i) clock :=
 ⟨fun e he => h.1 e (List.mem_of_mem_eraseIdx he),(List.Sublist.map _ (List.eraseIdx_sublist l i)).nodup h.2⟩
theorem cells_put {ag:Bool} {ks:List CK} {cs:List V} {k v:V} (hk:k.cells = cs) (e:V × V):(match mhitB ag ks cs e with | true => (k,v) | false => e).1.cells = e.1.cells:=by
 cases h:mhitB ag ks cs e with
 | true => exact hk.trans (mhit_cells h).1.symm
 | false => rfl
theorem goes_mput {g:G} {h:Heap} {w:World} (s:Sim g h w) {mt kt et:TypeId} (hu:P.underlying mt = some (.map kt et)) {ag:Bool} (ha:agKey P kt = some ag) {ks:List CK} (hk:kindsOf P 2 kt = some ks)
  {m k v:V} {M K X:Value} (hm:VRel g w m M) (hK:VRel g w k K) (hX:VRel g w v X) {eff:Eff} (hv:mputA (fun o => h[o]?) ag ks m k v = some eff):EffGoes P (do Instr.mapUpdate mt M K X; pure undef) g h w eff:=by
 unfold mputA at hv
 split at hv
 case h_1 => cases hv
 rename_i cs hcs
 have hi:=key_is ha hK hcs
 have hkc:=keyC_cells hcs
 split at hv
 case h_2 => cases hv
 rename_i o ver
 split at hv
 ·cases hv
 rename_i es hes
 split at hv
 case h_2 => cases hv
 rename_i hok
 cases hv
 obtain ⟨o1,o2,o3⟩:=mapOk_spec hok
 obtain ⟨b,p,es',clock,q1,q2,q3,q4,ka,q5,q6,q7,q8⟩:=sim_map s hes
 have hck:=run_checkKey' ha hk hi o2 false 9998 w
 have hf:=run_findKey' ha hk hi w q7 (fun x hx => o3 x (q5.mem_iff.1 hx))
 have hund:∀ (g:G) (w:World),VRel g w (.tup []) undef:=fun g w => .tup _ _ rfl fun i c hc => by simp at hc
 cases hm with
 | map _ _ b' hl =>
  rw [q2] at hl
  cases hl
  cases hh:hitAt ag ks cs p es'.toList 0 with
  | none =>
   rw [hh] at hf
   have hn:=hitAt_none q7.1 hh
   have hany:es.any (mhitB ag ks cs) = false:=by
    rw [List.any_eq_false]
    intro x hx
    rw [hn x (q5.mem_iff.2 hx)]; decide
   have e1:mputL ag ks cs k v es = es ++ [(k,v)]:=by unfold mputL; rw [hany]
   have hrel:MRel g w (p ++ [(k,v)]) (es'.push { key:=K,val:=X,born:=clock }).toList:=by
    rw [Array.toList_push]
    refine ⟨by simp [q7.1],fun i x e h1 h2 => ?_⟩
    by_cases hlt:i < p.length
    ·rw [List.getElem?_append_left hlt] at h1
     rw [List.getElem?_append_left (by rw [q7.1]; exact hlt)] at h2
     exact q7.2 i x e h1 h2
    ·rw [List.getElem?_append_right (by omega)] at h1
     rw [List.getElem?_append_right (by rw [q7.1]; omega)] at h2
     obtain rfl:=List.mem_singleton.1 (List.mem_of_getElem? h1)
     obtain rfl:=List.mem_singleton.1 (List.mem_of_getElem? h2)
     exact ⟨hK,hX⟩
   have ka2:KeysApart (es ++ [(k,v)]):=by
    unfold KeysApart
    rw [List.pairwise_append]
    refine ⟨ka,by simp,fun x hx y hy => ?_⟩
    obtain rfl:=List.mem_singleton.1 hy
    intro he
    have h0:=hn x (q5.mem_iff.2 hx)
    obtain ⟨bb,hbb⟩:=Option.isSome_iff_exists.1 (o3 x hx)
    have hbf:bb = false:=by simpa [mhitB,hbb] using h0
    subst hbf
    unfold mhit at hbb
    split at hbb
    ·rename_i ce hce
     have:ce = cs:=by rw [← keyC_cells hce,he]; exact hkc
     rw [this,o1] at hbb
     cases hbb
    ·cases hbb
   obtain ⟨s1,s2⟩:=sim_putmap s q1 q2 q3 q4 q6 (es2:=es ++ [(k,v)]) (p2:=p ++ [(k,v)]) (es':=es'.push { key:=K,val:=X,born:=clock }) (clock:=clock + 1) ka2 (q5.append_right _) hrel (by rw [Array.toList_push]; exact q8.push rfl)
   refine ⟨g,_,undef,?_,by rw [e1]; exact s1,by rw [e1]; exact s2,hund _ _⟩
   simp [Instr.mapUpdate,run_underlying hu,run_getMap q6,hck,hf,run_setMap _ q6]
  | some r =>
   obtain ⟨j,V'⟩:=r
   rw [hh] at hf
   obtain ⟨i,x,e,hj,hp,hl,rfl,hb⟩:=hitAt_some hh
   have hj:j = i:=by omega
   subst hj
   have hxm:x ∈ es:=q5.mem_iff.1 (List.mem_of_getElem? hp)
   have hany:es.any (mhitB ag ks cs) = true:=List.any_eq_true.2 ⟨x,hxm,hb⟩
   have e1:mputL ag ks cs k v es = es.map fun e => match mhitB ag ks cs e with | true => (k,v) | false => e:=by unfold mputL; simp only [hany] <;> rfl
   obtain ⟨r1,r2⟩:=q7.2 _ x e hp hl
   have hxk:∃ ce,keyC ag x.1 = some ce:=by
    unfold mhitB mhit at hb
    cases hc:keyC ag x.1 with
    | none => simp [hc] at hb
    | some ce => exact ⟨ce,rfl⟩
   obtain ⟨ce,hce⟩:=hxk
   have hce':ce = cs:=by rw [← keyC_cells hce]; exact (mhit_cells hb).1
   subst hce'
   have hie:=key_is ha r1 hce
   obtain ⟨same,bits⟩:=key_same ha o1 hie hi
   have hel:es'[j]? = some e:=by simpa using hl
   have b1:Instr.sameBits 10000 K K = true:=by have:=bits 9999; rw [same] at this; exact this
   have hst:(Instr.keyThatStays (((es'[j]?).map (·.key)).getD K) K).run P w = .ok K w:=by
    rw [hel]
    simp only [Option.map_some,Option.getD_some,same,Instr.keyThatStays,b1,if_true,Sem.run_pure]
   have hst':=hst
   rw [hel] at hst'
   simp only [Option.map_some,Option.getD_some] at hst'
   have kp:=ka.perm q5
   have hrel:MRel g w (p.map fun e => match mhitB ag ks ce e with | true => (k,v) | false => e) (es'.modify j fun e => { e with key:=K,val:=X }).toList:=by
    rw [Array.toList_modify]
    refine ⟨by simp [q7.1],fun i y f h1 h2 => ?_⟩
    rw [List.getElem?_map] at h1
    simp only [Option.map_eq_some_iff] at h1
    obtain ⟨y0,hy0,rfl⟩:=h1
    rw [List.getElem?_modify] at h2
    by_cases hij:j = i
    ·subst hij
     rw [hp] at hy0
     cases hy0
     rw [hl] at h2
     simp at h2
     subst h2
     simp only [hb]
     exact ⟨hK,hX⟩
    ·simp only [if_neg hij,Option.map_eq_map,id_map'] at h2
     have hnb:mhitB ag ks ce y0 = false:=by
      cases hq:mhitB ag ks ce y0 with
      | false => rfl
      | true => exact absurd (kp.idx hp hy0 ((mhit_cells hb).1.trans (mhit_cells hq).1.symm)) hij
     rw [hnb]
     exact q7.2 i y0 f hy0 (by simpa using h2)
   have ka2:KeysApart (es.map fun e => match mhitB ag ks ce e with | true => (k,v) | false => e):=by
    unfold KeysApart
    rw [List.pairwise_map]
    refine List.Pairwise.imp (fun {a b} hab => ?_) ka
    rw [cells_put hkc,cells_put hkc]
    exact hab
   obtain ⟨s1,s2⟩:=sim_putmap s q1 q2 q3 q4 q6 (es':=es'.modify j fun e => { e with key:=K,val:=X }) (clock:=clock) ka2 (q5.map _) hrel (by rw [Array.toList_modify]; exact q8.modify fun e => rfl)
   refine ⟨g,_,undef,?_,by rw [e1]; exact s1,by rw [e1]; exact s2,hund _ _⟩
   simp [Instr.mapUpdate,run_underlying hu,run_getMap q6,hck,hf,hel,hst',run_setMap _ q6]
theorem filter_one {es:List (V × V)} {f:V × V → Bool}:∀ {j:Nat} {x:V × V},es[j]? = some x → f x = true → (∀ i y,es[i]? = some y → f y = true → i = j) → es.filter (fun e => !f e) = es.eraseIdx j:=by
 induction es with
 | nil => intro j x h; simp at h
 | cons z es ih =>
  intro j x hj hx hu
  cases j with
  | zero =>
   simp at hj
   subst hj
   simp only [List.eraseIdx_cons_zero]
   rw [List.filter_cons_of_neg (by simp [hx])]
   refine List.filter_eq_self.2 fun y hy => ?_
   obtain ⟨i,hi⟩:=List.getElem?_of_mem hy
   cases hf:f y with
   | false => rfl
   | true => have:=hu (i + 1) y (by simpa using hi) hf; omega
  | succ j =>
   have hz:f z = false:=by
    cases hf:f z with
    | false => rfl
    | true => have:=hu 0 z rfl hf; omega
   rw [List.filter_cons_of_pos (by simp [hz]),List.eraseIdx_cons_succ]
   rw [ih (by simpa using hj) hx fun i y hi hf => by have:=hu (i + 1) y (by simpa using hi) hf; omega]
theorem goes_mdel {g:G} {h:Heap} {w:World} (s:Sim g h w) {mt kt et tt:TypeId} {ats:Array TypeId} (hat:ats[0]? = some mt) (hu:P.underlying mt = some (.map kt et)) {ag:Bool} (ha:agKey P kt = some ag) {ks:List CK} (hk:kindsOf P 2 kt = some ks)
  {m k:V} {M K:Value} (hm:VRel g w m M) (hK:VRel g w k K) {eff:Eff} (hv:mdelA (fun o => h[o]?) ag ks m k = some eff):EffGoes P (Builtin.delete_ ats tt #[M,K]) g h w eff:=by
 unfold mdelA at hv
 split at hv
 case h_1 => cases hv
 rename_i cs hcs
 have hi:=key_is ha hK hcs
 have hund:∀ (g:G) (w:World),VRel g w (.tup []) (.tuple #[]):=fun g w => .tup _ _ rfl fun i c hc => by simp at hc
 split at hv
 ·split at hv
  case h_2 => cases hv
  rename_i hok
  cases hv
  obtain ⟨o1,o2,-⟩:=mapOk_spec hok
  have hck:=run_checkKey' ha hk hi o2 true 9998 w
  cases hm
  refine Goes.still s (x:=.tuple #[]) ?_ (hund _ _)
  simp [Builtin.delete_,hat,run_underlying hu,hck]
 ·rename_i o ver
  split at hv
  ·cases hv
  rename_i es hes
  split at hv
  case h_2 => cases hv
  rename_i hok
  cases hv
  obtain ⟨o1,o2,o3⟩:=mapOk_spec hok
  obtain ⟨b,p,es',clock,q1,q2,q3,q4,ka,q5,q6,q7,q8⟩:=sim_map s hes
  have hck:=run_checkKey' ha hk hi o2 es'.isEmpty 9998 w
  have hf:=run_findKey' ha hk hi w q7 (fun x hx => o3 x (q5.mem_iff.1 hx))
  cases hm with
  | map _ _ b' hl =>
   rw [q2] at hl
   cases hl
   cases hh:hitAt ag ks cs p es'.toList 0 with
   | none =>
    rw [hh] at hf
    have hn:=hitAt_none q7.1 hh
    have hfl:es.filter (fun e => !mhitB ag ks cs e) = es:=List.filter_eq_self.2 fun x hx => by rw [hn x (q5.mem_iff.2 hx)]; rfl
    obtain ⟨s1,s2⟩:=sim_putmap s q1 q2 q3 q4 q6 ka q5 q7 q8
    refine ⟨g,_,.tuple #[],?_,by rw [hfl]; exact s1,by rw [hfl]; exact s2,hund _ _⟩
    simp [Builtin.delete_,hat,run_underlying hu,run_getMap q6,hck,hf,run_setMap _ q6]
   | some r =>
    obtain ⟨j,V'⟩:=r
    rw [hh] at hf
    obtain ⟨i,x,e,hj,hp,hl,rfl,hb⟩:=hitAt_some hh
    have hj:j = i:=by omega
    subst hj
    have kp:=ka.perm q5
    have hfl:=filter_one hp hb fun i y hy hq => kp.idx hy hp ((mhit_cells hq).1.trans (mhit_cells hb).1.symm)
    have hrel:MRel g w (p.filter fun e => !mhitB ag ks cs e) (es'.eraseIdxIfInBounds j).toList:=by
     rw [hfl,Array.toList_eraseIdxIfInBounds]
     refine ⟨?_,fun i y f h1 h2 => ?_⟩
     ·have h1:j < p.length:=(List.getElem?_eq_some_iff.1 hp).1
      rw [List.length_eraseIdx,List.length_eraseIdx,q7.1]
     ·rw [List.getElem?_eraseIdx] at h1 h2
      split at h1
      ·rename_i hlt; rw [if_pos hlt] at h2; exact q7.2 i y f h1 h2
      ·rename_i hlt; rw [if_neg hlt] at h2; exact q7.2 _ y f h1 h2
    obtain ⟨s1,s2⟩:=sim_putmap s q1 q2 q3 q4 q6 (es2:=es.filter fun e => !mhitB ag ks cs e) (ka.filter _) (q5.filter _) hrel (by rw [Array.toList_eraseIdxIfInBounds]; exact q8.erase)
    refine ⟨g,_,.tuple #[],?_,s1,s2,hund _ _⟩
    simp [Builtin.delete_,hat,run_underlying hu,run_getMap q6,hck,hf,run_setMap _ q6]
 ·cases hv
theorem goes_mclear {g:G} {h:Heap} {w:World} (s:Sim g h w) {mt kt et tt:TypeId} {ats:Array TypeId} (hat:ats[0]? = some mt) (hu:P.underlying mt = some (.map kt et)) {m:V} {M:Value} (hm:VRel g w m M) {eff:Eff} (hv:mclearA (fun o => h[o]?) m = some eff) :
  EffGoes P (Builtin.clear_ ats tt #[M]) g h w eff:=by
 have hund:∀ (g:G) (w:World),VRel g w (.tup []) (.tuple #[]):=fun g w => .tup _ _ rfl fun i c hc => by simp at hc
 unfold mclearA at hv
 split at hv
 ·cases hv
  cases hm
  refine Goes.still s (x:=.tuple #[]) ?_ (hund _ _)
  simp [Builtin.clear_,hat,run_underlying hu]
 ·rename_i o ver
  split at hv
  ·cases hv
  rename_i es hes
  cases hv
  obtain ⟨b,p,es',clock,q1,q2,q3,q4,ka,q5,q6,q7,q8⟩:=sim_map s hes
  cases hm with
  | map _ _ b' hl =>
   rw [q2] at hl
   cases hl
   obtain ⟨s1,s2⟩:=sim_putmap s q1 q2 q3 q4 q6 (es2:=[]) (p2:=[]) (es':=#[]) (clock:=clock) List.Pairwise.nil (.refl _) ⟨rfl,fun i x e h => by simp at h⟩ ⟨fun e he => by simp at he,by simp⟩
   refine ⟨g,_,.tuple #[],?_,s1,s2,hund _ _⟩
   simp [Builtin.clear_,hat,run_underlying hu,run_getMap q6,run_setMap _ q6]
 ·cases hv
theorem goes_mlen {g:G} {h:Heap} {w:World} (s:Sim g h w) {mt kt et tt:TypeId} {ats:Array TypeId} (hat:ats[0]? = some mt) (hu:P.underlying mt = some (.map kt et)) {m:V} {M:Value} (hm:VRel g w m M) {v:V} (hv:mlenA (fun o => h[o]?) m = some v) :
  Goes P (Builtin.len_ ats tt #[M]) g h w v h:=by
 unfold mlenA at hv
 split at hv
 ·cases hv
  cases hm
  refine Goes.still s (x:=.int .i64 0) ?_ (.int _ _)
  simp [Builtin.len_,hat,run_underlying hu,goInt]
 ·rename_i o ver
  simp only [Option.map_eq_some_iff] at hv
  obtain ⟨es,hes,rfl⟩:=hv
  obtain ⟨b,p,es',clock,q1,q2,q3,q4,ka,q5,q6,q7,q8⟩:=sim_map s hes
  cases hm with
  | map _ _ b' hl =>
   rw [q2] at hl
   cases hl
   have hlen:es'.size = es.length:=by
    have h1:=q7.1
    rw [q5.length_eq] at h1
    simpa using h1
   refine Goes.still s (x:=.int .i64 es'.size) ?_ (by rw [hlen]; exact .int _ _)
   simp [Builtin.len_,hat,run_underlying hu,run_getMap q6,goInt]
 ·cases hv
theorem goes_mkmap {g:G} {h:Heap} {w:World} (s:Sim g h w) {o:Nat} {mt:TypeId} {eff:Eff} (he:mkA (fun o => h[o]?) o (.map []) (fun v => .map o v) = some eff):EffGoes P (Instr.makeMap mt none) g h w eff:=by
 unfold mkA at he
 cases ho:h[o]? with
 | none => simp [ho] at he
 | some x =>
  simp only [ho,Option.some.injEq] at he
  subst he
  have hfresh:g.loc o (x.ver + 1) = none:=by
   cases hq:g.loc o (x.ver + 1) with
   | none => rfl
   | some bb =>
    obtain ⟨y,hy,hty⟩:=s.loclt _ _ _ hq
    rw [ho] at hy
    cases hy
    omega
  have:=sim_set s (x':=⟨x.ver + 1,.map []⟩) (b:=w.heap.size) (base:=0) (w':=w.alloc (.map #[] 0)) ho (by simp) rfl
   (fun bb hg => by rw [hfresh] at hg; cases hg) (.inl (Nat.le_refl _)) (by rw [World.size_alloc]; omega) (by rw [World.size_alloc]; omega) (fun k y hk => shape_alloc _ hk) (fun k hk _ => heap_alloc _ hk) rfl rfl rfl
   ⟨rfl,List.Pairwise.nil,[],#[],0,.refl _,World.alloc_heap_new w _,⟨rfl,fun i x e h => by simp at h⟩,fun e he => by simp at he,by simp⟩
  refine ⟨_,_,.map (some w.heap.size),?_,this.1,this.2,.map _ _ _ (by simp [G.put])⟩
  simp [Instr.makeMap]
end Go.Am


set_option linter.unusedVariables false
set_option linter.unusedSimpArgs false
namespace Go.Am
variable {P:Program}
def trOpds (xs:List Operand):Option (List Opd):=xs.mapM trOpd
def trParts (pl:Nat → Option (Nat × Nat)):List (Nat × Operand) → Option (List (Nat × Nat × Opd))
 | [] => some []
 | (i,x) :: l =>
  match pl i,trOpd x,trParts pl l with
  | some (off,size),some x,some l => some ((off,size,x) :: l)
  | _,_,_ => none
def trOpt:Option Operand → Option (Option Opd)
 | none => some none
 | some x => (trOpd x).map some
def isNilOpd:NK → Operand → Bool
 | .p,.const (.pointer none) => true
 | .s,.const (.slice none 0 0) => true
 | .m,.const (.map none) => true
 | .f,.const .nilFunc => true
 | .i,.const .nilIface => true
 | _,_ => false
theorem isNilOpd_eval {k:NK} {x:Operand} (h:isNilOpd k x = true):x = .const k.nil:=by
 unfold isNilOpd at h
 split at h <;> first | rfl | cases h
def trBin (P:Program) (op:BinOp) (t:TypeId) (x y:Operand):Option AOp :=
 match P.underlying t with
 | some (.int _) | some .string => match trOpd x,trOpd y with | some x,some y => some (.bin op x y) | _,_ => none
 | some .bool =>
  match op,trOpd x,trOpd y with
  | .eql,some x,some y => some (.eqc false false [.b] x y)
  | .neq,some x,some y => some (.eqc true false [.b] x y)
  | _,_,_ => none
 | some (.struct _) | some (.array _ _) =>
  match kindsOf P 64 t,P.eqGuardType P.depth t,trOpd x,trOpd y,op with
  | some ks,false,some x,some y,.eql => some (.eqc false true ks x y)
  | some ks,false,some x,some y,.neq => some (.eqc true true ks x y)
  | _,_,_,_,_ => none
 | _ =>
  match nkOf P t,op with
  | some k,.eql => if isNilOpd k y then (trOpd x).map (.eqnil false k) else if isNilOpd k x then (trOpd y).map (.eqnil false k) else none
  | some k,.neq => if isNilOpd k y then (trOpd x).map (.eqnil true k) else if isNilOpd k x then (trOpd y).map (.eqnil true k) else none
  | _,_ => none
def elemInfo (P:Program) (e:TypeId):Option (Nat × Nat × List V) :=
 match szOf P e,byOf P e,zeroOf P e with
 | some s,some b,some z => if z.length = s ∧ 0 < b ∧ 0 < s then some (s,b,z) else none
 | _,_,_ => none
def isByte (P:Program) (e:TypeId):Bool:=match P.underlying e with | some (.int .u8) => true | _ => false
theorem isByte_spec {e:TypeId} (h:isByte P e = true):P.underlying e = some (.int .u8):=by
 unfold isByte at h
 split at h
 ·assumption
 ·cases h
def trBuiltin (P:Program) (site:Nat) (b:Builtin) (args:List Operand) (argTypes:List TypeId):Option AOp :=
 match b,args,argTypes with
 | .len,[x],[t] =>
  match P.underlying t,trOpd x with
  | some (.slice _),some x => some (.lenS x)
  | some .string,some x => some (.lenStr x)
  | some (.array n _),_ => some (.lenK n)
  | some (.pointer t'),_ => match P.underlying t' with | some (.array n _) => some (.lenK n) | _ => none
  | some (.map _ _),some x => some (.mlen x)
  | _,_ => none
 | .append,[x,y],[t,u] =>
  match P.underlying t,P.underlying u,trOpd x,trOpd y with
  | some (.slice e),some (.slice _),some x,some y => (elemInfo P e).map fun (s,b,_) => .append site s b x y
  | some (.slice e),some .string,some x,some y => (elemInfo P e).map fun (s,b,_) => .append site s b x y
  | _,_,_,_ => none
 | .copy,[x,y],[t,_] =>
  match P.underlying t,trOpd x,trOpd y with
  | some (.slice e),some x,some y => (szOf P e).map fun s => .copy s x y
  | _,_,_ => none
 | .clear,[x],[t] =>
  match P.underlying t,trOpd x with
  | some (.slice e),some x => match elemInfo P e with | some (s,_,z) => if z.all V.oneCell then some (.clearS s z x) else none | none => none
  | some (.map _ _),some x => some (.mclear x)
  | _,_ => none
 | .delete,[m,k],t :: _ =>
  match P.underlying t,trOpd m,trOpd k with
  | some (.map kt _),some m,some k => match agKey P kt,kindsOf P 2 kt with | some ag,some ks => some (.mdel ag ks m k) | _,_ => none
  | _,_,_ => none
 | .min,x :: xs,_ => (trOpds (x :: xs)).map (.minmax false)
 | .max,x :: xs,_ => (trOpds (x :: xs)).map (.minmax true)
 | _,_,_ => none
def trPut (P:Program) (t:TypeId) (m k x:Operand):Option AOp :=
 match P.underlying t,trOpd m,trOpd k,trOpd x with
 | some (.map kt _),some m,some k,some x => match agKey P kt,kindsOf P 2 kt with | some ag,some ks => some (.mput ag ks m k x) | _,_ => none
 | _,_,_,_ => none
def trOp (P:Program) (site:Nat) (op:Op):Option AOp :=
 match op with
 | .move x | .assign x => (trOpd x).map .move
 | .pick c a b => match trOpd c,trOpd a,trOpd b with | some c,some a,some b => some (.pick c a b) | _,_,_ => none
 | .alloc e => (zeroOf P e).map (.allocz site)
 | .box _ x => (trOpd x).map (.box site)
 | .build t parts =>
  match zeroOf P t,placesOf P t with
  | some z,some pl => (trParts pl parts.toList).map (.build z)
  | _,_ => none
 | .buildSlice t len parts =>
  match P.underlying t with
  | some (.slice e) =>
   match elemInfo P e with
   | some (s,_,z) => if len * s ≤ 16777216 then
     match isByte P e with
     | true => (trParts (fun i => some (i * s,s)) parts.toList).map (.bnew site ((List.range (len * s)).map fun i => z.getD (i % z.length) .junk) len s)
     | false => (trParts (fun i => some (i * s,s)) parts.toList).map (.bslice ((List.range (len * s)).map fun i => z.getD (i % z.length) .junk) len s)
    else none
   | none => none
  | _ => none
 | .load t a => match agOf P t,trOpd a with | some ag,some a => some (.load ag a) | _,_ => none
 | .store t a x => match szOf P t,trOpd a,trOpd x with | some n,some a,some x => some (.store n a x) | _,_,_ => none
 | .nilCheck x => (trOpd x).map .nilck
 | .binOp op t x y _ => trBin P op t x y
 | .unOp op _ x => (trOpd x).map (.un op)
 | .convert src dst x =>
  match P.underlying src,P.underlying dst,trOpd x with
  | some (.int _),some (.int k),some x => some (.cint k x)
  | some .string,some .string,some x => some (.cstr x)
  | some (.slice e),some .string,some x => if isByte P e then some (.b2s x) else none
  | some .string,some (.slice e),some x => if isByte P e then some (.s2b site x) else none
  | some (.slice e),some (.slice _),some x => if src = dst then if isByte P e then some (.mark x) else none else none
  | _,_,_ => none
 | .makeInterface t x => match P.underlying t,trOpd x with | some (.interface _),_ => none | some _,some x => some (.mkiface t x) | _,_ => none
 | .makeFunc (.func f) xs ys => match trOpds xs.toList,trOpds ys.toList with | some xs,some ys => some (.mkfunc f xs ys) | _,_ => none
 | .makeSlice t l c =>
  match P.underlying t,trOpd l,trOpd c with
  | some (.slice e),some l,some c => (elemInfo P e).map fun (s,b,z) => .mkslice site z s b l c
  | _,_,_ => none
 | .slice t x lo hi mx =>
  match P.underlying t,trOpd x,trOpt lo,trOpt hi,trOpt mx with
  | some (.array n e),some x,some lo,some hi,some mx => (szOf P e).map fun s => .slA n s x lo hi mx
  | some (.slice e),some x,some lo,some hi,some mx => (elemInfo P e).map fun (s,_,_) => .slS s x lo hi mx
  | some .string,some x,some lo,some hi,some none => some (.slStr x lo hi)
  | _,_,_,_,_ => none
 | .fieldAddr t x i =>
  match P.underlying t,trOpd x with
  | some (.struct fs),some x =>
   match fs[i]? with
   | some f => match szOf P f.type with | some n => if n = 0 then none else some (.faddr f.offset x) | none => none
   | none => none
  | _,_ => none
 | .field t x i =>
  match P.underlying t,trOpd x with
  | some (.struct fs),some x =>
   match fs[i]? with
   | some f => (agOf P f.type).map fun ag => .field ag f.offset x
   | none => none
  | _,_ => none
 | .indexAddr t x i =>
  match P.underlying t,trOpd x,trOpd i with
  | some (.array n e),some x,some i => (szOf P e).map fun s => .iaddrA n s x i
  | some (.slice e),some x,some i => (szOf P e).map fun s => .iaddrS s x i
  | _,_,_ => none
 | .index t x i =>
  match P.underlying t,trOpd x,trOpd i with
  | some (.array n e),some x,some i => match szOf P e,agOf P e with | some s,some ag => some (.indexA n s ag x i) | _,_ => none
  | some .string,some x,some i => some (.indexStr x i)
  | _,_,_ => none
 | .extract x i => (trOpd x).map fun x => .extract x i
 | .sliceToArrayPointer arr x =>
  match P.underlying arr,trOpd x with
  | some (.array n e),some x => match n with | 0 => none | n + 1 => (szOf P e).map fun s => .s2ap (n + 1) s x
  | _,_ => none
 | .makeMap t r => match P.underlying t,r with | some (.map _ _),none => some (.mkmap site) | _,_ => none
 | .lookup t m k ok =>
  match P.underlying t,trOpd m,trOpd k with
  | some (.map kt et),some m,some k => match agKey P kt,kindsOf P 2 kt,zeroVal P et with | some ag,some ks,some z => some (.mget ag ks z ok m k) | _,_,_ => none
  | _,_,_ => none
 | .mapUpdate t m k x => trPut P t m k x
 | .insert t m k x => trPut P t m k x
 | .call { callee:=.builtin b,args,argTypes } => trBuiltin P site b args.toList argTypes.toList
 | .call { callee:=.value (.func f),args,.. } => (trOpds args.toList).map (.call f)
 | .call { callee:=.value f,args,.. } => match trOpd f,trOpds args.toList with | some f,some args => some (.callv f args) | _,_ => none
 | _ => none
def PrimGoes (P:Program) (s:Sem Next) (g:G) (h:Heap) (w:World) (v:V) (h':Heap):Prop :=
 ∃ g' w' x n,s.run P w = .ok n w' ∧ (n = .value x ∨ (n = .skip ∧ x = undef)) ∧ Sim g' h' w' ∧ Ext g h w g' h' w' ∧ VRel g' w' v x
theorem PrimGoes.of {s:Sem Value} {g:G} {h:Heap} {w:World} {v:V} {h':Heap} (q:Goes P s g h w v h'):PrimGoes P (do pure (.value (← s))) g h w v h':=by
 obtain ⟨g',w',x,r,rest⟩:=q
 exact ⟨g',w',x,.value x,by simp [r],.inl rfl,rest⟩
def EffPrim (P:Program) (s:Sem Next) (g:G) (h:Heap) (w:World):Eff → Prop
 | .ret v => PrimGoes P s g h w v h
 | .set o x v => PrimGoes P s g h w v (h.set o x)
theorem EffPrim.of {s:Sem Value} {g:G} {h:Heap} {w:World} {e:Eff} (q:EffGoes P s g h w e):EffPrim P (do pure (.value (← s))) g h w e:=by
 cases e with
 | ret v => exact PrimGoes.of (P:=P) q
 | set o x v => exact PrimGoes.of (P:=P) q
theorem trParts_rel {g:G} {w:World} {ρ:Opd → V} {ρ':Operand → Value} (hρ:OpdRel g w ρ ρ') {pl:Nat → Option (Nat × Nat)}:∀ {l:List (Nat × Operand)} {m:List (Nat × Nat × Opd)},trParts pl l = some m →
  Parts g w pl (m.map fun (o,n,x) => (o,n,ρ x)) (l.map fun (i,x) => (i,ρ' x))
 | [],m,h => by simp [trParts] at h; subst h; exact .nil
 | (i,x) :: l,m,h => by
  simp only [trParts] at h
  split at h
  ·rename_i off size x' m' h1 h2 h3
   cases h
   exact .cons i off size _ _ _ _ h1 (hρ _ _ h2) (trParts_rel hρ h3)
  ·cases h
theorem trOpt_rel {g:G} {w:World} {ρ:Opd → V} {ρ':Operand → Value} (hρ:OpdRel g w ρ ρ') {a:Option Operand} {b:Option Opd} (h:trOpt a = some b):OptRel g w (b.map ρ) (a.map ρ'):=by
 cases a with
 | none => simp [trOpt] at h; subst h; trivial
 | some x =>
  simp only [trOpt,Option.map_eq_some_iff] at h
  obtain ⟨y,hy,rfl⟩:=h
  exact hρ _ _ hy
theorem trOpds_rel {g:G} {w:World} {ρ:Opd → V} {ρ':Operand → Value} (hρ:OpdRel g w ρ ρ'):∀ {xs:List Operand} {ys:List Opd},trOpds xs = some ys →
  xs.length = ys.length ∧ ∀ (i:Nat) (c:V),(ys.map ρ)[i]? = some c → ∃ x,(xs.map ρ')[i]? = some x ∧ VRel g w c x
 | [],ys,h => by simp [trOpds] at h; subst h; simp
 | x :: xs,ys,h => by
  simp only [trOpds,List.mapM_cons,Option.bind_eq_bind,Option.bind_eq_some_iff,Option.pure_def,Option.some.injEq] at h
  obtain ⟨y,hy,ys',hys,rfl⟩:=h
  obtain ⟨h1,h2⟩:=trOpds_rel hρ (xs:=xs) hys
  refine ⟨by simp [h1],fun i c hi => ?_⟩
  cases i with
  | zero => simp at hi; subst hi; exact ⟨_,rfl,hρ _ _ hy⟩
  | succ i => simp at hi ⊢; simpa using h2 i c (by simpa using hi)
theorem elem_ok {st e:TypeId} {s b:Nat} {z:List V} (hu:P.underlying st = some (.slice e)) (h:elemInfo P e = some (s,b,z)):∃ i zv,ElemOk P st e i zv s b z ∧ szOf P e = some s ∧ byOf P e = some b ∧ zeroOf P e = some z ∧ z.length = s ∧ 0 < s:=by
 unfold elemInfo at h
 split at h
 ·rename_i s' b' z' h1 h2 h3
  split at h
  ·rename_i hc
   cases h
   obtain ⟨it,zv,hi,hz,hc0⟩:=zeroOf_info h3 ⟨fun _ _ => none,fun _ => False,fun _ _ => none⟩ default
   refine ⟨it,zv,⟨hu,hi,hz,by simpa [szOf,hi] using h1,by simpa [byOf,hi] using h2,?_,hc.2.1,hc.2.2⟩,h1,h2,h3,hc.1,hc.2.2⟩
   have:=hc0.1
   simp at this
   omega
  ·cases h
 ·cases h
end Go.Am


set_option linter.unusedVariables false
set_option linter.unusedSimpArgs false
namespace Go.Am
variable {P:Program}
theorem run_guarded {w:World} {op:BinOp} {t:TypeId} {x y:Operand} {a b:Value} {v:Value} {w':World} (hg:(eqGuard op t x y a b).run P w = .ok () w) (h:(binOp op t a b).run P w = .ok v w') :
  ((do eqGuard op t x y a b; binOp op t a b:Sem Value)).run P w = .ok v w':=by
 simp [hg,h]
theorem goes_guarded {g:G} {h:Heap} {w:World} {op:BinOp} {t:TypeId} {x y:Operand} {a b:Value} {v:V} {h':Heap} (hg:(eqGuard op t x y a b).run P w = .ok () w) (q:Goes P (binOp op t a b) g h w v h') :
  Goes P (do eqGuard op t x y a b; binOp op t a b) g h w v h':=by
 obtain ⟨g',w',z,r,rest⟩:=q
 exact ⟨g',w',z,run_guarded hg r,rest⟩
theorem bin_sorts {g:G} {w:World} {op:BinOp} {a b v:V} {X:Value} (ha:VRel g w a X) (h:binA op a b = some v):(∀ c,X ≠ .agg c) ∧ X ≠ .nilIface:=by
 cases ha <;> first | (simp [binA] at h; done) | simp
theorem eqcells_sorts {g:G} {w:World} {a b:V} {r:Bool} {X:Value} (ha:VRel g w a X) (h:eqCells [.b] [a] [b] = some r):∃ b,X = .bool b:=by
 simp only [eqCells] at h
 cases ha <;> simp only [eqCell,reduceCtorEq] at h
 exact ⟨_,rfl⟩
theorem agg_sort {g:G} {w:World} {c:List V} {X:Value} (h:VRel g w (.agg c) X):∃ d,X = .agg d:=by
 cases h; exact ⟨_,rfl⟩
theorem run_eqGuard_const {w:World} {op:BinOp} {t:TypeId} {x y:Operand} {v:Value} (h:x = .const v ∨ y = .const v):(eqGuard op t x y .nilIface .nilIface).run P w = .ok () w:=by
 rcases h with rfl | rfl
 ·cases op <;> simp [eqGuard]
 ·cases op <;> simp [eqGuard]
theorem sim_bin {g:G} {h:Heap} {w:World} {ρ:Opd → V} {ρ':Operand → Value} (hρ:OpdRel g w ρ ρ') (hc:∀ v,ρ' (.const v) = v) (s:Sim g h w) {fb:Nat} {op:BinOp} {t:TypeId} {x y:Operand} {ao:AOp} (ht:trBin P op t x y = some ao) {eff:Eff}
  (he:prim fb ρ (fun o => h[o]?) ao = some eff):EffGoes P (do eqGuard op t x y (ρ' x) (ρ' y); binOp op t (ρ' x) (ρ' y)) g h w eff:=by
 have two:∀ {x' y':Opd},trOpd x = some x' → trOpd y = some y' → (match P.underlying t with | some (.int _) | some .string => True | _ => False) → ao = .bin op x' y' → EffGoes P (do eqGuard op t x y (ρ' x) (ρ' y); binOp op t (ρ' x) (ρ' y)) g h w eff:=by
  intro x' y' h1 h2 _ hao
  subst hao
  simp only [prim,Option.map_eq_some_iff] at he
  obtain ⟨v,hv,rfl⟩:=he
  have hx:=hρ _ _ h1
  have hy:=hρ _ _ h2
  refine goes_guarded (run_eqGuard_agg ?_ ?_) (goes_bin s hx hy hv)
  ·rintro ⟨c,d,e1,e2⟩
   exact absurd e1 ((bin_sorts hx hv).1 c)
  ·rintro ⟨e1,e2⟩
   exact absurd e1 (bin_sorts hx hv).2
 unfold trBin at ht
 split at ht
 ·rename_i k hu
  split at ht
  ·rename_i x' y' h1 h2
   cases ht
   exact two h1 h2 (by simp [hu]) rfl
  ·cases ht
 ·rename_i hu
  split at ht
  ·rename_i x' y' h1 h2
   cases ht
   exact two h1 h2 (by simp [hu]) rfl
  ·cases ht
 ·rename_i hu
  have key:∀ (neg:Bool) {x' y':Opd},trOpd x = some x' → trOpd y = some y' → op = (eqOp neg) → ao = .eqc neg false [.b] x' y' → EffGoes P (do eqGuard op t x y (ρ' x) (ρ' y); binOp op t (ρ' x) (ρ' y)) g h w eff:=by
   intro neg x' y' h1 h2 hop hao
   subst hop; subst hao
   simp only [prim,Option.map_eq_some_iff] at he
   obtain ⟨r,hr,rfl⟩:=he
   have hx:=hρ _ _ h1
   have hy:=hρ _ _ h2
   have hk:kindsOf P 1 t = some [.b]:=by simp [kindsOf,hu]
   obtain ⟨b,hb⟩:=eqcells_sorts hx hr
   refine goes_guarded (run_eqGuard_agg ?_ ?_) (goes_eqc (neg:=neg) s (by omega) hk (is_bool hu hx) (is_bool hu hy) (.inl hu) hr)
   ·rintro ⟨c,d,e1,e2⟩; rw [hb] at e1; cases e1
   ·rintro ⟨e1,e2⟩; rw [hb] at e1; cases e1
  split at ht
  ·rename_i x' y' h1 h2; cases ht; exact key false h1 h2 rfl rfl
  ·rename_i x' y' h1 h2; cases ht; exact key true h1 h2 rfl rfl
  ·cases ht
 case h_6 hu1 hu2 hu3 hu4 hu5 =>
  have key:∀ (neg:Bool) (k:NK),nkOf P t = some k → op = (eqOp neg) →
    (if isNilOpd k y then (trOpd x).map (AOp.eqnil neg k) else if isNilOpd k x then (trOpd y).map (AOp.eqnil neg k) else none) = some ao → EffGoes P (do eqGuard op t x y (ρ' x) (ρ' y); binOp op t (ρ' x) (ρ' y)) g h w eff:=by
   intro neg k hk hop hq
   subst hop
   have guard:∀ (a b:Value),(isNilOpd k y = true ∧ b = k.nil ∨ isNilOpd k x = true ∧ a = k.nil) → (∀ c d,a = .agg c → b = .agg d → False) → (eqGuard (eqOp neg) t x y a b).run P w = .ok () w:=by
    intro a b hab hagg
    by_cases hn:a = .nilIface ∧ b = .nilIface
    ·obtain ⟨rfl,rfl⟩:=hn
     rcases hab with ⟨h1,-⟩ | ⟨h1,-⟩
     ·exact run_eqGuard_const (.inr (isNilOpd_eval h1))
     ·exact run_eqGuard_const (.inl (isNilOpd_eval h1))
    ·exact run_eqGuard_agg (fun ⟨c,d,e1,e2⟩ => (hagg c d e1 e2).elim) hn
   split at hq
   ·rename_i hy
    simp only [Option.map_eq_some_iff] at hq
    obtain ⟨x',h1,rfl⟩:=hq
    simp only [prim,Option.map_eq_some_iff] at he
    obtain ⟨b,hb,rfl⟩:=he
    have hx:=hρ _ _ h1
    have ey:ρ' y = k.nil:=by rw [isNilOpd_eval hy]; exact hc _
    rw [ey]
    refine goes_guarded (guard _ _ (.inl ⟨hy,rfl⟩) (fun c d e1 e2 => by cases k <;> simp [NK.nil] at e2)) (goes_eqnil s hk hx hb neg).1
   ·split at hq
    ·rename_i hnx hx
     simp only [Option.map_eq_some_iff] at hq
     obtain ⟨y',h1,rfl⟩:=hq
     simp only [prim,Option.map_eq_some_iff] at he
     obtain ⟨b,hb,rfl⟩:=he
     have hy:=hρ _ _ h1
     have ex:ρ' x = k.nil:=by rw [isNilOpd_eval hx]; exact hc _
     rw [ex]
     refine goes_guarded (guard _ _ (.inr ⟨hx,rfl⟩) (fun c d e1 e2 => by cases k <;> simp [NK.nil] at e1)) (goes_eqnil s hk hy hb neg).2
    ·cases hq
  split at ht
  ·rename_i k hk; exact key false k hk rfl ht
  ·rename_i k hk; exact key true k hk rfl ht
  ·cases ht
 all_goals
  rename_i hu
  have hagg:(∃ n e,P.underlying t = some (.array n e)) ∨ (∃ fs,P.underlying t = some (.struct fs)):=by
   first | exact .inl ⟨_,_,hu⟩ | exact .inr ⟨_,hu⟩
  have key:∀ (neg:Bool) (ks:List CK) {x' y':Opd},kindsOf P 64 t = some ks → P.eqGuardType P.depth t = false → trOpd x = some x' → trOpd y = some y' → op = (eqOp neg) → ao = .eqc neg true ks x' y' →
    EffGoes P (do eqGuard op t x y (ρ' x) (ρ' y); binOp op t (ρ' x) (ρ' y)) g h w eff:=by
   intro neg ks x' y' hk hgt h1 h2 hop hao
   subst hop; subst hao
   simp only [prim] at he
   split at he
   ·rename_i as bs ea eb
    simp only [Option.map_eq_some_iff] at he
    obtain ⟨r,hr,rfl⟩:=he
    have hx:=hρ _ _ h1
    have hy:=hρ _ _ h2
    rw [ea] at hx
    rw [eb] at hy
    have ix:=is_agg hagg hx
    have iy:=is_agg hagg hy
    have hxa:∃ c,ρ' x = .agg c:=agg_sort hx
    have hya:∃ c,ρ' y = .agg c:=agg_sort hy
    obtain ⟨c,hc1⟩:=hxa
    obtain ⟨d,hd1⟩:=hya
    refine goes_guarded (run_eqGuard_agg (fun _ => hgt) ?_) (goes_eqc (neg:=neg) s (by omega) hk ix iy (.inr ⟨c,d,hc1,hd1⟩) hr)
    rintro ⟨e1,e2⟩; rw [hc1] at e1; cases e1
   ·cases he
  split at ht
  ·rename_i ks x' y' h1 h2 h3 h4; cases ht; exact key false ks h1 h2 h3 h4 rfl rfl
  ·rename_i ks x' y' h1 h2 h3 h4; cases ht; exact key true ks h1 h2 h3 h4 rfl rfl
  ·cases ht
end Go.Am

