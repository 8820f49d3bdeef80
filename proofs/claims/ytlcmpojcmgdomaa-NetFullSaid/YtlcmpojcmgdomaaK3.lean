import Derived.Test.YtlcmpojcmgdomaaK2
import Derived.Calls
import Derived.Carry
import Derived.ChangeShapes
import Derived.KernelRfl
import Derived.OpenShut
set_option linter.unusedSectionVars false
set_option linter.unusedVariables false
set_option linter.unusedSimpArgs false
namespace Go.Am
def InV (S : Nat → Prop) (v : V) : Prop := ∀ o ∈ v.objs, S o
def InL (S : Nat → Prop) (l : List V) : Prop := ∀ v ∈ l, InV S v
section
variable {S : Nat → Prop}
theorem mem_objsL' : ∀ {l : List V} {o : Nat}, o ∈ V.objsL l → ∃ c ∈ l, o ∈ c.objs
  | [], o, h => by cases h
  | v :: l, o, h => by
    have h' : o ∈ v.objs ++ V.objsL l := h
    rcases List.mem_append.1 h' with h | h
    · exact ⟨v, by simp, h⟩
    · obtain ⟨c, h1, h2⟩ := mem_objsL' h
      exact ⟨c, by simp [h1], h2⟩
theorem inL_iff {l : List V} : InL S l ↔ ∀ o ∈ V.objsL l, S o := by
  constructor
  · intro h o ho
    obtain ⟨c, h1, h2⟩ := mem_objsL' ho
    exact h c h1 o h2
  · intro h c hc o ho
    exact h o (mem_objsL hc o ho)
theorem inV_nil {v : V} (h : v.objs = []) : InV S v := fun o ho => by rw [h] at ho; cases ho
mutual
theorem free_objs : ∀ (v : V), v.free = true → v.objs = []
  | .junk, _ | .bool _, _ | .int .., _ | .str _, _ | .nilp, _ | .nils, _ | .nilm, _ | .nilf, _ | .nili, _ => rfl
  | .ptr .., h | .view .., h | .vend .., h | .map .., h | .yld .., h => by simp [V.free] at h
  | .iptr cs _, h => by simp only [V.objs]; exact free_objsL cs (by simpa [V.free] using h)
  | .sl L _ _, h => by simp only [V.objs]; exact free_objsL L (by simpa [V.free] using h)
  | .func _ xs ys, h => by
    simp only [V.free, Bool.and_eq_true] at h
    simp only [V.objs, free_objsL xs h.1, free_objsL ys h.2, List.append_nil]
  | .iface _ v, h => by simp only [V.objs]; exact free_objs v (by simpa [V.free] using h)
  | .agg cs, h => by simp only [V.objs]; exact free_objsL cs (by simpa [V.free] using h)
  | .tup cs, h => by simp only [V.objs]; exact free_objsL cs (by simpa [V.free] using h)
  termination_by structural v => v
theorem free_objsL : ∀ (l : List V), V.freeL l = true → V.objsL l = []
  | [], _ => rfl
  | v :: l, h => by
    simp only [V.freeL, Bool.and_eq_true] at h
    simp only [V.objsL, free_objs v h.1, free_objsL l h.2, List.append_nil]
  termination_by structural l => l
end
theorem inV_free {v : V} (h : v.free = true) : InV S v := inV_nil (free_objs v h)
theorem inL_free {l : List V} (h : V.freeL l = true) : InL S l := inL_iff.2 fun o ho => by rw [free_objsL l h] at ho; cases ho
theorem InL.sub {l m : List V} (h : InL S l) (hs : ∀ v ∈ m, v ∈ l) : InL S m := fun v hv => h v (hs v hv)
theorem InL.take {l : List V} (h : InL S l) (n : Nat) : InL S (l.take n) := h.sub fun v hv => List.mem_of_mem_take hv
theorem InL.drop {l : List V} (h : InL S l) (n : Nat) : InL S (l.drop n) := h.sub fun v hv => List.mem_of_mem_drop hv
theorem InL.app {l m : List V} (h1 : InL S l) (h2 : InL S m) : InL S (l ++ m) := fun v hv => by
  rcases List.mem_append.1 hv with h | h
  · exact h1 v h
  · exact h2 v h
theorem InL.cons {v : V} {l : List V} (h1 : InV S v) (h2 : InL S l) : InL S (v :: l) := fun u hu => by
  rcases List.mem_cons.1 hu with rfl | h
  · exact h1
  · exact h2 u h
theorem inL_nil : InL S [] := fun v hv => by cases hv
theorem InV.agg {l : List V} (h : InL S l) : InV S (.agg l) := fun o ho => inL_iff.1 h o (by simpa [V.objs] using ho)
theorem InV.tup {l : List V} (h : InL S l) : InV S (.tup l) := fun o ho => inL_iff.1 h o (by simpa [V.objs] using ho)
theorem InV.sl {l : List V} {s : Nat} {c : Option Nat} (h : InL S l) : InV S (.sl l s c) := fun o ho => inL_iff.1 h o (by simpa [V.objs] using ho)
theorem InV.iptr {l : List V} {f : Nat} (h : InL S l) : InV S (.iptr l f) := fun o ho => inL_iff.1 h o (by simpa [V.objs] using ho)
theorem InV.agg' {l : List V} (h : InV S (.agg l)) : InL S l := inL_iff.2 fun o ho => h o (by simpa [V.objs] using ho)
theorem InV.tup' {l : List V} (h : InV S (.tup l)) : InL S l := inL_iff.2 fun o ho => h o (by simpa [V.objs] using ho)
theorem InV.sl' {l : List V} {s : Nat} {c : Option Nat} (h : InV S (.sl l s c)) : InL S l := inL_iff.2 fun o ho => h o (by simpa [V.objs] using ho)
theorem InV.iptr' {l : List V} {f : Nat} (h : InV S (.iptr l f)) : InL S l := inL_iff.2 fun o ho => h o (by simpa [V.objs] using ho)
theorem InV.cells {v : V} (h : InV S v) : InL S v.cells := by
  cases v <;> first | exact h.agg' | exact InL.cons h inL_nil
theorem inL_flat {l : List V} (h : InL S l) : InL S (l.flatMap V.cells) := fun v hv => by
  obtain ⟨e, h1, h2⟩ := List.mem_flatMap.1 hv
  exact (h e h1).cells v h2
theorem inV_wrap {l : List V} (h : InL S l) : InV S (wrapV l) := by
  unfold wrapV
  split
  · exact h _ (by simp)
  · exact .agg h
theorem inV_pack {ag : Option Nat} {cs : List V} {v : V} (h : InL S cs) (hp : packA ag cs = some v) : InV S v := by
  unfold packA at hp
  split at hp
  · cases hp; exact .agg h
  · exact h v (List.mem_of_mem_head? hp)
theorem inL_set {a b : List V} {n : Nat} (h1 : InL S a) (h2 : InL S b) : InL S (setRange a n b) := ((h1.take n).app h2).app (h1.drop _)
theorem inL_fill : ∀ {ps : List (Nat × Nat × V)} {cs ds : List V}, InL S cs → (∀ p ∈ ps, InV S p.2.2) → fillA cs ps = some ds → InL S ds
  | [], cs, ds, h, _, hf => by simp [fillA] at hf; subst hf; exact h
  | (o, n, v) :: ps, cs, ds, h, hp, hf => by
    simp only [fillA] at hf
    have hv := hp _ (by simp : (o, n, v) ∈ (o, n, v) :: ps)
    split at hf
    · cases hf
    · split at hf
      · split at hf
        · exact inL_fill (inL_set h hv.cells) (fun p hp' => hp p (by simp [hp'])) hf
        · cases hf
      · cases hf
def InG (S : Nat → Prop) (get : Nat → Option Ob) : Prop := ∀ o x, get o = some x → ∀ i ∈ x.bd.objs, S i
theorem inL_cellsAt {get : Nat → Option Ob} (hg : InG S get) {o ver : Nat} {cs : List V} (h : cellsAt get o ver = some cs) : InL S cs := by
  unfold cellsAt at h
  split at h
  · rename_i v cs' he
    split at h
    · cases h; exact inL_iff.2 fun i hi => hg o _ he i hi
    · cases h
  · rename_i v cs' he
    split at h
    · cases h; exact inL_iff.2 fun i hi => hg o _ he i hi
    · cases h
  · cases h
theorem inL_loadA {get : Nat → Option Ob} (hg : InG S get) {n : Nat} {p : V} (hp : InV S p) {cs : List V} (h : loadA get n p = some cs) : InL S cs := by
  unfold loadA at h
  split at h
  · split at h
    · rename_i all hc
      split at h
      · cases h; exact ((inL_cellsAt hg hc).drop _).take _
      · cases h
    · cases h
  · split at h
    · cases h; exact (hp.iptr'.drop _).take _
    · cases h
  · cases h
theorem inL_firstA {get : Nat → Option Ob} (hg : InG S get) {s n : Nat} {p : V} (hp : InV S p) {cs : List V} (h : firstA get s n p = some cs) : InL S cs := by
  cases p <;> simp only [firstA, reduceCtorEq] at h
  case nils => split at h <;> cases h; exact inL_nil
  case vend o ver s' =>
    split at h
    · split at h <;> cases h; exact inL_nil
    · cases h
  case view o ver off len s' cap =>
    split at h
    · split at h
      · exact inL_loadA hg (p := .ptr o ver off) (fun i hi => hp i (by simpa [V.objs] using hi)) h
      · cases h
    · cases h
  case sl L s' cap =>
    split at h
    · split at h
      · cases h; exact inL_flat (hp.sl'.take _)
      · cases h
    · cases h
  case str b =>
    split at h
    · split at h
      · cases h
        intro v hv
        obtain ⟨x, -, rfl⟩ := List.mem_map.1 hv
        exact inV_nil rfl
      · cases h
    · cases h
theorem binA_objs {op : BinOp} {a b v : V} (h : binA op a b = some v) : v.objs = [] := by
  unfold binA at h
  repeat' split at h
  all_goals first | (cases h; rfl) | (cases h; done) | skip
theorem unA_objs {op : UnOp} {a v : V} (h : unA op a = some v) : v.objs = [] := by
  unfold unA at h
  repeat' split at h
  all_goals first | (cases h; rfl) | (cases h; done)
theorem mmA_objs {mx : Bool} {a b v : V} (h : mmA mx a b = some v) : v.objs = [] := by
  unfold mmA at h
  split at h
  · cases h; rfl
  · cases h
def Bd.plainBd : Bd → Bool
  | .loop .. => false
  | _ => true
def Eff.inV (S : Nat → Prop) : Eff → Prop
  | .ret v => InV S v
  | .set o x v => InV S v ∧ (∀ i ∈ x.bd.objs, S i) ∧ x.bd.plainBd = true
theorem inV_ptr {o ver off : Nat} (h : S o) : InV S (.ptr o ver off) := fun i hi => by simp [V.objs] at hi; subst hi; exact h
theorem inV_view {o ver off len s : Nat} {cap : Option Nat} (h : S o) : InV S (.view o ver off len s cap) := fun i hi => by simp [V.objs] at hi; subst hi; exact h
theorem inV_vend {o ver s : Nat} (h : S o) : InV S (.vend o ver s) := fun i hi => by simp [V.objs] at hi; subst hi; exact h
theorem inV_map {o ver : Nat} (h : S o) : InV S (.map o ver) := fun i hi => by simp [V.objs] at hi; subst hi; exact h
theorem mkA_in {get : Nat → Option Ob} {o : Nat} {bd : Bd} {v : Nat → V} {eff : Eff} (h : mkA get o bd v = some eff) (hb : ∀ i ∈ bd.objs, S i) (hv : ∀ n, InV S (v n)) (hl : bd.plainBd = true := by rfl) : eff.inV S := by
  unfold mkA at h
  split at h
  · cases h; exact ⟨hv _, hb, hl⟩
  · cases h
theorem arr_in {l : List V} (h : InL S l) : ∀ i ∈ (Bd.arr l).objs, S i := fun i hi => inL_iff.1 h i hi
theorem var_in {l : List V} (h : InL S l) : ∀ i ∈ (Bd.var l).objs, S i := fun i hi => inL_iff.1 h i hi
theorem with_in {x : Ob} {l : List V} (hx : ∀ i ∈ x.bd.objs, S i) (h : InL S l) : ∀ i ∈ (x.with l).bd.objs, S i := by
  unfold Ob.with
  split
  · exact var_in h
  · exact arr_in h
  · exact hx
theorem storeA_in {get : Nat → Option Ob} (hg : InG S get) {o ver off : Nat} {new : List V} {v : V} {eff : Eff} (h : storeA get o ver off new v = some eff) (hn : InL S new) (hv : InV S v) : eff.inV S := by
  unfold storeA at h
  split at h
  · rename_i cs x hc hx
    split at h
    · cases h
      refine ⟨hv, with_in (hg o x hx) (inL_set (inL_cellsAt hg hc) hn), ?_⟩
      unfold cellsAt at hc
      rw [hx] at hc
      obtain ⟨v0, bd⟩ := x
      cases bd <;> simp at hc <;> rfl
    · cases h
  · cases h
theorem sliceA_in {get : Nat → Option Ob} {s : Nat} {x : V} (hx : InV S x) {lo hi mx : Option V} {v : V} (h : sliceA get s x lo hi mx = some v) : InV S v := by
  cases x <;> simp only [sliceA, reduceCtorEq] at h
  case nils => simp only [Option.map_eq_some_iff] at h; obtain ⟨_, -, rfl⟩ := h; exact inV_nil rfl
  case vend o ver s' =>
    split at h
    · simp only [Option.map_eq_some_iff] at h; obtain ⟨_, -, rfl⟩ := h; exact fun i hi => hx i (by simpa [V.objs] using hi)
    · cases h
  case view o ver off len s' cap =>
    have ho : S o := hx o (by simp [V.objs])
    cases cap with
    | some c =>
      simp only [sliceA] at h
      split at h
      · simp only [Option.map_eq_some_iff] at h; obtain ⟨⟨l, k, m⟩, -, rfl⟩ := h; exact inV_view ho
      · cases h
    | none =>
      simp only [sliceA] at h
      split at h
      · split at h
        · split at h
          · simp only [Option.bind_eq_some_iff] at h
            obtain ⟨⟨l, k, m⟩, -, h⟩ := h
            simp only at h
            split at h
            · cases h; exact inV_view ho
            · split at h
              · cases h; exact inV_view ho
              · cases h; exact inV_vend ho
          · simp only [Option.map_eq_some_iff] at h; obtain ⟨⟨l, k, m⟩, -, rfl⟩ := h; exact inV_view ho
        · cases h
      · cases h
  case sl L s' cap =>
    cases cap with
    | some c =>
      simp only [sliceA] at h
      split at h
      · simp only [Option.bind_eq_some_iff] at h
        obtain ⟨⟨l, k, m⟩, -, h⟩ := h
        simp only at h
        split at h
        · cases h; exact .sl ((hx.sl'.take _).drop _)
        · cases h
      · cases h
    | none =>
      simp only [sliceA] at h
      split at h
      · simp only [Option.map_eq_some_iff] at h; obtain ⟨⟨l, k, m⟩, -, rfl⟩ := h; exact .sl ((hx.sl'.take _).drop _)
      · cases h
theorem appendA_in {get : Nat → Option Ob} (hg : InG S get) {o s b : Nat} (ho : S o) {x y : V} (hx : InV S x) (hy : InV S y) {eff : Eff} (h : appendA get o s b x y = some eff) : eff.inV S := by
  unfold appendA at h
  split at h
  · cases h
  rename_i n hn
  split at h
  · cases h
  rename_i new hf
  have hnew := inL_firstA hg hy hf
  split at h
  case isFalse => cases h
  have hxo : ∀ i ∈ x.objs, S i := hx
  split at h
  · split at h
    · cases h; exact inV_nil rfl
    · split at h
      · exact mkA_in h (arr_in hnew) fun v => inV_view ho
      · cases h
  · rename_i L s' c
    split at h
    · split at h
      · cases h; exact hx
      · split at h
        · split at h
          · exact mkA_in h (arr_in ((inL_flat hx.sl').app hnew)) fun v => inV_view ho
          · cases h
        · cases h
    · cases h
  · rename_i o' ver s'
    have ho' : S o' := hx o' (by simp [V.objs])
    split at h
    · split at h
      · cases h
      · split at h
        · cases h; exact hx
        · split at h
          · cases h; exact ⟨inV_view ho', arr_in hnew, rfl⟩
          · cases h
    · cases h
  · rename_i o' ver off len s' cap
    have ho' : S o' := hx o' (by simp [V.objs])
    split at h
    · split at h
      · cases h
      · rename_i cs hc
        have hcs := inL_cellsAt hg hc
        split at h
        · cases h; exact hx
        · split at h
          · split at h
            · split at h
              · exact storeA_in hg h hnew (inV_view ho')
              · split at h
                · exact mkA_in h (arr_in (((hcs.drop _).take _).app hnew)) fun v => inV_view ho
                · cases h
            · split at h
              · split at h
                · cases h; exact ⟨inV_view ho', arr_in ((hcs.drop _).app hnew), rfl⟩
                · cases h
              · exact storeA_in hg h hnew (inV_view ho')
          · cases h
    · cases h
  · cases h
theorem copyA_in {get : Nat → Option Ob} (hg : InG S get) {s : Nat} {x y : V} (hx : InV S x) (hy : InV S y) {eff : Eff} (h : copyA get s x y = some eff) : eff.inV S := by
  unfold copyA at h
  split at h
  case h_2 => cases h
  simp only at h
  split at h
  · cases h
  rename_i new hf
  have hnew := inL_firstA hg hy hf
  split at h
  case isFalse => cases h
  split at h
  · cases h; exact inV_nil rfl
  · cases h; exact inV_nil rfl
  · split at h
    · split at h
      · cases h; exact inV_nil rfl
      · exact storeA_in hg h hnew (inV_nil rfl)
    · cases h
  · cases h
theorem mapAt_in {get : Nat → Option Ob} (hg : InG S get) {o ver : Nat} {es : List (V × V)} (h : mapAt get o ver = some es) : ∀ e ∈ es, InV S e.1 ∧ InV S e.2 := by
  unfold mapAt at h
  split at h
  · rename_i v es' he
    split at h
    · cases h
      have := hg o _ he
      intro e hm
      exact ⟨fun i hi => this i (List.mem_flatMap.2 ⟨e, hm, by simp [hi]⟩), fun i hi => this i (List.mem_flatMap.2 ⟨e, hm, by simp [hi]⟩)⟩
    · cases h
  · cases h
theorem map_in {es : List (V × V)} (h : ∀ e ∈ es, InV S e.1 ∧ InV S e.2) : ∀ i ∈ (Bd.map es).objs, S i := by
  intro i hi
  obtain ⟨e, he, hi⟩ := List.mem_flatMap.1 hi
  rcases List.mem_append.1 hi with hi | hi
  · exact (h e he).1 i hi
  · exact (h e he).2 i hi
theorem okV_in {ok b : Bool} {v : V} (h : InV S v) : InV S (okV ok v b) := by
  unfold okV
  cases ok
  · exact h
  · exact .tup (.cons h (.cons (inV_nil rfl) inL_nil))
def cleanO (x : Opd) : Bool := match x with | .cst v => v.free | .tmp _ => true
def AOp.clean (op : AOp) : Bool :=
  op.opds.all cleanO && match op with
  | .allocz _ z | .build z _ | .bslice z _ _ _ | .clearS _ z _ | .bnew _ z _ _ _ | .mkslice _ z _ _ _ _ => V.freeL z
  | .mget _ _ z _ _ _ => z.free
  | _ => true
theorem inV_ev {t : List V} (ht : InL S t) {x : Opd} (hx : cleanO x = true) : InV S (ev t x) := by
  cases x with
  | cst v => exact inV_free hx
  | tmp i =>
    simp only [ev, List.getD_eq_getElem?_getD]
    cases h : t[i]? with
    | none => exact inV_nil rfl
    | some v => exact ht v (List.mem_of_getElem? h)
theorem inL_chunks {cs : List V} (h : InL S cs) (n : Nat) (f : Nat → Nat) (s : Nat) : InL S ((List.range n).map fun i => wrapV ((cs.drop (f i)).take s)) := fun v hv => by
  obtain ⟨i, -, rfl⟩ := List.mem_map.1 hv
  exact inV_wrap ((h.drop _).take _)
theorem fold_mm : ∀ {l : List V} {a v : V} {mx : Bool}, InV S a → l.foldlM (mmA mx) a = some v → InV S v
  | [], a, v, mx, h, hf => by simp at hf; subst hf; exact h
  | x :: l, a, v, mx, h, hf => by
    simp only [List.foldlM_cons, Option.bind_eq_bind, Option.bind_eq_some_iff] at hf
    obtain ⟨b, hb, hf⟩ := hf
    exact fold_mm (inV_nil (mmA_objs hb)) hf
theorem prim_in {fb : Nat} {t : List V} (ht : InL S t) {get : Nat → Option Ob} (hg : InG S get) (hs : ∀ i, fb ≤ i → S i) {op : AOp} (hc : op.clean = true) {eff : Eff} (h : prim fb (ev t) get op = some eff) : eff.inV S := by
  unfold AOp.clean at hc
  simp only [Bool.and_eq_true, List.all_eq_true] at hc
  obtain ⟨hc, hz⟩ := hc
  have e : ∀ x ∈ op.opds, InV S (ev t x) := fun x hx => inV_ev ht (hc x hx)
  have st : ∀ s, S (fb + s) := fun s => hs _ (by omega)
  cases op <;> simp only [AOp.opds, List.mem_cons, List.not_mem_nil, or_false, forall_eq_or_imp, forall_eq] at e <;> simp only [prim] at h
  case move x => cases h; exact e
  case pick c a b =>
    split at h
    · rename_i tt _; cases h; cases tt
      · exact e.2.2
      · exact e.2.1
    · cases h
  case allocz s z => exact mkA_in h (var_in (inL_free hz)) fun v => inV_ptr (st s)
  case box s x =>
    split at h
    · cases h
    · exact mkA_in h (var_in e.cells) fun v => inV_ptr (st s)
  case build z ps =>
    simp only [Option.map_eq_some_iff] at h
    obtain ⟨cs, hf, rfl⟩ := h
    refine .agg (inL_fill (inL_free hz) (fun p hp => ?_) hf)
    obtain ⟨q, hq, rfl⟩ := List.mem_map.1 hp
    exact e _ (List.mem_map.2 ⟨q, hq, rfl⟩)
  case bslice z len s ps =>
    split at h
    · rename_i cs hf
      split at h
      · cases h
        refine .sl (inL_chunks (inL_fill (inL_free hz) (fun p hp => ?_) hf) _ _ _)
        obtain ⟨q, hq, rfl⟩ := List.mem_map.1 hp
        exact e _ (List.mem_map.2 ⟨q, hq, rfl⟩)
      · cases h
    · cases h
  case load ag a =>
    simp only [Option.bind_eq_some_iff, Option.map_eq_some_iff] at h
    obtain ⟨cs, hl, v, hv, rfl⟩ := h
    exact inV_pack (inL_loadA hg e hl) hv
  case store n a x =>
    split at h
    · split at h
      · split at h
        · exact storeA_in hg h e.2.cells (inV_nil rfl)
        · cases h
      · cases h
    · cases h
  case nilck x =>
    split at h
    · rename_i o v f hx; cases h; rw [hx] at e; exact e
    · rename_i c f hx; cases h; rw [hx] at e; exact e
    · rename_i f a b hx; cases h; rw [hx] at e; exact e
    · cases h
  case bin op x y =>
    simp only [Option.map_eq_some_iff] at h
    obtain ⟨v, hv, rfl⟩ := h
    exact inV_nil (binA_objs hv)
  case eqc neg ag ks x y =>
    cases ag <;> simp only [prim] at h
    · simp only [Option.map_eq_some_iff] at h
      obtain ⟨b, -, rfl⟩ := h
      exact inV_nil rfl
    · split at h
      · simp only [Option.map_eq_some_iff] at h
        obtain ⟨b, -, rfl⟩ := h
        exact inV_nil rfl
      · cases h
  case eqnil neg k x =>
    simp only [Option.map_eq_some_iff] at h
    obtain ⟨b, -, rfl⟩ := h
    exact inV_nil rfl
  case un op x =>
    simp only [Option.map_eq_some_iff] at h
    obtain ⟨v, hv, rfl⟩ := h
    exact inV_nil (unA_objs hv)
  case cint k x => split at h <;> cases h; exact inV_nil rfl
  case cstr x => split at h <;> cases h; exact inV_nil rfl
  case b2s x =>
    split at h
    · cases h
    · simp only [Option.bind_eq_some_iff, Option.map_eq_some_iff] at h
      obtain ⟨n, -, cs, -, l, -, rfl⟩ := h
      exact inV_nil rfl
  case s2b s x =>
    split at h
    · refine mkA_in h (arr_in fun v hv => ?_) fun v => inV_view (st s)
      obtain ⟨x, -, rfl⟩ := List.mem_map.1 hv
      exact inV_nil rfl
    · cases h
  case mkfunc f xs ys =>
    cases h
    intro o ho
    simp only [V.objs, List.mem_append] at ho
    rcases ho with ho | ho
    · obtain ⟨c, hc', ho⟩ := mem_objsL' ho
      obtain ⟨x, hx, rfl⟩ := List.mem_map.1 hc'
      exact e x (by simp [hx]) o ho
    · obtain ⟨c, hc', ho⟩ := mem_objsL' ho
      obtain ⟨x, hx, rfl⟩ := List.mem_map.1 hc'
      exact e x (by simp [hx]) o ho
  case mkiface ty x =>
    have h' : eff = .ret (.iface ty (ev t x)) := by
      generalize ev t x = v at h
      cases v <;> first | (cases h; done) | (simp at h; exact h.symm)
    subst h'
    exact fun o ho => e o (by simpa [V.objs] using ho)
  case mkslice s z sz by' l c =>
    split at h
    · split at h
      · split at h
        · split at h
          · split at h
            · refine mkA_in h (arr_in fun v hv => ?_) fun v => inV_view (st s)
              obtain ⟨l', hl', hv⟩ := List.mem_flatten.1 hv
              rw [List.eq_of_mem_replicate hl'] at hv
              exact inL_free hz v hv
            · cases h
          · cases h
        · cases h
      · cases h
    · cases h
  case slA n s x lo hi mx =>
    split at h
    · rename_i o ver off hx
      have ho : S o := by have := e.1; rw [hx] at this; exact this o (by simp [V.objs])
      split at h
      · simp only [Option.map_eq_some_iff] at h
        obtain ⟨⟨l, k, m⟩, -, rfl⟩ := h
        exact inV_view ho
      · cases h
    · rename_i cs off hx
      have hcs : InL S cs := by have := e.1; rw [hx] at this; exact this.iptr'
      simp only [Option.bind_eq_some_iff] at h
      obtain ⟨⟨l, k, m⟩, -, h⟩ := h
      simp only at h
      split at h
      · split at h
        · cases h
          exact .sl (inL_chunks hcs _ _ _)
        · cases h
      · cases h
    · cases h
  case slS s x lo hi mx =>
    simp only [Option.map_eq_some_iff] at h
    obtain ⟨v, hv, rfl⟩ := h
    exact sliceA_in e.1 hv
  case slStr x lo hi =>
    split at h
    · simp only [Option.map_eq_some_iff] at h
      obtain ⟨⟨l, k, m⟩, -, rfl⟩ := h
      exact inV_nil rfl
    · cases h
  case faddr off x =>
    split at h
    · rename_i o v f hx; cases h; rw [hx] at e; exact inV_ptr (e o (by simp [V.objs]))
    · rename_i c f hx; cases h; rw [hx] at e; exact .iptr e.iptr'
    · cases h
  case field ag off x =>
    split at h
    · rename_i cs hx
      rw [hx] at e
      split at h
      · simp only [Option.map_eq_some_iff] at h
        obtain ⟨v, hv, rfl⟩ := h
        exact inV_pack ((e.agg'.drop _).take _) hv
      · cases h
    · cases h
  case iaddrA n s x i =>
    simp only [Option.bind_eq_some_iff] at h
    obtain ⟨j, -, h⟩ := h
    split at h
    · rename_i o v f hx; cases h; rw [hx] at e; exact inV_ptr (e.1 o (by simp [V.objs]))
    · rename_i c f hx; cases h; rw [hx] at e; exact .iptr e.1.iptr'
    · cases h
  case iaddrS s x i =>
    unfold iaddrSA at h
    split at h
    · rename_i o ver off len s' cap hx
      split at h
      · simp only [Option.map_eq_some_iff] at h
        obtain ⟨j, -, rfl⟩ := h
        rw [hx] at e
        exact inV_ptr (e.1 o (by simp [V.objs]))
      · cases h
    · rename_i L s' cap hx
      split at h
      · simp only [Option.bind_eq_some_iff, Option.map_eq_some_iff] at h
        obtain ⟨j, -, c, hcj, rfl⟩ := h
        rw [hx] at e
        exact .iptr (e.1.sl' c (List.mem_of_getElem? hcj)).cells
      · cases h
    · cases h
  case indexA n s ag x i =>
    simp only [Option.bind_eq_some_iff] at h
    obtain ⟨j, -, h⟩ := h
    split at h
    · rename_i cs hx
      rw [hx] at e
      split at h
      · simp only [Option.map_eq_some_iff] at h
        obtain ⟨v, hv, rfl⟩ := h
        exact inV_pack ((e.1.agg'.drop _).take _) hv
      · cases h
    · cases h
  case indexStr x i =>
    split at h
    · simp only [Option.bind_eq_some_iff, Option.map_eq_some_iff] at h
      obtain ⟨j, -, c, -, rfl⟩ := h
      exact inV_nil rfl
    · cases h
  case extract x i =>
    split at h
    · rename_i vs hx
      rw [hx] at e
      simp only [Option.map_eq_some_iff] at h
      obtain ⟨v, hv, rfl⟩ := h
      exact e.tup' v (List.mem_of_getElem? hv)
    · cases h
  case lenS x =>
    split at h
    · cases h
    · simp only [Option.map_eq_some_iff] at h
      obtain ⟨n, -, rfl⟩ := h
      exact inV_nil rfl
  case lenStr x => split at h <;> cases h; exact inV_nil rfl
  case lenK n => cases h; exact inV_nil rfl
  case append s sz b x y => exact appendA_in hg (st s) e.1 e.2 h
  case copy s x y => exact copyA_in hg e.1 e.2 h
  case call => cases h
  case callv => cases h
  case minmax mx xs =>
    split at h
    · rename_i a rest hm
      simp only [Option.map_eq_some_iff] at h
      obtain ⟨v, hv, rfl⟩ := h
      refine fold_mm ?_ hv
      have : a ∈ xs.map (ev t) := by rw [hm]; simp
      obtain ⟨x, hx, rfl⟩ := List.mem_map.1 this
      exact e x hx
    · cases h
  case clearS s z x =>
    unfold clearA at h
    split at h
    · cases h; exact inV_nil rfl
    · cases h; exact inV_nil rfl
    · cases h; exact inV_nil rfl
    · split at h
      · cases h; exact inV_nil rfl
      · split at h
        · refine storeA_in hg h (fun v hv => ?_) (inV_nil rfl)
          obtain ⟨l', hl', hv⟩ := List.mem_flatten.1 hv
          rw [List.eq_of_mem_replicate hl'] at hv
          exact inL_free hz v hv
        · cases h
    · cases h
  case bnew s row len sz ps =>
    split at h
    · rename_i cs hf
      refine mkA_in h (arr_in (inL_fill (inL_free hz) (fun p hp => ?_) hf)) fun v => inV_view (st s)
      obtain ⟨q, hq, rfl⟩ := List.mem_map.1 hp
      exact e _ (List.mem_map.2 ⟨q, hq, rfl⟩)
    · cases h
  case mark x =>
    split at h
    · rename_i o ver off len sz cap hx
      split at h
      · cases h; rw [hx] at e; exact e
      · cases h
    · cases h
  case s2ap n s x =>
    simp only [Option.map_eq_some_iff] at h
    obtain ⟨v, hv, rfl⟩ := h
    unfold s2apA at hv
    split at hv
    · rename_i o ver off len s' cap hx
      split at hv
      · split at hv
        · cases hv; rw [hx] at e; exact inV_ptr (e o (by simp [V.objs]))
        · cases hv
      · cases hv
    · rename_i L s' cap hx
      split at hv
      · split at hv
        · cases hv; rw [hx] at e; exact .iptr (inL_flat (e.sl'.take _))
        · cases hv
      · cases hv
    · cases hv
  case mkmap s => exact mkA_in h (map_in fun e he => by cases he) fun v => inV_map (st s)
  case mget ag ks z ok m k =>
    simp only [Option.map_eq_some_iff] at h
    obtain ⟨v, hv, rfl⟩ := h
    have hzv : InV S z := inV_free hz
    unfold mgetA at hv
    split at hv
    · cases hv
    · split at hv
      · split at hv <;> cases hv; exact okV_in hzv
      · split at hv
        · cases hv
        · rename_i es hes
          split at hv
          · split at hv
            · rename_i y hy
              cases hv
              exact okV_in (mapAt_in hg hes y (List.mem_of_find?_eq_some hy)).2
            · cases hv; exact okV_in hzv
          · cases hv
      · cases hv
  case mput ag ks m k v =>
    unfold mputA at h
    split at h
    · cases h
    · split at h
      · split at h
        · cases h
        · rename_i es hes
          split at h
          · cases h
            refine ⟨inV_nil rfl, map_in ?_, rfl⟩
            have hm := mapAt_in hg hes
            unfold mputL
            split
            · intro x hx
              obtain ⟨y, hy, rfl⟩ := List.mem_map.1 hx
              split
              · exact ⟨e.2.1, e.2.2⟩
              · exact hm y hy
            · intro x hx
              rcases List.mem_append.1 hx with hx | hx
              · exact hm x hx
              · obtain rfl := List.mem_singleton.1 hx; exact ⟨e.2.1, e.2.2⟩
          · cases h
      · cases h
  case mdel ag ks m k =>
    unfold mdelA at h
    split at h
    · cases h
    · split at h
      · split at h <;> cases h; exact inV_nil rfl
      · split at h
        · cases h
        · rename_i es hes
          split at h
          · cases h
            exact ⟨inV_nil rfl, map_in fun x hx => mapAt_in hg hes x (List.mem_filter.1 hx).1, rfl⟩
          · cases h
      · cases h
  case mclear m =>
    unfold mclearA at h
    split at h
    · cases h; exact inV_nil rfl
    · split at h
      · cases h
      · cases h; exact ⟨inV_nil rfl, map_in (fun e he => by cases he), rfl⟩
    · cases h
  case mlen m =>
    simp only [Option.map_eq_some_iff] at h
    obtain ⟨v, hv, rfl⟩ := h
    unfold mlenA at hv
    split at hv
    · cases hv; exact inV_nil rfl
    · simp only [Option.map_eq_some_iff] at hv
      obtain ⟨es, -, rfl⟩ := hv
      exact inV_nil rfl
    · cases hv
  case stuck => cases h
end
end Go.Am


set_option linter.unusedSectionVars false
set_option linter.unusedVariables false
set_option linter.unusedSimpArgs false
namespace Go.Am
structure Good (S : Nat → Prop) (n0 : Nat) (h : Heap) : Prop where
  names : InG S (fun o => h[o]?)
  base : ∀ (o v st : Nat) pd t fb f k, h[o]? = some ⟨v, .loop st pd t fb f k⟩ → n0 ≤ fb
  len : n0 ≤ h.length
section
variable {S : Nat → Prop} {n0 : Nat}
theorem Good.set {h : Heap} (H : Good S n0 h) {o : Nat} {x : Ob} (hx : ∀ i ∈ x.bd.objs, S i) (hl : ∀ st pd t fb f k, x.bd = .loop st pd t fb f k → n0 ≤ fb) : Good S n0 (h.set o x) := by
  refine ⟨fun i y hy => ?_, fun i v st pd t fb f k hy => ?_, by rw [List.length_set]; exact H.len⟩
  · simp only [List.getElem?_set] at hy
    split at hy
    · split at hy
      · cases hy; exact hx
      · cases hy
    · exact H.names i y hy
  · simp only [List.getElem?_set] at hy
    split at hy
    · split at hy
      · cases hy; exact hl _ _ _ _ _ _ rfl
      · cases hy
    · exact H.base i v st pd t fb f k hy
theorem Good.setP {h : Heap} (H : Good S n0 h) {o : Nat} {x : Ob} (hx : ∀ i ∈ x.bd.objs, S i) (hl : x.bd.plainBd = true) : Good S n0 (h.set o x) :=
  H.set hx fun st pd t fb f k e => by rw [e] at hl; cases hl
theorem Good.dead {h : Heap} (H : Good S n0 h) {o v : Nat} : Good S n0 (h.set o ⟨v, .dead⟩) := H.setP (fun i hi => by cases hi) rfl
theorem Good.app {h : Heap} (H : Good S n0 h) (n : Nat) : Good S n0 (h ++ deads n) := by
  refine ⟨fun i y hy => ?_, fun i v st pd t fb f k hy => ?_, by have := H.len; simp; omega⟩
  · simp only at hy
    rcases Nat.lt_or_ge i h.length with hl | hl
    · rw [List.getElem?_append_left hl] at hy; exact H.names i y hy
    · rw [List.getElem?_append_right hl] at hy
      obtain rfl := List.eq_of_mem_replicate (List.mem_of_getElem? hy)
      intro j hj; cases hj
  · rcases Nat.lt_or_ge i h.length with hl | hl
    · rw [List.getElem?_append_left hl] at hy; exact H.base i v st pd t fb f k hy
    · rw [List.getElem?_append_right hl] at hy
      have := List.eq_of_mem_replicate (List.mem_of_getElem? hy)
      cases this
def CallIn (S : Nat → Prop) (n0 : Nat) (call : Caller) : Prop := ∀ f args h v h', InL S args → Good S n0 h → call f args h = some (v, h') → InV S v ∧ Good S n0 h'
theorem InL.put {t : List V} (h : InL S t) {d : Option Nat} {v : V} (hv : InV S v) : InL S (put t d v) := by
  cases d with
  | none => exact h
  | some d =>
    intro u hu
    rcases List.mem_or_eq_of_mem_set hu with hu | rfl
    · exact h u hu
    · exact hv
theorem InL.clear {t : List V} : ∀ (l : List Nat), InL S t → InL S (clear l t) := by
  intro l
  induction l generalizing t with
  | nil => exact fun h => h
  | cons i l ih => exact fun h => ih (h.put (d := some i) (v := .junk) (inV_nil rfl))
theorem Good.kill {h : Heap} (fb : Nat) : ∀ (l : List Nat), Good S n0 h → Good S n0 (killA fb l h) := by
  intro l
  induction l generalizing h with
  | nil => exact fun H => H
  | cons i l ih =>
    intro H
    unfold killA
    simp only [List.foldl_cons]
    split
    · exact ih H.dead
    · exact ih H
variable (hS : ∀ i, n0 ≤ i → S i)
theorem opds_in {t : List V} (ht : InL S t) {xs : List Opd} (hx : ∀ x ∈ xs, cleanO x = true) : InL S (xs.map (ev t)) := fun v hv => by
  obtain ⟨x, hx', rfl⟩ := List.mem_map.1 hv
  exact inV_ev ht (hx x hx')
include hS in
theorem stepOp_in {call : Caller} (hcall : CallIn S n0 call) {fb : Nat} (hfb : n0 ≤ fb) {o : AOper} (hc : o.op.clean = true) {t : List V} {h : Heap} (ht : InL S t) (H : Good S n0 h) {t' : List V} {h' : Heap} (hr : stepOp call fb o t h = some (t', h')) : InL S t' ∧ Good S n0 h' := by
  unfold stepOp at hr
  split at hr
  · cases hr
  · cases hr; exact ⟨ht.put (inV_nil rfl), H⟩
  · split at hr
    case h_2 => cases hr
    rename_i v h1 hd
    cases hr
    suffices q : InV S v ∧ Good S n0 h' from ⟨ht.put q.1, q.2⟩
    have hcl := hc
    unfold AOp.clean at hcl
    simp only [Bool.and_eq_true, List.all_eq_true] at hcl
    have hopd := hcl.1
    unfold doOp at hd
    split at hd
    · rename_i f args hop
      rw [hop] at hopd
      split at hd
      · cases hd
      · exact hcall _ _ _ _ _ (opds_in ht fun x hx => hopd x hx) H hd
    · rename_i f args hop
      rw [hop] at hopd
      have hf := inV_ev ht (hopd f (by simp [AOp.opds]))
      have ha := opds_in (S := S) ht (xs := args) fun x hx => hopd x (by simp [AOp.opds, hx])
      split at hd
      · rename_i g xs ys hv
        rw [hv] at hf
        split at hd
        · cases hd
        · refine hcall _ _ _ _ _ (((inL_iff.2 fun i hi => hf i (by simp [V.objs, hi])).app ha).app (inL_iff.2 fun i hi => hf i (by simp [V.objs, hi]))) H hd
      · rename_i oo ver hv
        rw [hv] at hf
        exact hcall _ _ _ _ _ (.cons hf ha) H hd
      · cases hd
    · split at hd
      · rename_i hp
        cases hd
        exact ⟨prim_in ht H.names (fun i hi => hS i (by omega)) hc hp, H⟩
      · rename_i i x v' hp
        cases hd
        have := prim_in ht H.names (fun i hi => hS i (by omega)) hc hp
        exact ⟨this.1, H.setP this.2.1 this.2.2⟩
      · cases hd
include hS in
theorem runOps_in {call : Caller} (hcall : CallIn S n0 call) {fb : Nat} (hfb : n0 ≤ fb) : ∀ {ops : List AOper} (hc : ∀ o ∈ ops, o.op.clean = true) {t : List V} {h : Heap} (ht : InL S t) (H : Good S n0 h) {t' : List V} {h' : Heap} (hr : runOps call fb ops t h = some (t', h')), InL S t' ∧ Good S n0 h'
  | [], _, t, h, ht, H, t', h', hr => by simp only [runOps, Option.some.injEq, Prod.mk.injEq] at hr; obtain ⟨rfl, rfl⟩ := hr; exact ⟨ht, H⟩
  | o :: os, hc, t, h, ht, H, t', h', hr => by
    simp only [runOps] at hr
    split at hr
    · rename_i t1 h1 hs
      obtain ⟨a, b⟩ := stepOp_in hS hcall hfb (hc o (by simp)) ht H hs
      exact runOps_in hcall hfb (fun o ho => hc o (by simp [ho])) a b hr
    · cases hr
include hS in
theorem runDraw_in {pureF : FuncId → FMode} {call : Caller} (hcall : CallIn S n0 call) {fb n : Nat} (hfb : n0 ≤ fb) : ∀ {ops : List (AOper × List Nat)} (hc : ∀ o ∈ ops, o.1.op.clean = true) {fps : List FpT} {t : List V} {h : Heap} (ht : InL S t) (H : Good S n0 h) {t' : List V} {h' : Heap} (hr : runDraw pureF call fb n ops fps t h = some (t', h')), InL S t' ∧ Good S n0 h'
  | [], _, fps, t, h, ht, H, t', h', hr => by simp only [runDraw, Option.some.injEq, Prod.mk.injEq] at hr; obtain ⟨rfl, rfl⟩ := hr; exact ⟨ht, H⟩
  | (o, ps) :: os, hc, fps, t, h, ht, H, t', h', hr => by
    simp only [runDraw] at hr
    split at hr
    · split at hr
      · rename_i t1 h1 hs
        obtain ⟨a, b⟩ := stepOp_in hS hcall hfb (hc (o, ps) (by simp)) ht H hs
        exact runDraw_in hcall hfb (fun o ho => hc o (by simp [ho])) a b hr
      · cases hr
    · cases hr
theorem keepOnly_good {R : List Nat} {h : Heap} (H : Good S n0 h) : Good S n0 (keepOnly R h) := by
  refine ⟨fun o x hx => ?_, fun o v st pd t fb f k hx => ?_, by rw [keepOnly_length]; exact H.len⟩
  · simp only at hx
    rw [keepOnly_get] at hx
    simp only [Option.map_eq_some_iff] at hx
    obtain ⟨y, hy, rfl⟩ := hx
    split
    · exact H.names o y hy
    · intro i hi; cases hi
  · rw [keepOnly_get] at hx
    simp only [Option.map_eq_some_iff] at hx
    obtain ⟨y, hy, hx⟩ := hx
    split at hx
    · subst hx; exact H.base o v st pd t fb f k hy
    · cases hx
theorem frameC_in {pureF : FuncId → FMode} {call : Caller} (hcall : CallIn S n0 call) : CallIn S n0 (frameC pureF call) := by
  intro f args h v h' ha H hr
  unfold frameC at hr
  split at hr
  · split at hr
    · rename_i e
      split at hr
      · cases hr; exact hcall _ _ _ _ _ ha H e
      · cases hr
    · cases hr
  · split at hr
    · exact hcall _ _ _ _ _ ha H hr
    · split at hr
      · exact hcall _ _ _ _ _ ha H hr
      · cases hr
    · split at hr
      · rename_i v1 h1 e1 e2
        split at hr
        · rename_i hok
          cases hr
          obtain ⟨q1, q2⟩ := hcall _ _ _ _ _ ha (keepOnly_good H) e2
          have hle : h.length ≤ h1.length := by
            simp only [Bool.and_eq_true, decide_eq_true_eq] at hok
            exact hok.1.1
          refine ⟨q1, ⟨fun o x hx => ?_, fun o v st pd t fb f k hx => ?_, by rw [mergeH_length]; exact q2.len⟩⟩
          · simp only at hx
            rw [mergeH_get] at hx
            simp only [Option.map_eq_some_iff] at hx
            obtain ⟨y, hy, rfl⟩ := hx
            split
            · exact q2.names o y hy
            · rename_i hin
              have hlt : o < h.length := by simp [inside] at hin; omega
              have : h.getD o y = h[o] := by simp [List.getD_eq_getElem?_getD, hlt]
              rw [this]
              exact H.names o _ (List.getElem?_eq_getElem hlt)
          · rw [mergeH_get] at hx
            simp only [Option.map_eq_some_iff] at hx
            obtain ⟨y, hy, hx⟩ := hx
            split at hx
            · subst hx; exact q2.base o v st pd t fb f k hy
            · rename_i hin
              have hlt : o < h.length := by simp [inside] at hin; omega
              have : h.getD o y = h[o] := by simp [List.getD_eq_getElem?_getD, hlt]
              rw [this] at hx
              exact H.base o v st pd t fb f k (by rw [List.getElem?_eq_getElem hlt, hx])
        · cases hr
      · cases hr
def ACode.clean : ACode → Bool
  | .region ops => ops.all fun o => o.op.clean
  | .draw ops => ops.all fun x => x.1.op.clean
  | .seq a b => a.clean && b.clean
  | .cond c a b => cleanO c && (a.clean && b.clean)
  | .block _ b | .loop _ _ b | .fresh _ b => b.clean
  | .rangeM m _ _ _ _ _ _ _ b => cleanO m && b.clean
  | .rangeF f _ a b _ _ _ => cleanO f && (a.clean && b.clean)
  | _ => true
theorem loopN_in {f : List V → Heap → Option (Ex × List V × Heap)} {pre : List V → Heap → List V × Heap} (hf : ∀ t h e t' h', InL S t → Good S n0 h → f t h = some (e, t', h') → InL S t' ∧ Good S n0 h') (hp : ∀ t h, InL S t → Good S n0 h → InL S (pre t h).1 ∧ Good S n0 (pre t h).2) :
    ∀ (n : Nat) {t : List V} {h : Heap} {e : Ex} {t' : List V} {h' : Heap}, InL S t → Good S n0 h → loopN f pre n t h = some (e, t', h') → InL S t' ∧ Good S n0 h'
  | 0, t, h, e, t', h', _, _, hr => by simp [loopN] at hr
  | n + 1, t, h, e, t', h', ht, H, hr => by
    simp only [loopN] at hr
    obtain ⟨p1, p2⟩ := hp t h ht H
    split at hr
    · rename_i t1 h1 he
      obtain ⟨a, b⟩ := hf _ _ _ _ _ p1 p2 he
      exact loopN_in hf hp n a b hr
    · exact hf _ _ _ _ _ p1 p2 hr
theorem InL.set {t : List V} (h : InL S t) {i : Nat} {v : V} (hv : InV S v) : InL S (t.set i v) := fun u hu => by
  rcases List.mem_or_eq_of_mem_set hu with hu | rfl
  · exact h u hu
  · exact hv
theorem rounds_in {f : List V → Heap → Option (Ex × List V × Heap)} {it nx ok en : Nat} {itv : V} (hf : ∀ t h e t' h', InL S t → Good S n0 h → f t h = some (e, t', h') → InL S t' ∧ Good S n0 h') : ∀ (es : List (V × V)), (∀ e ∈ es, InV S e.1 ∧ InV S e.2) → ∀ {t : List V} {h : Heap} {r : Ex × List V × Heap},
    InL S t → Good S n0 h → roundsM f it nx ok en itv es t h = some r → InL S r.2.1 ∧ Good S n0 r.2.2
  | [], _, t, h, r, ht, H, hr => by
    simp only [roundsM] at hr
    split at hr
    · cases hr; exact ⟨(ht.set (InV.tup (.cons (inV_nil rfl) inL_nil))).set (inV_nil rfl), H⟩
    · cases hr
  | e :: es, he, t, h, r, ht, H, hr => by
    simp only [roundsM] at hr
    obtain ⟨e1, e2⟩ := he e (by simp)
    have hv : InL S [e.1, e.2] := .cons e1 (.cons e2 inL_nil)
    have hR : InL S (roundM nx ok en e t) := ((ht.set (InV.tup (.cons (inV_nil rfl) hv))).set (inV_nil rfl)).set (InV.tup hv)
    split at hr
    case h_2 => cases hr
    split at hr
    · rename_i t1 h1 hq
      obtain ⟨a, b⟩ := hf _ _ _ _ _ hR H hq
      exact rounds_in hf es (fun x hx => he x (by simp [hx])) a b hr
    · exact hf _ _ _ _ _ hR H hr
include hS in
theorem exec_in {pureF : FuncId → FMode} {call : Caller} (hcall : CallIn S n0 call) {N : Nat} : ∀ (c : ACode) (hc : c.clean = true) {fb : Nat} (hfb : n0 ≤ fb) {t : List V} {h : Heap} (ht : InL S t) (H : Good S n0 h) {e : Ex} {t' : List V} {h' : Heap} (hr : exec pureF call N fb c t h = some (e, t', h')), InL S t' ∧ Good S n0 h' := by
  intro c
  induction c with
  | skip => intro _ fb _ t h ht H e t' h' hr; simp only [exec, Option.some.injEq, Prod.mk.injEq] at hr; obtain ⟨-, rfl, rfl⟩ := hr; exact ⟨ht, H⟩
  | region ops =>
    intro hc fb hfb t h ht H e t' h' hr
    simp only [exec] at hr
    split at hr
    · rename_i t1 h1 he
      simp only [Option.some.injEq, Prod.mk.injEq] at hr
      obtain ⟨-, rfl, rfl⟩ := hr
      exact runOps_in hS hcall hfb (List.all_eq_true.1 hc) ht H he
    · cases hr
  | draw ops =>
    intro hc fb hfb t h ht H e t' h' hr
    simp only [exec] at hr
    split at hr
    · rename_i t1 h1 he
      simp only [Option.some.injEq, Prod.mk.injEq] at hr
      obtain ⟨-, rfl, rfl⟩ := hr
      exact runDraw_in hS (frameC_in hcall) hfb (List.all_eq_true.1 hc) ht H he
    · cases hr
  | seq a b iha ihb =>
    intro hc fb hfb t h ht H e t' h' hr
    simp only [ACode.clean, Bool.and_eq_true] at hc
    simp only [exec] at hr
    split at hr
    · rename_i t1 h1 he
      obtain ⟨q1, q2⟩ := iha hc.1 hfb ht H he
      exact ihb hc.2 hfb q1 q2 hr
    · exact iha hc.1 hfb ht H hr
  | cond x a b iha ihb =>
    intro hc fb hfb t h ht H e t' h' hr
    simp only [ACode.clean, Bool.and_eq_true] at hc
    simp only [exec] at hr
    split at hr
    · exact iha hc.2.1 hfb ht H hr
    · exact ihb hc.2.2 hfb ht H hr
    · cases hr
  | block id b ih =>
    intro hc fb hfb t h ht H e t' h' hr
    simp only [exec] at hr
    split at hr
    · rename_i i t1 h1 he
      obtain ⟨q1, q2⟩ := ih hc hfb ht H he
      split at hr <;> (simp only [Option.some.injEq, Prod.mk.injEq] at hr; obtain ⟨-, rfl, rfl⟩ := hr; exact ⟨q1, q2⟩)
    · exact ih hc hfb ht H hr
  | loop clr kill b ih =>
    intro hc fb hfb t h ht H e t' h' hr
    simp only [exec] at hr
    exact loopN_in (fun t h e t' h' ht H hr => ih hc hfb ht H hr) (fun t h ht H => ⟨ht.clear clr, H.kill fb kill⟩) N ht H hr
  | exit id => intro _ fb _ t h ht H e t' h' hr; simp only [exec, Option.some.injEq, Prod.mk.injEq] at hr; obtain ⟨-, rfl, rfl⟩ := hr; exact ⟨ht, H⟩
  | ret => intro _ fb _ t h ht H e t' h' hr; simp only [exec, Option.some.injEq, Prod.mk.injEq] at hr; obtain ⟨-, rfl, rfl⟩ := hr; exact ⟨ht, H⟩
  | clr l => intro _ fb _ t h ht H e t' h' hr; simp only [exec, Option.some.injEq, Prod.mk.injEq] at hr; obtain ⟨-, rfl, rfl⟩ := hr; exact ⟨ht.clear l, H⟩
  | fresh n b ih =>
    intro hc fb hfb t h ht H e t' h' hr
    simp only [exec] at hr
    exact ih hc (fb := h.length) H.len ht (H.app n) hr
  | rangeM m it nx ok en site clr kill b ih =>
    intro hc fb hfb t h ht H e t' h' hr
    simp only [ACode.clean, Bool.and_eq_true] at hc
    simp only [exec] at hr
    split at hr
    case h_2 => cases hr
    rename_i x om es hx hm
    have hes : ∀ e ∈ es, InV S e.1 ∧ InV S e.2 := by
      unfold mapOf at hm
      split at hm
      · cases hm; intro e he; cases he
      · split at hm
        · rename_i hq
          cases hm
          exact mapAt_in H.names hq
        · cases hm
      · cases hm
    have hhide : Good S n0 (hideM om h) := by
      unfold hideM
      split
      · exact H.dead
      · exact H
    unfold rangeC at hr
    split at hr
    case h_2 => cases hr
    rename_i r0 hr0
    split at hr
    case isFalse => cases hr
    have hit : InV S (.ptr (fb + site) (x.ver + 1) 0) := inV_ptr (hS _ (by omega))
    obtain ⟨q1, q2⟩ := rounds_in (fun t h e t' h' ht H hr => ih hc.2 hfb ht H hr) es hes (ht.set hit) hhide.dead hr0
    unfold showM leaveM at hr
    split at hr
    · cases hr
      exact ⟨q1.clear clr, q2.kill fb kill⟩
    · split at hr
      · split at hr
        · cases hr
          exact ⟨q1.clear clr, (q2.kill fb kill).setP (map_in hes) rfl⟩
        · cases hr
      · cases hr
  | rangeF f ps a b fid k site iha ihb =>
    intro hc fb hfb t h ht H e t' h' hr
    simp only [ACode.clean, Bool.and_eq_true] at hc
    simp only [exec] at hr
    split at hr
    case h_2 => cases hr
    rename_i x hx
    split at hr
    case h_2 => cases hr
    rename_i g xs ys hv
    have hf := inV_ev ht hc.1
    rw [hv] at hf
    split at hr
    · cases hr
    split at hr
    case h_2 => cases hr
    rename_i v h2 hcl
    have hyl : InV S (.yld (fb + site) (x.ver + 1)) := fun i hi => by simp [V.objs] at hi; subst hi; exact hS _ (by omega)
    obtain ⟨-, q2⟩ := hcall _ _ _ _ _ (((inL_iff.2 fun i hi => hf i (by simp [V.objs, hi])).app (.cons hyl inL_nil)).app (inL_iff.2 fun i hi => hf i (by simp [V.objs, hi])))
      (H.set (x := ⟨x.ver + 1, .loop 0 none t fb fid k⟩) (fun i hi => inL_iff.1 ht i hi) (fun st pd t' fb' f' k' e => by cases e; exact hfb)) hcl
    split at hr
    · split at hr
      · split at hr
        · cases hr
        · simp only [Option.some.injEq, Prod.mk.injEq] at hr
          obtain ⟨-, rfl, rfl⟩ := hr
          exact ⟨ht, q2.dead⟩
      · cases hr
    · cases hr
theorem ranges_clean : ∀ (c : ACode), c.clean = true → ∀ r ∈ rangesA c, r.2.1.clean = true ∧ r.2.2.clean = true
  | .skip, _, r, h | .region _, _, r, h | .draw _, _, r, h | .exit _, _, r, h | .ret, _, r, h | .clr _, _, r, h => by simp [rangesA] at h
  | .seq a b, hc, r, h => by
    simp only [ACode.clean, Bool.and_eq_true] at hc
    simp only [rangesA, List.mem_append] at h
    rcases h with h | h
    · exact ranges_clean a hc.1 r h
    · exact ranges_clean b hc.2 r h
  | .cond _ a b, hc, r, h => by
    simp only [ACode.clean, Bool.and_eq_true] at hc
    simp only [rangesA, List.mem_append] at h
    rcases h with h | h
    · exact ranges_clean a hc.2.1 r h
    · exact ranges_clean b hc.2.2 r h
  | .block _ b, hc, r, h => ranges_clean b hc r (by simpa [rangesA] using h)
  | .loop _ _ b, hc, r, h => ranges_clean b hc r (by simpa [rangesA] using h)
  | .fresh _ b, hc, r, h => ranges_clean b hc r (by simpa [rangesA] using h)
  | .rangeM _ _ _ _ _ _ _ _ b, hc, r, h => ranges_clean b (by simp only [ACode.clean, Bool.and_eq_true] at hc; exact hc.2) r (by simpa [rangesA] using h)
  | .rangeF _ ps a b _ _ _, hc, r, h => by
    simp only [ACode.clean, Bool.and_eq_true] at hc
    simp only [rangesA, List.mem_cons, List.mem_append] at h
    rcases h with rfl | h | h
    · exact hc.2
    · exact ranges_clean a hc.2.1 r h
    · exact ranges_clean b hc.2.2 r h
def cleanP (p : AProg) : Bool := p.all fun | some f => f.body.clean | none => true
theorem cleanP_get {p : AProg} (h : cleanP p = true) {f : FuncId} {af : AFunc} (hf : p[f]? = some (some af)) : af.body.clean = true := by
  have := List.all_eq_true.1 h _ (List.mem_of_getElem? hf)
  exact this
theorem mapM_shutF {f : V → Option V} (hf : ∀ a b, f a = some b → b.free = true) : ∀ {l l' : List V}, l.mapM f = some l' → V.freeL l' = true
  | [], l', h => by simp at h; subst h; rfl
  | x :: l, l', h => by
    simp only [List.mapM_cons, Option.bind_eq_bind, Option.bind_eq_some_iff, Option.pure_def, Option.some.injEq] at h
    obtain ⟨y, hy, l2, hl, rfl⟩ := h
    simp only [V.freeL, hf _ _ hy, mapM_shutF hf hl, Bool.and_self]
theorem shut_is_free {get : Nat → Option Ob} : ∀ (d : Nat) (v v' : V), V.shut get d v = some v' → v'.free = true
  | 0, v, v', h => by simp [V.shut] at h
  | d + 1, v, v', h => by
    have ih := shut_is_free (get := get) d
    unfold V.shut at h
    split at h
    · rename_i hf; cases h; exact hf
    split at h
    · split at h
      · split at h
        · rename_i cs hm
          split at h
          · cases h
            have hfr := mapM_shutF ih hm
            refine freeL_of fun c hc => ?_
            obtain ⟨i, -, rfl⟩ := List.mem_map.1 hc
            refine wrapV_free fun c hc => ?_
            exact freeL_mem hfr c (List.mem_of_mem_drop (List.mem_of_mem_take hc))
          · cases h
        · cases h
      · cases h
    · split at h <;> cases h; rfl
    · simp only [Option.map_eq_some_iff] at h; obtain ⟨cs, hm, rfl⟩ := h; exact mapM_shutF ih hm
    · simp only [Option.map_eq_some_iff] at h; obtain ⟨cs, hm, rfl⟩ := h; exact mapM_shutF ih hm
    · simp only [Option.map_eq_some_iff] at h; obtain ⟨x, hm, rfl⟩ := h; show x.free = true; exact ih _ _ hm
    · split at h
      · simp only [Option.map_eq_some_iff] at h; obtain ⟨cs, hm, rfl⟩ := h; exact mapM_shutF ih hm
      · cases h
    · split at h
      · rename_i xs' ys' h1 h2
        cases h
        show (V.freeL xs' && V.freeL ys') = true
        rw [mapM_shutF ih h1, mapM_shutF ih h2]; rfl
      · cases h
    · cases h
mutual
theorem plain_free : ∀ (v : V), v.plain = true → v.free = true
  | .bool _, _ | .int .., _ | .str _, _ | .nilp, _ | .nils, _ | .nilm, _ | .nilf, _ | .nili, _ => rfl
  | .agg cs, h => plainL_free cs (by simpa [V.plain] using h)
  | .tup cs, h => plainL_free cs (by simpa [V.plain] using h)
  | .iface _ v, h => plain_free v (by simpa [V.plain] using h)
  | .junk, h | .ptr .., h | .iptr .., h | .view .., h | .vend .., h | .sl .., h | .map .., h | .func .., h | .yld .., h => by simp [V.plain] at h
  termination_by structural v => v
theorem plainL_free : ∀ (l : List V), V.plainL l = true → V.freeL l = true
  | [], _ => rfl
  | v :: l, h => by
    simp only [V.plainL, Bool.and_eq_true] at h
    simp only [V.freeL, plain_free v h.1, plainL_free l h.2, Bool.and_self]
  termination_by structural l => l
end
theorem resA_in {get : Nat → Option Ob} (hg : InG S get) {t : List V} (ht : InL S t) : ∀ {rs : List ARes} {vs : List V}, resA get t rs = some vs → InL S vs
  | [], vs, h => by simp [resA] at h; subst h; exact inL_nil
  | r :: rs, vs, h => by
    simp only [resA] at h
    split at h
    · rename_i v vs' h1 h2
      cases h
      refine .cons ?_ (resA_in hg ht h2)
      have hd : ∀ i, InV S (t.getD i .junk) := fun i => by
        have := inV_ev (S := S) ht (x := .tmp i) rfl
        exact this
      cases r with
      | tmp i => simp only [resA1, Option.some.injEq] at h1; subst h1; exact hd i
      | cell i ag =>
        simp only [resA1, Option.bind_eq_some_iff] at h1
        obtain ⟨cs, hl, hp⟩ := h1
        exact inV_pack (inL_loadA hg (hd i) hl) hp
    · cases h
theorem packR_in {vs : List V} (h : InL S vs) : InV S (packR vs) := by
  unfold packR
  split
  · exact h _ (by simp)
  · exact .tup h
include hS in
theorem bodyA_in {p : AProg} (hp : cleanP p = true) {call : Caller} (hcall : CallIn S n0 call) {N fb : Nat} (hfb : n0 ≤ fb) {f : FuncId} {fn : AFunc} (hfn : p[f]? = some (some fn)) {args : List V} {h : Heap} (ha : InL S args) (H : Good S n0 h) {v : V} {h' : Heap}
    (hr : bodyA p call N fb fn args h = some (v, h')) : InV S v ∧ Good S n0 h' := by
  have hc := cleanP_get hp hfn
  have ht : InL S (args ++ List.replicate (fn.nt - args.length) .junk) := ha.app fun v hv => by
    rw [List.eq_of_mem_replicate hv]; exact inV_nil rfl
  unfold bodyA at hr
  split at hr
  · rename_i t1 h1 he
    split at hr
    · rename_i vs hres
      cases hr
      obtain ⟨q1, q2⟩ := exec_in hS hcall _ hc hfb ht H he
      exact ⟨packR_in (resA_in q2.names q1 hres), q2⟩
    · cases hr
  · rename_i t1 h1 he
    split at hr
    · rename_i vs hres
      cases hr
      obtain ⟨q1, q2⟩ := exec_in hS hcall _ hc hfb ht H he
      exact ⟨packR_in (resA_in q2.names q1 hres), q2⟩
    · cases hr
  · cases hr
theorem setPs_in : ∀ (ps : List Nat) (xs : List V) {t : List V}, InL S t → InL S xs → InL S (setPs ps xs t)
  | [], xs, t, ht, _ => by simp [setPs]; exact ht
  | p :: ps, [], t, ht, _ => by simp [setPs]; exact ht
  | p :: ps, x :: xs, t, ht, hx => by
    have := setPs_in ps xs (ht.put (d := some p) (hx x (by simp))) (fun v hv => hx v (by simp [hv]))
    simpa [setPs, put] using this
include hS in
theorem yieldA_in {p : AProg} (hp : cleanP p = true) {call : Caller} (hcall : CallIn S n0 call) {N : Nat} {args : List V} {h : Heap} (ha : InL S args) (H : Good S n0 h) {v : V} {h' : Heap} (hr : yieldA p call N args h = some (v, h')) : InV S v ∧ Good S n0 h' := by
  unfold yieldA at hr
  split at hr
  case h_2 => cases hr
  rename_i o ver xs
  split at hr
  case h_2 => cases hr
  rename_i v0 st0 pd0 t fb f k hx
  have hfb := H.base _ _ _ _ _ _ _ _ hx
  have ht : InL S t := inL_iff.2 fun i hi => H.names o _ hx i hi
  split at hr
  case isFalse => cases hr
  split at hr
  case h_2 => cases hr
  rename_i af haf
  split at hr
  case h_2 => cases hr
  rename_i ps asn body hrg
  obtain ⟨c1, c2⟩ := ranges_clean _ (cleanP_get hp haf) _ (List.mem_of_getElem? hrg)
  split at hr
  case isFalse => cases hr
  split at hr
  case h_2 => cases hr
  rename_i t1 h1 he
  obtain ⟨q1, q2⟩ := exec_in hS hcall _ c1 hfb (setPs_in ps xs ht (fun v hv => ha v (by simp [hv]))) H he
  split at hr
  case h_2 => cases hr
  rename_i v1 p1 t2 fb2 f2 k2 hx1
  split at hr
  case isFalse => cases hr
  split at hr
  case h_2 => cases hr
  rename_i x t1' h2 he2
  obtain ⟨q3, q4⟩ := exec_in hS hcall _ c2 hfb q1 (q2.set (x := ⟨ver, .loop 1 p1 t2 fb2 f2 k2⟩) (fun i hi => q2.names o _ hx1 i hi) (fun st pd t' fb' f' k' e => by cases e; exact q2.base _ _ _ _ _ _ _ _ hx1)) he2
  split at hr
  case h_2 => cases hr
  rename_i v2 st2 pd2 t3 fb3 f3 k3 hx2
  split at hr
  case isFalse => cases hr
  have fin : ∀ st pd, Good S n0 (h2.set o ⟨ver, .loop st pd t3 fb3 f3 k3⟩) := fun st pd => q4.set (fun i hi => q4.names o _ hx2 i hi) (fun st pd t' fb' f' k' e => by cases e; exact q4.base _ _ _ _ _ _ _ _ hx2)
  split at hr <;> (cases hr; exact ⟨inV_nil rfl, fin _ _⟩)
include hS in
theorem callA_in {p : AProg} (hp : cleanP p = true) (N : Nat) : ∀ n, CallIn S n0 (callA p N n)
  | 0, f, args, h, v, h', _, _, hr => by simp [callA] at hr
  | n + 1, f, args, h, v, h', ha, H, hr => by
    have ih := callA_in hp N n
    unfold callA at hr
    split at hr
    · exact yieldA_in hS hp ih ha H hr
    split at hr
    case h_2 => cases hr
    rename_i fn hfn
    split at hr
    case isFalse => cases hr
    have keep : ∀ {v h'}, bodyA p (callA p N n) N h.length fn args (h ++ deads fn.sites) = some (v, h') → InV S v ∧ Good S n0 h' := fun hr => bodyA_in hS hp ih H.len hfn ha (H.app _) hr
    have shut : ∀ {v h'}, (match bodyA p (callA p N n) N 0 fn args (deads fn.sites) with | some (v, h') => (match V.shut (fun o => h'[o]?) sealDepth v with | some v' => some (v', h) | none => none) | none => none) = some (v, h') → InV S v ∧ Good S n0 h' := by
      intro v h' hr
      split at hr
      · split at hr
        · rename_i v' hs
          cases hr
          exact ⟨inV_free (shut_is_free _ _ _ hs), H⟩
        · cases hr
      · cases hr
    cases hmode : fn.mode with
    | keep => simp only [hmode] at hr; exact keep hr
    | auto =>
      simp only [hmode] at hr
      split at hr
      · exact shut hr
      · exact keep hr
    | pure =>
      simp only [hmode] at hr
      split at hr
      · exact shut hr
      · cases hr
    | look =>
      simp only [hmode] at hr
      split at hr
      · split at hr
        · split at hr
          · rename_i hpl
            cases hr
            exact ⟨inV_free (plain_free _ hpl), H⟩
          · cases hr
        · cases hr
      · cases hr
end
theorem frame_all {m : FMode} {p : AProg} (hp : cleanP p = true) {N n : Nat} {f : FuncId} {args : List V} {h h1 : Heap} {v : V} {R : List Nat} (hm : pureOf p f = m) (hk : m = .keep ∨ m = .auto) (hR : reachC h (V.objsL args) = R)
    (hcl : ∀ o ∈ R, ∀ y, h[o]? = some y → (∀ i ∈ y.bd.objs, i ∈ R) ∧ y.bd.plainBd = true) (hc : callA p N n f args (keepOnly R h) = some (v, h1)) (hy : f ≠ YLD := by decide) :
    frameC (pureOf p) (callA p N n) f args h = some (v, mergeH R h h1) ∧ h.length ≤ h1.length := by
  have hRs := reachC_sub h (V.objsL args)
  rw [hR] at hRs
  have G0 : Good (fun i => i ∈ R ∨ h.length ≤ i) h.length (keepOnly R h) := by
    refine ⟨fun o x hx i hi => ?_, fun o v st pd t fb f k hx => ?_, by rw [keepOnly_length]; exact Nat.le_refl _⟩
    · simp only at hx
      rw [keepOnly_get] at hx
      simp only [Option.map_eq_some_iff] at hx
      obtain ⟨y, hy', rfl⟩ := hx
      split at hi
      · rename_i hcn
        exact .inl ((hcl o (by simpa using hcn) y hy').1 i hi)
      · cases hi
    · rw [keepOnly_get] at hx
      simp only [Option.map_eq_some_iff] at hx
      obtain ⟨y, hy', hx⟩ := hx
      split at hx
      · rename_i hcn
        subst hx
        have := (hcl o (by simpa using hcn) _ hy').2
        cases this
      · cases hx
  obtain ⟨q1, q2⟩ := callA_in (S := fun i => i ∈ R ∨ h.length ≤ i) (n0 := h.length) (fun i hi => .inr hi) hp N n f args _ _ _ (inL_iff.2 fun o ho => .inl (hRs o ho)) G0 hc
  refine ⟨frame_gen hm hk hR (fun o ho y hy' => (hcl o ho y hy').1) hc q2.len q1 (fun o y hy' _ => q2.names o y hy') hy, q2.len⟩
end Go.Am


set_option linter.unusedVariables false
set_option linter.unusedSimpArgs false
namespace Go.Am
variable {P : Program}
inductive Sh where
  | int (k : IntKind)
  | bool
  | str
  | unit
  | pair (a b : Sh)
  | arr (n : Nat) (e : Sh)
  | sl (ag : Bool) (s : Nat) (e : Sh)
  deriving DecidableEq
def elemV (ag : Bool) (u : List V) : V := match ag with | true => .agg u | false => u.headD .junk
def InSh : Sh → List V → Prop
  | .int k, vs => ∃ n, vs = [.int k n] ∧ (Lit.int k n).wf = true
  | .bool, vs => ∃ b, vs = [.bool b]
  | .str, vs => ∃ s, vs = [.str s] ∧ s.length ≤ maxLen
  | .unit, vs => vs = []
  | .pair a b, vs => ∃ u v, vs = u ++ v ∧ InSh a u ∧ InSh b v
  | .arr n e, vs => ∃ us : List (List V), us.length = n ∧ vs = us.flatten ∧ ∀ u ∈ us, InSh e u
  | .sl ag s e, vs => vs = [.nils] ∨ ∃ (us : List (List V)) (c : Nat), vs = [.sl (us.map (elemV ag)) s (some c)] ∧ us.length ≤ c ∧ c ≤ maxLen ∧ ∀ u ∈ us, u.length = s ∧ InSh e u
section
variable {H : Type} {enc : TypeId × Value → H} {w : World} {sp : Nat → Bool} {held : Bool} {g : G}
def InP (ag : Bool) (S : Sh) (v : V) : Prop := match ag with | true => ∃ cs, v = .agg cs ∧ InSh S cs | false => InSh S [v]
theorem InSh.free : ∀ {S : Sh} {vs : List V}, InSh S vs → V.freeL vs = true
  | .int k, vs, ⟨n, h, _⟩ => by subst h; rfl
  | .bool, vs, ⟨n, h⟩ => by subst h; rfl
  | .str, vs, ⟨n, h, _⟩ => by subst h; rfl
  | .unit, vs, h => by cases h; rfl
  | .pair a b, vs, ⟨u, v, h, h1, h2⟩ => by subst h; rw [freeL_append, InSh.free h1, InSh.free h2]; rfl
  | .arr n e, vs, ⟨us, hn, h, h1⟩ => by
    subst h
    clear hn
    induction us with
    | nil => rfl
    | cons u us ih => rw [List.flatten_cons, freeL_append, InSh.free (h1 u (by simp)), ih (fun v hv => h1 v (by simp [hv]))]; rfl
  | .sl ag s e, vs, h => by
    rcases h with rfl | ⟨us, c, rfl, -, -, h1⟩
    · rfl
    · rw [freeL_cons, freeL_nil, Bool.and_true, free_sl]
      clear c
      induction us with
      | nil => rfl
      | cons u us ih =>
        have hu := InSh.free (h1 u (by simp)).2
        rw [List.map_cons, freeL_cons, ih (fun v hv => h1 v (by simp [hv])), Bool.and_true]
        cases ag with
        | true => exact hu
        | false =>
          cases u with
          | nil => rfl
          | cons x u => rw [freeL_cons, Bool.and_eq_true] at hu; exact hu.1
theorem InP.free {ag : Bool} {S : Sh} {v : V} (h : InP ag S v) : v.free = true := by
  cases ag with
  | true => obtain ⟨cs, rfl, h⟩ := h; exact h.free
  | false => have := InSh.free h; rw [freeL_cons, Bool.and_eq_true] at this; exact this.1
end
end Go.Am


set_option linter.unusedVariables false
set_option linter.unusedSimpArgs false
namespace Go.Am
end Go.Am


set_option linter.unusedVariables false
set_option linter.unusedSimpArgs false
set_option linter.unusedSectionVars false
set_option maxRecDepth 10000
namespace Go.Am.T
attribute [local congr] selV_congr impB_congr
theorem lt_of_get {h : Heap} {o : Nat} {x : Ob} (ho : h[o]? = some x) : o < h.length := (List.getElem?_eq_some_iff.1 ho).1
def By (l : List Int) (b : V) : Prop := (b = .nils ∧ l = []) ∨ ∃ c, b = .sl (l.map (V.int .u8)) 1 c
theorem flat_ints (k : IntKind) : ∀ (l : List Int), (l.map (V.int k)).flatMap V.cells = l.map (V.int k)
  | [] => rfl
  | x :: l => by rw [List.map_cons, List.flatMap_cons, flat_ints k l]; rfl
theorem By.free {l : List Int} {b : V} (h : By l b) : b.free = true := by
  rcases h with ⟨rfl, -⟩ | ⟨c, rfl⟩
  · rfl
  · exact freeL_ints _ _
theorem By.objs {l : List Int} {b : V} (h : By l b) : b.objs = [] := by
  rcases h with ⟨rfl, -⟩ | ⟨c, rfl⟩
  · rfl
  · exact objsL_ints _ _
theorem By.len {l : List Int} {b : V} (h : By l b) : lenA b = some l.length := by
  rcases h with ⟨rfl, rfl⟩ | ⟨c, rfl⟩
  · rfl
  · simp [lenA]
theorem By.nstr {l : List Int} {b : V} (h : By l b) : ∀ s, b ≠ .str s := by
  rcases h with ⟨rfl, -⟩ | ⟨c, rfl⟩ <;> exact fun _ => V.noConfusion
theorem By.nagg {l : List Int} {b : V} (h : By l b) : ∀ s, b ≠ .agg s := by
  rcases h with ⟨rfl, -⟩ | ⟨c, rfl⟩ <;> exact fun _ => V.noConfusion
theorem By.ntup {l : List Int} {b : V} (h : By l b) : ∀ s, b ≠ .tup s := by
  rcases h with ⟨rfl, -⟩ | ⟨c, rfl⟩ <;> exact fun _ => V.noConfusion
theorem By.njunk {l : List Int} {b : V} (h : By l b) : b ≠ .junk := by
  rcases h with ⟨rfl, -⟩ | ⟨c, rfl⟩ <;> exact V.noConfusion
theorem By.one {l : List Int} {b : V} (h : By l b) : b.oneCell = true := by
  rcases h with ⟨rfl, -⟩ | ⟨c, rfl⟩ <;> rfl
theorem By.cells {l : List Int} {b : V} (h : By l b) : b.cells = [b] := by
  rcases h with ⟨rfl, -⟩ | ⟨c, rfl⟩ <;> rfl
theorem By.first {l : List Int} {b : V} (h : By l b) (get : Nat → Option Ob) : firstA get 1 l.length b = some (l.map (V.int .u8)) := by
  rcases h with ⟨rfl, rfl⟩ | ⟨c, rfl⟩
  · rfl
  · have := firstA_sl (get := get) (L := l.map (V.int .u8)) (s := 1) (c := c)
    rw [List.length_map, flat_ints] at this
    exact this
structure Lt where
  num : Int
  fr : Int
  to : Int
  b : V
  l : List Int
def Lt.cs (x : Lt) : List V := [.int .i64 x.num, .int .i64 x.fr, .int .i64 x.to, x.b]
def Lt.e (x : Lt) : V × V := (.int .i64 x.num, .agg x.cs)
def Lt.Ok (x : Lt) : Prop := By x.l x.b ∧ x.l.length ≤ 512
theorem Lt.free {x : Lt} (h : By x.l x.b) : V.freeL x.cs = true := by
  simp only [Lt.cs, freeL_cons, freeL_nil, free_int, h.free, Bool.and_self]
theorem Lt.cs_len (x : Lt) : x.cs.length = 4 := rfl
theorem Lt.one {x : Lt} (h : By x.l x.b) : x.cs.all V.oneCell = true := by
  unfold Lt.cs
  rw [List.all_cons, List.all_cons, List.all_cons, List.all_cons, h.one]
  rfl
abbrev kk : List CK := [.i .i64]
theorem hit_num (k n : Int) (v : V) : mhit false kk [.int .i64 k] (.int .i64 n, v) = some (k == n) := by
  simp [mhit, keyC, eqCells, eqCell]
theorem hitB_num (k : Int) (x : Lt) : mhitB false kk [.int .i64 k] x.e = (k == x.num) := by
  unfold mhitB Lt.e
  rw [hit_num]
theorem mapOk_num (k : Int) (L : List Lt) : mapOk false kk [.int .i64 k] (L.map Lt.e) = true := by
  unfold mapOk
  rw [Bool.and_eq_true]
  refine ⟨by simp [eqCells, eqCell], ?_⟩
  rw [List.all_eq_true]
  intro e he
  obtain ⟨x, -, rfl⟩ := List.mem_map.1 he
  unfold Lt.e
  rw [hit_num]
  rfl
theorem find_num (k : Int) : ∀ L : List Lt, (L.map Lt.e).find? (mhitB false kk [.int .i64 k]) = (L.find? (fun x => k == x.num)).map Lt.e
  | [] => rfl
  | x :: L => by
    rw [List.map_cons, List.find?_cons, List.find?_cons, hitB_num]
    cases k == x.num with
    | true => rfl
    | false => exact find_num k L
theorem any_num (k : Int) : ∀ L : List Lt, (L.map Lt.e).any (mhitB false kk [.int .i64 k]) = L.any (fun x => k == x.num)
  | [] => rfl
  | x :: L => by rw [List.map_cons, List.any_cons, List.any_cons, hitB_num, any_num k L]
theorem filter_num (k : Int) : ∀ L : List Lt, (L.map Lt.e).filter (fun e => !mhitB false kk [.int .i64 k] e) = (L.filter (fun x => !(k == x.num))).map Lt.e
  | [] => rfl
  | x :: L => by
    rw [List.map_cons, List.filter_cons, List.filter_cons, hitB_num]
    cases k == x.num with
    | true => exact filter_num k L
    | false =>
      simp only [Bool.not_false, ↓reduceIte, List.map_cons, filter_num k L]
def IRow (H : Heap) (W : V) (l : List Int) (R : List Nat) : Prop :=
  (l = [] ∧ W = .nils ∧ R = []) ∨ ∃ o ver rest, R = [o] ∧ W = .view o ver 0 l.length 1 none ∧ H[o]? = some ⟨ver, .arr ((l ++ rest).map (V.int .i64))⟩
theorem IRow.keep {H H' : Heap} {W : V} {l : List Int} {R : List Nat} (h : IRow H W l R) (hk : ∀ o ∈ R, H'[o]? = H[o]?) : IRow H' W l R := by
  rcases h with h | ⟨o, ver, x, rfl, hw, ho⟩
  · exact .inl h
  · exact .inr ⟨o, ver, x, rfl, hw, by rw [hk o (by simp)]; exact ho⟩
theorem IRow.lt {H : Heap} {W : V} {l : List Int} {R : List Nat} (h : IRow H W l R) : ∀ o ∈ R, o < H.length := by
  rcases h with ⟨-, -, rfl⟩ | ⟨o, ver, x, rfl, hw, ho⟩
  · intro o ho; cases ho
  · intro o' h'
    obtain rfl : o' = o := by simpa using h'
    exact lt_of_get ho
theorem IRow.len {H : Heap} {W : V} {l : List Int} {R : List Nat} (h : IRow H W l R) : lenA W = some l.length := by
  rcases h with ⟨rfl, rfl, -⟩ | ⟨o, ver, x, rfl, rfl, ho⟩ <;> rfl
theorem IRow.shape {H : Heap} {W : V} {l : List Int} {R : List Nat} (h : IRow H W l R) : W.cells = [W] ∧ W.oneCell = true ∧ (∀ s, W ≠ .str s) ∧ (∀ s, W ≠ .agg s) ∧ (∀ s, W ≠ .tup s) ∧ W ≠ .junk := by
  rcases h with ⟨rfl, rfl, -⟩ | ⟨o, ver, x, rfl, rfl, ho⟩ <;> exact ⟨rfl, rfl, fun _ => V.noConfusion, fun _ => V.noConfusion, fun _ => V.noConfusion, V.noConfusion⟩
theorem IRow.objs {H : Heap} {W : V} {l : List Int} {R : List Nat} (h : IRow H W l R) : W.objs = R := by
  rcases h with ⟨rfl, rfl, rfl⟩ | ⟨o, ver, x, rfl, rfl, ho⟩ <;> rfl
theorem map_setRange {k : IntKind} (a b : List Int) (n : Nat) : setRange (a.map (V.int k)) n (b.map (V.int k)) = (a.take n ++ b ++ a.drop (n + b.length)).map (V.int k) := by
  simp [setRange, List.map_append, List.map_take, List.map_drop]
theorem IRow.append {H : Heap} {W : V} {l : List Int} {R : List Nat} {o0 : Nat} {x0 : Ob} {n : Int} (h : IRow H W l R) (h0 : H[o0]? = some x0) (hL : l.length ≤ 100000) :
    ∃ o1 y W', appendA (fun o => H[o]?) o0 1 8 W (.sl [.int .i64 n] 1 (some 1)) = some (.set o1 y W') ∧ IRow (H.set o1 y) W' (l ++ [n]) [o1] ∧ (o1 = o0 ∨ o1 ∈ R) ∧ o1 < H.length := by
  have hl1 : lenA (.sl [.int .i64 n] 1 (some 1)) = some 1 := rfl
  have hf1 : firstA (fun o => H[o]?) 1 1 (.sl [.int .i64 n] 1 (some 1)) = some [.int .i64 n] := by rw [firstA_sl1]; rfl
  have ha1 : ([.int .i64 n] : List V).all V.oneCell = true := rfl
  rcases h with ⟨rfl, rfl, rfl⟩ | ⟨o, ver, rest, rfl, rfl, ho⟩
  · refine ⟨o0, ⟨x0.ver + 1, .arr [.int .i64 n]⟩, .view o0 (x0.ver + 1) 0 1 1 none, ?_, .inr ⟨o0, x0.ver + 1, [], rfl, rfl, ?_⟩, .inl rfl, lt_of_get h0⟩
    · unfold appendA
      simp [hl1, hf1, ha1, mkA, h0, maxBytes]
    · rw [List.getElem?_set_self (lt_of_get h0)]; rfl
  · cases rest with
    | nil =>
      refine ⟨o, ⟨ver + 1, .arr ((l ++ [n]).map (V.int .i64))⟩, .view o (ver + 1) 0 (l.length + 1) 1 none, ?_, .inr ⟨o, ver + 1, [], rfl, by simp, ?_⟩, .inr (by simp), lt_of_get ho⟩
      · have : (l.length + 1) * 8 ≤ maxBytes := by unfold maxBytes; omega
        unfold appendA
        simp [hl1, hf1, ha1, cellsAt, ho, this]
      · rw [List.getElem?_set_self (lt_of_get ho), List.append_nil]
    | cons r rest =>
      refine ⟨o, ⟨ver, .arr ((l ++ [n] ++ rest).map (V.int .i64))⟩, .view o ver 0 (l.length + 1) 1 none, ?_, .inr ⟨o, ver, rest, rfl, by simp, ?_⟩, .inr (by simp), lt_of_get ho⟩
      · have hs : setRange ((l ++ r :: rest).map (V.int .i64)) l.length [.int .i64 n] = (l ++ [n] ++ rest).map (V.int .i64) := by
          have := @map_setRange .i64 (l ++ r :: rest) [n] l.length
          rw [List.map_cons, List.map_nil] at this
          rw [this]
          simp [List.take_append, List.drop_append]
        unfold appendA
        simp only [hl1, hf1, ha1, cellsAt, ho, ↓reduceIte, Nat.zero_add, Nat.mul_one, List.length_map, List.length_append, List.length_cons, storeA, List.length_nil]
        rw [if_neg (by omega), if_pos (by omega), if_neg (by omega), if_pos (by omega), hs]
        rfl
      · rw [List.getElem?_set_self (lt_of_get ho)]
end Go.Am.T


set_option linter.unusedVariables false
set_option linter.unusedSimpArgs false
set_option linter.unusedSectionVars false
set_option maxRecDepth 10000
namespace Go.Am.T
attribute [local congr] selV_congr impB_congr
structure Nt where
  nodes : Int
  last : Int
  L : List Lt
def Nt.cs (s : Nt) (m : Nat) (W : V) : List V := [.int .i64 s.nodes, .map m 1, W, .int .i64 s.last]
structure Nt.Ok (s : Nt) : Prop where
  ok : ∀ x ∈ s.L, x.Ok
  inc : s.L.Pairwise (fun x y => x.num < y.num)
  pos : ∀ x ∈ s.L, 1 ≤ x.num ∧ x.num ≤ s.last
  big : s.last ≤ 100000
  nn : 0 ≤ s.last
  len : s.L.length ≤ 4096
structure NetAt (H : Heap) (a m : Nat) (W : V) (R : List Nat) (s : Nt) : Prop where
  ok : s.Ok
  ob : H[a]? = some ⟨1, .var (s.cs m W)⟩
  mp : H[m]? = some ⟨1, .map (s.L.map Lt.e)⟩
  row : IRow H W (s.L.map Lt.num) R
  ne : a ≠ m
  na : a ∉ R
  nm : m ∉ R
theorem NetAt.keep {H H' : Heap} {a m : Nat} {W : V} {R : List Nat} {s : Nt} (h : NetAt H a m W R s) (ha : H'[a]? = H[a]?) (hm : H'[m]? = H[m]?) (hR : ∀ o ∈ R, H'[o]? = H[o]?) : NetAt H' a m W R s :=
  ⟨h.ok, by rw [ha]; exact h.ob, by rw [hm]; exact h.mp, h.row.keep hR, h.ne, h.na, h.nm⟩
theorem NetAt.lta {H : Heap} {a m : Nat} {W : V} {R : List Nat} {s : Nt} (h : NetAt H a m W R s) : a < H.length := lt_of_get h.ob
theorem NetAt.ltm {H : Heap} {a m : Nat} {W : V} {R : List Nat} {s : Nt} (h : NetAt H a m W R s) : m < H.length := lt_of_get h.mp
theorem NetAt.app {H : Heap} {a m : Nat} {W : V} {R : List Nat} {s : Nt} (h : NetAt H a m W R s) (l : Heap) : NetAt (H ++ l) a m W R s :=
  h.keep (List.getElem?_append_left h.lta) (List.getElem?_append_left h.ltm) (fun o ho => List.getElem?_append_left (h.row.lt o ho))
theorem NetAt.set {H : Heap} {a m : Nat} {W : V} {R : List Nat} {s : Nt} (h : NetAt H a m W R s) {o : Nat} (x : Ob) (h1 : o ≠ a) (h2 : o ≠ m) (h3 : o ∉ R) : NetAt (H.set o x) a m W R s :=
  h.keep (List.getElem?_set_ne h1) (List.getElem?_set_ne h2) (fun p hp => List.getElem?_set_ne (fun e => h3 (by rw [e]; exact hp)))
theorem cs0 {s : Nt} {m : Nat} {W : V} : List.take 1 (s.cs m W) = [.int .i64 s.nodes] := rfl
theorem cs1 {s : Nt} {m : Nat} {W : V} : List.take 1 (List.drop 1 (s.cs m W)) = [.map m 1] := rfl
theorem cs2 {s : Nt} {m : Nat} {W : V} : List.take 1 (List.drop 2 (s.cs m W)) = [W] := rfl
theorem cs3 {s : Nt} {m : Nat} {W : V} : List.take 1 (List.drop 3 (s.cs m W)) = [.int .i64 s.last] := rfl
theorem cs_len {s : Nt} {m : Nat} {W : V} : (s.cs m W).length = 4 := rfl
theorem cs_set3 {s : Nt} {m : Nat} {W : V} {k : Int} : setRange (s.cs m W) 3 [.int .i64 k] = Nt.cs { s with last := k } m W := rfl
theorem cs_set2 {s : Nt} {m : Nat} {W W' : V} : setRange (s.cs m W) 2 [W'] = s.cs m W' := rfl
theorem there_spec {N n : Nat} (hn : 1 ≤ n) {H : Heap} {a m : Nat} {W : V} {s : Nt} (ho : H[a]? = some ⟨1, .var (s.cs m W)⟩) : callA am N n 28 [.ptr a 1 0] H = some (.bool true, H) := by
  obtain ⟨n, rfl⟩ : ∃ m, n = m + 1 := ⟨n - 1, by omega⟩
  have q1 := @cs1 s m W
  have ql := @cs_len s m W
  refine call_keep_eq at28 rfl rfl (by decide) (sx_wp ?_)
  generalize s.cs m W = cs at *
  simp +contextual -implicitDefEqProofs (maxSteps := 10000000) only [sxb, plainD, stays, ↓selV_wt, ↓selV_wf, ↓impB_wt, ↓impB_wf, ↓selV_nor, ↓impB_nor, ↓selV_nt, ↓selV_nf, ↓impB_nt, ↓impB_nf, ↓selV_true, ↓selV_false, ↓selV_and, ↓impB_true, ↓impB_false, ↓impB_and, ↓prim_pick, ↓selV_nn, ↓impB_nn, doOp, get, ins, del, dels, Nat.reduceLT, Nat.reduceEqDiff, ↓reduceIte, reduceCtorEq, ne_eq, implies_true, prim, YLD, mkA, V.cells, Nat.reduceAdd, Nat.reduceSub, Nat.reduceMul, Nat.reduceLeDiff, loadA, cellsAt, nAg, packA, List.drop, List.take, List.head?, binA, unA, eqCells, eqCell, negB, fillA, storeA, Ob.with, indexedI, V.oneCell, intOf?, resA, resA1, packR, sealDepth, Int.reduceLT, Int.reduceLE, Int.reduceToNat, Int.reduceNeg, Int.reduceAdd, Int.reduceSub, Int.reduceMul, cond_true, cond_false, Int.reduceBNe, Int.reduceBEq, eq_self, deads, List.replicate, argsF, am28, isNil, List.append_nil, ho, q1, ql]
def nodeB (nodes k : Int) : Bool := decide (k ≥ 0) && decide (k < nodes)
theorem node_spec {N n : Nat} (hn : 1 ≤ n) {H : Heap} {a m b : Nat} {W : V} {s : Nt} (ho : H[a]? = some ⟨1, .var (s.cs m W)⟩) (hb : H[b]? = some ⟨1, .var [.ptr a 1 0]⟩) (k : Int) : callA am N n 27 [.int .i64 k, .ptr b 1 0] H = some (.bool (nodeB s.nodes k), H) := by
  obtain ⟨n, rfl⟩ : ∃ m, n = m + 1 := ⟨n - 1, by omega⟩
  have q0 := @cs0 s m W
  have ql := @cs_len s m W
  refine call_keep_eq at27 rfl rfl (by decide) (sx_wp ?_)
  generalize s.cs m W = cs at *
  unfold nodeB
  simp +contextual -implicitDefEqProofs (maxSteps := 10000000) only [sxb, plainD, stays, ↓selV_wt, ↓selV_wf, ↓impB_wt, ↓impB_wf, ↓selV_nor, ↓impB_nor, ↓selV_nt, ↓selV_nf, ↓impB_nt, ↓impB_nf, ↓selV_true, ↓selV_false, ↓selV_and, ↓impB_true, ↓impB_false, ↓impB_and, ↓prim_pick, ↓selV_nn, ↓impB_nn, doOp, get, ins, del, dels, Nat.reduceLT, Nat.reduceEqDiff, ↓reduceIte, reduceCtorEq, ne_eq, implies_true, prim, YLD, mkA, V.cells, Nat.reduceAdd, Nat.reduceSub, Nat.reduceMul, Nat.reduceLeDiff, loadA, cellsAt, nAg, packA, List.drop, List.take, List.head?, binA, unA, eqCells, eqCell, negB, fillA, storeA, Ob.with, indexedI, V.oneCell, intOf?, resA, resA1, packR, sealDepth, Int.reduceLT, Int.reduceLE, Int.reduceToNat, Int.reduceNeg, Int.reduceAdd, Int.reduceSub, Int.reduceMul, cond_true, cond_false, Int.reduceBNe, Int.reduceBEq, eq_self, deads, List.replicate, argsF, am27, isNil, List.append_nil, ho, hb, q0, ql]
theorem num_spec {N n : Nat} (hn : 1 ≤ n) (e : Int) (h : Heap) : callA am N n 10 [.int .i64 e] h = some (.int .i64 e, h) := by
  obtain ⟨n, rfl⟩ : ∃ m, n = m + 1 := ⟨n - 1, by omega⟩
  refine call_pure at10 rfl rfl (by decide) rfl (sx_wp ?_)
  simp +contextual -implicitDefEqProofs (maxSteps := 10000000) only [sxb, plainD, stays, ↓selV_wt, ↓selV_wf, ↓impB_wt, ↓impB_wf, ↓selV_nor, ↓impB_nor, ↓selV_nt, ↓selV_nf, ↓impB_nt, ↓impB_nf, ↓selV_true, ↓selV_false, ↓selV_and, ↓impB_true, ↓impB_false, ↓impB_and, ↓prim_pick, ↓selV_nn, ↓impB_nn, doOp, get, ins, del, dels, Nat.reduceLT, Nat.reduceEqDiff, ↓reduceIte, reduceCtorEq, ne_eq, implies_true, prim, YLD, mkA, V.cells, Nat.reduceAdd, Nat.reduceSub, Nat.reduceMul, Nat.reduceLeDiff, loadA, cellsAt, nAg, packA, List.drop, List.take, List.head?, binA, unA, eqCells, eqCell, negB, fillA, storeA, Ob.with, indexedI, V.oneCell, intOf?, resA, resA1, packR, sealDepth, Int.reduceLT, Int.reduceLE, Int.reduceToNat, Int.reduceNeg, Int.reduceAdd, Int.reduceSub, Int.reduceMul, cond_true, cond_false, Int.reduceBNe, Int.reduceBEq, eq_self, deads, List.replicate, argsF, am10]
theorem am9_wp {N n : Nat} {args : List V} {h h' : Heap} {v : V} (ha : args.length = 1) (H : sx ⟨pureOf am, callA am N n, N, h.length⟩ am9.body (fr am9.nt (argsF 0 args)) (h ++ deads am9.sites) (retQ am9.res fun x k => x = v ∧ k = h')) : callA am N (n + 1) 9 args h = some (v, h') :=
  call_keep_eq at9 rfl ha (by decide) (sx_wp H)
end Go.Am.T


set_option linter.unusedVariables false
set_option linter.unusedSimpArgs false
set_option linter.unusedSectionVars false
set_option maxRecDepth 10000
namespace Go.Am.T
attribute [local congr] selV_congr impB_congr
theorem clone_spec {N n : Nat} (hn : 1 ≤ n) {l : List Int} {b : V} (hb : By l b) (hl : l.length ≤ 1000) : ∃ b', By l b' ∧ ∀ h, callA am N n 46 [b] h = some (b', h) := by
  obtain ⟨n, rfl⟩ : ∃ m, n = m + 1 := ⟨n - 1, by omega⟩
  have hfree : V.freeL [b] = true := by rw [freeL_cons, hb.free]; rfl
  have hlen := hb.len
  have hfst := hb.first
  rcases hb with ⟨rfl, rfl⟩ | ⟨c, rfl⟩
  · refine ⟨.nils, .inl ⟨rfl, rfl⟩, fun h => ?_⟩
    refine call_auto at46 rfl rfl (by decide) rfl (sx_wp ?_)
    simp +contextual -implicitDefEqProofs (maxSteps := 10000000) only [sxb, plainD, stays, ↓selV_wt, ↓selV_wf, ↓impB_wt, ↓impB_wf, ↓selV_nor, ↓impB_nor, ↓selV_nt, ↓selV_nf, ↓impB_nt, ↓impB_nf, ↓selV_true, ↓selV_false, ↓selV_and, ↓impB_true, ↓impB_false, ↓impB_and, ↓prim_pick, ↓selV_nn, ↓impB_nn, doOp, get, ins, del, dels, Nat.reduceLT, Nat.reduceEqDiff, ↓reduceIte, reduceCtorEq, ne_eq, implies_true, prim, YLD, mkA, V.cells, Nat.reduceAdd, Nat.reduceSub, Nat.reduceMul, Nat.reduceLeDiff, loadA, cellsAt, nAg, packA, List.drop, List.take, List.head?, binA, unA, eqCells, eqCell, negB, fillA, storeA, Ob.with, indexedI, V.oneCell, intOf?, resA, resA1, packR, sealDepth, Int.reduceLT, Int.reduceLE, Int.reduceToNat, Int.reduceNeg, Int.reduceAdd, Int.reduceSub, Int.reduceMul, cond_true, cond_false, Int.reduceBNe, Int.reduceBEq, eq_self, deads, List.replicate, argsF, am46, isNil]
  · cases l with
    | nil =>
      refine ⟨.sl [] 1 (some 0), .inr ⟨_, rfl⟩, fun h => ?_⟩
      refine call_auto at46 rfl rfl (by decide) hfree (sx_wp ?_)
      simp +contextual -implicitDefEqProofs (maxSteps := 10000000) only [sxb, plainD, stays, ↓selV_wt, ↓selV_wf, ↓impB_wt, ↓impB_wf, ↓selV_nor, ↓impB_nor, ↓selV_nt, ↓selV_nf, ↓impB_nt, ↓impB_nf, ↓selV_true, ↓selV_false, ↓selV_and, ↓impB_true, ↓impB_false, ↓impB_and, ↓prim_pick, ↓selV_nn, ↓impB_nn, doOp, get, ins, del, dels, Nat.reduceLT, Nat.reduceEqDiff, ↓reduceIte, reduceCtorEq, ne_eq, implies_true, prim, YLD, mkA, V.cells, Nat.reduceAdd, Nat.reduceSub, Nat.reduceMul, Nat.reduceLeDiff, loadA, cellsAt, nAg, packA, List.drop, List.take, List.head?, binA, unA, eqCells, eqCell, negB, fillA, storeA, Ob.with, indexedI, V.oneCell, intOf?, resA, resA1, packR, sealDepth, Int.reduceLT, Int.reduceLE, Int.reduceToNat, Int.reduceNeg, Int.reduceAdd, Int.reduceSub, Int.reduceMul, cond_true, cond_false, Int.reduceBNe, Int.reduceBEq, eq_self, deads, List.replicate, argsF, am46, isNil, appendA, lenA, firstA, List.range_zero]
      exact ⟨fun _ => rfl, fun h => by cases h⟩
    | cons x l =>
      refine ⟨.sl ((x :: l).map (V.int .u8)) 1 none, .inr ⟨_, rfl⟩, fun h => ?_⟩
      refine call_auto at46 rfl rfl (by decide) hfree (sx_wp ?_)
      have ho : ((x :: l).map (V.int .u8)).all V.oneCell = true := allOne_ints _ _
      have hz : ((x :: l).length = 0) = False := by simp
      have hm : (0 + (x :: l).length) * 1 ≤ maxBytes := by unfold maxBytes; omega
      have hm' : (x :: l).length ≤ maxBytes := by unfold maxBytes; omega
      have hsh : V.shut (fun o => [(⟨1, .arr []⟩ : Ob), ⟨1, .arr ((x :: l).map (V.int .u8))⟩][o]?) sealDepth (.view 1 1 0 (x :: l).length 1 none) = some (.sl ((x :: l).map (V.int .u8)) 1 none) := by
        refine shut_view (by decide) ?_ (by simp) ?_
        · intro e he
          obtain ⟨y, -, rfl⟩ := List.mem_map.1 he
          exact ⟨rfl, rfl, fun c hc => by cases hc with | head => exact ⟨rfl, rfl⟩ | tail _ h => cases h⟩
        · rw [flat_ints]
          simp [loadA, cellsAt]
          exact List.take_of_length_le (by simp)
      have hap : appendA (fun o => [(⟨1, .arr []⟩ : Ob), ⟨0, .dead⟩][o]?) 1 1 1 (.view 0 1 0 0 1 (some 0)) (.sl ((x :: l).map (V.int .u8)) 1 c) = some (.set 1 ⟨1, .arr ((x :: l).map (V.int .u8))⟩ (.view 1 1 0 (x :: l).length 1 none)) := by
        unfold appendA
        simp only [hlen, hfst, ho, ↓reduceIte, hz, cellsAt, List.getElem?_cons_zero]
        simp [mkA, hm', hm]
        unfold maxBytes
        simp at hl
        omega
      generalize (x :: l).map (V.int .u8) = L at *
      generalize (x :: l).length = k at *
      simp +contextual -implicitDefEqProofs (maxSteps := 10000000) only [sxb, plainD, stays, ↓selV_wt, ↓selV_wf, ↓impB_wt, ↓impB_wf, ↓selV_nor, ↓impB_nor, ↓selV_nt, ↓selV_nf, ↓impB_nt, ↓impB_nf, ↓selV_true, ↓selV_false, ↓selV_and, ↓impB_true, ↓impB_false, ↓impB_and, ↓prim_pick, ↓selV_nn, ↓impB_nn, doOp, get, ins, del, dels, Nat.reduceLT, Nat.reduceEqDiff, ↓reduceIte, reduceCtorEq, ne_eq, implies_true, prim, YLD, mkA, V.cells, Nat.reduceAdd, Nat.reduceSub, Nat.reduceMul, Nat.reduceLeDiff, loadA, cellsAt, nAg, packA, List.drop, List.take, List.head?, binA, unA, eqCells, eqCell, negB, fillA, storeA, Ob.with, indexedI, V.oneCell, intOf?, resA, resA1, packR, sealDepth, Int.reduceLT, Int.reduceLE, Int.reduceToNat, Int.reduceNeg, Int.reduceAdd, Int.reduceSub, Int.reduceMul, cond_true, cond_false, Int.reduceBNe, Int.reduceBEq, eq_self, deads, List.replicate, argsF, am46, isNil, List.range_zero, hap]
      exact hsh
theorem frame_free {m : FMode} {pureF : FuncId → FMode} {call : Caller} {f : FuncId} {args : List V} {h : Heap} {v : V} (hm : pureF f = m) (hk : m = .keep ∨ m = .auto) (hR : V.objsL args = [])
    (hc : ∀ h, call f args h = some (v, h)) (hv : v.objs = []) (hy : f ≠ YLD := by decide) : frameC pureF call f args h = some (v, h) := by
  have hlen : (keepOnly [] h).length = h.length := keepOnly_length _ _
  have c1 : closedIn [] h.length (keepOnly [] h) = true := closedIn_of fun o y hy hi => by
    have : o < h.length := by rw [← hlen]; exact (List.getElem?_eq_some_iff.1 hy).1
    simp [inside] at hi
    omega
  have key : mergeH [] h (keepOnly [] h) = h := by
    apply List.ext_getElem?
    intro o
    rw [mergeH_get]
    rcases Nat.lt_or_ge o h.length with ho | ho
    · rw [keepOnly_get, List.getElem?_eq_getElem ho]
      simp [inside, Nat.not_le.2 ho, List.getD_eq_getElem?_getD, ho]
    · rw [List.getElem?_eq_none (by omega), List.getElem?_eq_none ho]; rfl
  unfold frameC
  rw [if_neg hy, hm]
  rcases hk with rfl | rfl <;>
  · simp only [hR, reachC_nil, c1, hc, hlen, hv, List.all_nil, Nat.le_refl, decide_true, Bool.and_self, ↓reduceIte, key]
structure Beyond (H H' : Heap) (a m : Nat) (R R' : List Nat) : Prop where
  len : H.length ≤ H'.length
  oth : ∀ o, o < H.length → o ≠ a → o ≠ m → o ∉ R → H'[o]? = H[o]?
  new : ∀ o ∈ R', o ∈ R ∨ H.length ≤ o
theorem put_map (k : Int) {L : List Lt} (v : V) (h : ∀ x ∈ L, x.num < k) : mputL false kk [.int .i64 k] (.int .i64 k) v (L.map Lt.e) = L.map Lt.e ++ [(.int .i64 k, v)] := by
  unfold mputL
  rw [any_num]
  have : L.any (fun x => k == x.num) = false := by
    rw [List.any_eq_false]
    intro x hx
    have := h x hx
    simp
    omega
  rw [this]
theorem mput_spec {get : Nat → Option Ob} {m : Nat} {L : List Lt} (hm : get m = some ⟨1, .map (L.map Lt.e)⟩) (k : Int) (v : V) (h : ∀ x ∈ L, x.num < k) :
    mputA get false kk (.map m 1) (.int .i64 k) v = some (.set m ⟨1, .map (L.map Lt.e ++ [(.int .i64 k, v)])⟩ (.tup [])) := by
  unfold mputA
  simp only [keyC, mapAt, hm, ↓reduceIte, mapOk_num, put_map k v h]
end Go.Am.T


set_option linter.unusedVariables false
set_option linter.unusedSimpArgs false
set_option linter.unusedSectionVars false
set_option maxRecDepth 10000
namespace Go.Am.T
attribute [local congr] selV_congr impB_congr
def Nt.put (s : Nt) (fr to : Int) (b : V) (l : List Int) : Nt := { s with last := s.last + 1, L := s.L ++ [⟨s.last + 1, fr, to, b, l⟩] }
theorem Nt.Ok.put {s : Nt} (h : s.Ok) {fr to : Int} {b : V} {l : List Int} (hb : By l b) (hl : l.length ≤ 512) (h1 : s.L.length ≤ 4095) (h2 : s.last ≤ 99999) : (s.put fr to b l).Ok := by
  refine ⟨fun x hx => ?_, ?_, fun x hx => ?_, ?_, ?_, ?_⟩
  · rcases List.mem_append.1 hx with hx | hx
    · exact h.ok x hx
    · obtain rfl : x = _ := by simpa using hx
      exact ⟨hb, hl⟩
  · refine List.pairwise_append.2 ⟨h.inc, List.pairwise_singleton .., fun x hx y hy => ?_⟩
    obtain rfl : y = _ := by simpa using hy
    have := (h.pos x hx).2
    simp only
    omega
  · rcases List.mem_append.1 hx with hx | hx
    · have := h.pos x hx
      simp only [Nt.put]
      omega
    · obtain rfl : x = _ := by simpa using hx
      have := h.nn
      simp only [Nt.put]
      omega
  · simp only [Nt.put]; omega
  · have := h.nn; simp only [Nt.put]; omega
  · simp only [Nt.put, List.length_append, List.length_singleton]; omega
theorem am29_wp {N n : Nat} {args : List V} {h : Heap} {C : V → Heap → Prop} (ha : args.length = 2) (H : sx ⟨pureOf am, callA am N n, N, h.length⟩ am29.body (fr am29.nt (argsF 0 args)) (h ++ deads am29.sites) (retQ am29.res C)) : ∃ v h', callA am N (n + 1) 29 args h = some (v, h') ∧ C v h' :=
  call_keep at29 rfl ha (by decide) (sx_wp H)
set_option maxHeartbeats 1000000 in
theorem put_spec {N n : Nat} (hn : 2 ≤ n) {H : Heap} {a m : Nat} {W : V} {R : List Nat} {s : Nt} (h : NetAt H a m W R s) (k0 fr to : Int) {b : V} {l : List Int} (hb : By l b) (hl : l.length ≤ 512) (hL : s.L.length ≤ 4095) (hla : s.last ≤ 99999) :
    ∃ v' H', callA am N n 29 [.ptr a 1 0, .agg [.int .i64 k0, .int .i64 fr, .int .i64 to, b]] H = some (v', H') ∧ v' = .int .i64 (s.last + 1) ∧ ∃ b' W' R', By l b' ∧ NetAt H' a m W' R' (s.put fr to b' l) ∧ Beyond H H' a m R R' := by
  obtain ⟨n, rfl⟩ : ∃ m, n = m + 1 := ⟨n - 1, by omega⟩
  obtain ⟨b', hb', c46⟩ := @clone_spec N n (by omega) l b hb (by omega)
  have hobb : b.objs = [] := hb.objs
  have f46 : ∀ fb (h : Heap), ({ pureF := pureOf am, call := callA am N n, N := N, fb := fb } : Env).framed.call 46 [b] h = some (b', h) := fun fb h =>
    frame_free pm46 (.inr rfl) (by simp [V.objsL, hobb]) c46 hb'.objs
  have hal := h.lta
  have hml := h.ltm
  have nn := h.ok.nn
  -- the memory behind the box
  obtain ⟨h0, e0⟩ : ∃ h0, h0 = H ++ [(⟨1, .var [.int .i64 k0, .int .i64 fr, .int .i64 to, b]⟩ : Ob), ⟨0, .dead⟩] := ⟨_, rfl⟩
  have l0 : h0.length = H.length + 2 := by rw [e0]; simp
  have n0 : NetAt h0 a m W R s := by rw [e0]; exact h.app _
  have x0 : h0[H.length]? = some ⟨1, .var [.int .i64 k0, .int .i64 fr, .int .i64 to, b]⟩ := by rw [e0, app_get0]; rfl
  have d0 : h0[H.length + 1]? = some ⟨0, .dead⟩ := by rw [e0, app_get]; rfl
  have e0' := e0.symm
  have nba : H.length ≠ a := by omega
  have nbm : H.length ≠ m := by omega
  have nab : a ≠ H.length := by omega
  have nmb : m ≠ H.length := by omega
  have nam := h.ne
  have nma : m ≠ a := Ne.symm h.ne
  have al0 : a < h0.length := by omega
  have ml0 : m < h0.length := by omega
  have bl0 : H.length < h0.length := by omega
  have hw : IntKind.i64.wrap (s.last + 1) = s.last + 1 := wrap64 (by omega) (by omega)
  -- behind the map's put
  obtain ⟨h4, e4⟩ : ∃ h4, h4 = ((h0.set a ⟨1, .var (Nt.cs { s with last := s.last + 1 } m W)⟩).set H.length ⟨1, .var [.int .i64 (s.last + 1), .int .i64 fr, .int .i64 to, b']⟩).set m ⟨1, .map (s.L.map Lt.e ++ [(.int .i64 (s.last + 1), .agg [.int .i64 (s.last + 1), .int .i64 fr, .int .i64 to, b'])])⟩ := ⟨_, rfl⟩
  have e4' := e4.symm
  have l4 : h4.length = h0.length := by rw [e4]; simp
  have g4a : h4[a]? = some ⟨1, .var (Nt.cs { s with last := s.last + 1 } m W)⟩ := by
    rw [e4, List.getElem?_set_ne nma, List.getElem?_set_ne nba, List.getElem?_set_self al0]
  have g4m : h4[m]? = some ⟨1, .map (s.L.map Lt.e ++ [(.int .i64 (s.last + 1), .agg [.int .i64 (s.last + 1), .int .i64 fr, .int .i64 to, b'])])⟩ := by
    rw [e4, List.getElem?_set_self (by simp; omega)]
  have k4 : ∀ o, o ≠ a → o ≠ m → o ≠ H.length → h4[o]? = h0[o]? := fun o h1 h2 h3 => by
    rw [e4, List.getElem?_set_ne (Ne.symm h2), List.getElem?_set_ne (Ne.symm h3), List.getElem?_set_ne (Ne.symm h1)]
  have hRl : ∀ o ∈ R, o < H.length := h.row.lt
  have row4 : IRow h4 W (s.L.map Lt.num) R := n0.row.keep fun o ho => k4 o (fun e => h.na (e ▸ ho)) (fun e => h.nm (e ▸ ho)) (by have := hRl o ho; omega)
  have d4 : h4[H.length + 1]? = some ⟨0, .dead⟩ := by rw [k4 _ (by omega) (by omega) (by omega)]; exact d0
  obtain ⟨o1, y, W', hA, hrow, ho1, hol⟩ := row4.append (n := s.last + 1) d4 (by simp; omega)
  have hmp : ∀ v, mputA (fun o => (List.set (List.set h0 a ⟨1, .var (Nt.cs { s with last := s.last + 1 } m W)⟩) H.length ⟨1, .var [.int .i64 (s.last + 1), .int .i64 fr, .int .i64 to, b']⟩)[o]?) false [.i .i64] (.map m 1) (.int .i64 (s.last + 1)) v = some (.set m ⟨1, .map (s.L.map Lt.e ++ [(.int .i64 (s.last + 1), v)])⟩ (.tup [])) := fun v =>
    mput_spec (by show (List.set (List.set h0 a _) H.length _)[m]? = _; rw [List.getElem?_set_ne nbm, List.getElem?_set_ne nam]; exact n0.mp) _ v (fun x hx => by have := (h.ok.pos x hx).2; omega)
  have noa : o1 ≠ a := by
    rcases ho1 with rfl | ho1
    · omega
    · intro e; subst e; exact h.na ho1
  have nom : o1 ≠ m := by
    rcases ho1 with rfl | ho1
    · omega
    · intro e; subst e; exact h.nm ho1
  have g5a : (h4.set o1 y)[a]? = some ⟨1, .var (Nt.cs { s with last := s.last + 1 } m W)⟩ := by rw [List.getElem?_set_ne noa]; exact g4a
  obtain ⟨w1, w2, w3, w4, w5, w6⟩ := hrow.shape
  obtain ⟨v1, v2, v3, v4, v5, v6⟩ := h.row.shape
  have a5l : a < (h4.set o1 y).length := by simp; omega
  have a4l : a < h4.length := by omega
  have oa := n0.ob
  have r1 : List.range 1 = [0] := rfl
  have wr : ∀ k, wrapV [V.int .i64 k] = .int .i64 k := fun _ => rfl
  have c3 := @cs3 s m W
  have c3' := @cs3 { s with last := s.last + 1 } m W
  have c1' := @cs1 { s with last := s.last + 1 } m W
  have c2' := @cs2 { s with last := s.last + 1 } m W
  have s3 := @cs_set3 s m W (s.last + 1)
  have s2 := @cs_set2 { s with last := s.last + 1 } m W W'
  have c3'' := @cs3 { s with last := s.last + 1 } m W'
  have ql := @cs_len s m W
  have ql' := @cs_len { s with last := s.last + 1 } m W
  have ql'' := @cs_len { s with last := s.last + 1 } m W'
  have kb1 := hb.cells
  have kb2 := hb.one
  have kb3 := hb.njunk
  have kb4 := hb.nagg
  have kb5 := hb.ntup
  have k1 := hb'.cells
  have k2 := hb'.one
  have k3 := hb'.njunk
  have k5 := hb'.nagg
  have k6 := hb'.ntup
  refine am29_wp rfl ?_
  have eP : (s.put fr to b' l).cs m W' = Nt.cs { s with last := s.last + 1 } m W' := rfl
  generalize hX : Nt.cs { s with last := s.last + 1 } m W' = X at *
  generalize hY : Nt.cs { s with last := s.last + 1 } m W = Y at *
  generalize hZ : s.cs m W = Z at *
  simp +contextual -implicitDefEqProofs (maxSteps := 10000000) only [sxb, plainD, stays, ↓selV_wt, ↓selV_wf, ↓impB_wt, ↓impB_wf, ↓selV_nor, ↓impB_nor, ↓selV_nt, ↓selV_nf, ↓impB_nt, ↓impB_nf, ↓selV_true, ↓selV_false, ↓selV_and, ↓impB_true, ↓impB_false, ↓impB_and, ↓prim_pick, ↓selV_nn, ↓impB_nn, doOp, get, ins, del, dels, Nat.reduceLT, Nat.reduceEqDiff, ↓reduceIte, reduceCtorEq, ne_eq, implies_true, prim, YLD, mkA, V.cells, Nat.reduceAdd, Nat.reduceSub, Nat.reduceMul, Nat.reduceLeDiff, loadA, cellsAt, nAg, packA, List.drop, List.take, List.head?, binA, unA, eqCells, eqCell, negB, fillA, storeA, Ob.with, indexedI, V.oneCell, intOf?, resA, resA1, packR, sealDepth, Int.reduceLT, Int.reduceLE, Int.reduceToNat, Int.reduceNeg, Int.reduceAdd, Int.reduceSub, Int.reduceMul, cond_true, cond_false, Int.reduceBNe, Int.reduceBEq, eq_self, deads, List.replicate, argsF, am29, sx_drawd, reachC_nil, wpd_nil, wpd_cons, wpd_gt, wpd_gf, wpd_gu, wdK_def, fpOf, fpV, fpCall, Fp.ok, okT_of, okT_rd_io, okT_rd_call, okT_rd_bar, tagP_io, tagP_bar, tagP_call, tagF, AOp.rds, disj, List.contains_cons, List.contains_nil, Nat.reduceBEq, List.all_append, V.objsL, V.objs,  List.getD_cons_zero, List.getD_cons_succ, List.append_nil, app_get0, app_get, app_set0, app_set, e0', f46, oa, x0, c3, s3, ql, hw, List.getElem?_set_self, al0, List.getElem?_set_ne, nab, nba, nam, nma, nmb, nbm, List.length_set, List.set_set, bl0, hobb, pm46, ql', c3', c1', c2', hmp, e4', r1, wr, hA, g4a, g5a, kb1, kb2, k1, k2, w1, w2, s2, a4l, ql'', c3'', -List.drop, -List.take]
  have lf : ((h4.set o1 y).set a ⟨1, .var X⟩).length = H.length + 2 := by simp; omega
  have ga : ((h4.set o1 y).set a ⟨1, .var X⟩)[a]? = some ⟨1, .var X⟩ := List.getElem?_set_self a5l
  refine ⟨b', W', [o1], hb', ⟨h.ok.put hb' hl hL hla, by rw [eP]; exact ga, ?_, ?_, h.ne, by simpa using Ne.symm noa, by simpa using Ne.symm nom⟩, ⟨by omega, fun o ho h1 h2 h3 => ?_, fun o ho => ?_⟩⟩
  · rw [List.getElem?_set_ne nam, List.getElem?_set_ne nom, g4m]
    simp [Nt.put, Lt.e, Lt.cs]
  · have : (s.put fr to b' l).L.map Lt.num = s.L.map Lt.num ++ [s.last + 1] := by simp [Nt.put]
    rw [this]
    refine hrow.keep fun o ho => ?_
    obtain rfl : o = o1 := by simpa using ho
    rw [List.getElem?_set_ne (Ne.symm noa)]
  · have ho1' : o ≠ o1 := by
      rcases ho1 with rfl | ho1
      · omega
      · intro e; subst e; exact h3 ho1
    rw [List.getElem?_set_ne (Ne.symm h1), List.getElem?_set_ne (Ne.symm ho1'), k4 o h1 h2 (by omega), e0, List.getElem?_append_left ho]
  · obtain rfl : o = o1 := by simpa using ho
    rcases ho1 with rfl | ho1
    · exact .inr (by omega)
    · exact .inl ho1
end Go.Am.T


set_option linter.unusedVariables false
set_option linter.unusedSimpArgs false
set_option linter.unusedSectionVars false
set_option maxRecDepth 10000
namespace Go.Am.T
attribute [local congr] selV_congr impB_congr
def sendB (s : Nt) (f t : Int) (l : List Int) : Bool := (nodeB s.nodes f && (nodeB s.nodes t && !(f == t))) && decide (l.length ≤ 512)
theorem am11_wp {N n : Nat} {args : List V} {h : Heap} {C : V → Heap → Prop} (ha : args.length = 4) (H : sx ⟨pureOf am, callA am N n, N, h.length⟩ am11.body (fr am11.nt (argsF 0 args)) (h ++ deads am11.sites) (retQ am11.res C)) : ∃ v h', callA am N (n + 1) 11 args h = some (v, h') ∧ C v h' :=
  call_keep at11 rfl ha (by decide) (sx_wp H)
theorem Beyond.app {H H' : Heap} {a m : Nat} {R R' : List Nat} {l : Heap} (h : Beyond (H ++ l) H' a m R R') : Beyond H H' a m R R' :=
  ⟨by have := h.len; simp at this; omega, fun o ho h1 h2 h3 => by rw [h.oth o (by simp; omega) h1 h2 h3, List.getElem?_append_left ho], fun o ho => by
    rcases h.new o ho with h | h
    · exact .inl h
    · exact .inr (by simp at h; omega)⟩
theorem Beyond.refl {H : Heap} {a m : Nat} {R : List Nat} (l : Heap) : Beyond H (H ++ l) a m R R :=
  ⟨by simp, fun o ho _ _ _ => List.getElem?_append_left ho, fun o ho => .inl ho⟩
set_option maxHeartbeats 1000000 in
theorem send_spec {N n : Nat} (hn : 3 ≤ n) {H : Heap} {a m : Nat} {W : V} {R : List Nat} {s : Nt} (h : NetAt H a m W R s) (f t : Int) {b : V} {l : List Int} (hb : By l b) (hL : s.L.length ≤ 4095) (hla : s.last ≤ 99999) :
    ∃ v' H', callA am N n 11 [.ptr a 1 0, .int .i64 f, .int .i64 t, b] H = some (v', H') ∧
      ((sendB s f t l = true ∧ v' = .tup [.int .i64 (s.last + 1), .int .i64 0] ∧ ∃ b' W' R', By l b' ∧ NetAt H' a m W' R' (s.put f t b' l) ∧ Beyond H H' a m R R') ∨
       (sendB s f t l = false ∧ ∃ e, v' = .tup [.int .i64 0, .int .i64 e] ∧ e ≠ 0 ∧ NetAt H' a m W R s ∧ Beyond H H' a m R R)) := by
  obtain ⟨n, rfl⟩ : ∃ m, n = m + 1 := ⟨n - 1, by omega⟩
  obtain ⟨h0, e0⟩ : ∃ h0, h0 = H ++ [(⟨1, .var [.ptr a 1 0]⟩ : Ob)] := ⟨_, rfl⟩
  have n0 : NetAt h0 a m W R s := by rw [e0]; exact h.app _
  have x0 : h0[H.length]? = some ⟨1, .var [.ptr a 1 0]⟩ := by rw [e0, app_get0]; rfl
  have B0 : Beyond H h0 a m R R := by rw [e0]; exact .refl _
  have c28 := @there_spec N n (by omega) _ _ _ _ _ n0.ob
  have c27 := @node_spec N n (by omega) _ _ _ _ _ _ n0.ob x0
  have hlen := hb.len
  have hns := hb.nstr
  have e0' := e0.symm
  have c2 := @cs2 s m W
  have ql := @cs_len s m W
  have hWl := h.row.len
  rw [List.length_map] at hWl
  obtain ⟨v1, v2, v3, v4, v5, v6⟩ := h.row.shape
  have oa := n0.ob
  have kb1 := hb.cells
  have kb2 := hb.one
  have kb3 := hb.njunk
  have kb4 := hb.nagg
  have kb5 := hb.ntup
  have g4 : decide ((s.L.length : Int) ≥ 4096) = false := decide_eq_false (by omega)
  cases gf : nodeB s.nodes f with
  | false =>
    refine am11_wp rfl ?_
    generalize s.cs m W = Z at *
    simp +contextual -implicitDefEqProofs (maxSteps := 10000000) only [sxb, plainD, stays, ↓selV_wt, ↓selV_wf, ↓impB_wt, ↓impB_wf, ↓selV_nor, ↓impB_nor, ↓selV_nt, ↓selV_nf, ↓impB_nt, ↓impB_nf, ↓selV_true, ↓selV_false, ↓selV_and, ↓impB_true, ↓impB_false, ↓impB_and, ↓prim_pick, ↓selV_nn, ↓impB_nn, doOp, get, ins, del, dels, Nat.reduceLT, Nat.reduceEqDiff, ↓reduceIte, reduceCtorEq, ne_eq, implies_true, prim, YLD, mkA, V.cells, Nat.reduceAdd, Nat.reduceSub, Nat.reduceMul, Nat.reduceLeDiff, loadA, cellsAt, nAg, packA, List.drop, List.take, List.head?, binA, unA, eqCells, eqCell, negB, fillA, storeA, Ob.with, indexedI, V.oneCell, intOf?, resA, resA1, packR, sealDepth, Int.reduceLT, Int.reduceLE, Int.reduceToNat, Int.reduceNeg, Int.reduceAdd, Int.reduceSub, Int.reduceMul, cond_true, cond_false, Int.reduceBNe, Int.reduceBEq, eq_self, deads, List.replicate, argsF, am11, app_get0, app_get, app_set0, app_set, e0', x0, c28, cvP_func, c27, gf]
    exact .inr ⟨by simp [sendB, gf], 2, rfl, by decide, n0, B0⟩
  | true =>
    cases gt : nodeB s.nodes t with
    | false =>
      refine am11_wp rfl ?_
      generalize s.cs m W = Z at *
      simp +contextual -implicitDefEqProofs (maxSteps := 10000000) only [sxb, plainD, stays, ↓selV_wt, ↓selV_wf, ↓impB_wt, ↓impB_wf, ↓selV_nor, ↓impB_nor, ↓selV_nt, ↓selV_nf, ↓impB_nt, ↓impB_nf, ↓selV_true, ↓selV_false, ↓selV_and, ↓impB_true, ↓impB_false, ↓impB_and, ↓prim_pick, ↓selV_nn, ↓impB_nn, doOp, get, ins, del, dels, Nat.reduceLT, Nat.reduceEqDiff, ↓reduceIte, reduceCtorEq, ne_eq, implies_true, prim, YLD, mkA, V.cells, Nat.reduceAdd, Nat.reduceSub, Nat.reduceMul, Nat.reduceLeDiff, loadA, cellsAt, nAg, packA, List.drop, List.take, List.head?, binA, unA, eqCells, eqCell, negB, fillA, storeA, Ob.with, indexedI, V.oneCell, intOf?, resA, resA1, packR, sealDepth, Int.reduceLT, Int.reduceLE, Int.reduceToNat, Int.reduceNeg, Int.reduceAdd, Int.reduceSub, Int.reduceMul, cond_true, cond_false, Int.reduceBNe, Int.reduceBEq, eq_self, deads, List.replicate, argsF, am11, app_get0, app_get, app_set0, app_set, e0', x0, c28, cvP_func, c27, gf, gt]
      exact .inr ⟨by simp [sendB, gf, gt], 2, rfl, by decide, n0, B0⟩
    | true =>
      cases ge : (f == t) with
      | true =>
        refine am11_wp rfl ?_
        generalize s.cs m W = Z at *
        simp +contextual -implicitDefEqProofs (maxSteps := 10000000) only [sxb, plainD, stays, ↓selV_wt, ↓selV_wf, ↓impB_wt, ↓impB_wf, ↓selV_nor, ↓impB_nor, ↓selV_nt, ↓selV_nf, ↓impB_nt, ↓impB_nf, ↓selV_true, ↓selV_false, ↓selV_and, ↓impB_true, ↓impB_false, ↓impB_and, ↓prim_pick, ↓selV_nn, ↓impB_nn, doOp, get, ins, del, dels, Nat.reduceLT, Nat.reduceEqDiff, ↓reduceIte, reduceCtorEq, ne_eq, implies_true, prim, YLD, mkA, V.cells, Nat.reduceAdd, Nat.reduceSub, Nat.reduceMul, Nat.reduceLeDiff, loadA, cellsAt, nAg, packA, List.drop, List.take, List.head?, binA, unA, eqCells, eqCell, negB, fillA, storeA, Ob.with, indexedI, V.oneCell, intOf?, resA, resA1, packR, sealDepth, Int.reduceLT, Int.reduceLE, Int.reduceToNat, Int.reduceNeg, Int.reduceAdd, Int.reduceSub, Int.reduceMul, cond_true, cond_false, Int.reduceBNe, Int.reduceBEq, eq_self, deads, List.replicate, argsF, am11, app_get0, app_get, app_set0, app_set, e0', x0, c28, cvP_func, c27, gf, gt, ge]
        exact .inr ⟨by simp [sendB, gf, gt, ge], 2, rfl, by decide, n0, B0⟩
      | false =>
        cases gl : decide ((l.length : Int) > 512) with
        | true =>
          refine am11_wp rfl ?_
          generalize s.cs m W = Z at *
          simp +contextual -implicitDefEqProofs (maxSteps := 10000000) only [sxb, plainD, stays, ↓selV_wt, ↓selV_wf, ↓impB_wt, ↓impB_wf, ↓selV_nor, ↓impB_nor, ↓selV_nt, ↓selV_nf, ↓impB_nt, ↓impB_nf, ↓selV_true, ↓selV_false, ↓selV_and, ↓impB_true, ↓impB_false, ↓impB_and, ↓prim_pick, ↓selV_nn, ↓impB_nn, doOp, get, ins, del, dels, Nat.reduceLT, Nat.reduceEqDiff, ↓reduceIte, reduceCtorEq, ne_eq, implies_true, prim, YLD, mkA, V.cells, Nat.reduceAdd, Nat.reduceSub, Nat.reduceMul, Nat.reduceLeDiff, loadA, cellsAt, nAg, packA, List.drop, List.take, List.head?, binA, unA, eqCells, eqCell, negB, fillA, storeA, Ob.with, indexedI, V.oneCell, intOf?, resA, resA1, packR, sealDepth, Int.reduceLT, Int.reduceLE, Int.reduceToNat, Int.reduceNeg, Int.reduceAdd, Int.reduceSub, Int.reduceMul, cond_true, cond_false, Int.reduceBNe, Int.reduceBEq, eq_self, deads, List.replicate, argsF, am11, app_get0, app_get, app_set0, app_set, e0', x0, c28, cvP_func, c27, gf, gt, ge, hlen, gl]
          have := of_decide_eq_true gl
          exact .inr ⟨by simp [sendB, gf, gt, ge]; omega, 3, rfl, by decide, n0, B0⟩
        | false =>
          have hl : l.length ≤ 512 := by have := of_decide_eq_false gl; omega
          obtain ⟨v', H', c29, rfl, b', W', R', hb', hN, hB⟩ := @put_spec N n (by omega) _ _ _ _ _ _ n0 0 f t b l hb hl hL hla
          refine am11_wp rfl ?_
          generalize hZ : s.cs m W = Z at *
          simp +contextual -implicitDefEqProofs (maxSteps := 10000000) only [sxb, plainD, stays, ↓selV_wt, ↓selV_wf, ↓impB_wt, ↓impB_wf, ↓selV_nor, ↓impB_nor, ↓selV_nt, ↓selV_nf, ↓impB_nt, ↓impB_nf, ↓selV_true, ↓selV_false, ↓selV_and, ↓impB_true, ↓impB_false, ↓impB_and, ↓prim_pick, ↓selV_nn, ↓impB_nn, doOp, get, ins, del, dels, Nat.reduceLT, Nat.reduceEqDiff, ↓reduceIte, reduceCtorEq, ne_eq, implies_true, prim, YLD, mkA, V.cells, Nat.reduceAdd, Nat.reduceSub, Nat.reduceMul, Nat.reduceLeDiff, loadA, cellsAt, nAg, packA, List.drop, List.take, List.head?, binA, unA, eqCells, eqCell, negB, fillA, storeA, Ob.with, indexedI, V.oneCell, intOf?, resA, resA1, packR, sealDepth, Int.reduceLT, Int.reduceLE, Int.reduceToNat, Int.reduceNeg, Int.reduceAdd, Int.reduceSub, Int.reduceMul, cond_true, cond_false, Int.reduceBNe, Int.reduceBEq, eq_self, deads, List.replicate, argsF, am11, app_get0, app_get, app_set0, app_set, e0', x0, c28, cvP_func, c27, gf, gt, ge, hlen, gl, oa, c2, ql, hWl, g4, kb1, kb2, c29]
          subst e0
          exact .inl ⟨by simp [sendB, gf, gt, ge, hl], b', W', R', hb', hN, hB.app⟩
end Go.Am.T


set_option linter.unusedVariables false
set_option linter.unusedSimpArgs false
set_option linter.unusedSectionVars false
set_option maxRecDepth 10000
namespace Go.Am.T
attribute [local congr] selV_congr impB_congr
theorem bounds_none {len cap : Nat} {i : Nat} (h : i ≤ cap) : boundsA len cap none (some (.int .i64 i)) none = some (0, i, cap) := by
  simp [boundsA, intOf?, h]
theorem bounds_lo {len cap : Nat} {i : Nat} (h : i ≤ len) : boundsA len cap (some (.int .i64 i)) none none = some (i, len, cap) := by
  simp [boundsA, intOf?, h]
theorem bounds_two {len cap : Nat} {i j : Nat} (h : i ≤ j) (h2 : j ≤ cap) : boundsA len cap (some (.int .i64 i)) (some (.int .i64 j)) none = some (i, j, cap) := by
  simp [boundsA, intOf?, h, h2]
theorem bounds_three {len cap : Nat} {i j k : Nat} (h : i ≤ j) (h2 : j ≤ k) (h3 : k ≤ cap) : boundsA len cap (some (.int .i64 i)) (some (.int .i64 j)) (some (.int .i64 k)) = some (i, j, k) := by
  simp [boundsA, intOf?, h, h2, h3]
theorem am30_wp {N n : Nat} {args : List V} {h : Heap} {C : V → Heap → Prop} (ha : args.length = 3) (hfr : V.freeL args = false) (H : sx ⟨pureOf am, callA am N n, N, h.length⟩ am30.body (fr am30.nt (argsF 0 args)) (h ++ deads am30.sites) (retQ am30.res C)) : ∃ v h', callA am N (n + 1) 30 args h = some (v, h') ∧ C v h' := by
  obtain ⟨v, h', hb, hc⟩ := body_of_wp (by rw [ha]; decide) (sx_wp H)
  refine ⟨v, h', ?_, hc⟩
  unfold callA
  rw [if_neg (by decide)]
  simp only [at30, ha]
  have hm : am30.mode = .auto := rfl
  have hn : am30.nargs = 3 := rfl
  simp only [hm, hn, hfr, ↓reduceIte, hb]
  rfl
set_option maxHeartbeats 1000000 in
theorem delete_spec {N n : Nat} (hn : 1 ≤ n) {H : Heap} {W : V} {l : List Int} {R : List Nat} (h : IRow H W l R) {i : Nat} (hi : i < l.length) (hl : l.length ≤ 100000) :
    ∃ v' H', callA am N n 30 [W, .int .i64 i, .int .i64 ((i + 1 : Nat) : Int)] H = some (v', H') ∧ H'.length = H.length + 1 ∧ IRow H' v' (l.eraseIdx i) R ∧ (∀ o, o < H.length → o ∉ R → H'[o]? = H[o]?) := by
  obtain ⟨n, rfl⟩ : ∃ m, n = m + 1 := ⟨n - 1, by omega⟩
  rcases h with ⟨rfl, -, -⟩ | ⟨o, ver, rest, rfl, rfl, ho⟩
  · simp at hi
  have hol := lt_of_get ho
  obtain ⟨h0, e0⟩ : ∃ h0, h0 = H ++ [(⟨0, .dead⟩ : Ob)] := ⟨_, rfl⟩
  have ho0 : h0[o]? = some ⟨ver, .arr ((l ++ rest).map (V.int .i64))⟩ := by rw [e0, List.getElem?_append_left hol]; exact ho
  have hl0 : o < h0.length := by rw [e0]; simp; omega
  have lens : h0.length = H.length + 1 := by rw [e0]; simp
  have e0' := e0.symm
  generalize hk : l.length = k at *
  have hcl : ((l ++ rest).map (V.int .i64)).length = k + rest.length := by simp [hk]
  have f1 : sliceA (fun o => h0[o]?) 1 (.view o ver 0 k 1 none) (some (.int .i64 i)) (some (.int .i64 ((i + 1 : Nat) : Int))) (some (.int .i64 (k : Nat))) = some (.view o ver (if k = i then 0 else 0 + i * 1) (i + 1 - i) 1 (some (k - i))) := by
    simp only [sliceA, cellsAt, ho0, ↓reduceIte, hcl, bounds_three (show i ≤ i + 1 by omega) (show i + 1 ≤ k by omega) (show k ≤ (k + rest.length - 0) / 1 by simp), Option.map_some]
  have f2 : sliceA (fun o => h0[o]?) 1 (.view o ver 0 k 1 none) none (some (.int .i64 i)) none = some (.view o ver 0 i 1 none) := by
    simp only [sliceA, cellsAt, ho0, ↓reduceIte, hcl, bounds_none (show i ≤ (k + rest.length - 0) / 1 by simp; omega), Option.bind_some]
  have g1 : ((i : Int) == ((i + 1 : Nat) : Int)) = false := by rw [beq_eq_false_iff_ne]; omega
  have hfr : V.freeL [.view o ver 0 k 1 none, .int .i64 i, .int .i64 ((i + 1 : Nat) : Int)] = false := rfl
  -- the tail's clearing
  have tail : ∀ (h1 : Heap) (c : List V), h1[o]? = some ⟨ver, .arr c⟩ → c.length = k + rest.length → ∃ x ln, sliceA (fun o => h1[o]?) 1 (.view o ver 0 (k - 1) 1 none) (some (.int .i64 ((k - 1 : Nat) : Int))) (some (.int .i64 (k : Nat))) none = some x ∧
      clearA (fun o => h1[o]?) 1 [.int .i64 0] x = some (.set o ⟨ver, .arr (setRange c (k - 1) [.int .i64 0])⟩ (.tup [])) ∧ x = .view o ver ln 1 1 none := by
    intro h1 c hc hcl1
    have hb := bounds_two (len := k - 1) (cap := (k + rest.length - 0) / 1) (i := k - 1) (j := k) (by omega) (by simp)
    have hst : storeA (fun o => h1[o]?) o ver (k - 1) (List.replicate 1 [V.int .i64 0]).flatten (.tup []) = some (.set o ⟨ver, .arr (setRange c (k - 1) [.int .i64 0])⟩ (.tup [])) := by
      have : (List.replicate 1 [V.int .i64 0]).flatten = [.int .i64 0] := rfl
      rw [this]
      simp only [storeA, cellsAt, hc, ↓reduceIte, List.length_singleton]
      rw [if_pos (by omega)]
      rfl
    by_cases h0k : k - 1 = 0
    · refine ⟨.view o ver 0 1 1 none, 0, ?_, ?_, rfl⟩
      · rw [h0k] at hb ⊢
        simp only [sliceA, cellsAt, hc, ↓reduceIte, hcl1, hb, Option.bind_some]
        rw [show k = 1 by omega]
      · rw [h0k] at hst
        simp only [clearA, Nat.one_ne_zero, ↓reduceIte]
        rw [h0k]
        exact hst
    · refine ⟨.view o ver (k - 1) 1 1 none, k - 1, ?_, ?_, rfl⟩
      · simp only [sliceA, cellsAt, hc, ↓reduceIte, hcl1, hb, Option.bind_some, h0k]
        rw [if_pos (by omega)]
        simp; omega
      · simp only [clearA, Nat.one_ne_zero, ↓reduceIte]
        exact hst
  have hsub : IntKind.i64.wrap ((k : Int) - 1) = ((k - 1 : Nat) : Int) := (wrap64 (by omega) (by omega)).trans (by omega)
  by_cases hlt : i + 1 < k
  · have f3 : sliceA (fun o => h0[o]?) 1 (.view o ver 0 k 1 none) (some (.int .i64 ((i + 1 : Nat) : Int))) none none = some (.view o ver (i + 1) (k - (i + 1)) 1 none) := by
      simp only [sliceA, cellsAt, ho0, ↓reduceIte, hcl, bounds_lo (show i + 1 ≤ k by omega), Option.bind_some, Nat.add_eq_zero_iff, Nat.one_ne_zero, and_false, hlt, Nat.zero_add, Nat.mul_one]
    have ld : loadA (fun o => h0[o]?) ((k - (i + 1)) * 1) (.ptr o ver (i + 1)) = some ((l.drop (i + 1)).map (V.int .i64)) := by
      simp only [loadA, cellsAt, ho0, ↓reduceIte, hcl, Nat.mul_one]
      rw [if_pos (by omega), ← List.map_drop, ← List.map_take, List.drop_append_of_le_length (by omega), List.take_append_of_le_length (by simp; omega), List.take_of_length_le (by simp; omega)]
    have hdl : (l.drop (i + 1)).length = k - (i + 1) := by simp [hk]
    obtain ⟨c2, ec2⟩ : ∃ c2, c2 = setRange ((l ++ rest).map (V.int .i64)) i ((l.drop (i + 1)).map (V.int .i64)) := ⟨_, rfl⟩
    have f4 : appendA (fun o => h0[o]?) H.length 1 8 (.view o ver 0 i 1 none) (.view o ver (i + 1) (k - (i + 1)) 1 none) = some (.set o ⟨ver, .arr c2⟩ (.view o ver 0 (k - 1) 1 none)) := by
      have ho1 : ((l.drop (i + 1)).map (V.int .i64)).all V.oneCell = true := allOne_ints _ _
      have hfst : firstA (fun o => h0[o]?) 1 (k - (i + 1)) (.view o ver (i + 1) (k - (i + 1)) 1 none) = some ((l.drop (i + 1)).map (V.int .i64)) := by
        simp only [firstA, ↓reduceIte, Nat.le_refl, ld]
      unfold appendA
      simp only [lenA_view, hfst, ho1, ↓reduceIte, cellsAt, ho0, hcl]
      rw [if_neg (by omega), if_pos (by omega), if_neg (by omega)]
      simp only [storeA, cellsAt, ho0, ↓reduceIte, hcl, List.length_map, hdl]
      rw [if_pos (by omega), ← Nat.zero_add (i * 1), ec2]
      simp only [Nat.zero_add, Nat.mul_one, Ob.with]
      rw [show i + (k - (i + 1)) = k - 1 by omega]
    have hc2 : c2 = ((l.eraseIdx i ++ (l ++ rest).drop (k - 1)).map (V.int .i64)) := by
      rw [ec2, map_setRange, List.take_append_of_le_length (by omega), hdl, show i + (k - (i + 1)) = k - 1 by omega, List.eraseIdx_eq_take_drop_succ]
    obtain ⟨h1, e1⟩ : ∃ h1, h1 = h0.set o ⟨ver, .arr c2⟩ := ⟨_, rfl⟩
    have ho1 : h1[o]? = some ⟨ver, .arr c2⟩ := by rw [e1]; exact List.getElem?_set_self hl0
    have hel : (l.eraseIdx i).length = k - 1 := by rw [List.length_eraseIdx, hk, if_pos hi]
    have c2l : c2.length = k + rest.length := by rw [hc2]; simp [hel, hk]; omega
    obtain ⟨x, ln, t1, t2, rfl⟩ := tail h1 c2 ho1 c2l
    have e1' := e1.symm
    refine am30_wp rfl hfr ?_
    simp +contextual -implicitDefEqProofs (maxSteps := 10000000) only [sxb, plainD, stays, ↓selV_wt, ↓selV_wf, ↓impB_wt, ↓impB_wf, ↓selV_nor, ↓impB_nor, ↓selV_nt, ↓selV_nf, ↓impB_nt, ↓impB_nf, ↓selV_true, ↓selV_false, ↓selV_and, ↓impB_true, ↓impB_false, ↓impB_and, ↓prim_pick, ↓selV_nn, ↓impB_nn, doOp, get, ins, del, dels, Nat.reduceLT, Nat.reduceEqDiff, ↓reduceIte, reduceCtorEq, ne_eq, implies_true, prim, YLD, mkA, V.cells, Nat.reduceAdd, Nat.reduceSub, Nat.reduceMul, Nat.reduceLeDiff, loadA, cellsAt, nAg, packA, List.drop, List.take, List.head?, binA, unA, eqCells, eqCell, negB, fillA, storeA, Ob.with, indexedI, V.oneCell, intOf?, resA, resA1, packR, sealDepth, Int.reduceLT, Int.reduceLE, Int.reduceToNat, Int.reduceNeg, Int.reduceAdd, Int.reduceSub, Int.reduceMul, cond_true, cond_false, Int.reduceBNe, Int.reduceBEq, eq_self, deads, List.replicate, argsF, am30, e0', f1, g1, f2, f3, f4, e1', t1, t2, lenA_view]
    refine ⟨by rw [List.length_set, e1, List.length_set, lens], .inr ⟨o, ver, 0 :: rest, rfl, by rw [hel], ?_⟩, fun p hp hpo => ?_⟩
    · rw [List.getElem?_set_self (by rw [e1, List.length_set]; exact hl0), hc2]
      have := @map_setRange .i64 (l.eraseIdx i ++ (l ++ rest).drop (k - 1)) [0] (k - 1)
      rw [List.map_cons, List.map_nil, List.length_singleton, show k - 1 + 1 = k by omega] at this
      rw [this, List.take_append_of_le_length (by omega), List.take_of_length_le (by omega), List.drop_append, hel]
      have hd : List.drop k (l.eraseIdx i) = [] := List.drop_eq_nil_of_le (by omega)
      rw [hd, List.nil_append, List.drop_drop, show k - 1 + (k - (k - 1)) = k by omega, List.drop_append, List.drop_eq_nil_of_le (by omega), hk, Nat.sub_self, List.nil_append, List.drop_zero]
      simp
    · have hpo' : o ≠ p := fun e => hpo (by simp [e])
      rw [List.getElem?_set_ne hpo', e1, List.getElem?_set_ne hpo', e0, List.getElem?_append_left hp]
  · have hik : i = k - 1 := by omega
    have f3 : sliceA (fun o => h0[o]?) 1 (.view o ver 0 k 1 none) (some (.int .i64 ((i + 1 : Nat) : Int))) none none = some (.vend o ver 1) := by
      simp only [sliceA, cellsAt, ho0, ↓reduceIte, hcl, bounds_lo (show i + 1 ≤ k by omega), Option.bind_some, Nat.add_eq_zero_iff, Nat.one_ne_zero, and_false, hlt]
    have f4 : appendA (fun o => h0[o]?) H.length 1 8 (.view o ver 0 i 1 none) (.vend o ver 1) = some (.ret (.view o ver 0 i 1 none)) := by
      simp [appendA, lenA, firstA, cellsAt, ho0]
    obtain ⟨x, ln, t1, t2, rfl⟩ := tail h0 _ ho0 hcl
    have hel : (l.eraseIdx i).length = k - 1 := by rw [List.length_eraseIdx, hk, if_pos hi]
    rw [← hik] at t1
    refine am30_wp rfl hfr ?_
    simp +contextual -implicitDefEqProofs (maxSteps := 10000000) only [sxb, plainD, stays, ↓selV_wt, ↓selV_wf, ↓impB_wt, ↓impB_wf, ↓selV_nor, ↓impB_nor, ↓selV_nt, ↓selV_nf, ↓impB_nt, ↓impB_nf, ↓selV_true, ↓selV_false, ↓selV_and, ↓impB_true, ↓impB_false, ↓impB_and, ↓prim_pick, ↓selV_nn, ↓impB_nn, doOp, get, ins, del, dels, Nat.reduceLT, Nat.reduceEqDiff, ↓reduceIte, reduceCtorEq, ne_eq, implies_true, prim, YLD, mkA, V.cells, Nat.reduceAdd, Nat.reduceSub, Nat.reduceMul, Nat.reduceLeDiff, loadA, cellsAt, nAg, packA, List.drop, List.take, List.head?, binA, unA, eqCells, eqCell, negB, fillA, storeA, Ob.with, indexedI, V.oneCell, intOf?, resA, resA1, packR, sealDepth, Int.reduceLT, Int.reduceLE, Int.reduceToNat, Int.reduceNeg, Int.reduceAdd, Int.reduceSub, Int.reduceMul, cond_true, cond_false, Int.reduceBNe, Int.reduceBEq, eq_self, deads, List.replicate, argsF, am30, e0', f1, g1, f2, f3, f4, t1, t2, lenA_view]
    refine ⟨by rw [List.length_set, lens], .inr ⟨o, ver, 0 :: rest, rfl, by rw [hel, hik], ?_⟩, fun p hp hpo => ?_⟩
    · rw [List.getElem?_set_self hl0]
      have := @map_setRange .i64 (l ++ rest) [0] (k - 1)
      rw [List.map_cons, List.map_nil, List.length_singleton, show k - 1 + 1 = k by omega] at this
      have hd : List.drop k l = [] := List.drop_eq_nil_of_le (by omega)
      rw [this, List.take_append_of_le_length (by omega), List.drop_append, hd, List.nil_append, List.eraseIdx_eq_take_drop_succ, hik, show k - 1 + 1 = k by omega, hd, List.append_nil, hk, Nat.sub_self, List.drop_zero]
      simp
    · have hpo' : o ≠ p := fun e => hpo (by simp [e])
      rw [List.getElem?_set_ne hpo', e0, List.getElem?_append_left hp]
end Go.Am.T


set_option linter.unusedVariables false
set_option linter.unusedSimpArgs false
set_option linter.unusedSectionVars false
set_option maxRecDepth 10000
namespace Go.Am.T
attribute [local congr] selV_congr impB_congr
abbrev zL : List V := [.int .i64 0, .int .i64 0, .int .i64 0, .nils]
theorem mget_spec {get : Nat → Option Ob} {m : Nat} {L : List Lt} (hm : get m = some ⟨1, .map (L.map Lt.e)⟩) (z : V) (k : Int) :
    mgetA get false kk z true (.map m 1) (.int .i64 k) = some (match L.find? (fun x => k == x.num) with | some x => .tup [.agg x.cs, .bool true] | none => .tup [z, .bool false]) := by
  unfold mgetA
  simp only [keyC, mapAt, hm, ↓reduceIte, mapOk_num, find_num]
  cases L.find? (fun x => k == x.num) <;> rfl
theorem am12_wp {N n : Nat} {args : List V} {h : Heap} {C : V → Heap → Prop} (ha : args.length = 2) (H : sx ⟨pureOf am, callA am N n, N, h.length⟩ am12.body (fr am12.nt (argsF 0 args)) (h ++ deads am12.sites) (retQ am12.res C)) : ∃ v h', callA am N (n + 1) 12 args h = some (v, h') ∧ C v h' :=
  call_keep at12 rfl ha (by decide) (sx_wp H)
end Go.Am.T


set_option linter.unusedVariables false
set_option linter.unusedSimpArgs false
set_option linter.unusedSectionVars false
set_option maxRecDepth 10000
namespace Go.Am.T
attribute [local congr] selV_congr impB_congr
theorem IRow.at_ {H : Heap} {W : V} {l : List Int} {R : List Nat} (h : IRow H W l R) {i : Nat} {b : Int} (hi : l[i]? = some b) :
    ∃ o ver off c, iaddrSA 1 W (.int .i64 i) = some (.ret (.ptr o ver off)) ∧ H[o]? = some ⟨ver, .arr c⟩ ∧ off + 1 ≤ c.length ∧ List.take 1 (List.drop off c) = [.int .i64 b] := by
  have hlt := (List.getElem?_eq_some_iff.1 hi).1
  rcases h with ⟨rfl, rfl, rfl⟩ | ⟨o, ver, x, rfl, rfl, ho⟩
  · simp at hi
  · refine ⟨o, ver, 0 + i * 1, _, ?_, ho, by simp; omega, ?_⟩
    · simp [iaddrSA, indexedI, hlt]
    · rw [Nat.zero_add, Nat.mul_one, ← List.map_drop, ← List.map_take, List.drop_append_of_le_length (by omega), List.take_append_of_le_length (by simp; omega), List.drop_eq_getElem_cons hlt]
      have := (List.getElem?_eq_some_iff.1 hi).2
      simp [this]
def Nt.del (s : Nt) (k : Int) : Nt := { s with L := s.L.filter (fun x => !(k == x.num)) }
theorem Nt.Ok.del {s : Nt} (h : s.Ok) (k : Int) : (s.del k).Ok :=
  ⟨fun x hx => h.ok x (List.mem_filter.1 hx).1, h.inc.filter _, fun x hx => h.pos x (List.mem_filter.1 hx).1, h.big, h.nn, Nat.le_trans (List.length_filter_le _ _) h.len⟩
theorem find_at {k : Int} : ∀ {L : List Lt} {x : Lt}, L.Pairwise (fun x y => x.num < y.num) → L.find? (fun x => k == x.num) = some x → ∃ j, j < L.length ∧ (L.map Lt.num)[j]? = some k ∧ (∀ i, i < j → (L.map Lt.num)[i]? ≠ some k) ∧ (L.filter (fun x => !(k == x.num))).map Lt.num = (L.map Lt.num).eraseIdx j ∧ (L.filter (fun x => !(k == x.num))).length + 1 = L.length
  | [], x, _, h => by simp at h
  | y :: L, x, hp, h => by
    rw [List.find?_cons] at h
    obtain ⟨h1, h2⟩ := List.pairwise_cons.1 hp
    cases hy : k == y.num with
    | true =>
      have hk : k = y.num := by simpa using hy
      have hf : L.filter (fun x => !(k == x.num)) = L := List.filter_eq_self.2 fun z hz => by
        have := h1 z hz
        simp
        omega
      refine ⟨0, by simp, by simp [hk], fun i hi => by omega, ?_, ?_⟩
      · rw [List.filter_cons, hy, if_neg (by decide), hf]; rfl
      · rw [List.filter_cons, hy, if_neg (by decide), hf]; rfl
    | false =>
      rw [hy] at h
      obtain ⟨j, q1, q2, q3, q4, q5⟩ := find_at h2 h
      have hk : k ≠ y.num := by simpa using hy
      refine ⟨j + 1, by simp; omega, by simpa using q2, fun i hi => ?_, ?_, ?_⟩
      · cases i with
        | zero => simpa using Ne.symm hk
        | succ i => simpa using q3 i (by omega)
      · rw [List.filter_cons, hy, if_pos (by decide), List.map_cons, q4]; rfl
      · rw [List.filter_cons, hy, if_pos (by decide), List.length_cons, List.length_cons, q5]
theorem mdel_spec {get : Nat → Option Ob} {m : Nat} {L : List Lt} (hm : get m = some ⟨1, .map (L.map Lt.e)⟩) (k : Int) :
    mdelA get false kk (.map m 1) (.int .i64 k) = some (.set m ⟨1, .map ((L.filter (fun x => !(k == x.num))).map Lt.e)⟩ (.tup [])) := by
  unfold mdelA
  simp only [keyC, mapAt, hm, ↓reduceIte, mapOk_num, filter_num]
theorem am13_wp {N n : Nat} {args : List V} {h : Heap} {C : V → Heap → Prop} (ha : args.length = 2) (H : sx ⟨pureOf am, callA am N n, N, h.length⟩ am13.body (fr am13.nt (argsF 0 args)) (h ++ deads am13.sites) (retQ am13.res C)) : ∃ v h', callA am N (n + 1) 13 args h = some (v, h') ∧ C v h' :=
  call_keep at13 rfl ha (by decide) (sx_wp H)
set_option maxHeartbeats 2000000 in
theorem deliver_spec {N n : Nat} (hN : 5000 ≤ N) (hn : 3 ≤ n) {H : Heap} {a m : Nat} {W : V} {R : List Nat} {s : Nt} (h : NetAt H a m W R s) (k : Int) :
    ∃ v' H', callA am N n 13 [.ptr a 1 0, .int .i64 k] H = some (v', H') ∧
      ((∃ x, s.L.find? (fun x => k == x.num) = some x ∧ v' = .tup [.agg x.cs, .int .i64 0] ∧ ∃ W', NetAt H' a m W' R (s.del k) ∧ Beyond H H' a m R R) ∨
       (s.L.find? (fun x => k == x.num) = none ∧ v' = .tup [.agg zL, .int .i64 6] ∧ NetAt H' a m W R s ∧ Beyond H H' a m R R)) := by
  obtain ⟨n, rfl⟩ : ∃ m, n = m + 1 := ⟨n - 1, by omega⟩
  obtain ⟨h9, e9⟩ : ∃ h9, h9 = H ++ [(⟨1, .var zL⟩ : Ob), ⟨0, .dead⟩] := ⟨_, rfl⟩
  have n9 : NetAt h9 a m W R s := by rw [e9]; exact h.app _
  have c28 := @there_spec N n (by omega) _ _ _ _ _ n9.ob
  have hg := mget_spec (get := fun o => h9[o]?) n9.mp (.agg zL) k
  have oa9 := n9.ob
  have c1 := @cs1 s m W
  have ql := @cs_len s m W
  have e9' := e9.symm
  have l9 : h9.length = H.length + 2 := by rw [e9]; simp
  have hal := h.lta
  have hml := h.ltm
  cases hf : s.L.find? (fun x => k == x.num) with
  | none =>
    rw [hf] at hg
    have hg : mgetA (fun o => h9[o]?) false kk (.agg zL) true (.map m 1) (.int .i64 k) = some (.tup [.agg zL, .bool false]) := hg
    refine am13_wp rfl ?_
    generalize hZ : s.cs m W = Z at *
    have d9 : h9[H.length + 1]? = some ⟨0, .dead⟩ := by rw [e9, app_get]; rfl
    have s9 : ∀ X, h9.set (H.length + 1) X = H ++ [(⟨1, .var zL⟩ : Ob), X] := fun X => by rw [e9, app_set]; rfl
    simp +contextual -implicitDefEqProofs (maxSteps := 10000000) only [sxb, plainD, stays, ↓selV_wt, ↓selV_wf, ↓impB_wt, ↓impB_wf, ↓selV_nor, ↓impB_nor, ↓selV_nt, ↓selV_nf, ↓impB_nt, ↓impB_nf, ↓selV_true, ↓selV_false, ↓selV_and, ↓impB_true, ↓impB_false, ↓impB_and, ↓prim_pick, ↓selV_nn, ↓impB_nn, doOp, get, ins, del, dels, Nat.reduceLT, Nat.reduceEqDiff, ↓reduceIte, reduceCtorEq, ne_eq, implies_true, prim, YLD, mkA, V.cells, Nat.reduceAdd, Nat.reduceSub, Nat.reduceMul, Nat.reduceLeDiff, loadA, cellsAt, nAg, packA, List.drop, List.take, List.head?, binA, unA, eqCells, eqCell, negB, fillA, storeA, Ob.with, indexedI, V.oneCell, intOf?, resA, resA1, packR, sealDepth, Int.reduceLT, Int.reduceLE, Int.reduceToNat, Int.reduceNeg, Int.reduceAdd, Int.reduceSub, Int.reduceMul, cond_true, cond_false, Int.reduceBNe, Int.reduceBEq, eq_self, deads, List.replicate, argsF, am13, app_get0, app_get, app_set0, app_set, e9', c28, oa9, c1, ql, hg, d9, s9]
    rw [← hZ] at *
    exact .inr ⟨h.app _, .refl _⟩
  | some x =>
    rw [hf] at hg
    have hg : mgetA (fun o => h9[o]?) false kk (.agg zL) true (.map m 1) (.int .i64 k) = some (.tup [.agg x.cs, .bool true]) := hg
    have hx := List.mem_of_find?_eq_some hf
    obtain ⟨hb, hl⟩ := h.ok.ok x hx
    obtain ⟨h0, e0⟩ : ∃ h0, h0 = H ++ [(⟨1, .var zL⟩ : Ob), ⟨1, .var x.cs⟩] := ⟨_, rfl⟩
    have n0 : NetAt h0 a m W R s := by rw [e0]; exact h.app _
    have l0 : h0.length = H.length + 2 := by rw [e0]; simp
    have d9 : h9[H.length + 1]? = some ⟨0, .dead⟩ := by rw [e9, app_get]; rfl
    have s9 : ∀ X, h9.set (H.length + 1) X = H ++ [(⟨1, .var zL⟩ : Ob), X] := fun X => by rw [e9, app_set]; rfl
    have e0' := e0.symm
    have kb := Lt.one hb
    have xl := x.cs_len
    have s4 : setRange zL 0 x.cs = x.cs := sr_all (by rw [xl]; rfl)
    have hdm := mdel_spec (get := fun o => h0[o]?) n0.mp k
    have oa0 := n0.ob
    obtain ⟨h1, e1⟩ : ∃ h1, h1 = h0.set m ⟨1, .map ((s.L.filter (fun x => !(k == x.num))).map Lt.e)⟩ := ⟨_, rfl⟩
    have e1' := e1.symm
    have oa1 : h1[a]? = some ⟨1, .var (s.cs m W)⟩ := by rw [e1, List.getElem?_set_ne (Ne.symm h.ne)]; exact n0.ob
    have c2 := @cs2 s m W
    have hWl := h.row.len
    rw [List.length_map] at hWl
    obtain ⟨v1, v2, v3, v4, v5, v6⟩ := h.row.shape
    refine am13_wp rfl ?_
    generalize hX : x.cs = X at *
    generalize hZ : s.cs m W = Z at *
    simp +contextual -implicitDefEqProofs (maxSteps := 10000000) only [sxb, plainD, stays, ↓selV_wt, ↓selV_wf, ↓impB_wt, ↓impB_wf, ↓selV_nor, ↓impB_nor, ↓selV_nt, ↓selV_nf, ↓impB_nt, ↓impB_nf, ↓selV_true, ↓selV_false, ↓selV_and, ↓impB_true, ↓impB_false, ↓impB_and, ↓prim_pick, ↓selV_nn, ↓impB_nn, doOp, get, ins, del, dels, Nat.reduceLT, Nat.reduceEqDiff, ↓reduceIte, reduceCtorEq, ne_eq, implies_true, prim, YLD, mkA, V.cells, Nat.reduceAdd, Nat.reduceSub, Nat.reduceMul, Nat.reduceLeDiff, loadA, cellsAt, nAg, packA, List.drop, List.take, List.head?, binA, unA, eqCells, eqCell, negB, fillA, storeA, Ob.with, indexedI, V.oneCell, intOf?, resA, resA1, packR, sealDepth, Int.reduceLT, Int.reduceLE, Int.reduceToNat, Int.reduceNeg, Int.reduceAdd, Int.reduceSub, Int.reduceMul, cond_true, cond_false, Int.reduceBNe, Int.reduceBEq, eq_self, deads, List.replicate, argsF, am13, app_get0, app_get, app_set0, app_set, e9', c28, oa9, c1, ql, hg, d9, s9, e0', kb, xl, s4, hdm, oa0, e1', oa1, c2, hWl]
    obtain ⟨j, hj, hjk, hjn, hdel, hdl⟩ := find_at h.ok.inc hf
    have row1 : IRow h1 W (s.L.map Lt.num) R := n0.row.keep fun o ho => by rw [e1, List.getElem?_set_ne (fun e => h.nm (by rw [e]; exact ho))]
    have l1 : h1.length = H.length + 2 := by rw [e1]; simp; omega
    have hlen := h.ok.len
    refine sx_loop (fun i t H' => t = Am.fr 57 [(0, .ptr a 1 0), (1, .int .i64 k), (4, .ptr H.length 1 0), (6, .ptr (H.length + 1) 1 0), (34, W), (35, .int .i64 s.L.length), (36, .int .i64 i)] ∧ H' = h1 ∧ i ≤ j) j (by show j < N; omega) ⟨rfl, rfl, Nat.zero_le _⟩ ?_
    rintro i t H' - ⟨rfl, rfl, hij⟩
    have g1 : decide ((i : Int) < (s.L.length : Int)) = true := decide_eq_true (by omega)
    have w1 : IntKind.i64.wrap ((i : Int) + 1) = ((i + 1 : Nat) : Int) := (wrap64 (by omega) (by omega)).trans (by omega)
    by_cases hlt : i < j
    · have hil : i < (s.L.map Lt.num).length := by simp; omega
      have hib : (s.L.map Lt.num)[i]? = some (s.L.map Lt.num)[i] := List.getElem?_eq_getElem hil
      have hne := hjn i hlt
      generalize (s.L.map Lt.num)[i] = b at hib
      obtain ⟨o', ver', off', c', a1, a2, a3, a4⟩ := row1.at_ hib
      have gb : (b == k) = false := by
        rw [beq_eq_false_iff_ne]
        intro e
        subst e
        exact hne hib
      have hi1 : i + 1 ≤ j := by omega
      simp +contextual -implicitDefEqProofs (maxSteps := 10000000) only [sxb, plainD, stays, ↓selV_wt, ↓selV_wf, ↓impB_wt, ↓impB_wf, ↓selV_nor, ↓impB_nor, ↓selV_nt, ↓selV_nf, ↓impB_nt, ↓impB_nf, ↓selV_true, ↓selV_false, ↓selV_and, ↓impB_true, ↓impB_false, ↓impB_and, ↓prim_pick, ↓selV_nn, ↓impB_nn, doOp, get, ins, del, dels, Nat.reduceLT, Nat.reduceEqDiff, ↓reduceIte, reduceCtorEq, ne_eq, implies_true, prim, YLD, mkA, V.cells, Nat.reduceAdd, Nat.reduceSub, Nat.reduceMul, Nat.reduceLeDiff, loadA, cellsAt, nAg, packA, List.drop, List.take, List.head?, binA, unA, eqCells, eqCell, negB, fillA, storeA, Ob.with, indexedI, V.oneCell, intOf?, resA, resA1, packR, sealDepth, Int.reduceLT, Int.reduceLE, Int.reduceToNat, Int.reduceNeg, Int.reduceAdd, Int.reduceSub, Int.reduceMul, cond_true, cond_false, Int.reduceBNe, Int.reduceBEq, eq_self, deads, List.replicate, argsF, g1, a1, a2, a3, a4, gb, w1, hi1, hlt]
    · have hij' : i = j := by omega
      subst hij'
      obtain ⟨o', ver', off', c', a1, a2, a3, a4⟩ := row1.at_ hjk
      have gb : (k == k) = true := by simp
      obtain ⟨W', H2, c30, l2, row2, k2⟩ := @delete_spec N n (by omega) _ _ _ _ row1 (i := i) (by simp; omega) (by simp; omega)
      have oa2 : H2[a]? = some ⟨1, .var Z⟩ := by rw [k2 a (by omega) h.na]; exact oa1
      have hRl : ∀ o ∈ R, o < H.length := h.row.lt
      have x2 : H2[H.length + 1]? = some ⟨1, .var X⟩ := by
        rw [k2 _ (by omega) (fun e => by have := hRl _ e; omega), e1, List.getElem?_set_ne (by omega), e0, app_get]; rfl
      have z2 : H2[H.length]? = some ⟨1, .var zL⟩ := by
        rw [k2 _ (by omega) (fun e => by have := hRl _ e; omega), e1, List.getElem?_set_ne (by omega), e0, app_get0]; rfl
      have al2 : a < H2.length := by omega
      have bl2 : H.length < H2.length := by omega
      have s2 : setRange Z 2 [W'] = s.cs m W' := by rw [← hZ]; rfl
      have ql2 := @cs_len s m W'
      have nab : a ≠ H.length := by omega
      have nab1 : a ≠ H.length + 1 := by omega
      obtain ⟨u1, u2, u3, u4, u5, u6⟩ := row2.shape
      have tk : List.take 4 X = X := by rw [← hX]; rfl
      have nb1 : H.length ≠ H.length + 1 := by omega
      generalize hZ' : s.cs m W' = Z' at *
      simp +contextual -implicitDefEqProofs (maxSteps := 10000000) only [sxb, plainD, stays, ↓selV_wt, ↓selV_wf, ↓impB_wt, ↓impB_wf, ↓selV_nor, ↓impB_nor, ↓selV_nt, ↓selV_nf, ↓impB_nt, ↓impB_nf, ↓selV_true, ↓selV_false, ↓selV_and, ↓impB_true, ↓impB_false, ↓impB_and, ↓prim_pick, ↓selV_nn, ↓impB_nn, doOp, get, ins, del, dels, Nat.reduceLT, Nat.reduceEqDiff, ↓reduceIte, reduceCtorEq, ne_eq, implies_true, prim, YLD, mkA, V.cells, Nat.reduceAdd, Nat.reduceSub, Nat.reduceMul, Nat.reduceLeDiff, loadA, cellsAt, nAg, packA, List.drop, List.take, List.head?, binA, unA, eqCells, eqCell, negB, fillA, storeA, Ob.with, indexedI, V.oneCell, intOf?, resA, resA1, packR, sealDepth, Int.reduceLT, Int.reduceLE, Int.reduceToNat, Int.reduceNeg, Int.reduceAdd, Int.reduceSub, Int.reduceMul, cond_true, cond_false, Int.reduceBNe, Int.reduceBEq, eq_self, deads, List.replicate, argsF, g1, a1, a2, a3, a4, gb, w1, c30, oa1, oa2, c2, ql, s2, ql2, u1, u2, List.getElem?_set_self, List.getElem?_set_ne, List.length_set, al2, bl2, nab, nab1, x2, z2, tk, xl, kb, s4, nb1]
      have nm : (s.del k).L.map Lt.num = (s.L.map Lt.num).eraseIdx i := hdel
      have fa : ∀ p, p ≠ a → p ≠ H.length → ((H2.set a ⟨1, .var Z'⟩).set H.length ⟨1, .var X⟩)[p]? = H2[p]? := fun p h1 h2 => by
        rw [List.getElem?_set_ne (Ne.symm h2), List.getElem?_set_ne (Ne.symm h1)]
      have m2 : H2[m]? = some ⟨1, .map ((s.L.filter (fun x => !(k == x.num))).map Lt.e)⟩ := by
        rw [k2 m (by omega) h.nm, e1, List.getElem?_set_self (by omega)]
      refine .inl ⟨x, rfl, by rw [hX], W', ⟨h.ok.del k, ?_, ?_, ?_, h.ne, h.na, h.nm⟩, ⟨by simp; omega, fun p hp h1 h2 h3 => ?_, fun o ho => .inl ho⟩⟩
      · rw [List.getElem?_set_ne (Ne.symm nab), List.getElem?_set_self al2, ← hZ']
        rfl
      · rw [fa m (Ne.symm h.ne) (by omega), m2]
        rfl
      · rw [nm]
        refine row2.keep fun o ho => fa o (fun e => h.na (by rw [← e]; exact ho)) (by have := hRl o ho; omega)
      · rw [fa p h1 (by omega), k2 p (by omega) h3, e1, List.getElem?_set_ne (Ne.symm h2), e0, List.getElem?_append_left hp]
end Go.Am.T


set_option linter.unusedVariables false
set_option linter.unusedSimpArgs false
set_option linter.unusedSectionVars false
set_option maxRecDepth 10000
namespace Go.Am.T
attribute [local congr] selV_congr impB_congr
theorem am15_wp {N n : Nat} {args : List V} {h : Heap} {C : V → Heap → Prop} (ha : args.length = 2) (H : sx ⟨pureOf am, callA am N n, N, h.length⟩ am15.body (fr am15.nt (argsF 0 args)) (h ++ deads am15.sites) (retQ am15.res C)) : ∃ v h', callA am N (n + 1) 15 args h = some (v, h') ∧ C v h' :=
  call_keep at15 rfl ha (by decide) (sx_wp H)
theorem drop_spec {N n : Nat} (hN : 5000 ≤ N) (hn : 4 ≤ n) {H : Heap} {a m : Nat} {W : V} {R : List Nat} {s : Nt} (h : NetAt H a m W R s) (k : Int) :
    ∃ v' H', callA am N n 15 [.ptr a 1 0, .int .i64 k] H = some (v', H') ∧
      ((∃ x, s.L.find? (fun x => k == x.num) = some x ∧ v' = .int .i64 0 ∧ ∃ W', NetAt H' a m W' R (s.del k) ∧ Beyond H H' a m R R) ∨
       (s.L.find? (fun x => k == x.num) = none ∧ v' = .int .i64 6 ∧ NetAt H' a m W R s ∧ Beyond H H' a m R R)) := by
  obtain ⟨n, rfl⟩ : ∃ m, n = m + 1 := ⟨n - 1, by omega⟩
  obtain ⟨h0, e0⟩ : ∃ h0, h0 = H ++ [(⟨0, .dead⟩ : Ob)] := ⟨_, rfl⟩
  have h1 : NetAt h0 a m W R s := by rw [e0]; exact h.app _
  have B0 : Beyond H h0 a m R R := by rw [e0]; exact .refl _
  have e0' := e0.symm
  have hal := h.lta
  have hml := h.ltm
  have hRl : ∀ o ∈ R, o < H.length := h.row.lt
  have d0 : h0[H.length]? = some ⟨0, .dead⟩ := by rw [e0, app_get0]; rfl
  have l0 : h0.length = H.length + 1 := by rw [e0]; simp
  have nR : H.length ∉ R := fun e => by have := hRl _ e; omega
  obtain ⟨v', H', c13, hc⟩ := @deliver_spec N n hN (by omega) _ _ _ _ _ _ h1 k
  have fin : ∀ {W' : V} {s' : Nt} (X : List V), NetAt H' a m W' R s' → Beyond h0 H' a m R R → NetAt (H'.set H.length ⟨1, .var X⟩) a m W' R s' ∧ Beyond H (H'.set H.length ⟨1, .var X⟩) a m R R := by
    intro W' s' X q1 q2
    have q3 : Beyond H H' a m R R := by
      have q2' := q2
      rw [e0] at q2'
      exact q2'.app
    refine ⟨q1.set _ (by omega) (by omega) nR, ⟨by rw [List.length_set]; exact q3.len, fun o ho g1 g2 g3 => by rw [List.getElem?_set_ne (by omega)]; exact q3.oth o ho g1 g2 g3, q3.new⟩⟩
  have x0 : Beyond h0 H' a m R R → H'[H.length]? = some ⟨0, .dead⟩ ∧ H.length < H'.length := fun q => ⟨by rw [q.oth _ (by omega) (by omega) (by omega) nR]; exact d0, by have := q.len; omega⟩
  have z4 : zL.length = 4 := rfl
  refine am15_wp rfl ?_
  rcases hc with ⟨x, hx, rfl, W', q1, q2⟩ | ⟨hx, rfl, q1, q2⟩
  · have hl := x.cs_len
    have kb := Lt.one (h.ok.ok x (List.mem_of_find?_eq_some hx)).1
    obtain ⟨x1, x2⟩ := x0 q2
    have f := fin x.cs q1 q2
    have s4 : setRange zL 0 x.cs = x.cs := sr_all (by rw [hl]; rfl)
    generalize x.cs = X at *
    simp +contextual -implicitDefEqProofs (maxSteps := 10000000) only [sxb, plainD, stays, ↓selV_wt, ↓selV_wf, ↓impB_wt, ↓impB_wf, ↓selV_nor, ↓impB_nor, ↓selV_nt, ↓selV_nf, ↓impB_nt, ↓impB_nf, ↓selV_true, ↓selV_false, ↓selV_and, ↓impB_true, ↓impB_false, ↓impB_and, ↓prim_pick, ↓selV_nn, ↓impB_nn, doOp, get, ins, del, dels, Nat.reduceLT, Nat.reduceEqDiff, ↓reduceIte, reduceCtorEq, ne_eq, implies_true, prim, YLD, mkA, V.cells, Nat.reduceAdd, Nat.reduceSub, Nat.reduceMul, Nat.reduceLeDiff, loadA, cellsAt, nAg, packA, List.drop, List.take, List.head?, binA, unA, eqCells, eqCell, negB, fillA, storeA, Ob.with, indexedI, V.oneCell, intOf?, resA, resA1, packR, sealDepth, Int.reduceLT, Int.reduceLE, Int.reduceToNat, Int.reduceNeg, Int.reduceAdd, Int.reduceSub, Int.reduceMul, cond_true, cond_false, Int.reduceBNe, Int.reduceBEq, eq_self, deads, List.replicate, argsF, am15, e0', c13, x1, List.getElem?_set_self, List.length_set, x2, List.set_set, kb, hl, s4, z4]
    exact .inl ⟨x, hx, W', f⟩
  · obtain ⟨x1, x2⟩ := x0 q2
    have f := fin zL q1 q2
    have kb : zL.all V.oneCell = true := rfl
    have s4 : setRange zL 0 zL = zL := rfl
    generalize zL = X at *
    simp +contextual -implicitDefEqProofs (maxSteps := 10000000) only [sxb, plainD, stays, ↓selV_wt, ↓selV_wf, ↓impB_wt, ↓impB_wf, ↓selV_nor, ↓impB_nor, ↓selV_nt, ↓selV_nf, ↓impB_nt, ↓impB_nf, ↓selV_true, ↓selV_false, ↓selV_and, ↓impB_true, ↓impB_false, ↓impB_and, ↓prim_pick, ↓selV_nn, ↓impB_nn, doOp, get, ins, del, dels, Nat.reduceLT, Nat.reduceEqDiff, ↓reduceIte, reduceCtorEq, ne_eq, implies_true, prim, YLD, mkA, V.cells, Nat.reduceAdd, Nat.reduceSub, Nat.reduceMul, Nat.reduceLeDiff, loadA, cellsAt, nAg, packA, List.drop, List.take, List.head?, binA, unA, eqCells, eqCell, negB, fillA, storeA, Ob.with, indexedI, V.oneCell, intOf?, resA, resA1, packR, sealDepth, Int.reduceLT, Int.reduceLE, Int.reduceToNat, Int.reduceNeg, Int.reduceAdd, Int.reduceSub, Int.reduceMul, cond_true, cond_false, Int.reduceBNe, Int.reduceBEq, eq_self, deads, List.replicate, argsF, am15, e0', c13, x1, List.getElem?_set_self, List.length_set, x2, List.set_set, kb, z4, s4]
    exact .inr ⟨hx, f⟩
theorem known_spec {N n : Nat} (hN : 5000 ≤ N) (hn : 20 ≤ n) (h : Heap) : callA am N n 7 [] h = some (.bool true, h) :=
  closed_quick pm7 (show callB am 5000 20 7 [] [] = some (.bool true, []) by kernel_rfl) hN hn h
end Go.Am.T


set_option linter.unusedVariables false
set_option linter.unusedSimpArgs false
set_option linter.unusedSectionVars false
set_option maxRecDepth 10000
namespace Go.Am.T
attribute [local congr] selV_congr impB_congr
theorem send_full {N n : Nat} (hn : 3 ≤ n) {H : Heap} {a m : Nat} {W : V} {R : List Nat} {s : Nt} (h : NetAt H a m W R s) (f t : Int) {b : V} {l : List Int} (hb : By l b) (hl : l.length ≤ 512) (hL : s.L.length = 4096) (gf : nodeB s.nodes f = true) (gt : nodeB s.nodes t = true) (ge : (f == t) = false) :
    ∃ v' H', callA am N n 11 [.ptr a 1 0, .int .i64 f, .int .i64 t, b] H = some (v', H') ∧ v' = .tup [.int .i64 0, .int .i64 5] ∧ NetAt H' a m W R s ∧ Beyond H H' a m R R := by
  obtain ⟨n, rfl⟩ : ∃ m, n = m + 1 := ⟨n - 1, by omega⟩
  obtain ⟨h0, e0⟩ : ∃ h0, h0 = H ++ [(⟨1, .var [.ptr a 1 0]⟩ : Ob)] := ⟨_, rfl⟩
  have n0 : NetAt h0 a m W R s := by rw [e0]; exact h.app _
  have x0 : h0[H.length]? = some ⟨1, .var [.ptr a 1 0]⟩ := by rw [e0, app_get0]; rfl
  have B0 : Beyond H h0 a m R R := by rw [e0]; exact .refl _
  have c28 := @there_spec N n (by omega) _ _ _ _ _ n0.ob
  have c27 := @node_spec N n (by omega) _ _ _ _ _ _ n0.ob x0
  have hlen := hb.len
  have hns := hb.nstr
  have e0' := e0.symm
  have c2 := @cs2 s m W
  have ql := @cs_len s m W
  have hWl := h.row.len
  rw [List.length_map] at hWl
  obtain ⟨v1, v2, v3, v4, v5, v6⟩ := h.row.shape
  have oa := n0.ob
  have kb1 := hb.cells
  have kb2 := hb.one
  have kb3 := hb.njunk
  have kb4 := hb.nagg
  have kb5 := hb.ntup
  have g4 : decide ((s.L.length : Int) ≥ 4096) = true := decide_eq_true (by omega)
  have gl : decide ((l.length : Int) > 512) = false := decide_eq_false (by omega)
  refine am11_wp rfl ?_
  generalize hZ : s.cs m W = Z at *
  simp +contextual -implicitDefEqProofs (maxSteps := 10000000) only [sxb, plainD, stays, ↓selV_wt, ↓selV_wf, ↓impB_wt, ↓impB_wf, ↓selV_nor, ↓impB_nor, ↓selV_nt, ↓selV_nf, ↓impB_nt, ↓impB_nf, ↓selV_true, ↓selV_false, ↓selV_and, ↓impB_true, ↓impB_false, ↓impB_and, ↓prim_pick, ↓selV_nn, ↓impB_nn, doOp, get, ins, del, dels, Nat.reduceLT, Nat.reduceEqDiff, ↓reduceIte, reduceCtorEq, ne_eq, implies_true, prim, YLD, mkA, V.cells, Nat.reduceAdd, Nat.reduceSub, Nat.reduceMul, Nat.reduceLeDiff, loadA, cellsAt, nAg, packA, List.drop, List.take, List.head?, binA, unA, eqCells, eqCell, negB, fillA, storeA, Ob.with, indexedI, V.oneCell, intOf?, resA, resA1, packR, sealDepth, Int.reduceLT, Int.reduceLE, Int.reduceToNat, Int.reduceNeg, Int.reduceAdd, Int.reduceSub, Int.reduceMul, cond_true, cond_false, Int.reduceBNe, Int.reduceBEq, eq_self, deads, List.replicate, argsF, am11, app_get0, app_get, app_set0, app_set, e0', x0, c28, cvP_func, c27, gf, gt, ge, hlen, gl, oa, c2, ql, hWl, g4]
  exact ⟨n0, B0⟩
theorem double_full {N n : Nat} (hn : 3 ≤ n) {H : Heap} {a m : Nat} {W : V} {R : List Nat} {s : Nt} (h : NetAt H a m W R s) (k : Int) {x : Lt} (hf : s.L.find? (fun x => k == x.num) = some x) (hL : s.L.length = 4096) :
    ∃ v' H', callA am N n 12 [.ptr a 1 0, .int .i64 k] H = some (v', H') ∧ v' = .tup [.int .i64 0, .int .i64 5] ∧ NetAt H' a m W R s ∧ Beyond H H' a m R R := by
  obtain ⟨n, rfl⟩ : ∃ m, n = m + 1 := ⟨n - 1, by omega⟩
  have n1 := h.app [(⟨0, .dead⟩ : Ob)]
  have c28 := @there_spec N n (by omega) _ _ _ _ _ n1.ob
  have hg := mget_spec (get := fun o => (H ++ [(⟨0, .dead⟩ : Ob)])[o]?) n1.mp (.agg zL) k
  have oa := n1.ob
  have c1 := @cs1 s m W
  have ql := @cs_len s m W
  rw [hf] at hg
  have hg : mgetA (fun o => (H ++ [(⟨0, .dead⟩ : Ob)])[o]?) false kk (.agg zL) true (.map m 1) (.int .i64 k) = some (.tup [.agg x.cs, .bool true]) := hg
  have hx := List.mem_of_find?_eq_some hf
  obtain ⟨hb, hl⟩ := h.ok.ok x hx
  obtain ⟨h0, e0⟩ : ∃ h0, h0 = H ++ [(⟨1, .var x.cs⟩ : Ob)] := ⟨_, rfl⟩
  have n0 : NetAt h0 a m W R s := by rw [e0]; exact h.app _
  have B0 : Beyond H h0 a m R R := by rw [e0]; exact .refl _
  have x0 : h0[H.length]? = some ⟨1, .var x.cs⟩ := by rw [e0, app_get0]; rfl
  have e0' := e0.symm
  have oa0 := n0.ob
  have c2 := @cs2 s m W
  have hWl := h.row.len
  rw [List.length_map] at hWl
  obtain ⟨v1, v2, v3, v4, v5, v6⟩ := h.row.shape
  have g4 : decide ((s.L.length : Int) ≥ 4096) = true := decide_eq_true (by omega)
  have kb := Lt.one hb
  have xl := x.cs_len
  have sr : ∀ c : List V, c.length = 4 → setRange c 0 x.cs = x.cs := fun c hc => sr_all (by rw [hc, xl])
  refine am12_wp rfl ?_
  generalize hX : x.cs = X at *
  generalize hZ : s.cs m W = Z at *
  have s4 : setRange zL 0 X = X := sr zL rfl
  simp +contextual -implicitDefEqProofs (maxSteps := 10000000) only [sxb, plainD, stays, ↓selV_wt, ↓selV_wf, ↓impB_wt, ↓impB_wf, ↓selV_nor, ↓impB_nor, ↓selV_nt, ↓selV_nf, ↓impB_nt, ↓impB_nf, ↓selV_true, ↓selV_false, ↓selV_and, ↓impB_true, ↓impB_false, ↓impB_and, ↓prim_pick, ↓selV_nn, ↓impB_nn, doOp, get, ins, del, dels, Nat.reduceLT, Nat.reduceEqDiff, ↓reduceIte, reduceCtorEq, ne_eq, implies_true, prim, YLD, mkA, V.cells, Nat.reduceAdd, Nat.reduceSub, Nat.reduceMul, Nat.reduceLeDiff, loadA, cellsAt, nAg, packA, List.drop, List.take, List.head?, binA, unA, eqCells, eqCell, negB, fillA, storeA, Ob.with, indexedI, V.oneCell, intOf?, resA, resA1, packR, sealDepth, Int.reduceLT, Int.reduceLE, Int.reduceToNat, Int.reduceNeg, Int.reduceAdd, Int.reduceSub, Int.reduceMul, cond_true, cond_false, Int.reduceBNe, Int.reduceBEq, eq_self, deads, List.replicate, argsF, am12, app_get0, app_get, app_set0, app_set, c28, oa, c1, ql, hg, kb, xl, s4, e0', oa0, x0, c2, hWl, g4]
  exact ⟨n0, B0⟩
theorem nil_there {N n : Nat} (hn : 1 ≤ n) (H : Heap) : callA am N n 28 [.nilp] H = some (.bool false, H) := by
  obtain ⟨n, rfl⟩ : ∃ m, n = m + 1 := ⟨n - 1, by omega⟩
  refine call_keep_eq at28 rfl rfl (by decide) (sx_wp ?_)
  simp +contextual -implicitDefEqProofs (maxSteps := 10000000) only [sxb, plainD, stays, ↓selV_wt, ↓selV_wf, ↓impB_wt, ↓impB_wf, ↓selV_nor, ↓impB_nor, ↓selV_nt, ↓selV_nf, ↓impB_nt, ↓impB_nf, ↓selV_true, ↓selV_false, ↓selV_and, ↓impB_true, ↓impB_false, ↓impB_and, ↓prim_pick, ↓selV_nn, ↓impB_nn, doOp, get, ins, del, dels, Nat.reduceLT, Nat.reduceEqDiff, ↓reduceIte, reduceCtorEq, ne_eq, implies_true, prim, YLD, mkA, V.cells, Nat.reduceAdd, Nat.reduceSub, Nat.reduceMul, Nat.reduceLeDiff, loadA, cellsAt, nAg, packA, List.drop, List.take, List.head?, binA, unA, eqCells, eqCell, negB, fillA, storeA, Ob.with, indexedI, V.oneCell, intOf?, resA, resA1, packR, sealDepth, Int.reduceLT, Int.reduceLE, Int.reduceToNat, Int.reduceNeg, Int.reduceAdd, Int.reduceSub, Int.reduceMul, cond_true, cond_false, Int.reduceBNe, Int.reduceBEq, eq_self, deads, List.replicate, argsF, am28, isNil, List.append_nil]
theorem same_nil {N n : Nat} (hn : 2 ≤ n) {H : Heap} {a m : Nat} {W : V} {s : Nt} (ho : H[a]? = some ⟨1, .var (s.cs m W)⟩) : callA am N n 20 [.ptr a 1 0, .nilp] H = some (.bool false, H) := by
  obtain ⟨n, rfl⟩ : ∃ m, n = m + 1 := ⟨n - 1, by omega⟩
  have c28 := @there_spec N n (by omega) _ _ _ _ _ ho
  have c28' := @nil_there N n (by omega) H
  have tf : (true == false) = false := rfl
  refine call_keep_eq at20 rfl rfl (by decide) (sx_wp ?_)
  simp +contextual -implicitDefEqProofs (maxSteps := 10000000) only [sxb, plainD, stays, ↓selV_wt, ↓selV_wf, ↓impB_wt, ↓impB_wf, ↓selV_nor, ↓impB_nor, ↓selV_nt, ↓selV_nf, ↓impB_nt, ↓impB_nf, ↓selV_true, ↓selV_false, ↓selV_and, ↓impB_true, ↓impB_false, ↓impB_and, ↓prim_pick, ↓selV_nn, ↓impB_nn, doOp, get, ins, del, dels, Nat.reduceLT, Nat.reduceEqDiff, ↓reduceIte, reduceCtorEq, ne_eq, implies_true, prim, YLD, mkA, V.cells, Nat.reduceAdd, Nat.reduceSub, Nat.reduceMul, Nat.reduceLeDiff, loadA, cellsAt, nAg, packA, List.drop, List.take, List.head?, binA, unA, eqCells, eqCell, negB, fillA, storeA, Ob.with, indexedI, V.oneCell, intOf?, resA, resA1, packR, sealDepth, Int.reduceLT, Int.reduceLE, Int.reduceToNat, Int.reduceNeg, Int.reduceAdd, Int.reduceSub, Int.reduceMul, cond_true, cond_false, Int.reduceBNe, Int.reduceBEq, eq_self, deads, List.replicate, argsF, am20, isNil, List.append_nil, c28, c28', tf, pm28]
theorem same_last {N n : Nat} (hn : 2 ≤ n) {H : Heap} {a m a' m' : Nat} {W W' : V} {s s' : Nt} (ho : H[a]? = some ⟨1, .var (s.cs m W)⟩) (ho' : H[a']? = some ⟨1, .var (s'.cs m' W')⟩) (hne : (s.last == s'.last) = false) : callA am N n 20 [.ptr a 1 0, .ptr a' 1 0] H = some (.bool false, H) := by
  obtain ⟨n, rfl⟩ : ∃ m, n = m + 1 := ⟨n - 1, by omega⟩
  have c28 := @there_spec N n (by omega) _ _ _ _ _ ho
  have c28' := @there_spec N n (by omega) _ _ _ _ _ ho'
  have q0 := @cs0 s m W
  have q3 := @cs3 s m W
  have ql := @cs_len s m W
  have q0' := @cs0 s' m' W'
  have q3' := @cs3 s' m' W'
  have ql' := @cs_len s' m' W'
  refine call_keep_eq at20 rfl rfl (by decide) (sx_wp ?_)
  generalize s.cs m W = Z at *
  generalize s'.cs m' W' = Z' at *
  cases g0 : (s.nodes == s'.nodes) with
  | true => simp +contextual -implicitDefEqProofs (maxSteps := 10000000) only [sxb, plainD, stays, ↓selV_wt, ↓selV_wf, ↓impB_wt, ↓impB_wf, ↓selV_nor, ↓impB_nor, ↓selV_nt, ↓selV_nf, ↓impB_nt, ↓impB_nf, ↓selV_true, ↓selV_false, ↓selV_and, ↓impB_true, ↓impB_false, ↓impB_and, ↓prim_pick, ↓selV_nn, ↓impB_nn, doOp, get, ins, del, dels, Nat.reduceLT, Nat.reduceEqDiff, ↓reduceIte, reduceCtorEq, ne_eq, implies_true, prim, YLD, mkA, V.cells, Nat.reduceAdd, Nat.reduceSub, Nat.reduceMul, Nat.reduceLeDiff, loadA, cellsAt, nAg, packA, List.drop, List.take, List.head?, binA, unA, eqCells, eqCell, negB, fillA, storeA, Ob.with, indexedI, V.oneCell, intOf?, resA, resA1, packR, sealDepth, Int.reduceLT, Int.reduceLE, Int.reduceToNat, Int.reduceNeg, Int.reduceAdd, Int.reduceSub, Int.reduceMul, cond_true, cond_false, Int.reduceBNe, Int.reduceBEq, eq_self, deads, List.replicate, argsF, am20, sx_drawd, reachC_nil, wpd_nil, wpd_cons, wpd_gt, wpd_gf, wpd_gu, wdK_def, fpOf, fpV, fpCall, Fp.ok, okT_of, okT_rd_io, okT_rd_call, okT_rd_bar, tagP_io, tagP_bar, tagP_call, tagF, AOp.rds, disj, List.contains_cons, List.contains_nil, Nat.reduceBEq, List.all_append, V.objsL, V.objs,  List.getD_cons_zero, List.getD_cons_succ, List.append_nil, isNil, List.append_nil, c28, c28', ho, ho', q0, q3, ql, q0', q3', ql', g0, hne, pm28, pm41, pm42, pm43]
  | false => simp +contextual -implicitDefEqProofs (maxSteps := 10000000) only [sxb, plainD, stays, ↓selV_wt, ↓selV_wf, ↓impB_wt, ↓impB_wf, ↓selV_nor, ↓impB_nor, ↓selV_nt, ↓selV_nf, ↓impB_nt, ↓impB_nf, ↓selV_true, ↓selV_false, ↓selV_and, ↓impB_true, ↓impB_false, ↓impB_and, ↓prim_pick, ↓selV_nn, ↓impB_nn, doOp, get, ins, del, dels, Nat.reduceLT, Nat.reduceEqDiff, ↓reduceIte, reduceCtorEq, ne_eq, implies_true, prim, YLD, mkA, V.cells, Nat.reduceAdd, Nat.reduceSub, Nat.reduceMul, Nat.reduceLeDiff, loadA, cellsAt, nAg, packA, List.drop, List.take, List.head?, binA, unA, eqCells, eqCell, negB, fillA, storeA, Ob.with, indexedI, V.oneCell, intOf?, resA, resA1, packR, sealDepth, Int.reduceLT, Int.reduceLE, Int.reduceToNat, Int.reduceNeg, Int.reduceAdd, Int.reduceSub, Int.reduceMul, cond_true, cond_false, Int.reduceBNe, Int.reduceBEq, eq_self, deads, List.replicate, argsF, am20, sx_drawd, reachC_nil, wpd_nil, wpd_cons, wpd_gt, wpd_gf, wpd_gu, wdK_def, fpOf, fpV, fpCall, Fp.ok, okT_of, okT_rd_io, okT_rd_call, okT_rd_bar, tagP_io, tagP_bar, tagP_call, tagF, AOp.rds, disj, List.contains_cons, List.contains_nil, Nat.reduceBEq, List.all_append, V.objsL, V.objs,  List.getD_cons_zero, List.getD_cons_succ, List.append_nil, isNil, List.append_nil, c28, c28', ho, ho', q0, q3, ql, q0', q3', ql', g0, hne, pm28, pm41, pm42, pm43]
end Go.Am.T


set_option linter.unusedVariables false
set_option linter.unusedSimpArgs false
set_option linter.unusedSectionVars false
set_option maxRecDepth 10000
namespace Go.Am.T
attribute [local congr] selV_congr impB_congr
theorem look_at {N n : Nat} {f : FuncId} {fn : AFunc} {args args' : List V} {v : V} {H : Heap} (hf : am[f]? = some (some fn)) (hm : fn.mode = .look) (hs : args.mapM (V.shut (fun o => H[o]?) sealDepth) = some args') (hfr : V.freeL args' = true)
    (hc : callA am N (n + 1) f args' [] = some (v, [])) (hy : f ≠ YLD := by decide) : callA am N (n + 1) f args H = some (v, H) := by
  have hs' : args'.mapM (V.shut (fun o => ([] : Heap)[o]?) sealDepth) = some args' := mapM_shut_id (d := 63) hfr
  have hl : args'.length = args.length := (mapM_get hs).1
  unfold callA at hc ⊢
  rw [if_neg hy] at hc ⊢
  simp only [hf, hm, hs', hl] at hc
  simp only [hf, hm, hs]
  split at hc
  · rename_i hl'
    rw [if_pos hl']
    revert hc
    cases bodyA am (callA am N n) N 0 fn args' (deads fn.sites) with
    | none => exact fun hc => (by cases hc)
    | some p =>
      obtain ⟨x, k⟩ := p
      simp only
      cases x.plain with
      | true => intro hc; cases hc; rfl
      | false => intro hc; cases hc
  · cases hc
theorem nothing_nil {N n : Nat} (hN : 5000 ≤ N) (hn : 20 ≤ n) (H : Heap) : callA am N n 22 [.nilp] H = some (.bool true, H) := by
  obtain ⟨n, rfl⟩ : ∃ m, n = m + 1 := ⟨n - 1, by omega⟩
  have q : callA am 5000 20 22 [.nilp] [] = some (.bool true, []) := call_B am 5000 20 22 [.nilp] [] _ (by kernel_rfl)
  refine look_at at22 rfl (args' := [.nilp]) rfl rfl ?_
  exact callA_mono am hn hN _ _ _ _ q
theorem nothing_zero {N n : Nat} (hN : 5000 ≤ N) (hn : 20 ≤ n) {H : Heap} {o ver : Nat} (ho : H[o]? = some ⟨ver, .var [.int .i64 0, .nilm, .nils, .int .i64 0]⟩) : callA am N n 22 [.ptr o ver 0] H = some (.bool true, H) := by
  obtain ⟨n, rfl⟩ : ∃ m, n = m + 1 := ⟨n - 1, by omega⟩
  have q : callA am 5000 20 22 [.iptr [.int .i64 0, .nilm, .nils, .int .i64 0] 0] [] = some (.bool true, []) := call_B am 5000 20 22 _ [] _ (by kernel_rfl)
  refine look_at at22 rfl (args' := [.iptr [.int .i64 0, .nilm, .nils, .int .i64 0] 0]) ?_ rfl ?_
  · have e : V.shut (fun o => H[o]?) sealDepth (.ptr o ver 0) = match cellsAt (fun o => H[o]?) o ver with
      | some all => (all.mapM (V.shut (fun o => H[o]?) 63)).map fun cs => .iptr cs 0
      | none => none := rfl
    rw [List.mapM_cons, e]
    simp only [cellsAt, ho, ↓reduceIte]
    rfl
  · exact callA_mono am hn hN _ _ _ _ q
end Go.Am.T


set_option linter.unusedVariables false
set_option linter.unusedSimpArgs false
set_option linter.unusedSectionVars false
set_option maxRecDepth 10000
namespace Go.Am.T
attribute [local congr] selV_congr impB_congr
theorem clean_am : cleanP am = true := by kernel_rfl
theorem am46_wp {N n : Nat} {args : List V} {h h' : Heap} {v : V} (ha : args.length = 1) (hfr : V.freeL args = false) (H : sx ⟨pureOf am, callA am N n, N, h.length⟩ am46.body (fr am46.nt (argsF 0 args)) (h ++ deads am46.sites) (retQ am46.res fun x k => x = v ∧ k = h')) : callA am N (n + 1) 46 args h = some (v, h') := by
  obtain ⟨v1, h1, hb, rfl, rfl⟩ := body_of_wp (by rw [ha]; decide) (sx_wp H)
  unfold callA
  rw [if_neg (by decide)]
  simp only [at46, ha]
  have hm : am46.mode = .auto := rfl
  have hn : am46.nargs = 1 := rfl
  simp only [hm, hn, hfr, ↓reduceIte, hb]
  rfl
theorem clone_view {N n : Nat} (hn : 1 ≤ n) {H : Heap} {o ver : Nat} {cap : Option Nat} {l : List Int} (ho : H[o]? = some ⟨ver, .arr (l.map (V.int .u8))⟩) (h0 : 0 < l.length) (h1 : l.length ≤ 1000) :
    callA am N n 46 [.view o ver 0 l.length 1 cap] H = some (.view (H.length + 1) 1 0 l.length 1 none, H ++ [⟨1, .arr []⟩, ⟨1, .arr (l.map (V.int .u8))⟩]) := by
  obtain ⟨n, rfl⟩ : ∃ m, n = m + 1 := ⟨n - 1, by omega⟩
  have hol := lt_of_get ho
  have hap : appendA (fun p => (H ++ [(⟨1, .arr []⟩ : Ob), ⟨0, .dead⟩])[p]?) (H.length + 1) 1 1 (.view H.length 1 0 0 1 (some 0)) (.view o ver 0 l.length 1 cap) = some (.set (H.length + 1) ⟨1, .arr (l.map (V.int .u8))⟩ (.view (H.length + 1) 1 0 l.length 1 none)) := by
    have hfst : firstA (fun p => (H ++ [(⟨1, .arr []⟩ : Ob), ⟨0, .dead⟩])[p]?) 1 l.length (.view o ver 0 l.length 1 cap) = some (l.map (V.int .u8)) := by
      simp only [firstA, ↓reduceIte, Nat.le_refl, loadA, cellsAt, List.getElem?_append_left hol, ho, Nat.mul_one, List.length_map, Nat.zero_add, List.drop_zero]
      rw [List.take_of_length_le (by simp)]
    have hall : (l.map (V.int .u8)).all V.oneCell = true := allOne_ints _ _
    unfold appendA
    simp only [lenA_view, hfst, hall, ↓reduceIte, cellsAt, app_get0, List.getElem?_cons_zero]
    have : (0 + l.length) * 1 ≤ maxBytes := by unfold maxBytes; omega
    rw [if_neg (by omega), if_pos (by simp), if_neg (by omega), if_pos this]
    simp only [mkA, app_get, List.getElem?_cons_succ, List.getElem?_cons_zero]
    simp
  refine am46_wp rfl rfl ?_
  simp +contextual -implicitDefEqProofs (maxSteps := 10000000) only [sxb, plainD, stays, ↓selV_wt, ↓selV_wf, ↓impB_wt, ↓impB_wf, ↓selV_nor, ↓impB_nor, ↓selV_nt, ↓selV_nf, ↓impB_nt, ↓impB_nf, ↓selV_true, ↓selV_false, ↓selV_and, ↓impB_true, ↓impB_false, ↓impB_and, ↓prim_pick, ↓selV_nn, ↓impB_nn, doOp, get, ins, del, dels, Nat.reduceLT, Nat.reduceEqDiff, ↓reduceIte, reduceCtorEq, ne_eq, implies_true, prim, YLD, mkA, V.cells, Nat.reduceAdd, Nat.reduceSub, Nat.reduceMul, Nat.reduceLeDiff, loadA, cellsAt, nAg, packA, List.drop, List.take, List.head?, binA, unA, eqCells, eqCell, negB, fillA, storeA, Ob.with, indexedI, V.oneCell, intOf?, resA, resA1, packR, sealDepth, Int.reduceLT, Int.reduceLE, Int.reduceToNat, Int.reduceNeg, Int.reduceAdd, Int.reduceSub, Int.reduceMul, cond_true, cond_false, Int.reduceBNe, Int.reduceBEq, eq_self, deads, List.replicate, argsF, am46, isNil, List.range_zero, app_get0, app_get, app_set0, app_set, hap]
theorem clone_framed {N n : Nat} (hn : 1 ≤ n) {H : Heap} {o ver : Nat} {cap : Option Nat} {l : List Int} (ho : H[o]? = some ⟨ver, .arr (l.map (V.int .u8))⟩) (h0 : 0 < l.length) (h1 : l.length ≤ 1000) :
    frameC (pureOf am) (callA am N n) 46 [.view o ver 0 l.length 1 cap] H = some (.view (H.length + 1) 1 0 l.length 1 none, H ++ [⟨1, .arr []⟩, ⟨1, .arr (l.map (V.int .u8))⟩]) := by
  have hol := lt_of_get ho
  have hk : (keepOnly [o] H)[o]? = some ⟨ver, .arr (l.map (V.int .u8))⟩ := by rw [keepOnly_get, ho]; simp
  have hc := @clone_view N n hn (keepOnly [o] H) o ver cap l hk h0 h1
  rw [keepOnly_length] at hc
  have hno : (Bd.arr (l.map (V.int .u8))).objs = [] := objsL_ints _ _
  have hR : reachC H (V.objsL [.view o ver 0 l.length 1 cap]) = [o] := by
    refine reachC_own (l := [o]) fun p hp y hy i hi => ?_
    obtain rfl : p = o := by simpa using hp
    rw [ho] at hy
    cases hy
    rw [hno] at hi
    cases hi
  obtain ⟨e1, e2⟩ := frame_all clean_am (m := .auto) pm46 (.inr rfl) hR (fun p hp y hy => by
    obtain rfl : p = o := by simpa using hp
    rw [ho] at hy
    cases hy
    exact ⟨fun i hi => (by rw [hno] at hi; cases hi), rfl⟩) hc
  generalize hT : [(⟨1, .arr []⟩ : Ob), ⟨1, .arr (l.map (V.int .u8))⟩] = T at *
  suffices key : mergeH [o] H (keepOnly [o] H ++ T) = H ++ T by rw [e1, key]
  apply List.ext_getElem?
  intro p
  rw [mergeH_get]
  rcases Nat.lt_or_ge p H.length with hp | hp
  · rw [List.getElem?_append_left (by rw [keepOnly_length]; exact hp), List.getElem?_append_left hp, keepOnly_get, List.getElem?_eq_getElem hp]
    simp only [Option.map_some, inside]
    by_cases hpo : p = o
    · subst hpo; simp
    · simp [hpo, Nat.not_le.2 hp, List.getD_eq_getElem?_getD, hp]
  · rw [List.getElem?_append_right (by rw [keepOnly_length]; exact hp), List.getElem?_append_right hp, keepOnly_length]
    cases hq : T[p - H.length]? with
    | none => rfl
    | some x => simp [inside, hp]
end Go.Am.T


set_option linter.unusedVariables false
set_option linter.unusedSimpArgs false
set_option linter.unusedSectionVars false
set_option maxRecDepth 10000
namespace Go.Am.T
attribute [local congr] selV_congr impB_congr
set_option maxHeartbeats 1000000 in
theorem put_view {N n : Nat} (hn : 2 ≤ n) {H : Heap} {a m : Nat} {W : V} {R : List Nat} {s : Nt} (h : NetAt H a m W R s) (k0 fr to : Int) {o ver : Nat} {cap : Option Nat} {l : List Int} (ho : H[o]? = some ⟨ver, .arr (l.map (V.int .u8))⟩) (hoa : o ≠ a) (h0l : 0 < l.length) (hl : l.length ≤ 512) (hL : s.L.length ≤ 4095) (hla : s.last ≤ 99999) :
    ∃ v' H', callA am N n 29 [.ptr a 1 0, .agg [.int .i64 k0, .int .i64 fr, .int .i64 to, .view o ver 0 l.length 1 cap]] H = some (v', H') ∧ v' = .int .i64 (s.last + 1) ∧ H.length ≤ H'.length ∧ (∃ W' s', H'[a]? = some ⟨1, .var (Nt.cs s' m W')⟩) := by
  obtain ⟨n, rfl⟩ : ∃ m, n = m + 1 := ⟨n - 1, by omega⟩
  obtain ⟨b, eb⟩ : ∃ b, b = V.view o ver 0 l.length 1 cap := ⟨_, rfl⟩
  have hol := lt_of_get ho
  have hal := h.lta
  have hml := h.ltm
  have nn := h.ok.nn
  obtain ⟨h0, e0⟩ : ∃ h0, h0 = H ++ [(⟨1, .var [.int .i64 k0, .int .i64 fr, .int .i64 to, b]⟩ : Ob), ⟨0, .dead⟩] := ⟨_, rfl⟩
  have l0 : h0.length = H.length + 2 := by rw [e0]; simp
  have n0 : NetAt h0 a m W R s := by rw [e0]; exact h.app _
  have x0 : h0[H.length]? = some ⟨1, .var [.int .i64 k0, .int .i64 fr, .int .i64 to, b]⟩ := by rw [e0, app_get0]; rfl
  have d0 : h0[H.length + 1]? = some ⟨0, .dead⟩ := by rw [e0, app_get]; rfl
  have ho0 : h0[o]? = some ⟨ver, .arr (l.map (V.int .u8))⟩ := by rw [e0, List.getElem?_append_left hol]; exact ho
  have e0' := e0.symm
  have nba : H.length ≠ a := by omega
  have nbm : H.length ≠ m := by omega
  have nab : a ≠ H.length := by omega
  have nmb : m ≠ H.length := by omega
  have nam := h.ne
  have nma : m ≠ a := Ne.symm h.ne
  have al0 : a < h0.length := by omega
  have hw : IntKind.i64.wrap (s.last + 1) = s.last + 1 := wrap64 (by omega) (by omega)
  -- the number is laid
  obtain ⟨hA, eA⟩ : ∃ hA, hA = h0.set a ⟨1, .var (Nt.cs { s with last := s.last + 1 } m W)⟩ := ⟨_, rfl⟩
  have eA' := eA.symm
  have lA : hA.length = H.length + 2 := by rw [eA, List.length_set, l0]
  have ga : hA[a]? = some ⟨1, .var (Nt.cs { s with last := s.last + 1 } m W)⟩ := by rw [eA, List.getElem?_set_self al0]
  have gb : hA[H.length]? = some ⟨1, .var [.int .i64 k0, .int .i64 fr, .int .i64 to, b]⟩ := by rw [eA, List.getElem?_set_ne nab]; exact x0
  have go : hA[o]? = some ⟨ver, .arr (l.map (V.int .u8))⟩ := by rw [eA, List.getElem?_set_ne (Ne.symm hoa)]; exact ho0
  have f46 : ∀ fb, ({ pureF := pureOf am, call := callA am N n, N := N, fb := fb } : Env).framed.call 46 [b] hA = some (.view (hA.length + 1) 1 0 l.length 1 none, hA ++ [⟨1, .arr []⟩, ⟨1, .arr (l.map (V.int .u8))⟩]) := fun fb => by
    rw [eb]; exact clone_framed (by omega) go h0l (by omega)
  have hR46 : reachC hA [o] = [o] := by
    refine reachC_own (l := [o]) fun p hp y hy i hi => ?_
    obtain rfl : p = o := by simpa using hp
    rw [go] at hy
    cases hy
    have hno : (Bd.arr (l.map (V.int .u8))).objs = [] := objsL_ints _ _
    rw [hno] at hi
    cases hi
  have hobb : b.objs = [o] := by rw [eb]; rfl
  generalize hb' : V.view (hA.length + 1) 1 0 l.length 1 none = b' at *
  have k1 : b'.cells = [b'] := by rw [← hb']; rfl
  have k2 : b'.oneCell = true := by rw [← hb']; rfl
  have k3 : b' ≠ .junk := by rw [← hb']; exact V.noConfusion
  have k5 : ∀ s, b' ≠ .agg s := by rw [← hb']; exact fun _ => V.noConfusion
  have k6 : ∀ s, b' ≠ .tup s := by rw [← hb']; exact fun _ => V.noConfusion
  have kb1 : b.cells = [b] := by rw [eb]; rfl
  have kb2 : b.oneCell = true := by rw [eb]; rfl
  have kb3 : b ≠ .junk := by rw [eb]; exact V.noConfusion
  have kb4 : ∀ s, b ≠ .agg s := by rw [eb]; exact fun _ => V.noConfusion
  have kb5 : ∀ s, b ≠ .tup s := by rw [eb]; exact fun _ => V.noConfusion
  -- behind the clone
  obtain ⟨hB, eB⟩ : ∃ hB, hB = hA ++ [(⟨1, .arr []⟩ : Ob), ⟨1, .arr (l.map (V.int .u8))⟩] := ⟨_, rfl⟩
  have eB' := eB.symm
  have kB : ∀ p, p < H.length + 2 → hB[p]? = hA[p]? := fun p hp => by rw [eB, List.getElem?_append_left (by omega)]
  have lB : hB.length = H.length + 4 := by rw [eB]; simp [lA]
  have ba : hB[a]? = some ⟨1, .var (Nt.cs { s with last := s.last + 1 } m W)⟩ := by rw [kB a (by omega)]; exact ga
  have bb : hB[H.length]? = some ⟨1, .var [.int .i64 k0, .int .i64 fr, .int .i64 to, b]⟩ := by rw [kB _ (by omega)]; exact gb
  have bl : H.length < hB.length := by omega
  obtain ⟨h4, e4⟩ : ∃ h4, h4 = (hB.set H.length ⟨1, .var [.int .i64 (s.last + 1), .int .i64 fr, .int .i64 to, b']⟩).set m ⟨1, .map (s.L.map Lt.e ++ [(.int .i64 (s.last + 1), .agg [.int .i64 (s.last + 1), .int .i64 fr, .int .i64 to, b'])])⟩ := ⟨_, rfl⟩
  have e4' := e4.symm
  have l4 : h4.length = H.length + 4 := by rw [e4]; simp [lB]
  have g4a : h4[a]? = some ⟨1, .var (Nt.cs { s with last := s.last + 1 } m W)⟩ := by
    rw [e4, List.getElem?_set_ne nma, List.getElem?_set_ne nba, ba]
  have k4 : ∀ o, o < H.length + 2 → o ≠ a → o ≠ m → o ≠ H.length → h4[o]? = h0[o]? := fun o hlt h1 h2 h3 => by
    rw [e4, List.getElem?_set_ne (Ne.symm h2), List.getElem?_set_ne (Ne.symm h3), kB o hlt, eA, List.getElem?_set_ne (Ne.symm h1)]
  have hRl : ∀ o ∈ R, o < H.length := h.row.lt
  have row4 : IRow h4 W (s.L.map Lt.num) R := n0.row.keep fun o ho => k4 o (by have := hRl o ho; omega) (fun e => h.na (e ▸ ho)) (fun e => h.nm (e ▸ ho)) (by have := hRl o ho; omega)
  have d4 : h4[H.length + 1]? = some ⟨0, .dead⟩ := by rw [k4 _ (by omega) (by omega) (by omega) (by omega)]; exact d0
  obtain ⟨o1, y, W', hAp, hrow, ho1, hol1⟩ := row4.append (n := s.last + 1) d4 (by simp; omega)
  have hmp : ∀ v, mputA (fun o => (List.set hB H.length ⟨1, .var [.int .i64 (s.last + 1), .int .i64 fr, .int .i64 to, b']⟩)[o]?) false [.i .i64] (.map m 1) (.int .i64 (s.last + 1)) v = some (.set m ⟨1, .map (s.L.map Lt.e ++ [(.int .i64 (s.last + 1), v)])⟩ (.tup [])) := fun v =>
    mput_spec (by show (List.set hB H.length _)[m]? = _; rw [List.getElem?_set_ne nbm, kB m (by omega), eA, List.getElem?_set_ne nam]; exact n0.mp) _ v (fun x hx => by have := (h.ok.pos x hx).2; omega)
  have noa : o1 ≠ a := by
    rcases ho1 with rfl | ho1
    · omega
    · intro e; subst e; exact h.na ho1
  have g5a : (h4.set o1 y)[a]? = some ⟨1, .var (Nt.cs { s with last := s.last + 1 } m W)⟩ := by rw [List.getElem?_set_ne noa]; exact g4a
  obtain ⟨w1, w2, w3, w4, w5, w6⟩ := hrow.shape
  obtain ⟨v1, v2, v3, v4, v5, v6⟩ := h.row.shape
  have a5l : a < (h4.set o1 y).length := by simp; omega
  have a4l : a < h4.length := by omega
  have oa := n0.ob
  have r1 : List.range 1 = [0] := rfl
  have wr : ∀ k, wrapV [V.int .i64 k] = .int .i64 k := fun _ => rfl
  have c3 := @cs3 s m W
  have c3' := @cs3 { s with last := s.last + 1 } m W
  have c1' := @cs1 { s with last := s.last + 1 } m W
  have c2' := @cs2 { s with last := s.last + 1 } m W
  have s3 := @cs_set3 s m W (s.last + 1)
  have s2 := @cs_set2 { s with last := s.last + 1 } m W W'
  have c3'' := @cs3 { s with last := s.last + 1 } m W'
  have ql := @cs_len s m W
  have ql' := @cs_len { s with last := s.last + 1 } m W
  have ql'' := @cs_len { s with last := s.last + 1 } m W'
  rw [← eb]
  refine am29_wp rfl ?_
  generalize hX : Nt.cs { s with last := s.last + 1 } m W' = X at *
  generalize hY : Nt.cs { s with last := s.last + 1 } m W = Y at *
  generalize hZ : s.cs m W = Z at *
  simp +contextual -implicitDefEqProofs (maxSteps := 10000000) only [sxb, plainD, stays, ↓selV_wt, ↓selV_wf, ↓impB_wt, ↓impB_wf, ↓selV_nor, ↓impB_nor, ↓selV_nt, ↓selV_nf, ↓impB_nt, ↓impB_nf, ↓selV_true, ↓selV_false, ↓selV_and, ↓impB_true, ↓impB_false, ↓impB_and, ↓prim_pick, ↓selV_nn, ↓impB_nn, doOp, get, ins, del, dels, Nat.reduceLT, Nat.reduceEqDiff, ↓reduceIte, reduceCtorEq, ne_eq, implies_true, prim, YLD, mkA, V.cells, Nat.reduceAdd, Nat.reduceSub, Nat.reduceMul, Nat.reduceLeDiff, loadA, cellsAt, nAg, packA, List.drop, List.take, List.head?, binA, unA, eqCells, eqCell, negB, fillA, storeA, Ob.with, indexedI, V.oneCell, intOf?, resA, resA1, packR, sealDepth, Int.reduceLT, Int.reduceLE, Int.reduceToNat, Int.reduceNeg, Int.reduceAdd, Int.reduceSub, Int.reduceMul, cond_true, cond_false, Int.reduceBNe, Int.reduceBEq, eq_self, deads, List.replicate, argsF, am29, sx_drawd, reachC_nil, wpd_nil, wpd_cons, wpd_gt, wpd_gf, wpd_gu, wdK_def, fpOf, fpV, fpCall, Fp.ok, okT_of, okT_rd_io, okT_rd_call, okT_rd_bar, tagP_io, tagP_bar, tagP_call, tagF, AOp.rds, disj, List.contains_cons, List.contains_nil, Nat.reduceBEq, List.all_append, V.objsL, V.objs,  List.getD_cons_zero, List.getD_cons_succ, List.append_nil, app_get0, app_get, app_set0, app_set, e0', oa, x0, c3, s3, ql, hw, eA', ga, gb, List.getElem?_set_self, al0, List.getElem?_set_ne, nab, nba, nam, nma, nmb, nbm, List.length_set, List.set_set, f46, hobb, hR46, pm46, eB', ba, bb, bl, ql', c3', c1', c2', hmp, e4', r1, wr, hAp, g4a, g5a, kb1, kb2, k1, k2, w1, w2, s2, a4l, ql'', c3'', -List.drop, -List.take]
  exact ⟨by simpa using hoa, by omega, W', _, by rw [hX]⟩
theorem send_view {N n : Nat} (hn : 3 ≤ n) {H : Heap} {a m : Nat} {W : V} {R : List Nat} {s : Nt} (h : NetAt H a m W R s) (f t : Int) {o ver : Nat} {cap : Option Nat} {l : List Int} (ho : H[o]? = some ⟨ver, .arr (l.map (V.int .u8))⟩) (hoa : o ≠ a) (h0l : 0 < l.length) (hl : l.length ≤ 512) (hL : s.L.length ≤ 4095) (hla : s.last ≤ 99999) (gf : nodeB s.nodes f = true) (gt : nodeB s.nodes t = true) (ge : (f == t) = false) :
    ∃ v' H', callA am N n 11 [.ptr a 1 0, .int .i64 f, .int .i64 t, .view o ver 0 l.length 1 cap] H = some (v', H') ∧ v' = .tup [.int .i64 (s.last + 1), .int .i64 0] ∧ H.length ≤ H'.length ∧ (∃ W' s', H'[a]? = some ⟨1, .var (Nt.cs s' m W')⟩) := by
  obtain ⟨n, rfl⟩ : ∃ m, n = m + 1 := ⟨n - 1, by omega⟩
  have hol := lt_of_get ho
  obtain ⟨h0, e0⟩ : ∃ h0, h0 = H ++ [(⟨1, .var [.ptr a 1 0]⟩ : Ob)] := ⟨_, rfl⟩
  have n0 : NetAt h0 a m W R s := by rw [e0]; exact h.app _
  have x0 : h0[H.length]? = some ⟨1, .var [.ptr a 1 0]⟩ := by rw [e0, app_get0]; rfl
  have ho0 : h0[o]? = some ⟨ver, .arr (l.map (V.int .u8))⟩ := by rw [e0, List.getElem?_append_left hol]; exact ho
  have l0 : h0.length = H.length + 1 := by rw [e0]; simp
  have c28 := @there_spec N n (by omega) _ _ _ _ _ n0.ob
  have c27 := @node_spec N n (by omega) _ _ _ _ _ _ n0.ob x0
  have e0' := e0.symm
  have c2 := @cs2 s m W
  have ql := @cs_len s m W
  have hWl := h.row.len
  rw [List.length_map] at hWl
  obtain ⟨v1, v2, v3, v4, v5, v6⟩ := h.row.shape
  have oa := n0.ob
  have g4 : decide ((s.L.length : Int) ≥ 4096) = false := decide_eq_false (by omega)
  have gl : decide ((l.length : Int) > 512) = false := decide_eq_false (by omega)
  obtain ⟨v', H', c29, rfl, hle, hob⟩ := @put_view N n (by omega) _ _ _ _ _ _ n0 0 f t _ _ cap _ ho0 hoa h0l hl hL hla
  refine am11_wp rfl ?_
  generalize hZ : s.cs m W = Z at *
  simp +contextual -implicitDefEqProofs (maxSteps := 10000000) only [sxb, plainD, stays, ↓selV_wt, ↓selV_wf, ↓impB_wt, ↓impB_wf, ↓selV_nor, ↓impB_nor, ↓selV_nt, ↓selV_nf, ↓impB_nt, ↓impB_nf, ↓selV_true, ↓selV_false, ↓selV_and, ↓impB_true, ↓impB_false, ↓impB_and, ↓prim_pick, ↓selV_nn, ↓impB_nn, doOp, get, ins, del, dels, Nat.reduceLT, Nat.reduceEqDiff, ↓reduceIte, reduceCtorEq, ne_eq, implies_true, prim, YLD, mkA, V.cells, Nat.reduceAdd, Nat.reduceSub, Nat.reduceMul, Nat.reduceLeDiff, loadA, cellsAt, nAg, packA, List.drop, List.take, List.head?, binA, unA, eqCells, eqCell, negB, fillA, storeA, Ob.with, indexedI, V.oneCell, intOf?, resA, resA1, packR, sealDepth, Int.reduceLT, Int.reduceLE, Int.reduceToNat, Int.reduceNeg, Int.reduceAdd, Int.reduceSub, Int.reduceMul, cond_true, cond_false, Int.reduceBNe, Int.reduceBEq, eq_self, deads, List.replicate, argsF, am11, app_get0, app_get, app_set0, app_set, e0', x0, c28, cvP_func, c27, gf, gt, ge, lenA_view, gl, oa, c2, ql, hWl, g4, c29]
  exact ⟨by omega, hob⟩
end Go.Am.T


set_option linter.unusedVariables false
set_option linter.unusedSimpArgs false
set_option linter.unusedSectionVars false
set_option maxRecDepth 10000
namespace Go.Am.T
attribute [local congr] selV_congr impB_congr
theorem new_two {N n : Nat} (hn : 1 ≤ n) (H : Heap) : callA am N n 9 [.int .i64 2] H = some (.tup [.ptr (H.length + 1) 1 0, .int .i64 0], H ++ [⟨1, .map []⟩, ⟨1, .var [.int .i64 2, .map H.length 1, .nils, .int .i64 0]⟩]) := by
  obtain ⟨n, rfl⟩ : ∃ m, n = m + 1 := ⟨n - 1, by omega⟩
  have g1 : decide ((2 : Int) < 1) = false := rfl
  have g2 : decide ((2 : Int) > 8) = false := rfl
  refine am9_wp rfl ?_
  simp +contextual -implicitDefEqProofs (maxSteps := 10000000) only [sxb, plainD, stays, ↓selV_wt, ↓selV_wf, ↓impB_wt, ↓impB_wf, ↓selV_nor, ↓impB_nor, ↓selV_nt, ↓selV_nf, ↓impB_nt, ↓impB_nf, ↓selV_true, ↓selV_false, ↓selV_and, ↓impB_true, ↓impB_false, ↓impB_and, ↓prim_pick, ↓selV_nn, ↓impB_nn, doOp, get, ins, del, dels, Nat.reduceLT, Nat.reduceEqDiff, ↓reduceIte, reduceCtorEq, ne_eq, implies_true, prim, YLD, mkA, V.cells, Nat.reduceAdd, Nat.reduceSub, Nat.reduceMul, Nat.reduceLeDiff, loadA, cellsAt, nAg, packA, List.drop, List.take, List.head?, binA, unA, eqCells, eqCell, negB, fillA, storeA, Ob.with, indexedI, V.oneCell, intOf?, resA, resA1, packR, sealDepth, Int.reduceLT, Int.reduceLE, Int.reduceToNat, Int.reduceNeg, Int.reduceAdd, Int.reduceSub, Int.reduceMul, cond_true, cond_false, Int.reduceBNe, Int.reduceBEq, eq_self, deads, List.replicate, argsF, am9, g1, g2, app_get0, app_get, app_set0, app_set]
theorem two_at {H : Heap} {a m : Nat} (ha : H[a]? = some ⟨1, .var [.int .i64 2, .map m 1, .nils, .int .i64 0]⟩) (hm : H[m]? = some ⟨1, .map []⟩) (hne : a ≠ m) : NetAt H a m .nils [] ⟨2, 0, []⟩ :=
  ⟨⟨by simp, .nil, by simp, by simp, by simp, by simp⟩, ha, hm, .inl ⟨rfl, rfl, rfl⟩, hne, by simp, by simp⟩
structure Fil (H : Heap) (W : V) (R : List Nat) (s : Nt) (i : Nat) : Prop where
  net : NetAt H 4 3 W R s
  rn : ∀ o ∈ R, 5 ≤ o
  nod : s.nodes = 2
  las : s.last = (i : Int)
  nums : s.L.map Lt.num = (List.range i).map fun k : Nat => (k : Int) + 1
theorem Fil.len {H : Heap} {W : V} {R : List Nat} {s : Nt} {i : Nat} (h : Fil H W R s i) : s.L.length = i := by
  have := congrArg List.length h.nums
  simpa using this
def FilI (i : Nat) (t : List V) (H : Heap) : Prop := ∃ (W : V) (R : List Nat) (s : Nt), t = Am.fr 102 [(1, .ptr 4 1 0), (3, .int .i64 i)] ∧ i ≤ 4096 ∧ 5 ≤ H.length ∧ H[0]? = some ⟨0, .dead⟩ ∧ H[1]? = some ⟨0, .dead⟩ ∧ H[2]? = some ⟨0, .dead⟩ ∧ Fil H W R s i
theorem am6_wp {N n : Nat} {h : Heap} {v : V}
    (H : sx ⟨pureOf am, callA am N n, N, 0⟩ am6.body (fr am6.nt (argsF 0 [])) (deads am6.sites) (retQ am6.res fun x h' => V.shut (fun o => h'[o]?) sealDepth x = some v)) : callA am N (n + 1) 6 [] h = some (v, h) :=
  call_pure at6 rfl rfl (by decide) rfl (sx_wp H)
theorem by_nil : By [] .nils := .inl ⟨rfl, rfl⟩
set_option maxHeartbeats 4000000 in
theorem full_spec {N n : Nat} (hN : 5000 ≤ N) (hn : 25 ≤ n) (h : Heap) : callA am N n 6 [] h = some (.bool true, h) := by
  obtain ⟨n, rfl⟩ : ∃ m, n = m + 1 := ⟨n - 1, by omega⟩
  have c7 := @known_spec N n (by omega) (by omega)
  have c10 := @num_spec N n (by omega)
  have c9 := @new_two N n (by omega)
  have c9' : callA am N n 9 [.int .i64 2] [⟨0, .dead⟩, ⟨0, .dead⟩, ⟨0, .dead⟩] = some (.tup [.ptr 4 1 0, .int .i64 0], [⟨0, .dead⟩, ⟨0, .dead⟩, ⟨0, .dead⟩, ⟨1, .map []⟩, ⟨1, .var [.int .i64 2, .map 3 1, .nils, .int .i64 0]⟩]) := c9 [⟨0, .dead⟩, ⟨0, .dead⟩, ⟨0, .dead⟩]
  refine am6_wp ?_
  simp +contextual -implicitDefEqProofs (maxSteps := 10000000) only [sxb, plainD, stays, ↓selV_wt, ↓selV_wf, ↓impB_wt, ↓impB_wf, ↓selV_nor, ↓impB_nor, ↓selV_nt, ↓selV_nf, ↓impB_nt, ↓impB_nf, ↓selV_true, ↓selV_false, ↓selV_and, ↓impB_true, ↓impB_false, ↓impB_and, ↓prim_pick, ↓selV_nn, ↓impB_nn, doOp, get, ins, del, dels, Nat.reduceLT, Nat.reduceEqDiff, ↓reduceIte, reduceCtorEq, ne_eq, implies_true, prim, YLD, mkA, V.cells, Nat.reduceAdd, Nat.reduceSub, Nat.reduceMul, Nat.reduceLeDiff, loadA, cellsAt, nAg, packA, List.drop, List.take, List.head?, binA, unA, eqCells, eqCell, negB, fillA, storeA, Ob.with, indexedI, V.oneCell, intOf?, resA, resA1, packR, sealDepth, Int.reduceLT, Int.reduceLE, Int.reduceToNat, Int.reduceNeg, Int.reduceAdd, Int.reduceSub, Int.reduceMul, cond_true, cond_false, Int.reduceBNe, Int.reduceBEq, eq_self, deads, List.replicate, argsF, am6, c9']
  refine sx_loop FilI 4096 (by show 4096 < N; omega) ?_ ?_
  · exact ⟨.nils, [], ⟨2, 0, []⟩, rfl, Nat.zero_le _, by decide, rfl, rfl, rfl, two_at rfl rfl (by decide), by simp, rfl, rfl, rfl⟩
  rintro i t H hi ⟨W, R, s, rfl, hi1, hlen, d0, d1, d2, D⟩
  have w4 : IntKind.i64.wrap ((i : Int) + 1) = ((i + 1 : Nat) : Int) := (wrap64 (by omega) (by omega)).trans (by omega)
  have nB : ∀ k : Int, k = 0 ∨ k = 1 → nodeB s.nodes k = true := fun k hk => by
    unfold nodeB
    rw [D.nod]
    rcases hk with rfl | rfl <;> rfl
  have nR : ∀ k, k < 5 → k ∉ R := fun k hk e => by have := D.rn k e; omega
  have hsl := D.len
  have hlas := D.las
  have e01 : ((0 : Int) == 1) = false := rfl
  by_cases hlt : i < 4096
  · have g1 : decide ((i : Int) < 4096) = true := decide_eq_true (by omega)
    obtain ⟨v', H2, c11, hc⟩ := @send_spec N n (by omega) _ _ _ _ _ _ D.net 0 1 _ _ by_nil (by omega) (by omega)
    have hs : sendB s 0 1 [] = true := by simp [sendB, nB]
    rcases hc with ⟨-, rfl, b', W', R', hb', hN', hB⟩ | ⟨hf, -⟩
    · have g0 : ((0 : Int) != 0) = false := rfl
      have rn2 : ∀ o ∈ R', 5 ≤ o := fun o ho => by
        rcases hB.new o ho with h1 | h1
        · exact D.rn o h1
        · omega
      have hl2 := hB.len
      have D2 : Fil H2 W' R' (s.put 0 1 b' []) (i + 1) := ⟨hN', rn2, D.nod, by simp [Nt.put, hlas], by
        have : (s.put 0 1 b' []).L.map Lt.num = s.L.map Lt.num ++ [s.last + 1] := by simp [Nt.put]
        rw [this, D.nums, List.range_succ, List.map_append, hlas]; rfl⟩
      simp +contextual -implicitDefEqProofs (maxSteps := 10000000) only [sxb, plainD, stays, ↓selV_wt, ↓selV_wf, ↓impB_wt, ↓impB_wf, ↓selV_nor, ↓impB_nor, ↓selV_nt, ↓selV_nf, ↓impB_nt, ↓impB_nf, ↓selV_true, ↓selV_false, ↓selV_and, ↓impB_true, ↓impB_false, ↓impB_and, ↓prim_pick, ↓selV_nn, ↓impB_nn, doOp, get, ins, del, dels, Nat.reduceLT, Nat.reduceEqDiff, ↓reduceIte, reduceCtorEq, ne_eq, implies_true, prim, YLD, mkA, V.cells, Nat.reduceAdd, Nat.reduceSub, Nat.reduceMul, Nat.reduceLeDiff, loadA, cellsAt, nAg, packA, List.drop, List.take, List.head?, binA, unA, eqCells, eqCell, negB, fillA, storeA, Ob.with, indexedI, V.oneCell, intOf?, resA, resA1, packR, sealDepth, Int.reduceLT, Int.reduceLE, Int.reduceToNat, Int.reduceNeg, Int.reduceAdd, Int.reduceSub, Int.reduceMul, cond_true, cond_false, Int.reduceBNe, Int.reduceBEq, eq_self, deads, List.replicate, argsF, g1, c11, c10, pm10, g0, w4]
      exact ⟨hlt, W', R', _, rfl, by omega, by omega, by rw [hB.oth 0 (by omega) (by omega) (by omega) (nR 0 (by omega))]; exact d0, by rw [hB.oth 1 (by omega) (by omega) (by omega) (nR 1 (by omega))]; exact d1, by rw [hB.oth 2 (by omega) (by omega) (by omega) (nR 2 (by omega))]; exact d2, D2⟩
    · rw [hs] at hf; cases hf
  · have hi4 : i = 4096 := by omega
    subst hi4
    have g1 : decide (((4096 : Nat) : Int) < 4096) = false := rfl
    obtain ⟨q, hq⟩ : ∃ q, q = H.length := ⟨_, rfl⟩
    -- two nets more
    obtain ⟨H1, eH1⟩ : ∃ H1, H1 = H ++ [(⟨1, .map []⟩ : Ob), ⟨1, .var [.int .i64 2, .map q 1, .nils, .int .i64 0]⟩] := ⟨_, rfl⟩
    have c9a := c9 H
    rw [← hq, ← eH1] at c9a
    have l1 : H1.length = q + 2 := by rw [eH1, hq]; simp
    obtain ⟨H2, eH2⟩ : ∃ H2, H2 = H1 ++ [(⟨1, .map []⟩ : Ob), ⟨1, .var [.int .i64 2, .map (q + 2) 1, .nils, .int .i64 0]⟩] := ⟨_, rfl⟩
    have c9b := c9 H1
    rw [l1, ← eH2] at c9b
    have l2 : H2.length = q + 4 := by rw [eH2]; simp [l1]
    have k1 : ∀ p, p < q → H2[p]? = H[p]? := fun p hp => by rw [eH2, List.getElem?_append_left (by omega), eH1, List.getElem?_append_left (by omega)]
    have a2 : NetAt H2 (q + 1) q .nils [] ⟨2, 0, []⟩ := two_at (by rw [eH2, List.getElem?_append_left (by omega), eH1, hq, app_get]; rfl) (by rw [eH2, List.getElem?_append_left (by omega), eH1, hq, app_get0]; rfl) (by omega)
    have b2 : H2[q + 3]? = some ⟨1, .var (Nt.cs ⟨2, 0, []⟩ (q + 2) .nils)⟩ := by rw [eH2, show q + 3 = H1.length + 1 by omega, app_get]; rfl
    obtain ⟨v', H3, c11, hc⟩ := @send_spec N n (by omega) _ _ _ _ _ _ a2 0 1 _ _ by_nil (by simp) (by simp)
    have hs2 : sendB ⟨2, 0, []⟩ 0 1 [] = true := by simp [sendB, nodeB]
    rcases hc with ⟨-, rfl, b', W', R', hb', a3, hB3⟩ | ⟨hf, -⟩
    case inr => rw [hs2] at hf; cases hf
    obtain ⟨v4, H4, c15, hc⟩ := @drop_spec N n (by omega) (by omega) _ _ _ _ _ _ a3 1
    have hf1 : (Nt.put ⟨2, 0, []⟩ 0 1 b' []).L.find? (fun x => 1 == x.num) = some ⟨1, 0, 1, b', []⟩ := by simp [Nt.put]
    have l3 := hB3.len
    have rq : ∀ p ∈ R', q + 4 ≤ p := fun p hp => by
      rcases hB3.new p hp with h1 | h1
      · cases h1
      · omega
    obtain ⟨W4, a4, hB4, rfl⟩ : ∃ W4, NetAt H4 (q + 1) q W4 R' (Nt.del (Nt.put ⟨2, 0, []⟩ 0 1 b' []) 1) ∧ Beyond H3 H4 (q + 1) q R' R' ∧ v4 = .int .i64 0 := by
      rcases hc with ⟨x, -, h1, W4, h2, h3⟩ | ⟨h1, -⟩
      · exact ⟨W4, h2, h3, h1⟩
      · rw [hf1] at h1; cases h1
    have l4 := hB4.len
    have b4 : H4[q + 3]? = some ⟨1, .var (Nt.cs ⟨2, 0, []⟩ (q + 2) .nils)⟩ := by
      rw [hB4.oth _ (by omega) (by omega) (by omega) (fun e => by rcases hB3.new _ e with h1 | h1; cases h1; omega), hB3.oth _ (by omega) (by omega) (by omega) (by simp)]
      exact b2
    have c20 := @same_last N n (by omega) _ _ _ _ _ _ _ _ _ a4.ob b4 (by simp [Nt.del, Nt.put])
    have k4 : ∀ p, p < q → H4[p]? = H[p]? := fun p hp => by
      rw [hB4.oth p (by omega) (by omega) (by omega) (fun e => by have := rq p e; omega), hB3.oth p (by omega) (by omega) (by omega) (by simp), k1 p hp]
    have hRl : ∀ o ∈ R, o < q := by rw [hq]; exact D.net.row.lt
    have n4 : NetAt H4 4 3 W R s := D.net.keep (k4 4 (by omega)) (k4 3 (by omega)) (fun o ho => k4 o (hRl o ho))
    -- it is full
    obtain ⟨v5, H5, c11b, rfl, n5, hB5⟩ := @send_full N n (by omega) _ _ _ _ _ _ n4 0 1 _ _ by_nil (by simp) hsl (nB 0 (.inl rfl)) (nB 1 (.inr rfl)) rfl
    obtain ⟨x, hx⟩ : ∃ x, s.L.find? (fun x => (1 : Int) == x.num) = some x := by
      cases hL : s.L with
      | nil => rw [hL] at hsl; simp at hsl
      | cons y L =>
        have h1 := D.nums
        rw [hL, List.range_succ_eq_map, List.map_cons, List.map_cons] at h1
        have h2 : y.num = 1 := by simpa using (List.cons.inj h1).1
        exact ⟨y, by simp [h2]⟩
    obtain ⟨v6, H6, c12, rfl, n6, hB6⟩ := @double_full N n (by omega) _ _ _ _ _ _ n5 1 _ hx hsl
    obtain ⟨v7, H7, c13, hc⟩ := @deliver_spec N n (by omega) (by omega) _ _ _ _ _ _ n6 1
    obtain ⟨W7, n7, hB7, rfl⟩ : ∃ W7, NetAt H7 4 3 W7 R (s.del 1) ∧ Beyond H6 H7 4 3 R R ∧ v7 = .tup [.agg x.cs, .int .i64 0] := by
      rcases hc with ⟨y, h0, h1, W7, h2, h3⟩ | ⟨h1, -⟩
      · rw [hx] at h0
        cases h0
        exact ⟨W7, h2, h3, h1⟩
      · rw [hx] at h1; cases h1
    have l5 := hB5.len
    have l6 := hB6.len
    have l7 := hB7.len
    have k7 : ∀ p, p < 3 → H7[p]? = H[p]? := fun p hp => by
      rw [hB7.oth p (by omega) (by omega) (by omega) (nR p (by omega)), hB6.oth p (by omega) (by omega) (by omega) (nR p (by omega)), hB5.oth p (by omega) (by omega) (by omega) (nR p (by omega)), k4 p (by omega)]
    have e7 : H7[0]? = some ⟨0, .dead⟩ := by rw [k7 0 (by omega)]; exact d0
    have f7 : H7[1]? = some ⟨0, .dead⟩ := by rw [k7 1 (by omega)]; exact d1
    obtain ⟨H8, eH8⟩ : ∃ H8, H8 = H7.set 0 ⟨1, .var x.cs⟩ := ⟨_, rfl⟩
    have eH8' := eH8.symm
    have f8 : H8[1]? = some ⟨0, .dead⟩ := by rw [eH8, List.getElem?_set_ne (by omega)]; exact f7
    obtain ⟨H9, eH9⟩ : ∃ H9, H9 = H8.set 1 ⟨1, .arr ((List.replicate 512 (0 : Int)).map (V.int .u8))⟩ := ⟨_, rfl⟩
    have eH9' := eH9.symm
    have ez : (List.replicate 512 [V.int .u8 0]).flatten = (List.replicate 512 (0 : Int)).map (V.int .u8) := by
      rw [List.map_replicate]
      rfl
    have n9 : NetAt H9 4 3 W7 R (s.del 1) := by
      rw [eH9, eH8]
      exact (n7.set _ (by omega) (by omega) (nR 0 (by omega))).set _ (by omega) (by omega) (nR 1 (by omega))
    have l9 : H9.length = H7.length := by rw [eH9, eH8]; simp
    have o9 : H9[1]? = some ⟨1, .arr ((List.replicate 512 (0 : Int)).map (V.int .u8))⟩ := by rw [eH9, List.getElem?_set_self (by rw [eH8]; simp; omega)]
    have hdl : (s.del 1).L.length + 1 = s.L.length := by
      obtain ⟨j, -, -, -, -, h5⟩ := find_at D.net.ok.inc hx
      exact h5
    obtain ⟨v10, H10, c11c, rfl, l10, W10, s10, n10⟩ := @send_view N n (by omega) _ _ _ _ _ _ n9 1 0 _ _ (some 512) _ o9 (by omega) (by simp) (by simp) (by omega) (by have : (s.del 1).last = s.last := rfl; omega) (nB 1 (.inr rfl)) (nB 0 (.inl rfl)) rfl
    rw [List.length_replicate] at c11c
    obtain ⟨y2, hy2⟩ : ∃ y : Ob, H10[2]? = some y := ⟨_, List.getElem?_eq_getElem (by omega)⟩
    obtain ⟨H11, eH11⟩ : ∃ H11, H11 = H10.set 2 ⟨y2.ver + 1, .var [.int .i64 0, .nilm, .nils, .int .i64 0]⟩ := ⟨_, rfl⟩
    have eH11' := eH11.symm
    have z11 : H11[2]? = some ⟨y2.ver + 1, .var [.int .i64 0, .nilm, .nils, .int .i64 0]⟩ := by rw [eH11, List.getElem?_set_self (by omega)]
    have c22 := @nothing_nil N n (by omega) (by omega)
    have c22' := @nothing_zero N n (by omega) (by omega) _ _ _ z11
    have c20' := @same_nil N n (by omega) H11 4 3 W10 s10 (by rw [eH11, List.getElem?_set_ne (by omega)]; exact n10)
    have xo := D.net.ok.ok x (List.mem_of_find?_eq_some hx)
    have kb := Lt.one xo.1
    have xl := x.cs_len
    have s4 : setRange zL 0 x.cs = x.cs := sr_all (by rw [xl]; rfl)
    have t70 : ∀ z : Ob, (H7.set 0 z)[0]? = some z := fun z => List.getElem?_set_self (by omega)
    have p0 : 0 < H7.length := by omega
    have mz : 512 ≤ maxBytes := by decide
    generalize x.cs = X at *
    generalize (List.replicate 512 (0 : Int)).map (V.int .u8) = ZZ at *
    simp only [List.reduceReplicate] at ez
    simp +contextual -implicitDefEqProofs (maxSteps := 10000000) only [sxb, plainD, stays, ↓selV_wt, ↓selV_wf, ↓impB_wt, ↓impB_wf, ↓selV_nor, ↓impB_nor, ↓selV_nt, ↓selV_nf, ↓impB_nt, ↓impB_nf, ↓selV_true, ↓selV_false, ↓selV_and, ↓impB_true, ↓impB_false, ↓impB_and, ↓prim_pick, ↓selV_nn, ↓impB_nn, doOp, get, ins, del, dels, Nat.reduceLT, Nat.reduceEqDiff, ↓reduceIte, reduceCtorEq, ne_eq, implies_true, prim, YLD, mkA, V.cells, Nat.reduceAdd, Nat.reduceSub, Nat.reduceMul, Nat.reduceLeDiff, loadA, cellsAt, nAg, packA, List.drop, List.take, List.head?, binA, unA, eqCells, eqCell, negB, fillA, storeA, Ob.with, indexedI, V.oneCell, intOf?, resA, resA1, packR, sealDepth, Int.reduceLT, Int.reduceLE, Int.reduceToNat, Int.reduceNeg, Int.reduceAdd, Int.reduceSub, Int.reduceMul, cond_true, cond_false, Int.reduceBNe, Int.reduceBEq, eq_self, deads, List.replicate, argsF, g1, c9a, c9b, c11, c15, c20, c11b, c12, c13, e7, t70, List.set_set, kb, xl, s4, eH8', f8, mz, ez, eH9', c11c, c10, pm10, c22, pm22, hy2, eH11', c22', pm20, c20', c7, pm7]
theorem runsNetFull : callA am 6000 40 6 [] [] = some (.bool true, []) := full_spec (by omega) (by omega) []
end Go.Am.T

