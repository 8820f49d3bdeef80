/- A region whose order is open: whatever order its edges allow, the abstract machine comes to the same. -/
import Derived.Test.YthfpjffgagacmaaAm16
import Derived.Still
set_option linter.unusedVariables false
set_option linter.unusedSimpArgs false
namespace Go.Am

def AOp.opds : AOp → List Opd
  | .move x | .box _ x | .nilck x | .eqnil _ _ x | .un _ x | .cint _ x | .cstr x | .b2s x | .s2b _ x | .mkiface _ x | .faddr _ x | .field _ _ x | .extract x _ | .lenS x | .lenStr x | .load _ x => [x]
  | .pick a b c => [a, b, c]
  | .allocz .. | .lenK _ => []
  | .build _ ps | .bslice _ _ _ ps => ps.map (·.2.2)
  | .store _ a x | .bin _ a x | .eqc _ _ _ a x | .iaddrA _ _ a x | .iaddrS _ a x | .indexA _ _ _ a x | .indexStr a x | .append _ _ _ a x | .copy _ a x | .mkslice _ _ _ _ a x => [a, x]
  | .mkfunc _ xs ys => xs ++ ys
  | .slA _ _ x a b c | .slS _ x a b c => x :: (a.toList ++ b.toList ++ c.toList)
  | .slStr x a b => x :: (a.toList ++ b.toList)
  | .call _ xs => xs
  | .callv f xs => f :: xs

def tmpsOf (xs : List Opd) : List Nat := xs.filterMap fun | .tmp t => some t | .cst _ => none

def AOper.looks (o : AOper) : List Nat := tmpsOf o.op.opds ++ (match o.guard with | some (g, _) => [g] | none => [])

def apartA (x y : AOper) : Bool :=
  (match x.dst with | some d => !y.looks.contains d && y.dst != some d | none => true) && (match y.dst with | some d => !x.looks.contains d | none => true)

theorem map_opt {a : Option Opd} {ρ ρ' : Opd → V} (h : ∀ x ∈ a.toList, ρ x = ρ' x) : a.map ρ = a.map ρ' := by
  cases a with
  | none => rfl
  | some x => simp [h x (by simp)]

theorem map_parts {ps : List (Nat × Nat × Opd)} {ρ ρ' : Opd → V} (h : ∀ x ∈ ps.map (·.2.2), ρ x = ρ' x) : (ps.map fun (o, n, x) => (o, n, ρ x)) = ps.map fun (o, n, x) => (o, n, ρ' x) :=
  List.map_congr_left fun p hp => by
    obtain ⟨a, b, c⟩ := p
    simp only [h c (List.mem_map.2 ⟨_, hp, rfl⟩)]

theorem prim_congr {fb : Nat} {ρ ρ' : Opd → V} {get : Nat → Option Ob} {op : AOp} (h : ∀ x ∈ op.opds, ρ x = ρ' x) : prim fb ρ get op = prim fb ρ' get op := by
  cases op <;> simp only [AOp.opds, List.mem_cons, List.not_mem_nil, or_false, forall_eq_or_imp, forall_eq] at h
  case eqc neg ag ks x y => cases ag <;> simp only [prim, h]
  case build z ps => simp only [prim, map_parts h]
  case bslice z l s ps => simp only [prim, map_parts h]
  case mkfunc f xs ys =>
    simp only [prim]
    rw [List.map_congr_left fun x hx => h x (by simp [hx]), List.map_congr_left fun x hx => h x (by simp [hx])]
  case slA n s x lo hi mx =>
    simp only [prim]
    rw [h.1, map_opt (a := lo) fun x hx => h.2 x (by simp [hx]), map_opt (a := hi) fun x hx => h.2 x (by simp [hx]), map_opt (a := mx) fun x hx => h.2 x (by simp [hx])]
  case slS s x lo hi mx =>
    simp only [prim]
    rw [h.1, map_opt (a := lo) fun x hx => h.2 x (by simp [hx]), map_opt (a := hi) fun x hx => h.2 x (by simp [hx]), map_opt (a := mx) fun x hx => h.2 x (by simp [hx])]
  case slStr x lo hi =>
    simp only [prim]
    rw [h.1, map_opt (a := lo) fun x hx => h.2 x (by simp [hx]), map_opt (a := hi) fun x hx => h.2 x (by simp [hx])]
  all_goals simp only [prim, h]

theorem doOp_congr {call : Caller} {fb : Nat} {ρ ρ' : Opd → V} {h : Heap} {op : AOp} (hx : ∀ x ∈ op.opds, ρ x = ρ' x) : doOp call fb op ρ h = doOp call fb op ρ' h := by
  cases op with
  | call f args =>
    have : args.map ρ = args.map ρ' := List.map_congr_left fun x hx' => hx x hx'
    simp only [doOp, this]
  | callv f args => simp only [doOp]; rw [hx f (by simp [AOp.opds]), List.map_congr_left fun x hx' => hx x (by simp [AOp.opds, hx'])]
  | _ => simp only [doOp, prim_congr hx]

theorem fpOf_congr {pureF : FuncId → Bool} {fb : Nat} {ρ ρ' : Opd → V} {op : AOp} (h : ∀ x ∈ op.opds, ρ x = ρ' x) : fpOf pureF fb ρ op = fpOf pureF fb ρ' op := by
  cases op <;> simp only [AOp.opds, List.mem_cons, List.not_mem_nil, or_false, forall_eq_or_imp, forall_eq] at h <;> simp only [fpOf, h]

theorem ev_put {t : List V} {dst : Option Nat} {v : V} {x : Opd} (h : ∀ d, dst = some d → x ≠ .tmp d) : ev (put t dst v) x = ev t x := by
  cases dst with
  | none => rfl
  | some d =>
    cases x with
    | cst c => rfl
    | tmp i =>
      have : d ≠ i := fun e => h d rfl (by rw [e])
      simp only [ev, put, List.getD_eq_getElem?_getD, List.getElem?_set_ne this]

theorem wanted_put' {t : List V} {dst : Option Nat} {v : V} {o : AOper} (h : ∀ d, dst = some d → d ∉ o.looks) : wanted o (put t dst v) = wanted o t := by
  unfold wanted
  cases hg : o.guard with
  | none => rfl
  | some gw =>
    obtain ⟨g, want⟩ := gw
    simp only
    cases dst with
    | none => rfl
    | some d =>
      have : d ≠ g := fun e => h d rfl (by simp [AOper.looks, hg, e])
      simp only [put, List.getD_eq_getElem?_getD, List.getElem?_set_ne this]

theorem opds_put {t : List V} {dst : Option Nat} {v : V} {o : AOper} (h : ∀ d, dst = some d → d ∉ o.looks) : ∀ x ∈ o.op.opds, ev (put t dst v) x = ev t x := by
  intro x hx
  refine ev_put fun d hd e => h d hd ?_
  simp only [AOper.looks, tmpsOf, List.mem_append, List.mem_filterMap]
  exact .inl ⟨x, hx, by rw [e]⟩

/-- What an operation yields, and the memory behind it. -/
def resOp (call : Caller) (fb : Nat) (o : AOper) (t : List V) (h : Heap) : Option (V × Heap) :=
  match wanted o t with
  | none => none
  | some false => some (.tup [], h)
  | some true => doOp call fb o.op (ev t) h

theorem stepOp_eq (call : Caller) (fb : Nat) (o : AOper) (t : List V) (h : Heap) : stepOp call fb o t h = (resOp call fb o t h).map fun p => (put t o.dst p.1, p.2) := by
  unfold stepOp resOp
  cases wanted o t with
  | none => rfl
  | some b =>
    cases b
    · rfl
    · simp only
      cases doOp call fb o.op (ev t) h with
      | none => rfl
      | some p => rfl

theorem resOp_put {call : Caller} {fb : Nat} {o : AOper} {t : List V} {h : Heap} {dst : Option Nat} {v : V} (hd : ∀ d, dst = some d → d ∉ o.looks) : resOp call fb o (put t dst v) h = resOp call fb o t h := by
  unfold resOp
  rw [wanted_put' hd]
  cases wanted o t with
  | none => rfl
  | some b =>
    cases b
    · rfl
    · exact doOp_congr (opds_put hd)

theorem fpAt_put {pureF : FuncId → Bool} {fb : Nat} {o : AOper} {t : List V} {dst : Option Nat} {v : V} (hd : ∀ d, dst = some d → d ∉ o.looks) : fpAt pureF fb o (put t dst v) = fpAt pureF fb o t := by
  unfold fpAt
  rw [wanted_put' hd]
  cases wanted o t with
  | none => rfl
  | some b =>
    cases b
    · rfl
    · exact fpOf_congr (opds_put hd)

/-- A pure function's call hangs on its arguments alone. -/
def PureOk (pureF : FuncId → Bool) (call : Caller) : Prop := ∀ f args h v h1, pureF f = true → call f args h = some (v, h1) → h1 = h ∧ ∀ h', call f args h' = some (v, h')

theorem resOp_local {pureF : FuncId → Bool} {call : Caller} (hp : PureOk pureF call) {fb : Nat} {o : AOper} {t : List V} {h : Heap} {v : V} {h1 : Heap} {r w : List Nat} (hf : fpAt pureF fb o t = .io r w) (hr : resOp call fb o t h = some (v, h1)) :
    (h1 = h ∧ ∀ h', Agree (r ++ w) (fun o => h[o]?) (fun o => h'[o]?) → resOp call fb o t h' = some (v, h')) ∨
    (∃ i x, i ∈ w ∧ h1 = h.set i x ∧ ∀ h', Agree (r ++ w) (fun o => h[o]?) (fun o => h'[o]?) → resOp call fb o t h' = some (v, h'.set i x)) := by
  unfold resOp at hr ⊢
  unfold fpAt at hf
  cases hw : wanted o t with
  | none => simp [hw] at hr
  | some b =>
    cases b with
    | false =>
      simp only [hw, Option.some.injEq, Prod.mk.injEq] at hr
      obtain ⟨rfl, rfl⟩ := hr
      exact .inl ⟨rfl, fun h' _ => rfl⟩
    | true =>
      simp only [hw] at hr hf ⊢
      have plain : ∀ (op : AOp), (∀ h, doOp call fb op (ev t) h = match prim fb (ev t) (fun o => h[o]?) op with | some (.ret v) => some (v, h) | some (.set o x v) => some (v, h.set o x) | none => none) → fpOf pureF fb (ev t) op = .io r w → doOp call fb op (ev t) h = some (v, h1) →
          (h1 = h ∧ ∀ h' : Heap, Agree (r ++ w) (fun o => h[o]?) (fun o => h'[o]?) → doOp call fb op (ev t) h' = some (v, h')) ∨
          (∃ i x, i ∈ w ∧ h1 = h.set i x ∧ ∀ h' : Heap, Agree (r ++ w) (fun o => h[o]?) (fun o => h'[o]?) → doOp call fb op (ev t) h' = some (v, h'.set i x)) := by
        intro op hd hf hr
        rw [hd] at hr
        have loc : ∀ h' : Heap, Agree (r ++ w) (fun o => h[o]?) (fun o => h'[o]?) → prim fb (ev t) (fun o => h[o]?) op = prim fb (ev t) (fun o => h'[o]?) op := fun h' ha =>
          prim_local hf (fun o ho => ha o (by simp [ho])) (fun o ho => ha o (by simp [ho]))
        cases hq : prim fb (ev t) (fun o => h[o]?) op with
        | none => simp [hq] at hr
        | some e =>
          cases e with
          | ret u =>
            simp only [hq, Option.some.injEq, Prod.mk.injEq] at hr
            obtain ⟨rfl, rfl⟩ := hr
            exact .inl ⟨rfl, fun h' ha => by rw [hd, ← loc h' ha, hq]⟩
          | set i x u =>
            simp only [hq, Option.some.injEq, Prod.mk.injEq] at hr
            obtain ⟨rfl, rfl⟩ := hr
            exact .inr ⟨i, x, prim_set hf hq, rfl, fun h' ha => by rw [hd, ← loc h' ha, hq]⟩
      cases hop : o.op with
      | call f args =>
        simp only [hop, fpOf] at hf
        split at hf
        · rename_i hpf
          simp only [hop, doOp] at hr ⊢
          obtain ⟨e1, e2⟩ := hp f _ _ _ _ hpf hr
          exact .inl ⟨e1, fun h' _ => e2 h'⟩
        · cases hf
      | callv f args => simp [hop, fpOf] at hf
      | _ =>
        rw [hop] at hf hr
        exact plain _ (fun h => rfl) hf hr

theorem disj_spec {a b : List Nat} (h : disj a b = true) : ∀ o ∈ a, o ∉ b := by
  intro o ho hb
  have := List.all_eq_true.1 h o ho
  simp [hb] at this

theorem apartA_spec {x y : AOper} (h : apartA x y = true) : (∀ d, x.dst = some d → d ∉ y.looks) ∧ (∀ d, x.dst = some d → y.dst ≠ some d) ∧ (∀ d, y.dst = some d → d ∉ x.looks) := by
  refine ⟨fun d hd => ?_, fun d hd => ?_, fun d hd => ?_⟩ <;> simp [apartA, hd] at h
  · exact h.1.1
  · exact h.1.2
  · exact h.2

theorem put_comm {t : List V} {a b : Option Nat} {u v : V} (h : ∀ d, a = some d → b ≠ some d) : put (put t a u) b v = put (put t b v) a u := by
  cases a with
  | none => rfl
  | some d =>
    cases b with
    | none => rfl
    | some e =>
      have : d ≠ e := fun q => h d rfl (by rw [q])
      simp only [put]
      rw [List.set_comm _ _ this]

theorem agree_set {l : List Nat} {h : Heap} {o : Nat} {x : Ob} (ho : o ∉ l) : Agree l (fun i => h[i]?) (fun i => (h.set o x)[i]?) := by
  intro i hi
  have : o ≠ i := fun e => ho (e ▸ hi)
  simp only [List.getElem?_set_ne this]

theorem agree_set' {l : List Nat} {h : Heap} {o : Nat} {x : Ob} (ho : o ∉ l) : Agree l (fun i => (h.set o x)[i]?) (fun i => h[i]?) := fun i hi => (agree_set ho i hi).symm

/-- Two operations that do not meet: one order is as good as the other. -/
theorem diamond {pureF : FuncId → Bool} {call : Caller} (hp : PureOk pureF call) {fb : Nat} {x y : AOper} (hap : apartA x y = true) {t : List V} {h : Heap} {s1 s12 : List V × Heap} (h1 : stepOp call fb x t h = some s1) (h2 : stepOp call fb y s1.1 s1.2 = some s12)
    (hok : (fpAt pureF fb x t).ok (fpAt pureF fb y s1.1) = true) : ∃ s2, stepOp call fb y t h = some s2 ∧ stepOp call fb x s2.1 s2.2 = some s12 ∧ fpAt pureF fb x s2.1 = fpAt pureF fb x t ∧ fpAt pureF fb y t = fpAt pureF fb y s1.1 := by
  obtain ⟨a1, a2, a3⟩ := apartA_spec hap
  rw [stepOp_eq] at h1 h2
  simp only [Option.map_eq_some_iff] at h1 h2
  obtain ⟨⟨v1, k1⟩, r1, rfl⟩ := h1
  obtain ⟨⟨v2, k12⟩, r2, rfl⟩ := h2
  simp only at r2 hok ⊢
  rw [resOp_put a1] at r2
  rw [fpAt_put a1] at hok ⊢
  have fin : ∀ k2, resOp call fb y t h = some (v2, k2) → resOp call fb x t k2 = some (v1, k12) →
      ∃ s2, stepOp call fb y t h = some s2 ∧ stepOp call fb x s2.1 s2.2 = some (put (put t x.dst v1) y.dst v2, k12) ∧ fpAt pureF fb x s2.1 = fpAt pureF fb x t ∧ fpAt pureF fb y t = fpAt pureF fb y t := by
    intro k2 q1 q2
    refine ⟨(put t y.dst v2, k2), by rw [stepOp_eq, q1]; rfl, ?_, fpAt_put a3, rfl⟩
    rw [stepOp_eq]
    simp only
    rw [resOp_put a3, q2, Option.map_some]
    simp only
    rw [put_comm a2]
  suffices hh : ∃ k2, resOp call fb y t h = some (v2, k2) ∧ resOp call fb x t k2 = some (v1, k12) by
    obtain ⟨k2, q1, q2⟩ := hh
    exact fin k2 q1 q2
  clear fin
  cases hfx : fpAt pureF fb x t with
  | bar =>
    rw [hfx] at hok
    cases hfy : fpAt pureF fb y t with
    | bar => rw [hfy] at hok; simp [Fp.ok] at hok
    | io r w =>
      rw [hfy] at hok
      cases r <;> cases w <;> simp [Fp.ok] at hok
      rcases resOp_local hp hfy r2 with ⟨rfl, hl⟩ | ⟨i, z, hi, -⟩
      · have q := hl h (fun o ho => by simp at ho)
        exact ⟨h, q, r1⟩
      · simp at hi
  | io r w =>
    rw [hfx] at hok
    cases hfy : fpAt pureF fb y t with
    | bar =>
      rw [hfy] at hok
      cases r <;> cases w <;> simp [Fp.ok] at hok
      rcases resOp_local hp hfx r1 with ⟨rfl, hl⟩ | ⟨i, z, hi, -⟩
      · exact ⟨k12, r2, hl k12 (fun o ho => by simp at ho)⟩
      · simp at hi
    | io r' w' =>
      rw [hfy] at hok
      have hok' : disj w (r' ++ w') = true ∧ disj w' r = true := by
        have : ((Fp.io r w).ok (.io r' w')) = (disj w (r' ++ w') && disj w' r) := by
          cases r <;> cases w <;> rfl
        rw [this] at hok
        simpa using hok
      have d1 := disj_spec hok'.1
      have d2 := disj_spec hok'.2
      rcases resOp_local hp hfx r1 with ⟨rfl, hl1⟩ | ⟨i, z, hi, rfl, hl1⟩
      · rcases resOp_local hp hfy r2 with ⟨rfl, hl2⟩ | ⟨j, z', hj, rfl, hl2⟩
        · exact ⟨_, r2, hl1 _ (fun o _ => rfl)⟩
        · refine ⟨_, r2, hl1 _ (agree_set ?_)⟩
          intro hm
          rcases List.mem_append.1 hm with hm | hm
          · exact d2 j hj hm
          · exact d1 j hm (by simp [hj])
      · have hi' : i ∉ r' ++ w' := d1 i hi
        rcases resOp_local hp hfy r2 with ⟨rfl, hl2⟩ | ⟨j, z', hj, rfl, hl2⟩
        · exact ⟨h, hl2 h (agree_set' hi'), hl1 h (fun o _ => rfl)⟩
        · have hij : i ≠ j := fun e => hi' (by simp [e, hj])
          have hj' : j ∉ r ++ w := by
            intro hm
            rcases List.mem_append.1 hm with hm | hm
            · exact d2 j hj hm
            · exact d1 j hm (by simp [hj])
          refine ⟨h.set j z', hl2 h (agree_set' hi'), ?_⟩
          rw [hl1 _ (agree_set hj'), List.set_comm _ _ hij]

end Go.Am
