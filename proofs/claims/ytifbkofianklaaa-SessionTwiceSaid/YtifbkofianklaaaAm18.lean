/- Whatever order the edges of a region allow: the run in the text's order stands for all. -/
import Derived.Test.YtifbkofianklaaaAm17
set_option linter.unusedVariables false
set_option linter.unusedSimpArgs false
namespace Go.Am

/-- Whatever order the edges allow, each operation runs, and the end is 'fin'. -/
def AnyA (call : Caller) (fb : Nat) (ops : Array Oper) (as : List AOper) (fin : List V × Heap → Prop) (C : Nat → List V → Prop) : Nat → Array Bool → List V × Heap → Prop
  | 0, listed, s => Region.ready .any ops listed = [] ∧ fin s
  | fuel + 1, listed, s => (Region.ready .any ops listed = [] → fin s) ∧
    ∀ i ∈ Region.ready .any ops listed, C i s.1 ∧ ∃ ao s', as[i]? = some ao ∧ stepOp call fb ao s.1 s.2 = some s' ∧ AnyA call fb ops as fin C fuel (listed.setIfInBounds i true) s'

variable {call : Caller} {fb : Nat} {ops : Array Oper} {as : List AOper} {fin : List V × Heap → Prop}

theorem AnyA.mono {C C' : Nat → List V → Prop} (h : ∀ i t, C' i t → C i t) : ∀ (fuel : Nat) (listed : Array Bool) (s : List V × Heap), AnyA call fb ops as fin C' fuel listed s → AnyA call fb ops as fin C fuel listed s
  | 0, _, _, H => H
  | fuel + 1, listed, s, H => ⟨H.1, fun i hi => let ⟨h1, ao, s', h2, h3, h4⟩ := H.2 i hi; ⟨h _ _ h1, ao, s', h2, h3, AnyA.mono h fuel _ _ h4⟩⟩

/-- Does an operation stand right behind another one? -/
def edge1 (o : Oper) (k : Nat) : Bool := o.after.any fun e => Region.binds .any e && e.on == k

/-- Is it a step that is gone back along? -/
def along (e : Edge) : Bool := Region.binds .any e && (e.ground == .chain || e.ground == .data)

def chainTo (ops : Array Oper) : Nat → Nat → Nat → Bool
  | 0, _, _ => false
  | f + 1, j, k => match ops[j]? with | some o => o.after.any fun e => along e && (e.on == k || (decide (k < e.on) && chainTo ops f e.on k)) | none => false

/-- Does it stand behind another one, at one step or at more? -/
def edge (ops : Array Oper) (j k : Nat) : Bool := match ops[j]? with | some o => edge1 o k || chainTo ops ops.size j k | none => false

/-- What is listed has what it stands behind listed. -/
def ClosedL (ops : Array Oper) (listed : Array Bool) : Prop := ∀ (i : Nat) (o : Oper), listed.getD i false = true → ops[i]? = some o → ∀ e ∈ o.after, Region.binds .any e = true → listed.getD e.on false = true

theorem chain_listed {listed : Array Bool} (hc : ClosedL ops listed) : ∀ (f j k : Nat), chainTo ops f j k = true → (∀ o, ops[j]? = some o → ∀ e ∈ o.after, Region.binds .any e = true → listed.getD e.on false = true) → listed.getD k false = true
  | 0, j, k, h, _ => by simp [chainTo] at h
  | f + 1, j, k, h, hj => by
    simp only [chainTo] at h
    split at h
    case h_2 => cases h
    rename_i o ho
    rw [Array.any_eq_true'] at h
    obtain ⟨e, hem, he⟩ := h
    simp only [along, Bool.and_eq_true, Bool.or_eq_true, beq_iff_eq] at he
    have hl := hj o ho e hem he.1.1
    rcases he.2 with h1 | h1
    · rwa [h1] at hl
    · exact chain_listed hc f e.on k h1.2 (fun o' ho' e' he' hb' => hc e.on o' hl ho' e' he' hb')

theorem edge_listed {listed : Array Bool} (hc : ClosedL ops listed) {j k : Nat} (h : edge ops j k = true) (hj : ∀ o, ops[j]? = some o → ∀ e ∈ o.after, Region.binds .any e = true → listed.getD e.on false = true) : listed.getD k false = true := by
  unfold edge at h
  split at h
  case h_2 => cases h
  rename_i o ho
  rw [Bool.or_eq_true] at h
  rcases h with h | h
  · unfold edge1 at h
    rw [Array.any_eq_true'] at h
    obtain ⟨e, hem, he⟩ := h
    simp only [Bool.and_eq_true, beq_iff_eq] at he
    have := hj o ho e hem he.1
    rwa [he.2] at this
  · exact chain_listed hc _ _ _ h hj

theorem ClosedL.set {listed : Array Bool} (hc : ClosedL ops listed) {j : Nat} (hr : j ∈ Region.ready .any ops listed) : ClosedL ops (listed.setIfInBounds j true) := by
  intro i o hi ho e he hb
  obtain ⟨h0, oj, hoj, hall⟩ := mem_ready.1 hr
  by_cases hij : j = i
  · subst hij
    rw [hoj] at ho
    cases ho
    exact getD_set_true (hall e he hb)
  · rw [getD_set_ne false hij] at hi
    exact getD_set_true (hc i o hi ho e he hb)

theorem anyA_first {pureF : FuncId → FMode} (hp : PureOk pureF call) (hlk : LookOk pureF call) (hcf : FrameOk pureF call) (hgy : GrowY call) {n : Nat} {k : Nat} {ak : AOper} (hk : as[k]? = some ak) {C C' : Nat → List V → Prop} {fpk : Fp}
    (keep : ∀ (i : Nat) (ai : AOper) t dst v, as[i]? = some ai → (∀ d, dst = some d → d ∉ ai.looks) → (C i (put t dst v) ↔ C i t))
    (hC : ∀ (j : Nat) (aj : AOper) (oj : Oper) t, as[j]? = some aj → ops[j]? = some oj → edge ops j k = false → j ≠ k → C' j t → C j t ∧ fpk.ok n (fpAt pureF fb aj t) = true) (hC' : ∀ i t, C' i t → C i t) :
    ∀ (fuel : Nat) (listed : Array Bool) (s s1 : List V × Heap),
      (∀ (j : Nat) (aj : AOper) (oj : Oper), as[j]? = some aj → ops[j]? = some oj → j ≠ k → listed.getD j true = false → edge ops j k = false → apartA ak aj = true) →
      n ≤ s.2.length → ClosedL ops listed → k ∈ Region.ready .any ops listed → C k s.1 → fpAt pureF fb ak s.1 = fpk → stepOp call fb ak s.1 s.2 = some s1 → AnyA call fb ops as fin C' fuel (listed.setIfInBounds k true) s1 → AnyA call fb ops as fin C (fuel + 1) listed s := by
  intro fuel
  induction fuel with
  | zero =>
    intro listed s s1 hfree hn hcl hr hc hf hs H
    refine ⟨fun h => (by rw [h] at hr; cases hr), fun j hj => ?_⟩
    by_cases hjk : j = k
    · subst hjk
      exact ⟨hc, ak, s1, hk, hs, H⟩
    · have := ready_mono hj hjk
      rw [H.1] at this
      cases this
  | succ fuel ih =>
    intro listed s s1 hfree hn hcl hr hc hf hs H
    refine ⟨fun h => (by rw [h] at hr; cases hr), fun j hj => ?_⟩
    by_cases hjk : j = k
    · subst hjk
      exact ⟨hc, ak, s1, hk, hs, AnyA.mono hC' _ _ _ H⟩
    · obtain ⟨c1, aj, s12, haj, hsj, H'⟩ := H.2 j (ready_mono hj hjk)
      obtain ⟨hjun, oj, hoj, hall⟩ := mem_ready.1 hj
      have hnot : edge ops j k = false := by
        rw [Bool.eq_false_iff]
        intro he
        have h1 := edge_listed hcl he (fun o ho e hem hb => by rw [hoj] at ho; cases ho; exact hall e hem hb)
        have h0 := (mem_ready.1 hr).1
        rcases Nat.lt_or_ge k listed.size with h' | h'
        · simp [h'] at h0 h1; rw [h0] at h1; cases h1
        · simp [Array.getElem?_eq_none h'] at h1
      have hap := hfree j aj oj haj hoj hjk hjun hnot
      obtain ⟨a1, a2, a3⟩ := apartA_spec hap
      obtain ⟨c2, c3⟩ := hC j aj oj _ haj hoj hnot hjk c1
      obtain ⟨s2, d1, d2, d3, d4⟩ := diamond hp hlk hcf hap hn hs hsj (by rw [hf]; exact c3)
      have hs1 : ∃ v h1, s1 = (put s.1 ak.dst v, h1) := by
        rw [stepOp_eq] at hs
        simp only [Option.map_eq_some_iff] at hs
        obtain ⟨p, -, rfl⟩ := hs
        exact ⟨_, _, rfl⟩
      have hs2 : ∃ v h2, s2 = (put s.1 aj.dst v, h2) := by
        rw [stepOp_eq] at d1
        simp only [Option.map_eq_some_iff] at d1
        obtain ⟨p, -, rfl⟩ := d1
        exact ⟨_, _, rfl⟩
      obtain ⟨v1, h1, rfl⟩ := hs1
      obtain ⟨v2, h2, rfl⟩ := hs2
      refine ⟨(keep j aj _ _ _ haj a1).1 c2, aj, _, haj, d1, ?_⟩
      have hfree' : ∀ (i : Nat) (ai : AOper) (oi : Oper), as[i]? = some ai → ops[i]? = some oi → i ≠ k → (listed.setIfInBounds j true).getD i true = false → edge ops i k = false → apartA ak ai = true := fun i ai oi hi hoi hik hun hno => by
        refine hfree i ai oi hi hoi hik ?_ hno
        by_cases hji : j = i
        · subst hji; exact hjun
        · rw [getD_set_ne true hji] at hun; exact hun
      refine ih (listed.setIfInBounds j true) _ s12 hfree' (Nat.le_trans hn (stepOp_grows hp hlk hcf hgy d1)) (hcl.set hj) (ready_mono hr (Ne.symm hjk)) ((keep k ak _ _ _ hk a3).2 hc) (d3.trans hf) d2 ?_
      rw [Array.setIfInBounds_comm _ _ hjk]
      exact H'

/-- What an operation can do to an object at most: nothing; look; more. -/
def AOp.cls (pureF : FuncId → FMode) : AOp → Nat
  | .allocz .. | .box .. | .mkslice .. | .s2b .. | .bnew .. | .clearS .. | .store .. | .append .. | .copy .. | .callv .. => 2
  | .call f _ => match pureF f with | .pure => 0 | .look => 1 | _ => 2
  | .load .. | .b2s _ | .mark _ | .slA .. | .slS .. => 1
  | _ => 0

theorem cls_fp {pureF : FuncId → FMode} {o : AOper} (t : List V) : (o.op.cls pureF = 0 → fpAt pureF fb o t = .io [] []) ∧ (o.op.cls pureF = 1 → ∃ r, fpAt pureF fb o t = .io r []) := by
  unfold fpAt
  cases wanted o t with
  | none => exact ⟨fun _ => rfl, fun _ => ⟨[], rfl⟩⟩
  | some b =>
    cases b with
    | false => exact ⟨fun _ => rfl, fun _ => ⟨[], rfl⟩⟩
    | true =>
      cases hop : o.op <;> first
        | (simp [AOp.cls, fpOf]; done)
        | (simp only [AOp.cls, fpOf, fpCall]; split <;> simp; done)
        | (simp only [AOp.cls, fpOf, fpCall]; cases hm : pureF _ <;> simp [hm]; done)
        | (simp only [AOp.cls, fpOf, fpCall]; split <;> rename_i hm <;> simp [hm])
        | (simp [AOp.cls]; done)

/-- No need to look at what they do. -/
def statOk (pureF : FuncId → FMode) (x y : AOper) : Bool := x.op.cls pureF == 0 || y.op.cls pureF == 0 || (x.op.cls pureF == 1 && y.op.cls pureF == 1)

theorem disj_nil (a : List Nat) : disj a [] = true := by simp [disj]

theorem io_ok (n : Nat) (r w r' w' : List Nat) : (Fp.io r w).ok n (.io r' w') = (disj w (r' ++ w') && disj w' r) := by
  cases r <;> cases w <;> rfl

theorem statOk_ok {pureF : FuncId → FMode} {n : Nat} {x y : AOper} (h : statOk pureF x y = true) (t t' : List V) : (fpAt pureF fb x t).ok n (fpAt pureF fb y t') = true := by
  simp only [statOk, Bool.or_eq_true, Bool.and_eq_true, beq_iff_eq] at h
  rcases h with (h | h) | ⟨h1, h2⟩
  · rw [(cls_fp t).1 h]
    cases fpAt pureF fb y t' with
    | bar => rfl
    | call R => simp [Fp.ok, disj]
    | io r w => rw [io_ok, disj_nil]; rfl
  · rw [(cls_fp t').1 h]
    cases fpAt pureF fb x t with
    | bar => rfl
    | call R => simp [Fp.ok, disj]
    | io r w => rw [io_ok]; simp [disj_nil, disj]
  · obtain ⟨r, hr⟩ := (cls_fp (fb := fb) t).2 h1
    obtain ⟨r', hr'⟩ := (cls_fp (fb := fb) t').2 h2
    rw [hr, hr', io_ok]
    rfl

/-- What is asked of a region's edges and operations, by looking. -/
def drawOk (pureF : FuncId → FMode) (ops : Array Oper) (as : List (AOper × List Nat)) : Bool :=
  as.length == ops.size &&
  (List.range ops.size).all fun m =>
    match ops[m]?, as[m]? with
    | some om, some (am, ps) =>
      om.after.all (fun e => !Region.binds .any e || e.on < m) &&
      (List.range m).all fun q =>
        match as[q]? with
        | some (aq, _) => edge ops m q || (apartA aq am && (ps.contains q || statOk pureF aq am))
        | none => false
    | _, _ => false

/-- The first m are listed. -/
def firstB (n m : Nat) : Array Bool := ((List.range n).map fun i => decide (i < m)).toArray

theorem firstB_get (n m i : Nat) : (firstB n m).getD i true = if i < n then decide (i < m) else true := by
  simp only [firstB, Array.getD_eq_getD_getElem?, List.getElem?_toArray, List.getElem?_map]
  by_cases h : i < n
  · rw [List.getElem?_range h]; simp [h]
  · rw [List.getElem?_eq_none (by simpa using h)]; simp [h]

theorem firstB_get' (n m i : Nat) : (firstB n m).getD i false = if i < n then decide (i < m) else false := by
  simp only [firstB, Array.getD_eq_getD_getElem?, List.getElem?_toArray, List.getElem?_map]
  by_cases h : i < n
  · rw [List.getElem?_range h]; simp [h]
  · rw [List.getElem?_eq_none (by simpa using h)]; simp [h]

theorem firstB_set (n m : Nat) (h : m < n) : (firstB n m).setIfInBounds m true = firstB n (m + 1) := by
  apply Array.ext'
  simp only [firstB, Array.toList_setIfInBounds, List.toList_toArray]
  apply List.ext_getElem?
  intro i
  by_cases hi : i = m
  · subst hi
    rw [List.getElem?_set_self (by simpa using h), List.getElem?_map, List.getElem?_range h]
    simp
  · rw [List.getElem?_set_ne (Ne.symm hi), List.getElem?_map, List.getElem?_map]
    rcases Nat.lt_or_ge i n with hlt | hge
    · rw [List.getElem?_range hlt]; simp; omega
    · rw [List.getElem?_eq_none (by simpa using hge)]; rfl

/-- What holds of operation i behind the first m. -/
def CAt (pureF : FuncId → FMode) (fb : Nat) (ops : Array Oper) (as : List AOper) (m : Nat) (n : Nat) (fps : List Fp) (i : Nat) (t : List V) : Prop :=
  m ≤ i ∧ ∀ (q : Nat) (ai : AOper) (oi : Oper), q < m → as[i]? = some ai → ops[i]? = some oi → edge ops i q = false → (fps.getD q .bar).ok n (fpAt pureF fb ai t) = true

theorem drawA {pureF : FuncId → FMode} (hp : PureOk pureF call) (hlk : LookOk pureF call) (hcf : FrameOk pureF call) (hgy : GrowY call) {n : Nat} {ps : List (AOper × List Nat)} (hok : drawOk pureF ops ps = true) {s' : List V × Heap} :
    ∀ (rest : List (AOper × List Nat)) (m : Nat) (fps : List Fp) (s : List V × Heap), ps.drop m = rest → m ≤ ops.size → fps.length = m → (∀ q aq pq, q < m → ps[q]? = some (aq, pq) → ∃ tq, fps.getD q .bar = fpAt pureF fb aq tq) →
      n ≤ s.2.length → runDraw pureF call fb n rest fps s.1 s.2 = some s' → AnyA call fb ops (ps.map (·.1)) (· = s') (CAt pureF fb ops (ps.map (·.1)) m n fps) (ops.size - m) (firstB ops.size m) s := by
  have hlen : ps.length = ops.size := by
    simp only [drawOk, Bool.and_eq_true, beq_iff_eq] at hok
    exact hok.1
  have look : ∀ (m : Nat) (hm : m < ops.size) (am : AOper) (pm : List Nat), ps[m]? = some (am, pm) → (∀ e ∈ (ops[m]).after, Region.binds .any e = true → e.on < m) ∧
      ∀ q aq pq, q < m → ps[q]? = some (aq, pq) → edge ops m q = true ∨ (apartA aq am = true ∧ (pm.contains q = true ∨ statOk pureF aq am = true)) := by
    intro m hm am pm hpm
    have hall := hok
    simp only [drawOk, Bool.and_eq_true] at hall
    have hm1 := List.all_eq_true.1 hall.2 m (by simpa using hm)
    have hom : ops[m]? = some ops[m] := by simp [hm]
    simp only [hom, hpm, Bool.and_eq_true] at hm1
    refine ⟨fun e he hb => ?_, fun q aq pq hq hpq => ?_⟩
    · have := Array.all_eq_true'.1 hm1.1 e he
      simpa [hb] using this
    · have := List.all_eq_true.1 hm1.2 q (by simpa using hq)
      simp only [hpq, Bool.or_eq_true, Bool.and_eq_true] at this
      exact this
  intro rest
  induction rest with
  | nil =>
    intro m fps s hd hm hf hfp hn hr
    have hmn : m = ops.size := by
      have := congrArg List.length hd
      simp at this
      omega
    subst hmn
    rw [Nat.sub_self]
    simp only [runDraw, Option.some.injEq] at hr
    refine ⟨?_, hr⟩
    cases hrd : Region.ready .any ops (firstB ops.size ops.size) with
    | nil => rfl
    | cons x xs =>
      have hx : x ∈ Region.ready .any ops (firstB ops.size ops.size) := by rw [hrd]; simp
      obtain ⟨h1, o, ho, -⟩ := mem_ready.1 hx
      have hlt : x < ops.size := by rcases Nat.lt_or_ge x ops.size with h | h; exact h; simp [Array.getElem?_eq_none h] at ho
      rw [firstB_get, if_pos hlt] at h1
      simp [hlt] at h1
  | cons p rest ih =>
    intro m fps s hd hm hf hfp hn hr
    obtain ⟨am, pm⟩ := p
    have hmlt : m < ps.length := by
      rcases Nat.lt_or_ge m ps.length with h | h
      · exact h
      · rw [List.drop_eq_nil_of_le h] at hd; cases hd
    have hpm : ps[m]? = some (am, pm) := by
      have : (ps.drop m)[0]? = some (am, pm) := by rw [hd]; rfl
      rwa [List.getElem?_drop] at this
    have hmn : m < ops.size := by omega
    have hdr : ps.drop (m + 1) = rest := by rw [← List.drop_drop, hd]; rfl
    obtain ⟨hedge, hq⟩ := look m hmn am pm hpm
    have hom : ops[m]? = some ops[m] := by simp [hmn]
    simp only [runDraw] at hr
    split at hr
    case isFalse => cases hr
    rename_i hcheck
    split at hr
    case h_2 => cases hr
    rename_i t' h' hst
    have gl : ∀ q, q < m → (fps ++ [fpAt pureF fb am s.1]).getD q .bar = fps.getD q .bar := fun q hq => by
      simp only [List.getD_eq_getElem?_getD, List.getElem?_append_left (show q < fps.length by omega)]
    have ge : (fps ++ [fpAt pureF fb am s.1]).getD m .bar = fpAt pureF fb am s.1 := by
      rw [List.getD_eq_getElem?_getD, List.getElem?_append_right (by omega), hf, Nat.sub_self]; rfl
    have IH := ih (m + 1) (fps ++ [fpAt pureF fb am s.1]) (t', h') hdr (by omega) (by simp [hf]) (fun q aq pq hq hpq => by
      rcases Nat.lt_or_ge q m with h1 | h1
      · rw [gl q h1]; exact hfp q aq pq h1 hpq
      · have : q = m := by omega
        subst this
        rw [hpm] at hpq
        cases hpq
        exact ⟨s.1, ge⟩) (Nat.le_trans hn (stepOp_grows hp hlk hcf hgy hst)) hr
    have hsz : ops.size - m = (ops.size - (m + 1)) + 1 := by omega
    rw [hsz]
    have has : (ps.map (·.1))[m]? = some am := by rw [List.getElem?_map, hpm]; rfl
    have weaken : ∀ i t, CAt pureF fb ops (ps.map (·.1)) (m + 1) n (fps ++ [fpAt pureF fb am s.1]) i t → CAt pureF fb ops (ps.map (·.1)) m n fps i t := fun i t H =>
      ⟨by have := H.1; omega, fun q ai oi h1 h2 h3 h4 => by have := H.2 q ai oi (by omega) h2 h3 h4; rwa [gl q h1] at this⟩
    refine anyA_first hp hlk hcf hgy (n := n) (fpk := fpAt pureF fb am s.1) has ?_ ?_ weaken _ _ _ (t', h') ?_ hn ?_ ?_ ?_ rfl hst (by rw [firstB_set _ _ hmn]; exact IH)
    · intro i ai t dst v hi hd
      constructor
      · intro H
        refine ⟨H.1, fun q ai' oi h1 h2 h3 h4 => ?_⟩
        have := H.2 q ai' oi h1 h2 h3 h4
        rw [hi] at h2
        cases h2
        rwa [fpAt_put hd] at this
      · intro H
        refine ⟨H.1, fun q ai' oi h1 h2 h3 h4 => ?_⟩
        have := H.2 q ai' oi h1 h2 h3 h4
        rw [hi] at h2
        cases h2
        rwa [fpAt_put hd]
    · intro j aj oj t haj hoj hne hjm H
      refine ⟨weaken j t H, ?_⟩
      have := H.2 m aj oj (by omega) haj hoj hne
      rwa [ge] at this
    · intro j aj oj haj hoj hjm hun hne
      have hjn : j < ops.size := by rcases Nat.lt_or_ge j ops.size with h | h; exact h; simp [Array.getElem?_eq_none h] at hoj
      rw [firstB_get, if_pos hjn] at hun
      simp at hun
      have hoj' : ops[j] = oj := by
        rw [Array.getElem?_eq_getElem hjn] at hoj
        exact Option.some.inj hoj
      obtain ⟨pj, hpj⟩ : ∃ pj, ps[j]? = some (aj, pj) := by
        rw [List.getElem?_map] at haj
        simp only [Option.map_eq_some_iff] at haj
        obtain ⟨⟨a, b⟩, h1, h2⟩ := haj
        simp only at h2
        exact ⟨b, by rw [h1, h2]⟩
      rcases (look j hjn aj pj hpj).2 m am pm (by omega) hpm with h | h
      · rw [hne] at h; cases h
      · exact h.1
    · intro i o hi ho e he hb
      have hin : i < ops.size := by rcases Nat.lt_or_ge i ops.size with h | h; exact h; simp [Array.getElem?_eq_none h] at ho
      rw [firstB_get', if_pos hin] at hi
      have him : i < m := by simpa using hi
      obtain ⟨⟨aq, pq⟩, hpq⟩ : ∃ x, ps[i]? = some x := ⟨_, List.getElem?_eq_getElem (by omega)⟩
      have ho' : ops[i] = o := by
        rw [Array.getElem?_eq_getElem hin] at ho
        exact Option.some.inj ho
      have := (look i hin aq pq hpq).1 e (by rw [ho']; exact he) hb
      rw [firstB_get', if_pos (by omega)]
      simp; omega
    · rw [mem_ready]
      refine ⟨by rw [firstB_get, if_pos hmn]; simp, ops[m], hom, fun e he hb => ?_⟩
      have := hedge e he hb
      rw [firstB_get', if_pos (by omega)]
      simpa using this
    · refine ⟨Nat.le_refl _, fun q ai oi h1 h2 h3 h4 => ?_⟩
      rw [has] at h2
      cases h2
      rw [hom] at h3
      cases h3
      obtain ⟨⟨aq, pq⟩, hpq⟩ : ∃ x, ps[q]? = some x := ⟨_, List.getElem?_eq_getElem (by omega)⟩
      rcases hq q aq pq h1 hpq with h | h
      · rw [h] at h4; cases h4
      · rcases h.2 with h | h
        · exact List.all_eq_true.1 hcheck q (by simpa using h)
        · obtain ⟨tq, htq⟩ := hfp q aq pq h1 hpq
          rw [htq]
          exact statOk_ok h _ _

end Go.Am
