import Derived.Test.YtifbkofianklaaaK3
set_option linter.unusedVariables false
set_option linter.unusedSimpArgs false
set_option maxRecDepth 10000
namespace Go.Am.T
attribute [local congr] selV_congr impB_congr
theorem clean_am : cleanP am = true := by kernel_rfl
def Eff.val : Eff → V
  | .ret v => v
  | .set _ _ v => v
def Eff.heap : Eff → Heap → Heap
  | .ret _, h => h
  | .set o x _, h => h.set o x
theorem effP_any {e : Eff} {h : Heap} {C : V → Heap → Prop} : effP (some e) h C = C (Eff.val e) (Eff.heap e h) := by cases e <;> rfl
theorem DRow.weak {p : Nat} {H : Heap} {sl : V} {C : List (List V)} (h : DRow p H sl C) : DRow 0 H sl C := by
  rcases h with h | ⟨h1, o, ver, h2, h3, h4⟩
  · exact .inl h
  · exact .inr ⟨h1, o, ver, Nat.zero_le _, h3, h4⟩
theorem DRow.keepO {p : Nat} {H H' : Heap} {sl : V} {C : List (List V)} (h : DRow p H sl C) (hk : ∀ o ∈ sl.objs, H'[o]? = H[o]?) : DRow p H' sl C := by
  rcases h with h | ⟨hL, o, ver, hp, rfl, ho⟩
  · exact .inl h
  · exact .inr ⟨hL, o, ver, hp, rfl, by rw [hk o (by simp [V.objs])]; exact ho⟩
theorem DRow.lt {p : Nat} {H : Heap} {sl : V} {C : List (List V)} (h : DRow p H sl C) : ∀ o ∈ sl.objs, o < H.length := by
  rcases h with ⟨-, rfl⟩ | ⟨hL, o, ver, hp, rfl, ho⟩
  · intro o ho; cases ho
  · intro o' h'
    obtain rfl : o' = o := by simpa [V.objs] using h'
    exact lt_of_get ho
theorem Cells6.app {C D : List (List V)} (h1 : Cells6 C) (h2 : Cells6 D) : Cells6 (C ++ D) := fun c hc => by
  rcases List.mem_append.1 hc with h | h
  · exact h1 c h
  · exact h2 c h
theorem all_flat {C : List (List V)} (h : Cells6 C) : C.flatten.all V.oneCell = true := by
  rw [List.all_eq_true]
  intro v hv
  obtain ⟨c, hc, hv⟩ := List.mem_flatten.1 hv
  exact List.all_eq_true.1 (h c hc).2 v hv
theorem flat_take6 {C : List (List V)} (h : Cells6 C) (n : Nat) (hn : n ≤ C.length) : C.flatten.take (n * 6) = (C.take n).flatten := by
  have := flat_take (s := 6) (rest := []) (fun c hc => (h c hc).1) hn
  simpa using this
theorem flat_drop6 : ∀ {C : List (List V)} (h : Cells6 C) (n : Nat), C.flatten.drop (n * 6) = (C.drop n).flatten
  | [], _, n => by simp
  | c :: C, h, 0 => by simp
  | c :: C, h, n + 1 => by
    have hc := (h c (by simp)).1
    rw [List.flatten_cons, List.drop_succ_cons, ← flat_drop6 (fun d hd => h d (by simp [hd])) n, show (n + 1) * 6 = 6 + n * 6 by omega, ← List.drop_drop]
    have : List.drop 6 (c ++ C.flatten) = C.flatten := by rw [← hc, List.drop_left]
    rw [this]
structure Part (H : Heap) (s : V) (D : List (List V)) : Prop where
  len : lenA s = some D.length
  first : firstA (fun o => H[o]?) 6 D.length s = some D.flatten
theorem DRow.part {p : Nat} {H : Heap} {sl : V} {C : List (List V)} (h : DRow p H sl C) (hC : Cells6 C) : Part H sl C := by
  rcases h with ⟨rfl, rfl⟩ | ⟨hL, o, ver, hp, rfl, ho⟩
  · exact ⟨rfl, rfl⟩
  · refine ⟨rfl, ?_⟩
    have := flat6 hC
    simp only [firstA, ↓reduceIte, Nat.le_refl, loadA, cellsAt, ho, Nat.zero_add, this, List.drop_zero]
    rw [List.take_of_length_le (by omega)]
theorem DRow.put {p o0 : Nat} {H : Heap} {sl : V} {C : List (List V)} {x : Ob} (h : DRow p H sl C) (hC : Cells6 C) {s : V} {D : List (List V)} (hs : Part H s D) (hD : Cells6 D) (h0 : H[o0]? = some x) (hp : p ≤ o0) (hL : C.length + D.length ≤ 1000000) :
    ∃ e, appendA (fun o => H[o]?) o0 6 64 sl s = some e ∧ DRow p (Eff.heap e H) (Eff.val e) (C ++ D) ∧ (Eff.heap e H).length = H.length ∧ (∀ o, o ≠ o0 → o ∉ sl.objs → (Eff.heap e H)[o]? = H[o]?) ∧ ∀ o ∈ (Eff.val e).objs, o = o0 ∨ o ∈ sl.objs := by
  have hone := all_flat hD
  have hl1 := hs.len
  have hf1 := hs.first
  by_cases hn : D = []
  · subst hn
    simp only [List.length_nil] at hl1 hf1
    refine ⟨.ret sl, ?_, by rw [List.append_nil]; exact h, rfl, fun o _ _ => rfl, fun o ho => .inr ho⟩
    rcases h with ⟨rfl, rfl⟩ | ⟨hne, o, ver, hpo, rfl, hob⟩
    · unfold appendA
      simp [hl1, hf1]
    · unfold appendA
      simp [hl1, hf1, cellsAt, hob]
  · have hne0 : D.length ≠ 0 := fun e => hn (List.length_eq_zero_iff.1 e)
    rcases h with ⟨rfl, rfl⟩ | ⟨hne, o, ver, hpo, rfl, hob⟩
    · refine ⟨.set o0 ⟨x.ver + 1, .arr D.flatten⟩ (.view o0 (x.ver + 1) 0 D.length 6 none), ?_, .inr ⟨by simpa using hn, o0, x.ver + 1, hp, rfl, ?_⟩, by simp [Eff.heap], fun o h1 h2 => ?_, fun o ho => .inl (by simpa [Eff.val, V.objs] using ho)⟩
      · have : D.length * 64 ≤ maxBytes := by unfold maxBytes; simp at hL; omega
        unfold appendA
        simp only [hl1, hf1, hone, ↓reduceIte, hne0, mkA, h0, this]
      · simp only [Eff.heap, List.nil_append]
        rw [List.getElem?_set_self (lt_of_get h0)]
      · simp only [Eff.heap]
        rw [List.getElem?_set_ne (Ne.symm h1)]
    · have h6 := flat6 hC
      refine ⟨.set o ⟨ver + 1, .arr (C.flatten ++ D.flatten)⟩ (.view o (ver + 1) 0 (C.length + D.length) 6 none), ?_, .inr ⟨by simp [hne], o, ver + 1, hpo, by simp [Eff.val], ?_⟩, by simp [Eff.heap], fun o' h1 h2 => ?_, fun o' ho => .inr (by simpa [Eff.val, V.objs] using ho)⟩
      · have : (C.length + D.length) * 64 ≤ maxBytes := by unfold maxBytes; omega
        unfold appendA
        simp [hl1, hf1, hone, cellsAt, hob, this, h6, hne0]
      · simp only [Eff.heap]
        rw [List.getElem?_set_self (lt_of_get hob)]; simp
      · simp only [Eff.heap]
        rw [List.getElem?_set_ne]
        rintro rfl
        exact h2 (by simp [V.objs])
theorem DRow.head {p : Nat} {H : Heap} {sl : V} {C : List (List V)} (h : DRow p H sl C) (hC : Cells6 C) {n : Nat} (hn : n ≤ C.length) : ∃ s, sliceA (fun o => H[o]?) 6 sl none (some (.int .i64 n)) none = some s ∧ Part H s (C.take n) ∧ fpV s = fpV sl := by
  rcases h with ⟨rfl, rfl⟩ | ⟨hL, o, ver, hp, rfl, ho⟩
  · obtain rfl : n = 0 := by simpa using hn
    exact ⟨.nils, rfl, ⟨rfl, rfl⟩, rfl⟩
  · have h6 := flat6 hC
    have hb : boundsA C.length (C.flatten.length / 6) none (some (.int .i64 (n : Nat))) none = some (0, n, C.length) := by
      have : C.flatten.length / 6 = C.length := by omega
      rw [this]
      simp [boundsA, intOf?, hn]
    refine ⟨.view o ver 0 n 6 none, ?_, ⟨?_, ?_⟩, rfl⟩
    · simp only [sliceA, ↓reduceIte, cellsAt, ho, Nat.sub_zero, hb, opt_bind_some]
    · simp [lenA]; omega
    · have hlen : (C.take n).length = n := by simp; omega
      have hm : n * 6 ≤ C.flatten.length := by omega
      simp only [firstA, ↓reduceIte, hlen, Nat.le_refl, loadA, cellsAt, ho, Nat.zero_add, hm, List.drop_zero]
      rw [flat_take6 hC n hn]
theorem DRow.tail {p : Nat} {H : Heap} {sl : V} {C : List (List V)} (h : DRow p H sl C) (hC : Cells6 C) {n : Nat} (hn : n + 1 ≤ C.length) : ∃ s, sliceA (fun o => H[o]?) 6 sl (some (.int .i64 ((n + 1 : Nat) : Int))) none none = some s ∧ Part H s (C.drop (n + 1)) ∧ fpV s = fpV sl := by
  rcases h with ⟨rfl, rfl⟩ | ⟨hL, o, ver, hp, rfl, ho⟩
  · simp at hn
  · have h6 := flat6 hC
    have hb : boundsA C.length (C.flatten.length / 6) (some (.int .i64 ((n + 1 : Nat) : Int))) none none = some (n + 1, C.length, C.length) := by
      have e : C.flatten.length / 6 = C.length := by omega
      rw [e]
      have h0 : (0 : Int) ≤ ((n + 1 : Nat) : Int) := by omega
      have h1 : ((n + 1 : Nat) : Int) ≤ ((C.length : Nat) : Int) := by omega
      simp only [boundsA, intOf?, Option.isNone_none, ↓reduceIte, opt_bind_some, h0, h1, Int.toNat_natCast]
    by_cases hlt : n + 1 < C.length
    · refine ⟨.view o ver (0 + (n + 1) * 6) (C.length - (n + 1)) 6 none, ?_, ⟨?_, ?_⟩, rfl⟩
      · have n0 : ¬ n + 1 = 0 := by omega
        simp only [sliceA, ↓reduceIte, cellsAt, ho, Nat.sub_zero, hb, opt_bind_some, n0, hlt]
      · simp [lenA]
      · have hlen : (C.drop (n + 1)).length = C.length - (n + 1) := by simp
        have hm : 0 + (n + 1) * 6 + (C.length - (n + 1)) * 6 ≤ C.flatten.length := by omega
        simp only [firstA, ↓reduceIte, hlen, Nat.le_refl, loadA, cellsAt, ho, hm]
        rw [Nat.zero_add, flat_drop6 hC, List.take_of_length_le]
        have := flat6 (C := C.drop (n + 1)) (fun c hc => hC c (List.mem_of_mem_drop hc))
        omega
    · have he : n + 1 = C.length := by omega
      refine ⟨.vend o ver 6, ?_, ⟨?_, ?_⟩, rfl⟩
      · have n0 : ¬ n + 1 = 0 := by omega
        simp only [sliceA, ↓reduceIte, cellsAt, ho, Nat.sub_zero, hb, opt_bind_some, n0, hlt]
      · simp [lenA]; omega
      · have : C.drop (n + 1) = [] := List.drop_eq_nil_of_le (by omega)
        rw [this]; rfl
theorem DRow.free {p : Nat} {H : Heap} {sl : V} {C : List (List V)} (h : DRow p H sl C) (hC : Cells6 C) (hf : ∀ c ∈ C, V.freeL c = true) (d : Nat) : ∃ v, V.shut (fun o => H[o]?) (d + 3) sl = some v ∧ v.free = true := by
  rcases h with ⟨rfl, rfl⟩ | ⟨hL, o, ver, hp, rfl, ho⟩
  · exact ⟨.nils, rfl, rfl⟩
  · have h6 := flat6 hC
    have hfl : V.freeL C.flatten = true := freeL_of_mem fun v hv => by
      obtain ⟨c, hc, hv⟩ := List.mem_flatten.1 hv
      exact freeL_mem (hf c hc) v hv
    have e : V.shut (fun o => H[o]?) (d + 3) (.view o ver 0 C.length 6 none) = match loadA (fun o => H[o]?) (C.length * 6) (.ptr o ver 0) with
      | some cs => match cs.mapM (V.shut (fun o => H[o]?) (d + 2)) with
        | some cs => if cs.all V.oneCell then some (.sl ((List.range C.length).map fun i => wrapV ((cs.drop (i * 6)).take 6)) 6 none) else none
        | none => none
      | none => none := rfl
    have hld : loadA (fun o => H[o]?) (C.length * 6) (.ptr o ver 0) = some C.flatten := by
      simp only [loadA, cellsAt, ho, ↓reduceIte, Nat.zero_add, h6, Nat.le_refl, List.drop_zero]
      rw [List.take_of_length_le (by omega)]
    have hm := mapM_shut_id (get := fun o => H[o]?) (d := d + 1) hfl
    rw [e, hld]
    simp only [hm, all_flat hC, ↓reduceIte]
    refine ⟨_, rfl, ?_⟩
    show V.freeL _ = true
    refine freeL_of_mem fun v hv => ?_
    obtain ⟨i, -, rfl⟩ := List.mem_map.1 hv
    exact wrapV_free fun c hc => freeL_mem hfl c (List.mem_of_mem_drop (List.mem_of_mem_take hc))
theorem SAt.reach {H : Heap} {a : Nat} {s : Ses} {L : List V} {W : V} {R : List Nat} (h : SAt H a s L W R) : reachC H (V.objsL [.ptr a 1 0]) = a :: R ∧ ∀ o ∈ a :: R, ∀ y, H[o]? = some y → (∀ i ∈ y.bd.objs, i ∈ a :: R) ∧ y.bd.plainBd = true := by
  have hcl : ∀ o ∈ a :: R, ∀ y, H[o]? = some y → (∀ i ∈ y.bd.objs, i ∈ a :: R) ∧ y.bd.plainBd = true := by
    intro o ho y hy
    rcases List.mem_cons.1 ho with rfl | ho
    · rw [h.ob] at hy
      cases hy
      refine ⟨fun i hi => ?_, rfl⟩
      have hi' : i ∈ V.objsL (s.cs W) := hi
      have : V.objsL (s.cs W) = W.objs := by simp [Ses.cs, V.objsL, V.objs]
      rw [this, h.row.objs] at hi'
      simp [hi']
    · have hp := h.row.plain h.bods o ho y hy
      refine ⟨fun i hi => (by rw [hp] at hi; cases hi), ?_⟩
      rcases h.row with ⟨-, -, rfl⟩ | ⟨o', ver, x, rfl, ho', -⟩
      · cases ho
      · obtain rfl := List.mem_singleton.1 ho
        rw [ho'] at hy; cases hy; rfl
  refine ⟨?_, hcl⟩
  have e1 : V.objsL [V.ptr a 1 0] = [a] := rfl
  rw [e1]
  show reachN H 6 [a] = a :: R
  have e2 : reachN H 6 [a] = reachN H 5 (addNew [a] ([a].flatMap (namedBy H))) := rfl
  have e3 : [a].flatMap (namedBy H) = R := by
    simp only [List.flatMap_cons, List.flatMap_nil, List.append_nil, namedBy, h.ob]
    have : (Bd.var (s.cs W)).objs = W.objs := by simp [Bd.objs, Ses.cs, V.objsL, V.objs]
    rw [this, h.row.objs]
  have e4 : addNew [a] R = a :: R := by
    rcases h.row with ⟨-, -, rfl⟩ | ⟨o', ver, x, rfl, ho', -⟩
    · rfl
    · have hne : o' ≠ a := fun e => h.apart (by simp [e])
      simp [addNew, hne]
  rw [e2, e3, e4]
  exact reachN_closed H _ (fun o ho i hi => by
    unfold namedBy at hi
    split at hi
    · rename_i y hy; exact (hcl o ho y hy).1 i hi
    · cases hi) 5
theorem tell_framed {N n : Nat} (hN : 1500 ≤ N) (hn : 4 ≤ n) {a : Nat} {s : Ses} {W : V} {L : List V} {R : List Nat} {H : Heap} (ha : SAt H a s L W R) {f : FuncId} {from_ : Int} (hf : (f = 11 ∧ from_ = s.told + 1) ∨ (f = 12 ∧ from_ = s.first)) (f0 : 1 ≤ s.first) (f1 : s.first + L.length ≤ 2000) (hL : L.length ≤ 1000) (t0 : 0 ≤ s.told) (t1 : s.told ≤ 2000) :
    ∃ v' H', frameC (pureOf am) (callA am N n) f [.ptr a 1 0] H = some (v', H') ∧ SAt H' a (toldS s L.length) L W R ∧ Beyond H H' a R R ∧ ∃ C, DRow H.length H' v' C ∧ Tells s L from_ C := by
  obtain ⟨hR, hcl⟩ := ha.reach
  have hk : SAt (keepOnly (a :: R) H) a s L W R := ⟨by rw [keepOnly_in (by simp)]; exact ha.ob, ha.row.keep (fun o ho => keepOnly_in (by simp [ho])), ha.bods, ha.apart⟩
  have hlen : (keepOnly (a :: R) H).length = H.length := keepOnly_length _ _
  have fin : ∀ {v' h1}, callA am N n f [.ptr a 1 0] (keepOnly (a :: R) H) = some (v', h1) → pureOf am f = .keep → f ≠ YLD → SAt h1 a (toldS s L.length) L W R → Beyond (keepOnly (a :: R) H) h1 a R R → (∃ C, DRow (keepOnly (a :: R) H).length h1 v' C ∧ Tells s L from_ C) →
      ∃ v' H', frameC (pureOf am) (callA am N n) f [.ptr a 1 0] H = some (v', H') ∧ SAt H' a (toldS s L.length) L W R ∧ Beyond H H' a R R ∧ ∃ C, DRow H.length H' v' C ∧ Tells s L from_ C := by
    intro v' h1 hc hm hy hS hB hC
    obtain ⟨C, hC, hT⟩ := hC
    rw [hlen] at hC
    obtain ⟨e1, e2⟩ := frame_all clean_am hm (.inl rfl) hR hcl hc hy
    refine ⟨v', _, e1, ⟨by rw [merge_in (.inl (by simp))]; exact hS.ob, hS.row.keep (fun o ho => merge_in (.inl (by simp [ho]))), hS.bods, hS.apart⟩, ⟨by rw [mergeH_length]; exact e2, fun o h1 h2 h3 => merge_out (by simp [h2, h3]) h1 e2, fun o ho => .inl ho⟩, C, ?_, hT⟩
    exact hC.keep fun o h1 h2 => merge_in (.inr h1)
  rcases hf with ⟨rfl, rfl⟩ | ⟨rfl, rfl⟩
  · obtain ⟨v', h1, hc, hS, hB, hC⟩ := @fresh_spec N n hN hn _ _ _ _ _ _ hk f0 f1 hL t0 t1
    exact fin hc pm11 (by decide) hS hB hC
  · obtain ⟨v', h1, hc, hS, hB, hC⟩ := @again_spec N n hN hn _ _ _ _ _ _ hk f0 f1 hL
    exact fin hc pm12 (by decide) hS hB hC
def OldD (k : Nat) (view : Int) (sent out : List (List Int)) (c : List V) : Prop :=
  ∃ (seq ack : Int) (l : List Int) (b : V), c = dgC k (1 - k) view seq ack b ∧ By l b ∧ l.length ≤ 256 ∧ 0 ≤ ack ∧ ack ≤ out.length ∧ (seq = 0 ∧ l = [] ∨ 1 ≤ seq ∧ seq ≤ sent.length ∧ sent[(seq - 1).toNat]? = some l)
theorem OldD.mono {k : Nat} {view : Int} {sent out sent1 out1 : List (List Int)} {c : List V} (h : OldD k view sent out c) (h1 : ∃ r, sent1 = sent ++ r) (h2 : out.length ≤ out1.length) : OldD k view sent1 out1 c := by
  obtain ⟨seq, ack, l, b, rfl, hb, hl, a0, a1, hq⟩ := h
  obtain ⟨r, rfl⟩ := h1
  refine ⟨seq, ack, l, b, rfl, hb, hl, a0, by omega, ?_⟩
  rcases hq with h | ⟨q1, q2, q3⟩
  · exact .inl h
  · exact .inr ⟨q1, by simp; omega, by rw [List.getElem?_append_left (by omega)]; exact q3⟩
def NetC (k : Nat) (view : Int) (sent sent' out out' : List (List Int)) (C : List (List V)) : Prop := ∀ c ∈ C, OldD k view sent out c ∨ OldD (1 - k) view sent' out' c
theorem OldD.six {k : Nat} {view : Int} {sent out : List (List Int)} {c : List V} (h : OldD k view sent out c) : (c.length = 6 ∧ c.all V.oneCell = true) ∧ V.freeL c = true := by
  obtain ⟨seq, ack, l, b, rfl, hb, -⟩ := h
  refine ⟨⟨rfl, ?_⟩, ?_⟩
  · simp only [dgC, List.all_cons, List.all_nil, hb.one, Bool.and_true]; rfl
  · simp only [dgC, freeL_cons, freeL_nil, free_int, hb.free, Bool.and_self]
theorem NetC.six {k : Nat} {view : Int} {sent sent' out out' : List (List Int)} {C : List (List V)} (h : NetC k view sent sent' out out' C) : Cells6 C ∧ ∀ c ∈ C, V.freeL c = true :=
  ⟨fun c hc => by rcases h c hc with h | h <;> exact h.six.1, fun c hc => by rcases h c hc with h | h <;> exact h.six.2⟩
theorem NetC.swap {k : Nat} (hk : k < 2) {view : Int} {sent sent' out out' : List (List Int)} {C : List (List V)} (h : NetC k view sent sent' out out' C) : NetC (1 - k) view sent' sent out' out C := fun c hc => by
  rcases h c hc with h | h
  · refine .inr ?_
    rwa [show 1 - (1 - k) = k by omega]
  · exact .inl h
theorem NetC.mono {k : Nat} {view : Int} {sent sent' out out' sent1 sent1' out1 out1' : List (List Int)} {C : List (List V)} (h : NetC k view sent sent' out out' C) (h1 : ∃ r, sent1 = sent ++ r) (h1' : ∃ r, sent1' = sent' ++ r) (h2 : out.length ≤ out1.length) (h2' : out'.length ≤ out1'.length) : NetC k view sent1 sent1' out1 out1' C := fun c hc => by
  rcases h c hc with h | h
  · exact .inl (h.mono h1 h2)
  · exact .inr (h.mono h1' h2')
end Go.Am.T


set_option linter.unusedVariables false
set_option linter.unusedSimpArgs false
set_option maxRecDepth 10000
namespace Go.Am.T
attribute [local congr] selV_congr impB_congr
def l3p : ACode := (.seq (.seq (.region [⟨some 60, (.move (.tmp 10)), none⟩, ⟨some 61, (.move (.tmp 1)), none⟩, ⟨some 62, (.lenS (.tmp 61)), none⟩, ⟨some 63, (.bin .lss (.tmp 60) (.tmp 62)), none⟩]) (.clr [62, 61, 60])) (.cond (.tmp 63) (.seq (.clr [63]) .skip) (.seq (.clr [63, 10, 1]) (.exit 0))))
def l3q : ACode := (.seq (.region [⟨some 64, (.move (.tmp 10)), none⟩, ⟨some 65, (.bin .add (.tmp 64) (.cst (.int .i64 1))), none⟩, ⟨some 10, (.move (.tmp 65)), none⟩]) (.clr [65, 64]))
def l3A : ACode := (.seq (.region [⟨some 66, (.move (.tmp 1)), none⟩, ⟨some 67, (.move (.tmp 10)), none⟩, ⟨some 68, (.iaddrS 4 (.tmp 66) (.tmp 67)), none⟩, ⟨some 69, (.load (some 4) (.tmp 68)), none⟩, ⟨some 11, (.allocz 1 [(.int .i64 0), (.int .i64 0), (.int .i64 0), .nils]), none⟩, ⟨none, (.store 4 (.tmp 11) (.tmp 69)), none⟩]) (.clr [69, 68, 67, 66]))
def l3B : ACode := (.seq (.region [⟨some 70, (.faddr 1 (.tmp 11)), none⟩, ⟨some 71, (.load none (.tmp 70)), none⟩, ⟨some 72, (.bin .and (.tmp 71) (.cst (.int .i64 1))), none⟩, ⟨some 12, (.move (.tmp 72)), none⟩]) (.clr [72, 71, 70]))
def l3C : ACode := (.block 2 (.seq (.seq (.region [⟨some 74, (.faddr 0 (.tmp 11)), none⟩, ⟨some 75, (.load none (.tmp 74)), none⟩, ⟨some 76, (.bin .eql (.tmp 75) (.cst (.int .i64 1))), none⟩, ⟨some 73, (.move (.tmp 76)), none⟩]) (.clr [76, 75, 74])) (.cond (.tmp 73) (.seq (.clr [73]) (.seq (.seq (.region [⟨some 77, (.move (.tmp 9)), none⟩, ⟨some 78, (.move (.tmp 12)), none⟩, ⟨some 79, (.nilck (.tmp 77)), none⟩, ⟨some 80, (.faddr 0 (.tmp 79)), none⟩, ⟨some 81, (.iaddrA 2 1 (.tmp 80) (.tmp 78)), none⟩, ⟨some 82, (.load none (.tmp 81)), none⟩, ⟨some 83, (.faddr 3 (.tmp 11)), none⟩, ⟨some 84, (.load none (.tmp 83)), none⟩, ⟨some 85, (.call 10 [(.tmp 82), (.tmp 84)]), none⟩, ⟨some 86, (.bin .eql (.tmp 85) (.cst (.int .i64 0))), none⟩]) (.clr [85, 84, 83, 82, 81, 80, 79, 78, 77])) (.cond (.tmp 86) (.seq (.clr [86]) (.seq (.draw [(⟨some 87, (.move (.tmp 9)), none⟩, []), (⟨some 88, (.move (.tmp 12)), none⟩, []), (⟨some 89, (.move (.tmp 9)), none⟩, []), (⟨some 90, (.move (.tmp 12)), none⟩, []), (⟨some 91, (.nilck (.tmp 89)), none⟩, []), (⟨some 92, (.faddr 3 (.tmp 91)), none⟩, []), (⟨some 93, (.iaddrA 2 1 (.tmp 92) (.tmp 90)), none⟩, []), (⟨some 94, (.load none (.tmp 93)), none⟩, []), (⟨some 95, (.faddr 3 (.tmp 11)), none⟩, []), (⟨some 96, (.load none (.tmp 95)), none⟩, []), (⟨some 97, (.append 2 1 1 (.cst .nils) (.tmp 96)), none⟩, [7]), (⟨some 98, (.bslice [.nils] 1 1 [(0, 1, (.tmp 97))]), none⟩, []), (⟨some 99, (.append 3 1 24 (.tmp 94) (.tmp 98)), none⟩, []), (⟨some 100, (.nilck (.tmp 87)), none⟩, []), (⟨some 101, (.faddr 3 (.tmp 100)), none⟩, []), (⟨some 102, (.iaddrA 2 1 (.tmp 101) (.tmp 88)), none⟩, []), (⟨none, (.store 1 (.tmp 102) (.tmp 99)), none⟩, [])]) (.clr [102, 101, 100, 99, 98, 97, 96, 95, 94, 93, 92, 91, 90, 89, 88, 87, 12, 11]))) (.seq (.clr [86, 12, 11]) .skip)))) (.seq (.clr [73]) (.seq (.seq (.region [⟨some 104, (.faddr 0 (.tmp 11)), none⟩, ⟨some 105, (.load none (.tmp 104)), none⟩, ⟨some 106, (.bin .eql (.tmp 105) (.cst (.int .i64 2))), none⟩, ⟨some 103, (.move (.tmp 106)), none⟩]) (.clr [106, 105, 104])) (.cond (.tmp 103) (.seq (.clr [103, 11]) (.seq (.draw [(⟨some 107, (.move (.tmp 9)), none⟩, []), (⟨some 108, (.move (.tmp 9)), none⟩, []), (⟨some 109, (.nilck (.tmp 108)), none⟩, []), (⟨some 110, (.faddr 2 (.tmp 109)), none⟩, []), (⟨some 111, (.load none (.tmp 110)), none⟩, []), (⟨some 112, (.move (.tmp 9)), none⟩, []), (⟨some 113, (.move (.tmp 12)), none⟩, []), (⟨some 114, (.nilck (.tmp 112)), none⟩, []), (⟨some 115, (.faddr 0 (.tmp 114)), none⟩, []), (⟨some 116, (.iaddrA 2 1 (.tmp 115) (.tmp 113)), none⟩, []), (⟨some 117, (.load none (.tmp 116)), none⟩, []), (⟨some 118, (.call 11 [(.tmp 117)]), none⟩, [4]), (⟨some 119, (.append 4 6 64 (.tmp 111) (.tmp 118)), none⟩, []), (⟨some 120, (.nilck (.tmp 107)), none⟩, []), (⟨some 121, (.faddr 2 (.tmp 120)), none⟩, []), (⟨none, (.store 1 (.tmp 121) (.tmp 119)), none⟩, [])]) (.clr [121, 120, 119, 118, 117, 116, 115, 114, 113, 112, 111, 110, 109, 108, 107, 12]))) (.seq (.clr [103]) (.seq (.seq (.region [⟨some 123, (.faddr 0 (.tmp 11)), none⟩, ⟨some 124, (.load none (.tmp 123)), none⟩, ⟨some 125, (.bin .eql (.tmp 124) (.cst (.int .i64 3))), none⟩, ⟨some 122, (.move (.tmp 125)), none⟩]) (.clr [125, 124, 123])) (.cond (.tmp 122) (.seq (.clr [122, 11]) (.seq (.draw [(⟨some 126, (.move (.tmp 9)), none⟩, []), (⟨some 127, (.move (.tmp 9)), none⟩, []), (⟨some 128, (.nilck (.tmp 127)), none⟩, []), (⟨some 129, (.faddr 2 (.tmp 128)), none⟩, []), (⟨some 130, (.load none (.tmp 129)), none⟩, []), (⟨some 131, (.move (.tmp 9)), none⟩, []), (⟨some 132, (.move (.tmp 12)), none⟩, []), (⟨some 133, (.nilck (.tmp 131)), none⟩, []), (⟨some 134, (.faddr 0 (.tmp 133)), none⟩, []), (⟨some 135, (.iaddrA 2 1 (.tmp 134) (.tmp 132)), none⟩, []), (⟨some 136, (.load none (.tmp 135)), none⟩, []), (⟨some 137, (.call 12 [(.tmp 136)]), none⟩, [4]), (⟨some 138, (.append 5 6 64 (.tmp 130) (.tmp 137)), none⟩, []), (⟨some 139, (.nilck (.tmp 126)), none⟩, []), (⟨some 140, (.faddr 2 (.tmp 139)), none⟩, []), (⟨none, (.store 1 (.tmp 140) (.tmp 138)), none⟩, [])]) (.clr [140, 139, 138, 137, 136, 135, 134, 133, 132, 131, 130, 129, 128, 127, 126, 12]))) (.seq (.clr [122, 12]) (.seq (.seq (.region [⟨some 142, (.faddr 0 (.tmp 11)), none⟩, ⟨some 143, (.load none (.tmp 142)), none⟩, ⟨some 144, (.bin .geq (.tmp 143) (.cst (.int .i64 4))), none⟩, ⟨some 145, (.move (.tmp 144)), none⟩, ⟨some 146, (.faddr 0 (.tmp 11)), some (145, true)⟩, ⟨some 147, (.load none (.tmp 146)), some (145, true)⟩, ⟨some 148, (.bin .leq (.tmp 147) (.cst (.int .i64 6))), some (145, true)⟩, ⟨some 149, (.pick (.tmp 145) (.tmp 148) (.cst (.bool false))), none⟩, ⟨some 150, (.move (.tmp 149)), none⟩, ⟨some 151, (.faddr 2 (.tmp 11)), some (150, true)⟩, ⟨some 152, (.load none (.tmp 151)), some (150, true)⟩, ⟨some 153, (.bin .geq (.tmp 152) (.cst (.int .i64 0))), some (150, true)⟩, ⟨some 154, (.pick (.tmp 150) (.tmp 153) (.cst (.bool false))), none⟩, ⟨some 155, (.move (.tmp 154)), none⟩, ⟨some 156, (.faddr 2 (.tmp 11)), some (155, true)⟩, ⟨some 157, (.load none (.tmp 156)), some (155, true)⟩, ⟨some 158, (.move (.tmp 9)), some (155, true)⟩, ⟨some 159, (.nilck (.tmp 158)), some (155, true)⟩, ⟨some 160, (.faddr 2 (.tmp 159)), some (155, true)⟩, ⟨some 161, (.load none (.tmp 160)), some (155, true)⟩, ⟨some 162, (.lenS (.tmp 161)), some (155, true)⟩, ⟨some 163, (.bin .lss (.tmp 157) (.tmp 162)), some (155, true)⟩, ⟨some 164, (.pick (.tmp 155) (.tmp 163) (.cst (.bool false))), none⟩, ⟨some 141, (.move (.tmp 164)), none⟩]) (.clr [164, 163, 162, 161, 160, 159, 158, 157, 156, 155, 154, 153, 152, 151, 150, 149, 148, 147, 146, 145, 144, 143, 142])) (.cond (.tmp 141) (.seq (.clr [141]) (.seq (.seq (.draw [(⟨some 165, (.move (.tmp 9)), none⟩, []), (⟨some 166, (.nilck (.tmp 165)), none⟩, []), (⟨some 167, (.faddr 2 (.tmp 166)), none⟩, []), (⟨some 168, (.load none (.tmp 167)), none⟩, []), (⟨some 169, (.faddr 2 (.tmp 11)), none⟩, []), (⟨some 170, (.load none (.tmp 169)), none⟩, []), (⟨some 171, (.iaddrS 6 (.tmp 168) (.tmp 170)), none⟩, []), (⟨some 172, (.load (some 6) (.tmp 171)), none⟩, []), (⟨some 13, (.allocz 6 [(.int .i64 0), (.int .i64 0), (.int .i64 0), (.int .i64 0), (.int .i64 0), .nils]), none⟩, [3, 5, 7]), (⟨none, (.store 6 (.tmp 13) (.tmp 172)), none⟩, [])]) (.clr [172, 171, 170, 169, 168, 167, 166, 165])) (.seq (.seq (.seq (.region [⟨some 173, (.faddr 0 (.tmp 11)), none⟩, ⟨some 174, (.load none (.tmp 173)), none⟩, ⟨some 175, (.bin .neq (.tmp 174) (.cst (.int .i64 5))), none⟩]) (.clr [174, 173])) (.cond (.tmp 175) (.seq (.clr [175]) (.seq (.region [⟨some 14, (.move (.cst .nils)), none⟩]) (.seq (.seq (.region [⟨some 176, (.move (.tmp 14)), none⟩, ⟨some 177, (.move (.tmp 9)), none⟩, ⟨some 178, (.nilck (.tmp 177)), none⟩, ⟨some 179, (.faddr 2 (.tmp 178)), none⟩, ⟨some 180, (.load none (.tmp 179)), none⟩, ⟨some 181, (.faddr 2 (.tmp 11)), none⟩, ⟨some 182, (.load none (.tmp 181)), none⟩, ⟨some 183, (.slS 6 (.tmp 180) none (some (.tmp 182)) none), none⟩, ⟨some 184, (.append 7 6 64 (.tmp 176) (.tmp 183)), none⟩, ⟨some 14, (.move (.tmp 184)), none⟩]) (.clr [184, 183, 182, 181, 180, 179, 178, 177, 176])) (.seq (.region [⟨some 185, (.move (.tmp 9)), none⟩, ⟨some 186, (.move (.tmp 14)), none⟩, ⟨some 187, (.move (.tmp 9)), none⟩, ⟨some 188, (.nilck (.tmp 187)), none⟩, ⟨some 189, (.faddr 2 (.tmp 188)), none⟩, ⟨some 190, (.load none (.tmp 189)), none⟩, ⟨some 191, (.faddr 2 (.tmp 11)), none⟩, ⟨some 192, (.load none (.tmp 191)), none⟩, ⟨some 193, (.bin .add (.tmp 192) (.cst (.int .i64 1))), none⟩, ⟨some 194, (.slS 6 (.tmp 190) (some (.tmp 193)) none none), none⟩, ⟨some 195, (.append 8 6 64 (.tmp 186) (.tmp 194)), none⟩, ⟨some 196, (.nilck (.tmp 185)), none⟩, ⟨some 197, (.faddr 2 (.tmp 196)), none⟩, ⟨none, (.store 1 (.tmp 197) (.tmp 195)), none⟩]) (.clr [197, 196, 195, 194, 193, 192, 191, 190, 189, 188, 187, 186, 185, 14]))))) (.seq (.clr [175]) .skip))) (.seq (.seq (.region [⟨some 198, (.faddr 0 (.tmp 11)), none⟩, ⟨some 199, (.load none (.tmp 198)), none⟩, ⟨some 200, (.bin .neq (.tmp 199) (.cst (.int .i64 6))), none⟩]) (.clr [199, 198, 11])) (.cond (.tmp 200) (.seq (.clr [200]) (.seq (.region [⟨some 201, (.move (.tmp 9)), none⟩, ⟨some 202, (.load (some 6) (.tmp 13)), none⟩, ⟨some 203, (.call 13 [(.tmp 201), (.tmp 202)]), none⟩]) (.clr [203, 202, 201, 13]))) (.seq (.clr [200, 13]) .skip)))))) (.seq (.clr [141, 11]) .skip)))))))))))))
def l3R : ACode := (.seq (.seq (.region [⟨some 204, (.move (.tmp 9)), none⟩, ⟨some 205, (.call 14 [(.tmp 204)]), none⟩, ⟨some 206, (.un .not (.tmp 205)), none⟩]) (.clr [205, 204])) (.cond (.tmp 206) (.seq (.clr [206, 10, 9, 1]) (.seq (.region [⟨some 4, (.move (.cst (.bool false))), none⟩]) .ret)) (.seq (.clr [206]) .skip)))
def l3K : ACode := .seq l3A (.seq l3B (.seq l3C l3R))
theorem l3K_is : l3K = .seq l3A (.seq l3B (.seq l3C l3R)) := rfl
theorem Duo.setOn {H : Heap} {w k : Nat} (hk : k < 2) {on on' : V} {a c : Nat} {sa sc : Ses} {sent sent' out out' : List (List Int)} {S T O U : V} {R R' : List Nat} (D : Duo H w k on a c sa sc sent sent' out out' S T O U R R') : Duo (H.set w ⟨1, .var (tw k on' a c S T O U)⟩) w k on' a c sa sc sent sent' out out' S T O U R R' := by
  obtain ⟨d1, d2, d3, d4, d5, d6, d7, d8, d9, d10, d11, d12, d13, d14, d15⟩ := D
  have g : ∀ o, o ≠ w → (H.set w ⟨1, .var (tw k on' a c S T O U)⟩)[o]? = H[o]? := fun o ho => by rw [List.getElem?_set_ne (Ne.symm ho)]
  exact ⟨by rw [List.getElem?_set_self (lt_of_get d1)], d2.keep (fun o ho => g o (fun e => d4 (e ▸ ho))), d3.keep (fun o ho => g o (fun e => d5 (e ▸ ho))), d4, d5, d6, d7, d8, d9, d10, d11, d12, d13, d14, d15⟩
theorem duo_send {N n : Nat} (hn : 5 ≤ n) {H : Heap} {w k : Nat} {on : V} {a c : Nat} {sa sc : Ses} {sent sent' out out' : List (List Int)} {S T O U : V} {R R' : List Nat} (D : Duo H w k on a c sa sc sent sent' out out' S T O U R R') (hk : k < 2)
    {l : List Int} {b : V} (hb : By l b) (hbl : l.length ≤ 256) {fb : Nat} {m : Ob} (hm : H[fb + 1]? = some m) (x2 : H[fb + 2]? = some ⟨0, .dead⟩) (x3 : H[fb + 3]? = some ⟨0, .dead⟩) (hfb : ∀ o, o = w ∨ o ∈ R ∨ o ∈ R' → o < fb) (hs : sent.length < 80) :
    ∃ H1 e1 e2 H2 H3, callA am N n 10 [.ptr a 1 0, b] H = some (.int .i64 0, H1) ∧ H1[w]? = some ⟨1, .var (tw k on a c S T O U)⟩ ∧ H1[fb + 1]? = some m ∧ appendA (fun o => H1[o]?) (fb + 2) 1 1 .nils b = some e1 ∧ Eff.heap e1 H1 = H2 ∧
      (Eff.val e1).cells = [Eff.val e1] ∧ (Eff.val e1).oneCell = true ∧ appendA (fun o => H2[o]?) (fb + 3) 1 24 S (.sl [Eff.val e1] 1 (some 1)) = some e2 ∧ Eff.heap e2 H2 = H3 ∧ (Eff.val e2).cells = [Eff.val e2] ∧ (Eff.val e2).oneCell = true ∧ H3[w]? = some ⟨1, .var (tw k on a c S T O U)⟩ ∧
      H.length ≤ H3.length ∧ (∀ o, o < H.length → o ≠ w → o ∉ R → o ≠ fb + 2 → o ≠ fb + 3 → H3[o]? = H[o]?) ∧
      ∃ R1, Duo (H3.set w ⟨1, .var (tw k on a c (Eff.val e2) T O U)⟩) w k on a c sa sc (sent ++ [l]) sent' out out' (Eff.val e2) T O U R1 R' ∧ ∀ o ∈ R1, o ∈ R ∨ fb + 2 ≤ o := by
  have hw := D.ob
  have hwf := hfb w (.inl rfl)
  have hml := lt_of_get hm
  have hx3l := lt_of_get x3
  obtain ⟨L, W, Rw, LS, RS, LO, RO, hS, hB, hSr, hEl, hO, hBo, hE, hRs, hnd⟩ := D.near.all
  have hLl : L.length ≤ 1000 := by have := hE.sum; have := hE.f0; omega
  have haR : a ∈ R := by rw [hRs]; simp
  obtain ⟨v', H1, c10, rfl, b', W', R1w, hb', hS', hbe⟩ := @send_spec N n (by omega) _ _ _ _ _ _ hS _ _ hb (by omega) hLl
  have oth := hbe.oth
  have hRlt := D.near.lt
  have hRlt' := D.far.lt
  rw [hRs] at hRlt
  have hwl := lt_of_get hw
  have hal := lt_of_get hS.ob
  have wne : w ≠ a := fun e => D.wR (e ▸ haR)
  have wnR : w ∉ Rw := fun h => D.wR (by rw [hRs]; simp [h])
  have fbR : ∀ o ∈ R, o < fb := fun o ho => hfb o (.inr (.inl ho))
  rw [hRs] at fbR
  have hw1 : H1[w]? = some ⟨1, .var (tw k on a c S T O U)⟩ := by rw [oth w hwl wne wnR]; exact hw
  have big : ∀ o, fb ≤ o → o < H.length → H1[o]? = H[o]? := fun o h1 h2 => oth _ h2 (by have := fbR a (by simp); omega) (fun h => by have := fbR o (by simp [h]); omega)
  have hm1 : H1[fb + 1]? = some m := by rw [big _ (by omega) hml]; exact hm
  have x21 : H1[fb + 2]? = some ⟨0, .dead⟩ := by rw [big _ (by omega) (by omega)]; exact x2
  have x31 : H1[fb + 3]? = some ⟨0, .dead⟩ := by rw [big _ (by omega) (by omega)]; exact x3
  have mid := mem_mid (c := a) (R := Rw) (RS := RS) (E := V.objsL LS) (RO := RO) (w := w) (m := H.length) (by rw [← hRs]; exact D.wR) (by rw [← hRs]; exact hnd) hRlt
  have hsep : Sep w a Rw RO := sep_of (by rw [← hRs]; exact D.wR) (by rw [← hRs]; exact hnd)
  have keep1 : ∀ o ∈ RS ++ V.objsL LS, H1[o]? = H[o]? := fun o ho => by
    obtain ⟨a1, a2, a3, a4, a5⟩ := mid o ho
    exact oth o a1 a3 a4
  have keepO : ∀ o ∈ RO, H1[o]? = H[o]? := fun o ho => oth o (hRlt o (by simp [ho])) (fun e => hsep.aO (e ▸ ho)) (hsep.RO o ho)
  have hSr1 := hSr.keep (fun o ho => keep1 o (by simp [ho]))
  have hEl1 := hEl.keep (fun o ho => keep1 o (by simp [ho]))
  have hO1 := hO.keep keepO
  have hlS : LS.length ≤ 1000 := by have := hEl.1; omega
  have E1 : ∃ e1 E2, appendA (fun o => H1[o]?) (fb + 2) 1 1 .nils b = some e1 ∧ (Eff.heap e1 H1).length = H1.length ∧ (∀ o, o ≠ fb + 2 → (Eff.heap e1 H1)[o]? = H1[o]?) ∧ El (Eff.heap e1 H1) l (Eff.val e1) ∧ (Eff.val e1).objs = E2 ∧ (∀ o ∈ E2, o = fb + 2) ∧ E2.Nodup ∧ (Eff.val e1).cells = [Eff.val e1] ∧ (Eff.val e1).oneCell = true := by
    rcases copy_bytes hb x21 (by omega) with ⟨hl0, hA2⟩ | ⟨hl0, hA2⟩
    · exact ⟨_, [], hA2, rfl, fun o _ => rfl, .inl (.inl ⟨rfl, hl0⟩), rfl, fun o ho => (by cases ho), .nil, rfl, rfl⟩
    · refine ⟨_, [fb + 2], hA2, by simp [Eff.heap], fun o ho => by simp only [Eff.heap]; rw [List.getElem?_set_ne (Ne.symm ho)], .inr ⟨fb + 2, 1, hl0, rfl, ?_⟩, rfl, fun o ho => List.mem_singleton.1 ho, by simp, rfl, rfl⟩
      simp only [Eff.heap]
      rw [List.getElem?_set_self (lt_of_get x21)]
  obtain ⟨e1, E2, hA2, hl2, g2, hel, hE2, hE2m, hE2n, c1, c2⟩ := E1
  generalize hH2 : Eff.heap e1 H1 = H2 at *
  generalize he : Eff.val e1 = e at *
  have x32 : H2[fb + 3]? = some ⟨0, .dead⟩ := by rw [g2 _ (by omega)]; exact x31
  have hSr2 : WRow H2 S LS RS := hSr1.keep fun o ho => g2 o (by have := fbR o (by simp [ho]); omega)
  obtain ⟨o1, y, S', hA, hrow, ho1, hol⟩ := hSr2.append (b := e) x32 c1 c2 hlS
  obtain ⟨w1, w2, w3, w4, w5, w6⟩ := hrow.shape
  have hne1 : o1 ≠ w := by
    rcases ho1 with rfl | ho1
    · omega
    · intro e; exact D.wR (by rw [hRs, ← e]; simp [ho1])
  have o1fb : o1 ≤ fb + 3 ∧ o1 ≠ fb + 1 ∧ o1 ≠ fb + 2 := by
    rcases ho1 with rfl | ho1
    · omega
    · have := fbR o1 (by simp [ho1]); omega
  have o1s : ∀ o, o < fb → o ∉ RS → o ≠ o1 := fun o h1 h2 => by
    rcases ho1 with rfl | ho1
    · omega
    · intro e; exact h2 (e ▸ ho1)
  have hnew := hbe.new
  have hfl := hbe.len
  have getw : ∀ o, o ≠ o1 → o ≠ fb + 2 → (H2.set o1 y)[o]? = H1[o]? := fun o h2 h3 => by rw [List.getElem?_set_ne (Ne.symm h2), g2 o h3]
  have get : ∀ o, o ≠ w → o ≠ o1 → o ≠ fb + 2 → ((H2.set o1 y).set w ⟨1, .var (tw k on a c S' T O U)⟩)[o]? = H1[o]? := fun o h1 h2 h3 => by rw [List.getElem?_set_ne (Ne.symm h1), getw o h2 h3]
  refine ⟨H1, e1, .set o1 y S', H2, H2.set o1 y, c10, hw1, hm1, hA2, hH2, by rw [he]; exact c1, by rw [he]; exact c2, by rw [he]; exact hA, rfl, w1, w2, by rw [getw w (Ne.symm hne1) (by omega)]; exact hw1, by simp [hl2]; omega, fun o h1 h2 h3 h4 h5 => ?_, a :: (R1w ++ ([o1] ++ (V.objsL (LS ++ [e]) ++ RO))), ?_, ?_⟩
  · have h3' := h3
    rw [hRs] at h3'
    simp only [List.mem_cons, List.mem_append, not_or] at h3'
    rw [getw o (by
      rcases ho1 with rfl | ho1
      · exact h5
      · intro e; exact h3'.2.2.1 (e ▸ ho1)) h4]
    exact oth o h1 h3'.1 h3'.2.1
  · show Duo ((H2.set o1 y).set w ⟨1, .var (tw k on a c S' T O U)⟩) w k on a c sa sc (sent ++ [l]) sent' out out' S' T O U _ R'
    have hEn : End sa (L ++ [b']).length (sent ++ [l]) out out'.length := by
      have := hE.send l hs
      simpa using this
    have hlim := hE.ack
    have hgl := hE.lim
    have hobj : V.objsL (LS ++ [e]) = V.objsL LS ++ E2 := by rw [objsL_app, ← hE2]; simp [V.objsL]
    have hnd' : (a :: (R1w ++ ([o1] ++ (V.objsL (LS ++ [e]) ++ RO)))).Nodup := by
      rw [hobj]
      exact nodup_send (by rw [← hRs]; exact hnd) fbR hnew hx3l hS'.row.nodup hS'.apart ho1 hE2m hE2n
    have ndS : ∀ o ∈ RS, o ∉ V.objsL LS := fun o h1 h2 => by
      rw [hRs] at hnd
      simp only [List.nodup_cons, List.nodup_append, List.mem_append] at hnd
      grind
    refine ⟨?_, ⟨L ++ [b'], W', R1w, LS ++ [e], [o1], LO, RO, ⟨?_, ?_, hS'.bods, hS'.apart⟩, ?_, ?_, ?_, ?_, hBo, hEn, rfl, hnd'⟩, D.far.keep ?_, ?_, D.wR', ?_, D.me, D.other, D.me', D.other', D.view, D.pre, ?_, D.told, D.told'⟩
    · rw [List.getElem?_set_self (by simp [hl2]; omega)]
    · rw [get a (Ne.symm wne) (o1s a (fbR a (by simp)) (fun h => (mid a (by simp [h])).2.2.1 rfl)) (by have := fbR a (by simp); omega)]
      exact hS'.ob
    · refine hS'.row.keep fun o ho => ?_
      rcases hnew o ho with h | h
      · exact get o (fun e => wnR (e ▸ h)) (o1s o (fbR o (by simp [h])) (fun h2 => (mid o (by simp [h2])).2.2.2.1 h)) (by have := fbR o (by simp [h]); omega)
      · exact get o (by omega) (by omega) (by omega)
    · exact wait_send (n := 0) hB (by omega) hb' (by omega)
    · refine hrow.keep fun o ho => ?_
      obtain rfl := List.mem_singleton.1 ho
      rw [List.getElem?_set_ne (Ne.symm hne1)]
    · have : Els ((H2.set o1 y).set w ⟨1, .var (tw k on a c S' T O U)⟩) sent LS := hEl1.keep fun o ho => get o (mid o (by simp [ho])).2.1 (o1s o (fbR o (by simp [ho])) (fun h2 => ndS o h2 ho)) (by have := fbR o (by simp [ho]); omega)
      refine this.snoc ?_
      rcases hel with h | ⟨o, ver, h1, h2, h3⟩
      · exact .inl h
      · refine .inr ⟨o, ver, h1, h2, ?_⟩
        have : o = fb + 2 := hE2m o (by rw [← hE2, h2]; simp [V.objs])
        subst this
        rw [List.getElem?_set_ne (by omega), List.getElem?_set_ne (by omega)]
        exact h3
    · refine hO1.keep fun o ho => get o (fun e => hsep.wO (e ▸ ho)) (o1s o (fbR o (by simp [ho])) (fun h2 => (mid o (by simp [h2])).2.2.2.2 ho)) (by have := fbR o (by simp [ho]); omega)
    · intro o ho
      have h1 := hfb o (.inr (.inr ho))
      have h2 : o ∉ R := fun h => D.apart o h ho
      have h2' := h2
      rw [hRs] at h2'
      simp only [List.mem_cons, List.mem_append, not_or] at h2'
      rw [get o (fun e => D.wR' (e ▸ ho)) (o1s o h1 h2'.2.2.1) (by omega)]
      exact oth o (hRlt' o ho) h2'.1 h2'.2.1
    · intro h
      rw [hobj] at h
      simp only [List.mem_append, List.mem_cons, List.not_mem_nil, or_false] at h
      rcases h with h | h | h | (h | h) | h
      · exact wne h
      · rcases hnew w h with h | h
        · exact wnR h
        · omega
      · exact hne1 h.symm
      · exact (mid w (by simp [h])).2.1 rfl
      · have := hE2m w h; omega
      · exact hsep.wO h
    · intro o ho h'
      have h1 := hfb o (.inr (.inr h'))
      have h2 : o ∉ R := fun h => D.apart o h h'
      have h3 := D.far.lt o h'
      rw [hRs] at h2
      simp only [List.mem_cons, List.mem_append, not_or] at h2
      rw [hobj] at ho
      simp only [List.mem_append, List.mem_cons, List.not_mem_nil, or_false] at ho
      rcases ho with h | h | h | (h | h) | h
      · exact h2.1 h
      · rcases hnew o h with h | h
        · exact h2.2.1 h
        · omega
      · exact o1s o h1 h2.2.2.1 h
      · exact h2.2.2.2.1 h
      · have := hE2m o h; omega
      · exact h2.2.2.2.2 h
    · obtain ⟨r, hr⟩ := D.pre'
      exact ⟨r ++ [l], by rw [hr]; simp⟩
  · intro o ho
    have hobj : V.objsL (LS ++ [e]) = V.objsL LS ++ E2 := by rw [objsL_app, ← hE2]; simp [V.objsL]
    rw [hobj] at ho
    rw [hRs]
    simp only [List.mem_append, List.mem_cons, List.not_mem_nil, or_false] at ho ⊢
    rcases ho with h | h | h | (h | h) | h
    · exact .inl (.inl h)
    · rcases hnew o h with h | h
      · exact .inl (.inr (.inl h))
      · exact .inr (by omega)
    · rcases ho1 with h2 | h2
      · exact .inr (by omega)
      · exact .inl (.inr (.inr (.inl (h ▸ h2))))
    · exact .inl (.inr (.inr (.inr (.inl h))))
    · exact .inr (by have := hE2m o h; omega)
    · exact .inl (.inr (.inr (.inr (.inr h))))
end Go.Am.T


set_option linter.unusedVariables false
set_option linter.unusedSimpArgs false
set_option maxRecDepth 10000
namespace Go.Am.T
attribute [local congr] selV_congr impB_congr
structure Ord (H : Heap) (w k : Nat) (on : V) (a c : Nat) (sa sc : Ses) (sent sent' out out' : List (List Int)) (S T O U : V) (R R' : List Nat) (C : List (List V)) : Prop where
  duo : Duo H w k on a c sa sc sent sent' out out' S T O U R R'
  row : DRow 0 H on C
  net : NetC k sa.view sent sent' out out' C
  apart : ∀ o ∈ on.objs, o ≠ w ∧ o ∉ R ∧ o ∉ R'
theorem Ord.swap {H : Heap} {w k : Nat} {on : V} {a c : Nat} {sa sc : Ses} {sent sent' out out' : List (List Int)} {S T O U : V} {R R' : List Nat} {C : List (List V)} (hk : k < 2) (D : Ord H w k on a c sa sc sent sent' out out' S T O U R R' C) : Ord H w (1 - k) on c a sc sa sent' sent out' out T S U O R' R C :=
  ⟨D.duo.swap hk, D.row, by rw [← D.duo.view]; exact D.net.swap hk, fun o ho => ⟨(D.apart o ho).1, (D.apart o ho).2.2, (D.apart o ho).2.1⟩⟩
theorem Ord.keep {H H' : Heap} {w k : Nat} {on : V} {a c : Nat} {sa sc : Ses} {sent sent' out out' : List (List Int)} {S T O U : V} {R R' : List Nat} {C : List (List V)} (D : Ord H w k on a c sa sc sent sent' out out' S T O U R R' C) (h : ∀ o, o < H.length → H'[o]? = H[o]?) : Ord H' w k on a c sa sc sent sent' out out' S T O U R R' C :=
  ⟨D.duo.keep fun o ho => h o (D.duo.lt o ho), D.row.keepO fun o ho => h o (D.row.lt o ho), D.net, D.apart⟩
def slots3 (L0 : V) (w : Nat) (i : Int) : List V := fr 305 [(1, L0), (9, .ptr w 1 0), (10, .int .i64 i)]
def Ord1 (H : Heap) (w k : Nat) (ns ns' nc : Nat) : Prop := ∃ on a c sa sc sent sent' out out' S T O U R R' C, Ord H w k on a c sa sc sent sent' out out' S T O U R R' C ∧ sent.length ≤ ns ∧ sent'.length ≤ ns' ∧ C.length ≤ nc
theorem DRow.shape {p : Nat} {H : Heap} {sl : V} {C : List (List V)} (h : DRow p H sl C) : sl.cells = [sl] ∧ sl.oneCell = true := by
  rcases h with ⟨-, rfl⟩ | ⟨hL, o, ver, hp, rfl, ho⟩ <;> exact ⟨rfl, rfl⟩
theorem ord_tell {N n : Nat} (hN : 1500 ≤ N) (hn : 5 ≤ n) {H : Heap} {w k : Nat} {on : V} {a c : Nat} {sa sc : Ses} {sent sent' out out' : List (List Int)} {S T O U : V} {R R' : List Nat} {C : List (List V)} (hk : k < 2) {fb : Nat}
    (D : Ord H w k on a c sa sc sent sent' out out' S T O U R R' C) {f : FuncId} (hf : f = 11 ∨ f = 12) {site : Nat} (hx : H[site]? = some ⟨0, .dead⟩) (hfb : ∀ o, o = w ∨ o ∈ R ∨ o ∈ R' ∨ o ∈ on.objs → o < fb) (hs : fb ≤ site) (hC : C.length ≤ 100000) :
    ∃ v1 H1 e H2 Rw, frameC (pureOf am) (callA am N n) f [.ptr a 1 0] H = some (v1, H1) ∧ reachC H [a] = a :: Rw ∧ w ≠ a ∧ w ∉ Rw ∧ H1[w]? = some ⟨1, .var (tw k on a c S T O U)⟩ ∧ appendA (fun o => H1[o]?) site 6 64 on v1 = some e ∧ Eff.heap e H1 = H2 ∧
      (Eff.val e).cells = [Eff.val e] ∧ (Eff.val e).oneCell = true ∧ H2[w]? = some ⟨1, .var (tw k on a c S T O U)⟩ ∧
      Ord1 (H2.set w ⟨1, .var (tw k (Eff.val e) a c S T O U)⟩) w k sent.length sent'.length (C.length + 90) := by
  obtain ⟨L, W, Rw, LS, RS, LO, RO, hS, hB, hSr, hEl, hO, hBo, hE, hRs, hnd⟩ := D.duo.near.all
  have f0 := hE.f0
  have hsum := hE.sum
  have hmost := hE.most
  have told0 := D.duo.told
  have hLl : L.length ≤ 1000 := by omega
  obtain ⟨from_, hff⟩ : ∃ from_, (f = 11 ∧ from_ = sa.told + 1) ∨ (f = 12 ∧ from_ = sa.first) := by
    rcases hf with rfl | rfl
    · exact ⟨_, .inl ⟨rfl, rfl⟩⟩
    · exact ⟨_, .inr ⟨rfl, rfl⟩⟩
  obtain ⟨v1, H1, hcall, hS1, hbe, C1, hC1, hT⟩ := tell_framed (n := n) hN (by omega) hS hff f0 (by omega) hLl told0.1 told0.2
  have hreach := hS.reach.1
  have D1 := duo_told D.duo hS hS1 hbe ⟨LS, RS, LO, RO, hB, hSr, hEl, hO, hBo, hE, hRs, hnd⟩
  have sub : ∀ o, o = a ∨ o ∈ Rw → o ∈ R := fun o ho => by rw [hRs]; simp only [List.mem_cons, List.mem_append]; rcases ho with h | h <;> simp [h]
  have out_ : ∀ o, o < H.length → o ∉ R → H1[o]? = H[o]? := fun o h1 h2 => hbe.oth o h1 (fun e => h2 (sub o (.inl e))) (fun h => h2 (sub o (.inr h)))
  have hsl := lt_of_get hx
  have hx1 : H1[site]? = some ⟨0, .dead⟩ := by rw [out_ site hsl (fun h => by have := hfb site (.inr (.inl h)); omega)]; exact hx
  have hrow1 : DRow 0 H1 on C := D.row.keepO fun o ho => out_ o (D.row.lt o ho) (D.apart o ho).2.1
  obtain ⟨hC6, hCf⟩ := D.net.six
  obtain ⟨e, hA, hrow2, hl2, hoth, hobj⟩ := hrow1.put hC6 (hC1.part hT.six) hT.six hx1 (Nat.zero_le _) (by have := hT.len; omega)
  have nosite : ∀ o, o = w ∨ o ∈ R ∨ o ∈ R' → o ≠ site ∧ o ∉ on.objs := fun o ho => by
    refine ⟨fun e => ?_, fun h => ?_⟩
    · have := hfb o (by rcases ho with h | h | h <;> simp [h]); omega
    · obtain ⟨a1, a2, a3⟩ := D.apart o h
      rcases ho with h | h | h
      · exact a1 h
      · exact a2 h
      · exact a3 h
  have D2 : Duo (Eff.heap e H1) w k on a c (toldS sa L.length) sc sent sent' out out' S T O U R R' := D1.keep fun o ho => by
    obtain ⟨q1, q2⟩ := nosite o ho
    exact hoth o q1 q2
  have D3 := D2.setOn hk (on' := Eff.val e)
  obtain ⟨s1, s2⟩ := hrow2.shape
  refine ⟨v1, H1, e, _, Rw, hcall, hreach, fun e => D.duo.wR (e ▸ sub a (.inl rfl)), fun h => D.duo.wR (sub w (.inr h)), D1.ob, hA, rfl, s1, s2, D2.ob, Eff.val e, a, c, toldS sa L.length, sc, sent, sent', out, out', S, T, O, U, R, R', C ++ C1, ⟨D3, ?_, ?_, ?_⟩, Nat.le_refl _, Nat.le_refl _, ?_⟩
  · refine hrow2.keepO fun o ho => ?_
    rw [List.getElem?_set_ne]
    rintro rfl
    rcases hobj w ho with h | h
    · have := hfb w (.inl rfl); omega
    · exact (D.apart w h).1 rfl
  · intro cc hcc
    rcases List.mem_append.1 hcc with h | h
    · exact D.net cc h
    · obtain ⟨j, hj⟩ := List.getElem?_of_mem h
      obtain ⟨seq, b, l, rfl, hb, hl, hq⟩ := told_each hT hB f0 hsum hj
      refine .inl ⟨seq, sa.got, l, b, ?_, hb, hl, by have := hE.got; omega, by have := hE.got; omega, hq⟩
      show dgC sa.me sa.other sa.view seq sa.got b = _
      rw [D.duo.me, D.duo.other]; rfl
  · intro o ho
    rcases hobj o ho with h | h
    · subst h
      refine ⟨fun e => ?_, fun h => ?_, fun h => ?_⟩
      · have := hfb w (.inl rfl); omega
      · have := hfb o (.inr (.inl h)); omega
      · have := hfb o (.inr (.inr (.inl h))); omega
    · exact D.apart o h
  · have := hT.len
    simp
    omega
theorem ord_cut {H : Heap} {w k : Nat} {on : V} {a c : Nat} {sa sc : Ses} {sent sent' out out' : List (List Int)} {S T O U : V} {R R' : List Nat} {C : List (List V)} (hk : k < 2) {fb : Nat}
    (D : Ord H w k on a c sa sc sent sent' out out' S T O U R R' C) {j : Nat} (hj : j < C.length) (x7 : H[fb + 7]? = some ⟨0, .dead⟩) (x8 : H[fb + 8]? = some ⟨0, .dead⟩) (hfb : ∀ o, o = w ∨ o ∈ R ∨ o ∈ R' ∨ o ∈ on.objs → o < fb) (hC : C.length ≤ 100000) :
    ∃ s1 e1 H2 s2 e2 H3, sliceA (fun o => H[o]?) 6 on none (some (.int .i64 j)) none = some s1 ∧ appendA (fun o => H[o]?) (fb + 7) 6 64 .nils s1 = some e1 ∧ Eff.heap e1 H = H2 ∧ H2[w]? = some ⟨1, .var (tw k on a c S T O U)⟩ ∧ (∀ o, o ≤ fb + 6 → H2[o]? = H[o]?) ∧
      sliceA (fun o => H2[o]?) 6 on (some (.int .i64 ((j + 1 : Nat) : Int))) none none = some s2 ∧ appendA (fun o => H2[o]?) (fb + 8) 6 64 (Eff.val e1) s2 = some e2 ∧ Eff.heap e2 H2 = H3 ∧ (Eff.val e2).cells = [Eff.val e2] ∧ (Eff.val e2).oneCell = true ∧ H3[w]? = some ⟨1, .var (tw k on a c S T O U)⟩ ∧ (∀ o, o ≤ fb + 6 → H3[o]? = H[o]?) ∧ H.length ≤ H3.length ∧
      Ord (H3.set w ⟨1, .var (tw k (Eff.val e2) a c S T O U)⟩) w k (Eff.val e2) a c sa sc sent sent' out out' S T O U R R' (C.take j ++ C.drop (j + 1)) := by
  obtain ⟨hC6, hCf⟩ := D.net.six
  have h1 : Cells6 (C.take j) := fun c hc => hC6 c (List.mem_of_mem_take hc)
  have h2 : Cells6 (C.drop (j + 1)) := fun c hc => hC6 c (List.mem_of_mem_drop hc)
  obtain ⟨s1, hs1, p1, -⟩ := D.row.head hC6 (n := j) (by omega)
  have hn0 : DRow 0 H .nils [] := .inl ⟨rfl, rfl⟩
  obtain ⟨e1, hA1, hrow1, hl1, hoth1, hobj1⟩ := hn0.put (fun c hc => by cases hc) p1 h1 x7 (Nat.zero_le _) (by simp; omega)
  have g1 : ∀ o, o ≠ fb + 7 → (Eff.heap e1 H)[o]? = H[o]? := fun o ho => hoth1 o ho (by simp [V.objs])
  have lt7 := lt_of_get x7
  have lt8 := lt_of_get x8
  have x82 : (Eff.heap e1 H)[fb + 8]? = some ⟨0, .dead⟩ := by rw [g1 _ (by omega)]; exact x8
  have hrow : DRow 0 (Eff.heap e1 H) on C := D.row.keepO fun o ho => g1 o (by have := hfb o (.inr (.inr (.inr ho))); omega)
  obtain ⟨s2, hs2, p2, -⟩ := hrow.tail hC6 (n := j) (by omega)
  rw [List.nil_append] at hrow1
  obtain ⟨e2, hA2, hrow2, hl2, hoth2, hobj2⟩ := hrow1.put h1 p2 h2 x82 (Nat.zero_le _) (by simp; omega)
  have in1 : ∀ o ∈ (Eff.val e1).objs, o = fb + 7 := fun o ho => by
    rcases hobj1 o ho with h | h
    · exact h
    · cases h
  have g2 : ∀ o, o ≤ fb + 6 → (Eff.heap e2 (Eff.heap e1 H))[o]? = H[o]? := fun o ho => by
    rw [hoth2 o (by omega) (fun h => by have := in1 o h; omega), g1 o (by omega)]
  have wlt := hfb w (.inl rfl)
  have D2 : Duo (Eff.heap e2 (Eff.heap e1 H)) w k on a c sa sc sent sent' out out' S T O U R R' := D.duo.keep fun o ho => g2 o (by have := hfb o (by rcases ho with h | h | h <;> simp [h]); omega)
  obtain ⟨q1, q2⟩ := hrow2.shape
  refine ⟨s1, e1, _, s2, e2, _, hs1, hA1, rfl, by rw [g1 w (by omega)]; exact D.duo.ob, fun o ho => g1 o (by omega), hs2, hA2, rfl, q1, q2, D2.ob, g2, by omega, D2.setOn hk, ?_, ?_, ?_⟩
  · refine hrow2.keepO fun o ho => ?_
    rw [List.getElem?_set_ne]
    rintro rfl
    rcases hobj2 w ho with h | h
    · omega
    · have := in1 w h; omega
  · intro cc hcc
    rcases List.mem_append.1 hcc with h | h
    · exact D.net cc (List.mem_of_mem_take h)
    · exact D.net cc (List.mem_of_mem_drop h)
  · intro o ho
    have : fb + 7 ≤ o := by
      rcases hobj2 o ho with h | h
      · omega
      · have := in1 o h; omega
    refine ⟨by omega, fun h => ?_, fun h => ?_⟩
    · have := hfb o (.inr (.inl h)); omega
    · have := hfb o (.inr (.inr (.inl h))); omega
theorem ord_come {N n : Nat} (hn : 4 ≤ n) {H : Heap} {w k : Nat} (hk : k < 2) {on : V} {a c : Nat} {sa sc : Ses} {sent sent' out out' : List (List Int)} {S T O U : V} {R R' : List Nat} {C : List (List V)} (D : Ord H w k on a c sa sc sent sent' out out' S T O U R R' C)
    {cc : List V} (hcc : OldD k sa.view sent out cc ∨ OldD (1 - k) sa.view sent' out' cc) :
    ∃ v' h', callA am N n 13 [.ptr w 1 0, .agg cc] H = some (v', h') ∧ H.length ≤ h'.length ∧ Ord1 h' w k sent.length sent'.length C.length := by
  have key : ∀ {k : Nat} (hk : k < 2) {a c : Nat} {sa sc : Ses} {sent sent' out out' : List (List Int)} {S T O U : V} {R R' : List Nat}, Ord H w k on a c sa sc sent sent' out out' S T O U R R' C → OldD k sa.view sent out cc →
      ∃ v' h', callA am N n 13 [.ptr w 1 0, .agg cc] H = some (v', h') ∧ H.length ≤ h'.length ∧ Ord1 h' w k sent.length sent'.length C.length := by
    intro k hk a c sa sc sent sent' out out' S T O U R R' D hcc
    obtain ⟨seq, ack, l, b, rfl, hb, hl, a0, a1, hq⟩ := hcc
    obtain ⟨v', h', hc, hle, oth, out1, U1, R1, D1, hR1, hlo, -⟩ := @duo_come' N n hn _ _ _ hk _ _ _ _ _ _ _ _ _ _ _ _ _ _ _ D.duo _ _ _ _ hb hl a0 a1 hq
    refine ⟨v', h', ?_, hle, on, a, c, sa, _, sent, sent', out, out1, S, T, O, U1, R, R1, C, ⟨D1, ?_, ?_, ?_⟩, Nat.le_refl _, Nat.le_refl _, Nat.le_refl _⟩
    · have e : (⟨sa.me, sa.other, sa.view, seq, ack⟩ : Dg).cs b = dgC k (1 - k) sa.view seq ack b := by
        rw [D.duo.me, D.duo.other]; rfl
      rw [← e]; exact hc
    · exact D.row.keepO fun o ho => oth o (D.row.lt o ho) (D.apart o ho).1 (D.apart o ho).2.2
    · exact D.net.mono ⟨[], by simp⟩ ⟨[], by simp⟩ (Nat.le_refl _) hlo
    · intro o ho
      refine ⟨(D.apart o ho).1, (D.apart o ho).2.1, fun h => ?_⟩
      rcases hR1 o h with h | h
      · exact (D.apart o ho).2.2 h
      · have := D.row.lt o ho; omega
  rcases hcc with h | h
  · exact key hk D h
  · obtain ⟨v', h', q1, q2, on2, a2, c2, sa2, sc2, s2, s2', o2, o2', S2, T2, O2, U2, R2, R2', C2, q3, q4, q5, q6⟩ := key (k := 1 - k) (by omega) (D.swap hk) (by rw [← D.duo.view]; exact h)
    refine ⟨v', h', q1, q2, on2, c2, a2, sc2, sa2, s2', s2, o2', o2, T2, S2, U2, O2, R2', R2, C2, ?_, q5, q4, q6⟩
    have := q3.swap (by omega)
    rwa [show 1 - (1 - k) = k by omega] at this
end Go.Am.T


set_option linter.unusedVariables false
set_option linter.unusedSimpArgs false
set_option linter.unusedSectionVars false
set_option maxRecDepth 10000
namespace Go.Am.T
attribute [local congr] selV_congr impB_congr
def slots3k (L0 : V) (w : Nat) (i : Int) (mo k : Nat) : List V := fr 305 [(1, L0), (9, .ptr w 1 0), (10, .int .i64 i), (11, .ptr mo 1 0), (12, .int .i64 k)]
theorem Ord.to1 {H : Heap} {w k : Nat} {on : V} {a c : Nat} {sa sc : Ses} {sent sent' out out' : List (List Int)} {S T O U : V} {R R' : List Nat} {C : List (List V)} (D : Ord H w k on a c sa sc sent sent' out out' S T O U R R' C) {x y z : Nat} (h1 : sent.length ≤ x) (h2 : sent'.length ≤ y) (h3 : C.length ≤ z) : Ord1 H w k x y z :=
  ⟨_, _, _, _, _, _, _, _, _, _, _, _, _, _, _, _, D, h1, h2, h3⟩
theorem Ord1.weak {H : Heap} {w k x y z x' y' z' : Nat} (h : Ord1 H w k x y z) (h1 : x ≤ x') (h2 : y ≤ y') (h3 : z ≤ z') : Ord1 H w k x' y' z' := by
  obtain ⟨on, a, c, sa, sc, sent, sent', out, out', S, T, O, U, R, R', C, D, q1, q2, q3⟩ := h
  exact D.to1 (by omega) (by omega) (by omega)
section
variable {N n : Nat} (hN : 1500 ≤ N) (hn : 5 ≤ n) {H : Heap} {w k : Nat} {on : V} {a c : Nat} {sa sc : Ses} {sent sent' out out' : List (List Int)} {S T O U : V} {R R' : List Nat} {C : List (List V)} (D : Ord H w k on a c sa sc sent sent' out out' S T O U R R' C) (hk : k < 2)
  (kind who nn : Int) {l : List Int} {b : V} (hb : By l b) {fb : Nat} (hm : H[fb + 1]? = some ⟨1, .var (mvC kind who nn b)⟩) (hd : ∀ j, 2 ≤ j → j < 9 → H[fb + j]? = some ⟨0, .dead⟩) (hfb : ∀ o, o = w ∨ o ∈ R ∨ o ∈ R' ∨ o ∈ on.objs → o < fb) (hs : sent.length < 80) (hC : C.length ≤ 90000) (L0 : V) (i : Int)
include hN hn D hk hb hm hd hfb hs hC
set_option maxHeartbeats 4000000 in
theorem l3C_one (g : (kind == 1) = true) :
    wp ⟨pureOf am, callA am N n, N, fb⟩ l3C (slots3k L0 w i (fb + 1) k) H fun e t' H' => e = .norm ∧ t' = slots3 L0 w i ∧ Ord1 H' w k (sent.length + 1) sent'.length (C.length + 90) := by
  have hk2 : (k : Int) < 2 := by omega
  have hle : k + 1 ≤ 7 := by omega
  have hle3 : 3 + k + 1 ≤ 7 := by omega
  have q7 := fun S => @tw_len k on a c S T O U
  have qn := fun S => @tw_near k on a c S T O U hk
  have qs := fun S => @tw_sent k on a c S T O U hk
  have qS := fun S S' => @tw_setS k on a c S T O U S' hk
  have hw := D.duo.ob
  have hml := lt_of_get hm
  have hwf := hfb w (.inl rfl)
  unfold slots3k slots3 mvC at *
  refine sx_wp ?_
  by_cases hlong : 256 < l.length
  · obtain ⟨L, W, Rw, LS, RS, LO, RO, hS, hB, hSr, hEl, hO, hBo, hE, hRs, hnd⟩ := D.duo.near.all
    have c10 := @send_long N n (by omega) _ _ _ _ _ _ hS _ _ hb hlong
    simp +contextual -implicitDefEqProofs (maxSteps := 10000000) only [sx_seq, sxL_succ, lpQ_norm, lpQ_exit, lpQ_ret, loopQ_norm, loopQ_exit, loopQ_ret, sqQ_norm, sqQ_ret, sqQ_exit, sx_block, blkQ_norm, blkQ_exit, blkQ_ret, sx_cond, cdP_true, cdP_false, cdP_bool, sx_region, sx_draw, plainD, List.all_cons, List.all_nil, List.isEmpty_nil, List.isEmpty_cons, sxo_nil, sxo_cons, sxo_guard, gdS_bool, gdS_eff, gdS_tup, gdS_sel, gdS_seleff, sxK_def, wcall_some, effP_ret, effP_set, effP_none, effP_ite, wop_call, wop_cv, cvP_func, sx_ret, sx_exit, sx_skip, sx_clr, sx_fresh, stays, ↓selV_wt, ↓selV_wf, ↓impB_wt, ↓impB_wf, ↓selV_nor, ↓impB_nor, ↓selV_nt, ↓selV_nf, ↓impB_nt, ↓impB_nf, wantB_true, wantB_false, ↓selV_true, ↓selV_false, ↓selV_and, ↓impB_true, ↓impB_false, ↓impB_and, impB_triv, valOf_some, retH_some, ↓prim_pick, pickO_true, pickO_false, pickO_and, pickO_or, pickO_andr, pickO_orr, pickO_orrn, pickO_orn, pickO_bb, pickAnd_bool, pickOr_bool, ↓selV_nn, ↓impB_nn, Bool.and_assoc, Bool.or_assoc, doOp, ev_fr, ev_cst, put_none, put_fr, get, ins, del, dels, Nat.reduceLT, Nat.reduceEqDiff, ↓reduceIte, reduceCtorEq, ne_eq, not_false_eq_true, implies_true, framed_pureF, framed_fb, framed_N, framed_pure, wop_prim, prim, YLD, mkA, V.cells, List.getElem?_cons_zero, List.getElem?_cons_succ, List.set_cons_zero, List.set_cons_succ, Nat.zero_add, Nat.add_zero, Nat.reduceAdd, Nat.reduceSub, Nat.reduceMul, Nat.reduceLeDiff, Nat.not_lt_zero, List.map_cons, List.map_nil, List.cons_append, List.nil_append, loadA, cellsAt, nAg, packA, opt_bind_some, opt_map_some, opt_bind_none, opt_map_none, List.drop, List.take, List.head?, List.length_cons, List.length_nil, binA, unA, eqCells, eqCell, negB, fillA, sr_nil, sr_cons, sr_succ, sr_all, sr_len, storeA, Ob.with, indexedI, V.oneCell, intOf?, retQ_ret, retQ_norm, resA, resA1, fr_getD, packR, sealDepth, shut_bool, shut_int, Option.some.injEq, V.bool.injEq, V.int.injEq, Bool.not_true, Bool.not_false, true_and, and_true, and_self, Bool.and_true, Bool.and_false, Bool.true_and, Bool.false_and, Bool.or_true, Bool.or_false, Bool.true_or, Bool.false_or, Bool.false_eq_true, Int.reduceLT, Int.reduceLE, Int.reduceToNat, Int.reduceNeg, shut_plain, freeL_cons, freeL_nil, free_int, free_bool, free_agg, free_str, free_nils, free_tup, free_sl, true_implies, false_implies, Nat.sub_zero, Int.natCast_nonneg, Int.toNat_natCast, Nat.le_refl, not_true_eq_false, Int.reduceAdd, Int.reduceSub, Int.reduceMul, wrap64, false_and, and_false, cond_true, cond_false, Bool.cond_true_left, Bool.cond_false_right, Int.reduceBNe, Int.reduceBEq, decide_true, decide_false, Int.cast_ofNat_Int, Nat.mul_one, eq_self, Bool.true_eq_false, Bool.not_eq_true, Bool.not_eq_false, deads, List.replicate, argsF, l3C, hm, g, pm10, hw, q7, qn, hk2, hle, isNil, c10]
    exact (D.keep (fun o ho => List.getElem?_append_left ho)).to1 (by omega) (Nat.le_refl _) (by omega)
  · obtain ⟨H1, e1, e2, H2, H3, c10, hw1, hm1, hA1, hH2, u1, u2, hA2, hH3, w1, w2, hw3, hl3, oth, R1, D1, hR1⟩ := duo_send (N := N) hn D.duo hk hb (by omega) hm (hd 2 (by omega) (by omega)) (hd 3 (by omega) (by omega)) (fun o ho => hfb o (by rcases ho with h | h | h <;> simp [h])) hs
    have hfpb : fpV b = [] := by rcases hb with ⟨rfl, -⟩ | ⟨c, rfl⟩ <;> rfl
    have hwne : (fb + 2 == w) = false := by simp; omega
    have hwne' : (w == fb + 2) = false := by simp; omega
    have r1 : List.range 1 = [0] := rfl
    have n1 : Eff.val e1 ≠ .junk := fun e => by rw [e] at u2; cases u2
    have n2 : ∀ cs, Eff.val e1 ≠ .agg cs := fun cs e => by rw [e] at u2; cases u2
    have n3 : ∀ cs, Eff.val e1 ≠ .tup cs := fun cs e => by rw [e] at u2; cases u2
    have m1 : Eff.val e2 ≠ .junk := fun e => by rw [e] at w2; cases w2
    have m2 : ∀ cs, Eff.val e2 ≠ .agg cs := fun cs e => by rw [e] at w2; cases w2
    have m3 : ∀ cs, Eff.val e2 ≠ .tup cs := fun cs e => by rw [e] at w2; cases w2
    have wr : wrapV [Eff.val e1] = Eff.val e1 := rfl
    have hwl3 := lt_of_get hw3
    have fin : Ord1 (H3.set w ⟨1, .var (tw k on a c (Eff.val e2) T O U)⟩) w k (sent.length + 1) sent'.length (C.length + 90) := by
      refine Ord.to1 (C := C) ⟨D1, ?_, D.net.mono ⟨[l], rfl⟩ ⟨[], by simp⟩ (Nat.le_refl _) (Nat.le_refl _), fun o ho => ⟨(D.apart o ho).1, fun h => ?_, (D.apart o ho).2.2⟩⟩ (by simp) (Nat.le_refl _) (by omega)
      · refine D.row.keepO fun o ho => ?_
        obtain ⟨p1, p2, p3⟩ := D.apart o ho
        have := hfb o (by simp [ho])
        rw [List.getElem?_set_ne (Ne.symm p1), oth o (D.row.lt o ho) p1 p2 (by omega) (by omega)]
      · rcases hR1 o h with h | h
        · exact (D.apart o ho).2.1 h
        · have := hfb o (by simp [ho]); omega
    generalize hv1 : Eff.val e1 = v1 at *
    generalize hv2 : Eff.val e2 = v2 at *
    simp +contextual -implicitDefEqProofs (maxSteps := 10000000) only [sx_seq, sxL_succ, lpQ_norm, lpQ_exit, lpQ_ret, loopQ_norm, loopQ_exit, loopQ_ret, sqQ_norm, sqQ_ret, sqQ_exit, sx_block, blkQ_norm, blkQ_exit, blkQ_ret, sx_cond, cdP_true, cdP_false, cdP_bool, sx_region, sx_draw, plainD, List.all_cons, List.all_nil, List.isEmpty_nil, List.isEmpty_cons, sxo_nil, sxo_cons, sxo_guard, gdS_bool, gdS_eff, gdS_tup, gdS_sel, gdS_seleff, sxK_def, wcall_some, effP_ret, effP_set, effP_none, effP_ite, wop_call, wop_cv, cvP_func, sx_ret, sx_exit, sx_skip, sx_clr, sx_fresh, stays, ↓selV_wt, ↓selV_wf, ↓impB_wt, ↓impB_wf, ↓selV_nor, ↓impB_nor, ↓selV_nt, ↓selV_nf, ↓impB_nt, ↓impB_nf, wantB_true, wantB_false, ↓selV_true, ↓selV_false, ↓selV_and, ↓impB_true, ↓impB_false, ↓impB_and, impB_triv, valOf_some, retH_some, ↓prim_pick, pickO_true, pickO_false, pickO_and, pickO_or, pickO_andr, pickO_orr, pickO_orrn, pickO_orn, pickO_bb, pickAnd_bool, pickOr_bool, ↓selV_nn, ↓impB_nn, Bool.and_assoc, Bool.or_assoc, doOp, ev_fr, ev_cst, put_none, put_fr, get, ins, del, dels, Nat.reduceLT, Nat.reduceEqDiff, ↓reduceIte, reduceCtorEq, ne_eq, not_false_eq_true, implies_true, framed_pureF, framed_fb, framed_N, framed_pure, wop_prim, prim, YLD, mkA, V.cells, List.getElem?_cons_zero, List.getElem?_cons_succ, List.set_cons_zero, List.set_cons_succ, Nat.zero_add, Nat.add_zero, Nat.reduceAdd, Nat.reduceSub, Nat.reduceMul, Nat.reduceLeDiff, Nat.not_lt_zero, List.map_cons, List.map_nil, List.cons_append, List.nil_append, loadA, cellsAt, nAg, packA, opt_bind_some, opt_map_some, opt_bind_none, opt_map_none, List.drop, List.take, List.head?, List.length_cons, List.length_nil, binA, unA, eqCells, eqCell, negB, fillA, sr_nil, sr_cons, sr_succ, sr_all, sr_len, storeA, Ob.with, indexedI, V.oneCell, intOf?, retQ_ret, retQ_norm, resA, resA1, fr_getD, packR, sealDepth, shut_bool, shut_int, Option.some.injEq, V.bool.injEq, V.int.injEq, Bool.not_true, Bool.not_false, true_and, and_true, and_self, Bool.and_true, Bool.and_false, Bool.true_and, Bool.false_and, Bool.or_true, Bool.or_false, Bool.true_or, Bool.false_or, Bool.false_eq_true, Int.reduceLT, Int.reduceLE, Int.reduceToNat, Int.reduceNeg, shut_plain, freeL_cons, freeL_nil, free_int, free_bool, free_agg, free_str, free_nils, free_tup, free_sl, true_implies, false_implies, Nat.sub_zero, Int.natCast_nonneg, Int.toNat_natCast, Nat.le_refl, not_true_eq_false, Int.reduceAdd, Int.reduceSub, Int.reduceMul, wrap64, false_and, and_false, cond_true, cond_false, Bool.cond_true_left, Bool.cond_false_right, Int.reduceBNe, Int.reduceBEq, decide_true, decide_false, Int.cast_ofNat_Int, Nat.mul_one, eq_self, Bool.true_eq_false, Bool.not_eq_true, Bool.not_eq_false, deads, List.replicate, argsF, l3C, sx_drawd, reachC_nil, wpd_nil, wpd_cons, wdK_def, fpOf, fpV, fpCall, Fp.ok, disj, List.contains_cons, List.contains_nil, Nat.reduceBEq, List.all_append, V.objsL, V.objs,  List.getD_cons_zero, List.getD_cons_succ, List.append_nil, hv1, hv2, hm, g, pm10, hw, q7, qn, qs, qS, hk2, hle, hle3, isNil, c10, hw1, hm1, hA1, effP_any (e := e1), effP_any (e := e2), hH2, hA2, hH3, r1, wr, hw3, hwl3, w1, w2, u1, u2, hfpb, hwne, hwne', -List.drop, -List.take]
    exact fin
set_option maxHeartbeats 4000000 in
theorem l3C_two (g1 : (kind == 1) = false) (g : (kind == 2) = true) :
    wp ⟨pureOf am, callA am N n, N, fb⟩ l3C (slots3k L0 w i (fb + 1) k) H fun e t' H' => e = .norm ∧ t' = slots3 L0 w i ∧ Ord1 H' w k (sent.length + 1) sent'.length (C.length + 90) := by
  have hk2 : (k : Int) < 2 := by omega
  have hle : k + 1 ≤ 7 := by omega
  have q7 := fun S => @tw_len k on a c S T O U
  have qn := fun S => @tw_near k on a c S T O U hk
  have qo := @tw_on k on a c S T O U hk
  have qO := fun on' => @tw_setOn k on a c S T O U on' hk
  have hw := D.duo.ob
  have hml := lt_of_get hm
  have hwl := lt_of_get hw
  obtain ⟨v1, H1, e, H2, Rw, hcall, hreach, hwa, hwR, hw1, hA, hH2, u1, u2, hw2, fin⟩ := ord_tell hN hn hk D (f := 11) (.inl rfl) (hd 4 (by omega) (by omega)) hfb (by omega) (by omega)
  have hcall' : ({ pureF := pureOf am, call := callA am N n, N := N, fb := fb } : Env).framed.call 11 [.ptr a 1 0] H = some (v1, H1) := hcall
  have n1 : Eff.val e ≠ .junk := fun e => by rw [e] at u2; cases u2
  have n2 : ∀ cs, Eff.val e ≠ .agg cs := fun cs e => by rw [e] at u2; cases u2
  have n3 : ∀ cs, Eff.val e ≠ .tup cs := fun cs e => by rw [e] at u2; cases u2
  have hwl2 := lt_of_get hw2
  have fin := fin.weak (x' := sent.length + 1) (by omega) (Nat.le_refl _) (Nat.le_refl _)
  have wa : (a == w) = false := by rw [beq_eq_false_iff_ne]; exact fun e => hwa e.symm
  have wa' : (w == a) = false := by rw [beq_eq_false_iff_ne]; exact hwa
  have wR : Rw.contains w = false := by simpa using hwR
  have wR' : Rw.all (fun x => !(x == w)) = true := by
    rw [List.all_eq_true]
    intro x hx
    have : x ≠ w := fun e => hwR (e ▸ hx)
    simp [this]
  unfold slots3k slots3 mvC at *
  generalize hv : Eff.val e = v at *
  refine sx_wp ?_
  simp +contextual -implicitDefEqProofs (maxSteps := 10000000) only [sx_seq, sxL_succ, lpQ_norm, lpQ_exit, lpQ_ret, loopQ_norm, loopQ_exit, loopQ_ret, sqQ_norm, sqQ_ret, sqQ_exit, sx_block, blkQ_norm, blkQ_exit, blkQ_ret, sx_cond, cdP_true, cdP_false, cdP_bool, sx_region, sx_draw, plainD, List.all_cons, List.all_nil, List.isEmpty_nil, List.isEmpty_cons, sxo_nil, sxo_cons, sxo_guard, gdS_bool, gdS_eff, gdS_tup, gdS_sel, gdS_seleff, sxK_def, wcall_some, effP_ret, effP_set, effP_none, effP_ite, wop_call, wop_cv, cvP_func, sx_ret, sx_exit, sx_skip, sx_clr, sx_fresh, stays, ↓selV_wt, ↓selV_wf, ↓impB_wt, ↓impB_wf, ↓selV_nor, ↓impB_nor, ↓selV_nt, ↓selV_nf, ↓impB_nt, ↓impB_nf, wantB_true, wantB_false, ↓selV_true, ↓selV_false, ↓selV_and, ↓impB_true, ↓impB_false, ↓impB_and, impB_triv, valOf_some, retH_some, ↓prim_pick, pickO_true, pickO_false, pickO_and, pickO_or, pickO_andr, pickO_orr, pickO_orrn, pickO_orn, pickO_bb, pickAnd_bool, pickOr_bool, ↓selV_nn, ↓impB_nn, Bool.and_assoc, Bool.or_assoc, doOp, ev_fr, ev_cst, put_none, put_fr, get, ins, del, dels, Nat.reduceLT, Nat.reduceEqDiff, ↓reduceIte, reduceCtorEq, ne_eq, not_false_eq_true, implies_true, framed_pureF, framed_fb, framed_N, framed_pure, wop_prim, prim, YLD, mkA, V.cells, List.getElem?_cons_zero, List.getElem?_cons_succ, List.set_cons_zero, List.set_cons_succ, Nat.zero_add, Nat.add_zero, Nat.reduceAdd, Nat.reduceSub, Nat.reduceMul, Nat.reduceLeDiff, Nat.not_lt_zero, List.map_cons, List.map_nil, List.cons_append, List.nil_append, loadA, cellsAt, nAg, packA, opt_bind_some, opt_map_some, opt_bind_none, opt_map_none, List.drop, List.take, List.head?, List.length_cons, List.length_nil, binA, unA, eqCells, eqCell, negB, fillA, sr_nil, sr_cons, sr_succ, sr_all, sr_len, storeA, Ob.with, indexedI, V.oneCell, intOf?, retQ_ret, retQ_norm, resA, resA1, fr_getD, packR, sealDepth, shut_bool, shut_int, Option.some.injEq, V.bool.injEq, V.int.injEq, Bool.not_true, Bool.not_false, true_and, and_true, and_self, Bool.and_true, Bool.and_false, Bool.true_and, Bool.false_and, Bool.or_true, Bool.or_false, Bool.true_or, Bool.false_or, Bool.false_eq_true, Int.reduceLT, Int.reduceLE, Int.reduceToNat, Int.reduceNeg, shut_plain, freeL_cons, freeL_nil, free_int, free_bool, free_agg, free_str, free_nils, free_tup, free_sl, true_implies, false_implies, Nat.sub_zero, Int.natCast_nonneg, Int.toNat_natCast, Nat.le_refl, not_true_eq_false, Int.reduceAdd, Int.reduceSub, Int.reduceMul, wrap64, false_and, and_false, cond_true, cond_false, Bool.cond_true_left, Bool.cond_false_right, Int.reduceBNe, Int.reduceBEq, decide_true, decide_false, Int.cast_ofNat_Int, Nat.mul_one, eq_self, Bool.true_eq_false, Bool.not_eq_true, Bool.not_eq_false, deads, List.replicate, argsF, l3C, sx_drawd, reachC_nil, wpd_nil, wpd_cons, wdK_def, fpOf, fpV, fpCall, Fp.ok, disj, List.contains_cons, List.contains_nil, Nat.reduceBEq, List.all_append, V.objsL, V.objs,  List.getD_cons_zero, List.getD_cons_succ, List.append_nil, hv, hm, g1, g, pm11, hw, q7, qn, qo, qO, hk2, hle, isNil, hreach, hcall', wa, wa', wR, wR', hwl, hw1, hA, effP_any (e := e), hH2, hw2, hwl2, u1, u2, -List.drop, -List.take]
  exact fin
set_option maxHeartbeats 4000000 in
theorem l3C_three (g1 : (kind == 1) = false) (g2 : (kind == 2) = false) (g : (kind == 3) = true) :
    wp ⟨pureOf am, callA am N n, N, fb⟩ l3C (slots3k L0 w i (fb + 1) k) H fun e t' H' => e = .norm ∧ t' = slots3 L0 w i ∧ Ord1 H' w k (sent.length + 1) sent'.length (C.length + 90) := by
  have hk2 : (k : Int) < 2 := by omega
  have hle : k + 1 ≤ 7 := by omega
  have q7 := fun S => @tw_len k on a c S T O U
  have qn := fun S => @tw_near k on a c S T O U hk
  have qo := @tw_on k on a c S T O U hk
  have qO := fun on' => @tw_setOn k on a c S T O U on' hk
  have hw := D.duo.ob
  have hml := lt_of_get hm
  have hwl := lt_of_get hw
  obtain ⟨v1, H1, e, H2, Rw, hcall, hreach, hwa, hwR, hw1, hA, hH2, u1, u2, hw2, fin⟩ := ord_tell hN hn hk D (f := 12) (.inr rfl) (hd 5 (by omega) (by omega)) hfb (by omega) (by omega)
  have hcall' : ({ pureF := pureOf am, call := callA am N n, N := N, fb := fb } : Env).framed.call 12 [.ptr a 1 0] H = some (v1, H1) := hcall
  have n1 : Eff.val e ≠ .junk := fun e => by rw [e] at u2; cases u2
  have n2 : ∀ cs, Eff.val e ≠ .agg cs := fun cs e => by rw [e] at u2; cases u2
  have n3 : ∀ cs, Eff.val e ≠ .tup cs := fun cs e => by rw [e] at u2; cases u2
  have hwl2 := lt_of_get hw2
  have fin := fin.weak (x' := sent.length + 1) (by omega) (Nat.le_refl _) (Nat.le_refl _)
  have wa : (a == w) = false := by rw [beq_eq_false_iff_ne]; exact fun e => hwa e.symm
  have wa' : (w == a) = false := by rw [beq_eq_false_iff_ne]; exact hwa
  have wR : Rw.contains w = false := by simpa using hwR
  have wR' : Rw.all (fun x => !(x == w)) = true := by
    rw [List.all_eq_true]
    intro x hx
    have : x ≠ w := fun e => hwR (e ▸ hx)
    simp [this]
  unfold slots3k slots3 mvC at *
  generalize hv : Eff.val e = v at *
  refine sx_wp ?_
  simp +contextual -implicitDefEqProofs (maxSteps := 10000000) only [sx_seq, sxL_succ, lpQ_norm, lpQ_exit, lpQ_ret, loopQ_norm, loopQ_exit, loopQ_ret, sqQ_norm, sqQ_ret, sqQ_exit, sx_block, blkQ_norm, blkQ_exit, blkQ_ret, sx_cond, cdP_true, cdP_false, cdP_bool, sx_region, sx_draw, plainD, List.all_cons, List.all_nil, List.isEmpty_nil, List.isEmpty_cons, sxo_nil, sxo_cons, sxo_guard, gdS_bool, gdS_eff, gdS_tup, gdS_sel, gdS_seleff, sxK_def, wcall_some, effP_ret, effP_set, effP_none, effP_ite, wop_call, wop_cv, cvP_func, sx_ret, sx_exit, sx_skip, sx_clr, sx_fresh, stays, ↓selV_wt, ↓selV_wf, ↓impB_wt, ↓impB_wf, ↓selV_nor, ↓impB_nor, ↓selV_nt, ↓selV_nf, ↓impB_nt, ↓impB_nf, wantB_true, wantB_false, ↓selV_true, ↓selV_false, ↓selV_and, ↓impB_true, ↓impB_false, ↓impB_and, impB_triv, valOf_some, retH_some, ↓prim_pick, pickO_true, pickO_false, pickO_and, pickO_or, pickO_andr, pickO_orr, pickO_orrn, pickO_orn, pickO_bb, pickAnd_bool, pickOr_bool, ↓selV_nn, ↓impB_nn, Bool.and_assoc, Bool.or_assoc, doOp, ev_fr, ev_cst, put_none, put_fr, get, ins, del, dels, Nat.reduceLT, Nat.reduceEqDiff, ↓reduceIte, reduceCtorEq, ne_eq, not_false_eq_true, implies_true, framed_pureF, framed_fb, framed_N, framed_pure, wop_prim, prim, YLD, mkA, V.cells, List.getElem?_cons_zero, List.getElem?_cons_succ, List.set_cons_zero, List.set_cons_succ, Nat.zero_add, Nat.add_zero, Nat.reduceAdd, Nat.reduceSub, Nat.reduceMul, Nat.reduceLeDiff, Nat.not_lt_zero, List.map_cons, List.map_nil, List.cons_append, List.nil_append, loadA, cellsAt, nAg, packA, opt_bind_some, opt_map_some, opt_bind_none, opt_map_none, List.drop, List.take, List.head?, List.length_cons, List.length_nil, binA, unA, eqCells, eqCell, negB, fillA, sr_nil, sr_cons, sr_succ, sr_all, sr_len, storeA, Ob.with, indexedI, V.oneCell, intOf?, retQ_ret, retQ_norm, resA, resA1, fr_getD, packR, sealDepth, shut_bool, shut_int, Option.some.injEq, V.bool.injEq, V.int.injEq, Bool.not_true, Bool.not_false, true_and, and_true, and_self, Bool.and_true, Bool.and_false, Bool.true_and, Bool.false_and, Bool.or_true, Bool.or_false, Bool.true_or, Bool.false_or, Bool.false_eq_true, Int.reduceLT, Int.reduceLE, Int.reduceToNat, Int.reduceNeg, shut_plain, freeL_cons, freeL_nil, free_int, free_bool, free_agg, free_str, free_nils, free_tup, free_sl, true_implies, false_implies, Nat.sub_zero, Int.natCast_nonneg, Int.toNat_natCast, Nat.le_refl, not_true_eq_false, Int.reduceAdd, Int.reduceSub, Int.reduceMul, wrap64, false_and, and_false, cond_true, cond_false, Bool.cond_true_left, Bool.cond_false_right, Int.reduceBNe, Int.reduceBEq, decide_true, decide_false, Int.cast_ofNat_Int, Nat.mul_one, eq_self, Bool.true_eq_false, Bool.not_eq_true, Bool.not_eq_false, deads, List.replicate, argsF, l3C, sx_drawd, reachC_nil, wpd_nil, wpd_cons, wdK_def, fpOf, fpV, fpCall, Fp.ok, disj, List.contains_cons, List.contains_nil, Nat.reduceBEq, List.all_append, V.objsL, V.objs,  List.getD_cons_zero, List.getD_cons_succ, List.append_nil, hv, hm, g1, g2, g, pm12, hw, q7, qn, qo, qO, hk2, hle, isNil, hreach, hcall', wa, wa', wR, wR', hwl, hw1, hA, effP_any (e := e), hH2, hw2, hwl2, u1, u2, -List.drop, -List.take]
  exact fin
end
end Go.Am.T


set_option linter.unusedVariables false
set_option linter.unusedSimpArgs false
set_option linter.unusedSectionVars false
set_option maxRecDepth 10000
namespace Go.Am.T
attribute [local congr] selV_congr impB_congr
section
variable {N n : Nat} (hN : 1500 ≤ N) (hn : 5 ≤ n) {H : Heap} {w k : Nat} {on : V} {a c : Nat} {sa sc : Ses} {sent sent' out out' : List (List Int)} {S T O U : V} {R R' : List Nat} {C : List (List V)} (D : Ord H w k on a c sa sc sent sent' out out' S T O U R R' C) (hk : k < 2)
  (kind who nn : Int) {l : List Int} {b : V} (hb : By l b) {fb : Nat} (hm : H[fb + 1]? = some ⟨1, .var (mvC kind who nn b)⟩) (hd : ∀ j, 2 ≤ j → j < 9 → H[fb + j]? = some ⟨0, .dead⟩) (hfb : ∀ o, o = w ∨ o ∈ R ∨ o ∈ R' ∨ o ∈ on.objs → o < fb) (hs : sent.length < 80) (hC : C.length ≤ 90000) (L0 : V) (i : Int)
include hN hn D hk hb hm hd hfb hs hC
set_option maxHeartbeats 8000000 in
theorem l3C_four (g1 : (kind == 1) = false) (g2 : (kind == 2) = false) (g3 : (kind == 3) = false) :
    wp ⟨pureOf am, callA am N n, N, fb⟩ l3C (slots3k L0 w i (fb + 1) k) H fun e t' H' => e = .norm ∧ t' = slots3 L0 w i ∧ Ord1 H' w k (sent.length + 1) sent'.length (C.length + 90) := by
  have hk2 : (k : Int) < 2 := by omega
  have q7 := fun on => @tw_len k on a c S T O U
  have qo := fun on => @tw_on k on a c S T O U hk
  have qO := fun on on' => @tw_setOn k on a c S T O U on' hk
  have hw := D.duo.ob
  have hml := lt_of_get hm
  have hwl := lt_of_get hw
  obtain ⟨hlen, hns, hcells⟩ := D.row.len
  unfold slots3k slots3 at *
  refine sx_wp ?_
  cases G : (decide (kind ≥ 4) && (decide (kind ≤ 6) && (decide (nn ≥ 0) && decide (nn < (C.length : Int))))) with
  | false =>
    unfold mvC at *
    simp +contextual -implicitDefEqProofs (maxSteps := 10000000) only [sx_seq, sxL_succ, lpQ_norm, lpQ_exit, lpQ_ret, loopQ_norm, loopQ_exit, loopQ_ret, sqQ_norm, sqQ_ret, sqQ_exit, sx_block, blkQ_norm, blkQ_exit, blkQ_ret, sx_cond, cdP_true, cdP_false, cdP_bool, sx_region, sx_draw, plainD, List.all_cons, List.all_nil, List.isEmpty_nil, List.isEmpty_cons, sxo_nil, sxo_cons, sxo_guard, gdS_bool, gdS_eff, gdS_tup, gdS_sel, gdS_seleff, sxK_def, wcall_some, effP_ret, effP_set, effP_none, effP_ite, wop_call, wop_cv, cvP_func, sx_ret, sx_exit, sx_skip, sx_clr, sx_fresh, stays, ↓selV_wt, ↓selV_wf, ↓impB_wt, ↓impB_wf, ↓selV_nor, ↓impB_nor, ↓selV_nt, ↓selV_nf, ↓impB_nt, ↓impB_nf, wantB_true, wantB_false, ↓selV_true, ↓selV_false, ↓selV_and, ↓impB_true, ↓impB_false, ↓impB_and, impB_triv, valOf_some, retH_some, ↓prim_pick, pickO_true, pickO_false, pickO_and, pickO_or, pickO_andr, pickO_orr, pickO_orrn, pickO_orn, pickO_bb, pickAnd_bool, pickOr_bool, ↓selV_nn, ↓impB_nn, Bool.and_assoc, Bool.or_assoc, doOp, ev_fr, ev_cst, put_none, put_fr, get, ins, del, dels, Nat.reduceLT, Nat.reduceEqDiff, ↓reduceIte, reduceCtorEq, ne_eq, not_false_eq_true, implies_true, framed_pureF, framed_fb, framed_N, framed_pure, wop_prim, prim, YLD, mkA, V.cells, List.getElem?_cons_zero, List.getElem?_cons_succ, List.set_cons_zero, List.set_cons_succ, Nat.zero_add, Nat.add_zero, Nat.reduceAdd, Nat.reduceSub, Nat.reduceMul, Nat.reduceLeDiff, Nat.not_lt_zero, List.map_cons, List.map_nil, List.cons_append, List.nil_append, loadA, cellsAt, nAg, packA, opt_bind_some, opt_map_some, opt_bind_none, opt_map_none, List.drop, List.take, List.head?, List.length_cons, List.length_nil, binA, unA, eqCells, eqCell, negB, fillA, sr_nil, sr_cons, sr_succ, sr_all, sr_len, storeA, Ob.with, indexedI, V.oneCell, intOf?, retQ_ret, retQ_norm, resA, resA1, fr_getD, packR, sealDepth, shut_bool, shut_int, Option.some.injEq, V.bool.injEq, V.int.injEq, Bool.not_true, Bool.not_false, true_and, and_true, and_self, Bool.and_true, Bool.and_false, Bool.true_and, Bool.false_and, Bool.or_true, Bool.or_false, Bool.true_or, Bool.false_or, Bool.false_eq_true, Int.reduceLT, Int.reduceLE, Int.reduceToNat, Int.reduceNeg, shut_plain, freeL_cons, freeL_nil, free_int, free_bool, free_agg, free_str, free_nils, free_tup, free_sl, true_implies, false_implies, Nat.sub_zero, Int.natCast_nonneg, Int.toNat_natCast, Nat.le_refl, not_true_eq_false, Int.reduceAdd, Int.reduceSub, Int.reduceMul, wrap64, false_and, and_false, cond_true, cond_false, Bool.cond_true_left, Bool.cond_false_right, Int.reduceBNe, Int.reduceBEq, decide_true, decide_false, Int.cast_ofNat_Int, Nat.mul_one, eq_self, Bool.true_eq_false, Bool.not_eq_true, Bool.not_eq_false, deads, List.replicate, argsF, l3C, hm, g1, g2, g3, hw, q7, qo, hlen, isNil, G]
    exact D.to1 (by omega) (Nat.le_refl _) (by omega)
  | true =>
    simp only [Bool.and_eq_true, decide_eq_true_eq] at G
    obtain ⟨k4, k6, n0, nC⟩ := G
    obtain ⟨j, rfl⟩ : ∃ j : Nat, nn = (j : Int) := ⟨nn.toNat, by omega⟩
    have hj : j < C.length := by omega
    have G1 : decide (kind ≥ 4) = true := decide_eq_true k4
    have G2 : decide (kind ≤ 6) = true := decide_eq_true k6
    have G3 : decide ((j : Int) ≥ 0) = true := decide_eq_true n0
    have G4 : decide ((j : Int) < (C.length : Int)) = true := decide_eq_true nC
    obtain ⟨cc, hcc⟩ : ∃ cc, C[j]? = some cc := ⟨_, List.getElem?_eq_getElem hj⟩
    have hnet := D.net cc (List.mem_of_getElem? hcc)
    obtain ⟨hC6, hCf⟩ := D.net.six
    obtain ⟨cc6, ccone⟩ := hC6 cc (List.mem_of_getElem? hcc)
    obtain ⟨o, ver, off, cs, hia, hoc, hle6, hld, -⟩ := D.row.at_ hC6 hcc
    have oon : o ∈ on.objs := by
      rcases D.row with ⟨h, -⟩ | ⟨h1, o', ver', -, h2, h3⟩
      · rw [h] at hj; simp at hj
      · rw [h2] at hia
        simp only [iaddrSA, ↓reduceIte, indexedI, Int.natCast_nonneg, Int.ofNat_lt, hj, Int.toNat_natCast, opt_map_some, Option.some.injEq, Eff.ret.injEq, V.ptr.injEq] at hia
        rw [h2]
        simp [V.objs, hia.1]
    have ofb := hfb o (by simp [oon])
    have wfb := hfb w (.inl rfl)
    have x6 := hd 6 (by omega) (by omega)
    have hx6l := lt_of_get x6
    have e1 : (fb + 6 == w) = false := by rw [beq_eq_false_iff_ne]; omega
    have e1' : (w == fb + 6) = false := by rw [beq_eq_false_iff_ne]; omega
    have e2 : (fb + 6 == o) = false := by rw [beq_eq_false_iff_ne]; omega
    have e2' : (o == fb + 6) = false := by rw [beq_eq_false_iff_ne]; omega
    have e3 : (fb + 6 == fb + 1) = false := by rw [beq_eq_false_iff_ne]; omega
    have e3' : (fb + 1 == fb + 6) = false := by rw [beq_eq_false_iff_ne]; omega
    -- what was taken lies in an object of its own
    obtain ⟨H1, hH1⟩ : ∃ H1, H1 = H.set (fb + 6) (⟨1, .var cc⟩ : Ob) := ⟨_, rfl⟩
    have g6 : ∀ y : Ob, (H.set (fb + 6) y)[fb + 6]? = some y := fun y => List.getElem?_set_self hx6l
    have ss : ∀ y : Ob, (H.set (fb + 6) y).set (fb + 6) ⟨1, .var cc⟩ = H1 := fun y => by rw [hH1, List.set_set]
    have gH1 : ∀ p, p ≠ fb + 6 → H1[p]? = H[p]? := fun p hp => by rw [hH1, List.getElem?_set_ne (Ne.symm hp)]
    have s6 : ∀ z : List V, z.length = 6 → setRange z 0 cc = cc := fun z hz => sr_all (by rw [cc6, hz])
    have hcc1 : H1[fb + 6]? = some ⟨1, .var cc⟩ := by rw [hH1]; exact g6 _
    have hm1 : H1[fb + 1]? = some ⟨1, .var (mvC kind who (j : Int) b)⟩ := by rw [gH1 _ (by omega)]; exact hm
    have D1 : Ord H1 w k on a c sa sc sent sent' out out' S T O U R R' C := by
      refine ⟨D.duo.keep fun p hp => gH1 p (by have := hfb p (by rcases hp with h | h | h <;> simp [h]); omega), D.row.keepO fun p hp => gH1 p (by have := hfb p (by simp [hp]); omega), D.net, D.apart⟩
    have x7 : H1[fb + 7]? = some ⟨0, .dead⟩ := by rw [gH1 _ (by omega)]; exact hd 7 (by omega) (by omega)
    have x8 : H1[fb + 8]? = some ⟨0, .dead⟩ := by rw [gH1 _ (by omega)]; exact hd 8 (by omega) (by omega)
    have hw1 := D1.duo.ob
    have l6 : ∀ (z : V) , List.length [V.int .i64 0, .int .i64 0, .int .i64 0, .int .i64 0, .int .i64 0, z] = 6 := fun _ => rfl
    have t6 : List.take 6 cc = cc := List.take_of_length_le (by omega)
    cases g5 : (kind == 5) with
    | true =>
      have k5 : kind = 5 := by simpa using g5
      have g5' : (kind != 5) = false := by simp [k5]
      have g6' : (kind != 6) = true := by simp [k5]
      obtain ⟨v', h', c13, hle, fin⟩ := ord_come (N := N) (n := n) (by omega) hk D1 hnet
      have fin := fin.weak (x' := sent.length + 1) (y' := sent'.length) (z' := C.length + 90) (by omega) (Nat.le_refl _) (by omega)
      unfold mvC at *
      simp +contextual -implicitDefEqProofs (maxSteps := 10000000) only [sx_seq, sxL_succ, lpQ_norm, lpQ_exit, lpQ_ret, loopQ_norm, loopQ_exit, loopQ_ret, sqQ_norm, sqQ_ret, sqQ_exit, sx_block, blkQ_norm, blkQ_exit, blkQ_ret, sx_cond, cdP_true, cdP_false, cdP_bool, sx_region, sx_draw, plainD, List.all_cons, List.all_nil, List.isEmpty_nil, List.isEmpty_cons, sxo_nil, sxo_cons, sxo_guard, gdS_bool, gdS_eff, gdS_tup, gdS_sel, gdS_seleff, sxK_def, wcall_some, effP_ret, effP_set, effP_none, effP_ite, wop_call, wop_cv, cvP_func, sx_ret, sx_exit, sx_skip, sx_clr, sx_fresh, stays, ↓selV_wt, ↓selV_wf, ↓impB_wt, ↓impB_wf, ↓selV_nor, ↓impB_nor, ↓selV_nt, ↓selV_nf, ↓impB_nt, ↓impB_nf, wantB_true, wantB_false, ↓selV_true, ↓selV_false, ↓selV_and, ↓impB_true, ↓impB_false, ↓impB_and, impB_triv, valOf_some, retH_some, ↓prim_pick, pickO_true, pickO_false, pickO_and, pickO_or, pickO_andr, pickO_orr, pickO_orrn, pickO_orn, pickO_bb, pickAnd_bool, pickOr_bool, ↓selV_nn, ↓impB_nn, Bool.and_assoc, Bool.or_assoc, doOp, ev_fr, ev_cst, put_none, put_fr, get, ins, del, dels, Nat.reduceLT, Nat.reduceEqDiff, ↓reduceIte, reduceCtorEq, ne_eq, not_false_eq_true, implies_true, framed_pureF, framed_fb, framed_N, framed_pure, wop_prim, prim, YLD, mkA, V.cells, List.getElem?_cons_zero, List.getElem?_cons_succ, List.set_cons_zero, List.set_cons_succ, Nat.zero_add, Nat.add_zero, Nat.reduceAdd, Nat.reduceSub, Nat.reduceMul, Nat.reduceLeDiff, Nat.not_lt_zero, List.map_cons, List.map_nil, List.cons_append, List.nil_append, loadA, cellsAt, nAg, packA, opt_bind_some, opt_map_some, opt_bind_none, opt_map_none, List.drop, List.take, List.head?, List.length_cons, List.length_nil, binA, unA, eqCells, eqCell, negB, fillA, sr_nil, sr_cons, sr_succ, sr_all, sr_len, storeA, Ob.with, indexedI, V.oneCell, intOf?, retQ_ret, retQ_norm, resA, resA1, fr_getD, packR, sealDepth, shut_bool, shut_int, Option.some.injEq, V.bool.injEq, V.int.injEq, Bool.not_true, Bool.not_false, true_and, and_true, and_self, Bool.and_true, Bool.and_false, Bool.true_and, Bool.false_and, Bool.or_true, Bool.or_false, Bool.true_or, Bool.false_or, Bool.false_eq_true, Int.reduceLT, Int.reduceLE, Int.reduceToNat, Int.reduceNeg, shut_plain, freeL_cons, freeL_nil, free_int, free_bool, free_agg, free_str, free_nils, free_tup, free_sl, true_implies, false_implies, Nat.sub_zero, Int.natCast_nonneg, Int.toNat_natCast, Nat.le_refl, not_true_eq_false, Int.reduceAdd, Int.reduceSub, Int.reduceMul, wrap64, false_and, and_false, cond_true, cond_false, Bool.cond_true_left, Bool.cond_false_right, Int.reduceBNe, Int.reduceBEq, decide_true, decide_false, Int.cast_ofNat_Int, Nat.mul_one, eq_self, Bool.true_eq_false, Bool.not_eq_true, Bool.not_eq_false, deads, List.replicate, argsF, l3C, sx_drawd, reachC_nil, wpd_nil, wpd_cons, wdK_def, fpOf, fpV, fpCall, Fp.ok, disj, List.contains_cons, List.contains_nil, Nat.reduceBEq, List.all_append, V.objsL, V.objs,  List.getD_cons_zero, List.getD_cons_succ, List.append_nil, hm, g1, g2, g3, hw, q7, qo, hlen, isNil, G1, G2, G3, G4, hia, hoc, hle6, hld, x6, g6, ss, s6, l6, e1, e1', e2, e2', e3, e3', cc6, ccone, hm1, g5', g6', hcc1, t6, c13, -List.drop, -List.take]
      exact fin
    | false =>
      have k5 : kind ≠ 5 := by simpa using g5
      have g5' : (kind != 5) = true := by simp [k5]
      obtain ⟨s1, f1, H2, s2, f2, H3, hs1, hA1, hH2, hw2, gH2, hs2, hA2, hH3, u1, u2, hw3, gH3, hle3, D3⟩ := ord_cut hk D1 hj x7 x8 hfb (by omega)
      have hm2 : H2[fb + 1]? = some ⟨1, .var (mvC kind who (j : Int) b)⟩ := by rw [gH2 _ (by omega)]; exact hm1
      have hm3 : (H3.set w ⟨1, .var (tw k (Eff.val f2) a c S T O U)⟩)[fb + 1]? = some ⟨1, .var (mvC kind who (j : Int) b)⟩ := by rw [List.getElem?_set_ne (by omega), gH3 _ (by omega)]; exact hm1
      have hcc3 : (H3.set w ⟨1, .var (tw k (Eff.val f2) a c S T O U)⟩)[fb + 6]? = some ⟨1, .var cc⟩ := by rw [List.getElem?_set_ne (by omega), gH3 _ (by omega)]; exact hcc1
      have n1 : Eff.val f2 ≠ .junk := fun e => by rw [e] at u2; cases u2
      have n2 : ∀ cs, Eff.val f2 ≠ .agg cs := fun cs e => by rw [e] at u2; cases u2
      have n3 : ∀ cs, Eff.val f2 ≠ .tup cs := fun cs e => by rw [e] at u2; cases u2
      have w1 : IntKind.i64.wrap ((j : Int) + 1) = ((j + 1 : Nat) : Int) := (wrap64 (by omega) (by omega)).trans (by omega)
      have hwl3 := lt_of_get hw3
      have hCl : (C.take j ++ C.drop (j + 1)).length ≤ C.length + 90 := by simp; omega
      have G0 : decide ((j : Int) ≤ (C.length : Int)) = true := decide_eq_true (by omega)
      cases g6k : (kind == 6) with
      | true =>
        have k6' : kind = 6 := by simpa using g6k
        have g6' : (kind != 6) = false := by simp [k6']
        have fin : Ord1 (H3.set w ⟨1, .var (tw k (Eff.val f2) a c S T O U)⟩) w k (sent.length + 1) sent'.length (C.length + 90) := D3.to1 (by omega) (Nat.le_refl _) hCl
        unfold mvC at *
        generalize hv1 : Eff.val f1 = v1 at *
        generalize hv2 : Eff.val f2 = v2 at *
        simp +contextual -implicitDefEqProofs (maxSteps := 10000000) only [sx_seq, sxL_succ, lpQ_norm, lpQ_exit, lpQ_ret, loopQ_norm, loopQ_exit, loopQ_ret, sqQ_norm, sqQ_ret, sqQ_exit, sx_block, blkQ_norm, blkQ_exit, blkQ_ret, sx_cond, cdP_true, cdP_false, cdP_bool, sx_region, sx_draw, plainD, List.all_cons, List.all_nil, List.isEmpty_nil, List.isEmpty_cons, sxo_nil, sxo_cons, sxo_guard, gdS_bool, gdS_eff, gdS_tup, gdS_sel, gdS_seleff, sxK_def, wcall_some, effP_ret, effP_set, effP_none, effP_ite, wop_call, wop_cv, cvP_func, sx_ret, sx_exit, sx_skip, sx_clr, sx_fresh, stays, ↓selV_wt, ↓selV_wf, ↓impB_wt, ↓impB_wf, ↓selV_nor, ↓impB_nor, ↓selV_nt, ↓selV_nf, ↓impB_nt, ↓impB_nf, wantB_true, wantB_false, ↓selV_true, ↓selV_false, ↓selV_and, ↓impB_true, ↓impB_false, ↓impB_and, impB_triv, valOf_some, retH_some, ↓prim_pick, pickO_true, pickO_false, pickO_and, pickO_or, pickO_andr, pickO_orr, pickO_orrn, pickO_orn, pickO_bb, pickAnd_bool, pickOr_bool, ↓selV_nn, ↓impB_nn, Bool.and_assoc, Bool.or_assoc, doOp, ev_fr, ev_cst, put_none, put_fr, get, ins, del, dels, Nat.reduceLT, Nat.reduceEqDiff, ↓reduceIte, reduceCtorEq, ne_eq, not_false_eq_true, implies_true, framed_pureF, framed_fb, framed_N, framed_pure, wop_prim, prim, YLD, mkA, V.cells, List.getElem?_cons_zero, List.getElem?_cons_succ, List.set_cons_zero, List.set_cons_succ, Nat.zero_add, Nat.add_zero, Nat.reduceAdd, Nat.reduceSub, Nat.reduceMul, Nat.reduceLeDiff, Nat.not_lt_zero, List.map_cons, List.map_nil, List.cons_append, List.nil_append, loadA, cellsAt, nAg, packA, opt_bind_some, opt_map_some, opt_bind_none, opt_map_none, List.drop, List.take, List.head?, List.length_cons, List.length_nil, binA, unA, eqCells, eqCell, negB, fillA, sr_nil, sr_cons, sr_succ, sr_all, sr_len, storeA, Ob.with, indexedI, V.oneCell, intOf?, retQ_ret, retQ_norm, resA, resA1, fr_getD, packR, sealDepth, shut_bool, shut_int, Option.some.injEq, V.bool.injEq, V.int.injEq, Bool.not_true, Bool.not_false, true_and, and_true, and_self, Bool.and_true, Bool.and_false, Bool.true_and, Bool.false_and, Bool.or_true, Bool.or_false, Bool.true_or, Bool.false_or, Bool.false_eq_true, Int.reduceLT, Int.reduceLE, Int.reduceToNat, Int.reduceNeg, shut_plain, freeL_cons, freeL_nil, free_int, free_bool, free_agg, free_str, free_nils, free_tup, free_sl, true_implies, false_implies, Nat.sub_zero, Int.natCast_nonneg, Int.toNat_natCast, Nat.le_refl, not_true_eq_false, Int.reduceAdd, Int.reduceSub, Int.reduceMul, wrap64, false_and, and_false, cond_true, cond_false, Bool.cond_true_left, Bool.cond_false_right, Int.reduceBNe, Int.reduceBEq, decide_true, decide_false, Int.cast_ofNat_Int, Nat.mul_one, eq_self, Bool.true_eq_false, Bool.not_eq_true, Bool.not_eq_false, deads, List.replicate, argsF, l3C, sx_drawd, reachC_nil, wpd_nil, wpd_cons, wdK_def, fpOf, fpV, fpCall, Fp.ok, disj, List.contains_cons, List.contains_nil, Nat.reduceBEq, List.all_append, V.objsL, V.objs,  List.getD_cons_zero, List.getD_cons_succ, List.append_nil, hv1, hv2, hm, g1, g2, g3, hw, q7, qo, qO, hlen, isNil, G1, G2, G3, G4, hia, hoc, hle6, hld, x6, g6, ss, s6, l6, e1, e1', e2, e2', e3, e3', cc6, ccone, hm1, g5', g6', hcc1, t6, hw1, hs1, hA1, effP_any (e := f1), hH2, hw2, hm2, w1, hs2, hA2, effP_any (e := f2), hH3, hw3, hwl3, u1, u2, hm3, hcc3, -List.drop, -List.take]
        exact fin
      | false =>
        have k6' : kind ≠ 6 := by simpa using g6k
        have g6' : (kind != 6) = true := by simp [k6']
        obtain ⟨v', h', c13, hle, fin⟩ := ord_come (N := N) (n := n) (by omega) hk D3 hnet
        have fin := fin.weak (x' := sent.length + 1) (y' := sent'.length) (z' := C.length + 90) (by omega) (Nat.le_refl _) hCl
        unfold mvC at *
        generalize hv1 : Eff.val f1 = v1 at *
        generalize hv2 : Eff.val f2 = v2 at *
        simp +contextual -implicitDefEqProofs (maxSteps := 10000000) only [sx_seq, sxL_succ, lpQ_norm, lpQ_exit, lpQ_ret, loopQ_norm, loopQ_exit, loopQ_ret, sqQ_norm, sqQ_ret, sqQ_exit, sx_block, blkQ_norm, blkQ_exit, blkQ_ret, sx_cond, cdP_true, cdP_false, cdP_bool, sx_region, sx_draw, plainD, List.all_cons, List.all_nil, List.isEmpty_nil, List.isEmpty_cons, sxo_nil, sxo_cons, sxo_guard, gdS_bool, gdS_eff, gdS_tup, gdS_sel, gdS_seleff, sxK_def, wcall_some, effP_ret, effP_set, effP_none, effP_ite, wop_call, wop_cv, cvP_func, sx_ret, sx_exit, sx_skip, sx_clr, sx_fresh, stays, ↓selV_wt, ↓selV_wf, ↓impB_wt, ↓impB_wf, ↓selV_nor, ↓impB_nor, ↓selV_nt, ↓selV_nf, ↓impB_nt, ↓impB_nf, wantB_true, wantB_false, ↓selV_true, ↓selV_false, ↓selV_and, ↓impB_true, ↓impB_false, ↓impB_and, impB_triv, valOf_some, retH_some, ↓prim_pick, pickO_true, pickO_false, pickO_and, pickO_or, pickO_andr, pickO_orr, pickO_orrn, pickO_orn, pickO_bb, pickAnd_bool, pickOr_bool, ↓selV_nn, ↓impB_nn, Bool.and_assoc, Bool.or_assoc, doOp, ev_fr, ev_cst, put_none, put_fr, get, ins, del, dels, Nat.reduceLT, Nat.reduceEqDiff, ↓reduceIte, reduceCtorEq, ne_eq, not_false_eq_true, implies_true, framed_pureF, framed_fb, framed_N, framed_pure, wop_prim, prim, YLD, mkA, V.cells, List.getElem?_cons_zero, List.getElem?_cons_succ, List.set_cons_zero, List.set_cons_succ, Nat.zero_add, Nat.add_zero, Nat.reduceAdd, Nat.reduceSub, Nat.reduceMul, Nat.reduceLeDiff, Nat.not_lt_zero, List.map_cons, List.map_nil, List.cons_append, List.nil_append, loadA, cellsAt, nAg, packA, opt_bind_some, opt_map_some, opt_bind_none, opt_map_none, List.drop, List.take, List.head?, List.length_cons, List.length_nil, binA, unA, eqCells, eqCell, negB, fillA, sr_nil, sr_cons, sr_succ, sr_all, sr_len, storeA, Ob.with, indexedI, V.oneCell, intOf?, retQ_ret, retQ_norm, resA, resA1, fr_getD, packR, sealDepth, shut_bool, shut_int, Option.some.injEq, V.bool.injEq, V.int.injEq, Bool.not_true, Bool.not_false, true_and, and_true, and_self, Bool.and_true, Bool.and_false, Bool.true_and, Bool.false_and, Bool.or_true, Bool.or_false, Bool.true_or, Bool.false_or, Bool.false_eq_true, Int.reduceLT, Int.reduceLE, Int.reduceToNat, Int.reduceNeg, shut_plain, freeL_cons, freeL_nil, free_int, free_bool, free_agg, free_str, free_nils, free_tup, free_sl, true_implies, false_implies, Nat.sub_zero, Int.natCast_nonneg, Int.toNat_natCast, Nat.le_refl, not_true_eq_false, Int.reduceAdd, Int.reduceSub, Int.reduceMul, wrap64, false_and, and_false, cond_true, cond_false, Bool.cond_true_left, Bool.cond_false_right, Int.reduceBNe, Int.reduceBEq, decide_true, decide_false, Int.cast_ofNat_Int, Nat.mul_one, eq_self, Bool.true_eq_false, Bool.not_eq_true, Bool.not_eq_false, deads, List.replicate, argsF, l3C, sx_drawd, reachC_nil, wpd_nil, wpd_cons, wdK_def, fpOf, fpV, fpCall, Fp.ok, disj, List.contains_cons, List.contains_nil, Nat.reduceBEq, List.all_append, V.objsL, V.objs,  List.getD_cons_zero, List.getD_cons_succ, List.append_nil, hv1, hv2, hm, g1, g2, g3, hw, q7, qo, qO, hlen, isNil, G1, G2, G3, G4, hia, hoc, hle6, hld, x6, g6, ss, s6, l6, e1, e1', e2, e2', e3, e3', cc6, ccone, hm1, g5', g6', hcc1, t6, hw1, hs1, hA1, effP_any (e := f1), hH2, hw2, hm2, w1, hs2, hA2, effP_any (e := f2), hH3, hw3, hwl3, u1, u2, hm3, hcc3, c13, -List.drop, -List.take]
        exact fin
end
end Go.Am.T


set_option linter.unusedVariables false
set_option linter.unusedSimpArgs false
set_option linter.unusedSectionVars false
set_option maxRecDepth 10000
namespace Go.Am.T
attribute [local congr] selV_congr impB_congr
theorem right_any {N n : Nat} (hN : 1500 ≤ N) (hn : 1 ≤ n) {H : Heap} {w a c : Nat} {on S0 S1 O0 O1 : V} (hw : H[w]? = some ⟨1, .var (twoC a c on S0 S1 O0 O1)⟩) {von : V} (hon : V.shut (fun o => H[o]?) 63 on = some von) (honf : von.free = true) {sa sc : Ses} {La Lc : List V} {Wa Wc : V} {Ra Rc : List Nat} (hA : SAt H a sa La Wa Ra) (hC : SAt H c sc Lc Wc Rc)
    {A0 A1 B0 B1 : List (List Int)} (hS0 : ERow H S0 A0) (hS1 : ERow H S1 A1) (hO0 : ERow H O0 B0) (hO1 : ERow H O1 B1) {r0 r1 : List (List Int)} (p0 : A1 = B0 ++ r0) (p1 : A0 = B1 ++ r1) (hA0 : A0.length ≤ 1000) (hA1 : A1.length ≤ 1000) :
    callA am N n 14 [.ptr w 1 0] H = some (.bool true, H) := by
  obtain ⟨va, a1, a2⟩ := hA.shutD 60
  obtain ⟨vc, c1, c2⟩ := hC.shutD 60
  obtain ⟨t0, s0, q0, f0, -, n0, -⟩ := hS0.shut 60
  obtain ⟨t1, s1, q1, f1, -, n1, -⟩ := hS1.shut 60
  obtain ⟨u0, o0, k0, g0, -, m0, -⟩ := hO0.shut 60
  obtain ⟨u1, o1, k1, g1, -, m1, -⟩ := hO1.shut 60
  have hfree : V.freeL [va, vc, von, t0, t1, u0, u1] = true := by
    simp only [freeL_cons, freeL_nil, a2, c2, honf, f0, f1, g0, g1, Bool.and_true]
  have e : V.shut (fun o => H[o]?) sealDepth (.ptr w 1 0) = match cellsAt (fun o => H[o]?) w 1 with
      | some all => (all.mapM (V.shut (fun o => H[o]?) 63)).map fun cs => .iptr cs 0
      | none => none := rfl
  have hsh : V.shut (fun o => H[o]?) sealDepth (.ptr w 1 0) = some (.iptr [va, vc, von, t0, t1, u0, u1] 0) := by
    rw [e]
    simp only [cellsAt, hw, ↓reduceIte, twoC, List.mapM_cons, List.mapM_nil, a1, c1, s0, s1, o0, o1, hon, Option.bind_eq_bind, Option.bind_some, Option.pure_def, Option.map_some]
  exact right_i hN hn hfree q0 q1 k0 k1 n0 n1 m0 m1 p0 p1 hA0 hA1 (by rw [List.mapM_cons, hsh]; rfl) rfl
theorem ord_right {N n : Nat} (hN : 1500 ≤ N) (hn : 1 ≤ n) {H : Heap} {w : Nat} {on : V} {a c : Nat} {sa sc : Ses} {sent sent' out out' : List (List Int)} {S T O U : V} {R R' : List Nat} {C : List (List V)} (D : Ord H w 0 on a c sa sc sent sent' out out' S T O U R R' C) :
    callA am N n 14 [.ptr w 1 0] H = some (.bool true, H) := by
  obtain ⟨L, W, Rw, LS, RS, LO, RO, hS, hB, hSr, hEl, hO, hBo, hE, hRs, hnd⟩ := D.duo.near.all
  obtain ⟨L', W', Rw', LS', RS', LO', RO', hS', hB', hSr', hEl', hO', hBo', hE', hRs', hnd'⟩ := D.duo.far.all
  obtain ⟨r0, p0⟩ := D.duo.pre
  obtain ⟨r1, p1⟩ := D.duo.pre'
  obtain ⟨hC6, hCf⟩ := D.net.six
  obtain ⟨von, hon, honf⟩ := D.row.free hC6 hCf 60
  have := hE.most
  have := hE'.most
  exact right_any hN hn D.duo.ob hon honf hS hS' (hSr.erow hEl) (hSr'.erow hEl') (hO.erow hBo.els) (hO'.erow hBo'.els) p0 p1 (by omega) (by omega)
theorem l3A_wp {N n : Nat} {fb : Nat} {H : Heap} {l : V} {M : List Mv} (hl : IsL l 4 (M.map Mv.cs)) {i : Nat} {m : Mv} (hi : M[i]? = some m) {w : Nat} {x : Ob} (hx : H[fb + 1]? = some x) (hv : x.ver = 0) :
    wp ⟨pureOf am, callA am N n, N, fb⟩ l3A (slots3 l w i) H fun e t' H' => e = .norm ∧ t' = fr 305 [(1, l), (9, .ptr w 1 0), (10, .int .i64 i), (11, .ptr (fb + 1) 1 0)] ∧ H' = H.set (fb + 1) ⟨1, .var m.cs⟩ := by
  have hat := hl.at_ i
  rw [List.getElem?_map, hi] at hat
  simp only [Option.map_some] at hat
  have hlt := lt_of_get hx
  have q4 : m.cs.length = 4 := rfl
  have t4 : List.take 4 m.cs = m.cs := rfl
  have gs : ∀ y : Ob, (H.set (fb + 1) y)[fb + 1]? = some y := fun y => List.getElem?_set_self hlt
  have ss : ∀ y z : Ob, (H.set (fb + 1) y).set (fb + 1) z = H.set (fb + 1) z := fun y z => List.set_set ..
  have s4 : setRange [V.int .i64 0, .int .i64 0, .int .i64 0, .nils] 0 m.cs = m.cs := sr_all rfl
  have o4 : m.cs.all V.oneCell = true := by
    show (true && (true && (true && (m.b.oneCell && true)))) = true
    rw [m.ok.one]; rfl
  unfold slots3
  refine sx_wp ?_
  obtain ⟨v, bd⟩ := x
  simp only at hv
  subst hv
  generalize m.cs = cs at *
  simp +contextual -implicitDefEqProofs (maxSteps := 10000000) only [sx_seq, sxL_succ, lpQ_norm, lpQ_exit, lpQ_ret, loopQ_norm, loopQ_exit, loopQ_ret, sqQ_norm, sqQ_ret, sqQ_exit, sx_block, blkQ_norm, blkQ_exit, blkQ_ret, sx_cond, cdP_true, cdP_false, cdP_bool, sx_region, sx_draw, plainD, List.all_cons, List.all_nil, List.isEmpty_nil, List.isEmpty_cons, sxo_nil, sxo_cons, sxo_guard, gdS_bool, gdS_eff, gdS_tup, gdS_sel, gdS_seleff, sxK_def, wcall_some, effP_ret, effP_set, effP_none, effP_ite, wop_call, wop_cv, cvP_func, sx_ret, sx_exit, sx_skip, sx_clr, sx_fresh, stays, ↓selV_wt, ↓selV_wf, ↓impB_wt, ↓impB_wf, ↓selV_nor, ↓impB_nor, ↓selV_nt, ↓selV_nf, ↓impB_nt, ↓impB_nf, wantB_true, wantB_false, ↓selV_true, ↓selV_false, ↓selV_and, ↓impB_true, ↓impB_false, ↓impB_and, impB_triv, valOf_some, retH_some, ↓prim_pick, pickO_true, pickO_false, pickO_and, pickO_or, pickO_andr, pickO_orr, pickO_orrn, pickO_orn, pickO_bb, pickAnd_bool, pickOr_bool, ↓selV_nn, ↓impB_nn, Bool.and_assoc, Bool.or_assoc, doOp, ev_fr, ev_cst, put_none, put_fr, get, ins, del, dels, Nat.reduceLT, Nat.reduceEqDiff, ↓reduceIte, reduceCtorEq, ne_eq, not_false_eq_true, implies_true, framed_pureF, framed_fb, framed_N, framed_pure, wop_prim, prim, YLD, mkA, V.cells, List.getElem?_cons_zero, List.getElem?_cons_succ, List.set_cons_zero, List.set_cons_succ, Nat.zero_add, Nat.add_zero, Nat.reduceAdd, Nat.reduceSub, Nat.reduceMul, Nat.reduceLeDiff, Nat.not_lt_zero, List.map_cons, List.map_nil, List.cons_append, List.nil_append, loadA, cellsAt, nAg, packA, opt_bind_some, opt_map_some, opt_bind_none, opt_map_none, List.drop, List.take, List.head?, List.length_cons, List.length_nil, binA, unA, eqCells, eqCell, negB, fillA, sr_nil, sr_cons, sr_succ, sr_all, sr_len, storeA, Ob.with, indexedI, V.oneCell, intOf?, retQ_ret, retQ_norm, resA, resA1, fr_getD, packR, sealDepth, shut_bool, shut_int, Option.some.injEq, V.bool.injEq, V.int.injEq, Bool.not_true, Bool.not_false, true_and, and_true, and_self, Bool.and_true, Bool.and_false, Bool.true_and, Bool.false_and, Bool.or_true, Bool.or_false, Bool.true_or, Bool.false_or, Bool.false_eq_true, Int.reduceLT, Int.reduceLE, Int.reduceToNat, Int.reduceNeg, shut_plain, freeL_cons, freeL_nil, free_int, free_bool, free_agg, free_str, free_nils, free_tup, free_sl, true_implies, false_implies, Nat.sub_zero, Int.natCast_nonneg, Int.toNat_natCast, Nat.le_refl, not_true_eq_false, Int.reduceAdd, Int.reduceSub, Int.reduceMul, wrap64, false_and, and_false, cond_true, cond_false, Bool.cond_true_left, Bool.cond_false_right, Int.reduceBNe, Int.reduceBEq, decide_true, decide_false, Int.cast_ofNat_Int, Nat.mul_one, eq_self, Bool.true_eq_false, Bool.not_eq_true, Bool.not_eq_false, deads, List.replicate, argsF, l3A, hat, hx, hlt, q4, t4, s4, o4, gs, ss]
theorem l3B_wp {N n : Nat} {fb : Nat} {H : Heap} {l : V} {i : Nat} {m : Mv} {w k : Nat} (hm : H[fb + 1]? = some ⟨1, .var m.cs⟩) (hk : IntKind.i64.wrap ((BitVec.ofInt IntKind.i64.bits m.who) &&& (BitVec.ofInt IntKind.i64.bits 1)).toNat = (k : Int)) :
    wp ⟨pureOf am, callA am N n, N, fb⟩ l3B (fr 305 [(1, l), (9, .ptr w 1 0), (10, .int .i64 i), (11, .ptr (fb + 1) 1 0)]) H fun e t' H' => e = .norm ∧ t' = slots3k l w i (fb + 1) k ∧ H' = H := by
  unfold Mv.cs mvC at hm
  unfold slots3k
  refine sx_wp ?_
  simp +contextual -implicitDefEqProofs (maxSteps := 10000000) only [sx_seq, sxL_succ, lpQ_norm, lpQ_exit, lpQ_ret, loopQ_norm, loopQ_exit, loopQ_ret, sqQ_norm, sqQ_ret, sqQ_exit, sx_block, blkQ_norm, blkQ_exit, blkQ_ret, sx_cond, cdP_true, cdP_false, cdP_bool, sx_region, sx_draw, plainD, List.all_cons, List.all_nil, List.isEmpty_nil, List.isEmpty_cons, sxo_nil, sxo_cons, sxo_guard, gdS_bool, gdS_eff, gdS_tup, gdS_sel, gdS_seleff, sxK_def, wcall_some, effP_ret, effP_set, effP_none, effP_ite, wop_call, wop_cv, cvP_func, sx_ret, sx_exit, sx_skip, sx_clr, sx_fresh, stays, ↓selV_wt, ↓selV_wf, ↓impB_wt, ↓impB_wf, ↓selV_nor, ↓impB_nor, ↓selV_nt, ↓selV_nf, ↓impB_nt, ↓impB_nf, wantB_true, wantB_false, ↓selV_true, ↓selV_false, ↓selV_and, ↓impB_true, ↓impB_false, ↓impB_and, impB_triv, valOf_some, retH_some, ↓prim_pick, pickO_true, pickO_false, pickO_and, pickO_or, pickO_andr, pickO_orr, pickO_orrn, pickO_orn, pickO_bb, pickAnd_bool, pickOr_bool, ↓selV_nn, ↓impB_nn, Bool.and_assoc, Bool.or_assoc, doOp, ev_fr, ev_cst, put_none, put_fr, get, ins, del, dels, Nat.reduceLT, Nat.reduceEqDiff, ↓reduceIte, reduceCtorEq, ne_eq, not_false_eq_true, implies_true, framed_pureF, framed_fb, framed_N, framed_pure, wop_prim, prim, YLD, mkA, V.cells, List.getElem?_cons_zero, List.getElem?_cons_succ, List.set_cons_zero, List.set_cons_succ, Nat.zero_add, Nat.add_zero, Nat.reduceAdd, Nat.reduceSub, Nat.reduceMul, Nat.reduceLeDiff, Nat.not_lt_zero, List.map_cons, List.map_nil, List.cons_append, List.nil_append, loadA, cellsAt, nAg, packA, opt_bind_some, opt_map_some, opt_bind_none, opt_map_none, List.drop, List.take, List.head?, List.length_cons, List.length_nil, binA, unA, eqCells, eqCell, negB, fillA, sr_nil, sr_cons, sr_succ, sr_all, sr_len, storeA, Ob.with, indexedI, V.oneCell, intOf?, retQ_ret, retQ_norm, resA, resA1, fr_getD, packR, sealDepth, shut_bool, shut_int, Option.some.injEq, V.bool.injEq, V.int.injEq, Bool.not_true, Bool.not_false, true_and, and_true, and_self, Bool.and_true, Bool.and_false, Bool.true_and, Bool.false_and, Bool.or_true, Bool.or_false, Bool.true_or, Bool.false_or, Bool.false_eq_true, Int.reduceLT, Int.reduceLE, Int.reduceToNat, Int.reduceNeg, shut_plain, freeL_cons, freeL_nil, free_int, free_bool, free_agg, free_str, free_nils, free_tup, free_sl, true_implies, false_implies, Nat.sub_zero, Int.natCast_nonneg, Int.toNat_natCast, Nat.le_refl, not_true_eq_false, Int.reduceAdd, Int.reduceSub, Int.reduceMul, wrap64, false_and, and_false, cond_true, cond_false, Bool.cond_true_left, Bool.cond_false_right, Int.reduceBNe, Int.reduceBEq, decide_true, decide_false, Int.cast_ofNat_Int, Nat.mul_one, eq_self, Bool.true_eq_false, Bool.not_eq_true, Bool.not_eq_false, deads, List.replicate, argsF, l3B, hm, hk]
theorem l3R_wp {N n : Nat} {fb : Nat} {H : Heap} {l : V} {i : Nat} {w : Nat} (c14 : callA am N n 14 [.ptr w 1 0] H = some (.bool true, H)) :
    wp ⟨pureOf am, callA am N n, N, fb⟩ l3R (slots3 l w i) H fun e t' H' => e = .norm ∧ t' = slots3 l w i ∧ H' = H := by
  unfold slots3
  refine sx_wp ?_
  simp +contextual -implicitDefEqProofs (maxSteps := 10000000) only [sx_seq, sxL_succ, lpQ_norm, lpQ_exit, lpQ_ret, loopQ_norm, loopQ_exit, loopQ_ret, sqQ_norm, sqQ_ret, sqQ_exit, sx_block, blkQ_norm, blkQ_exit, blkQ_ret, sx_cond, cdP_true, cdP_false, cdP_bool, sx_region, sx_draw, plainD, List.all_cons, List.all_nil, List.isEmpty_nil, List.isEmpty_cons, sxo_nil, sxo_cons, sxo_guard, gdS_bool, gdS_eff, gdS_tup, gdS_sel, gdS_seleff, sxK_def, wcall_some, effP_ret, effP_set, effP_none, effP_ite, wop_call, wop_cv, cvP_func, sx_ret, sx_exit, sx_skip, sx_clr, sx_fresh, stays, ↓selV_wt, ↓selV_wf, ↓impB_wt, ↓impB_wf, ↓selV_nor, ↓impB_nor, ↓selV_nt, ↓selV_nf, ↓impB_nt, ↓impB_nf, wantB_true, wantB_false, ↓selV_true, ↓selV_false, ↓selV_and, ↓impB_true, ↓impB_false, ↓impB_and, impB_triv, valOf_some, retH_some, ↓prim_pick, pickO_true, pickO_false, pickO_and, pickO_or, pickO_andr, pickO_orr, pickO_orrn, pickO_orn, pickO_bb, pickAnd_bool, pickOr_bool, ↓selV_nn, ↓impB_nn, Bool.and_assoc, Bool.or_assoc, doOp, ev_fr, ev_cst, put_none, put_fr, get, ins, del, dels, Nat.reduceLT, Nat.reduceEqDiff, ↓reduceIte, reduceCtorEq, ne_eq, not_false_eq_true, implies_true, framed_pureF, framed_fb, framed_N, framed_pure, wop_prim, prim, YLD, mkA, V.cells, List.getElem?_cons_zero, List.getElem?_cons_succ, List.set_cons_zero, List.set_cons_succ, Nat.zero_add, Nat.add_zero, Nat.reduceAdd, Nat.reduceSub, Nat.reduceMul, Nat.reduceLeDiff, Nat.not_lt_zero, List.map_cons, List.map_nil, List.cons_append, List.nil_append, loadA, cellsAt, nAg, packA, opt_bind_some, opt_map_some, opt_bind_none, opt_map_none, List.drop, List.take, List.head?, List.length_cons, List.length_nil, binA, unA, eqCells, eqCell, negB, fillA, sr_nil, sr_cons, sr_succ, sr_all, sr_len, storeA, Ob.with, indexedI, V.oneCell, intOf?, retQ_ret, retQ_norm, resA, resA1, fr_getD, packR, sealDepth, shut_bool, shut_int, Option.some.injEq, V.bool.injEq, V.int.injEq, Bool.not_true, Bool.not_false, true_and, and_true, and_self, Bool.and_true, Bool.and_false, Bool.true_and, Bool.false_and, Bool.or_true, Bool.or_false, Bool.true_or, Bool.false_or, Bool.false_eq_true, Int.reduceLT, Int.reduceLE, Int.reduceToNat, Int.reduceNeg, shut_plain, freeL_cons, freeL_nil, free_int, free_bool, free_agg, free_str, free_nils, free_tup, free_sl, true_implies, false_implies, Nat.sub_zero, Int.natCast_nonneg, Int.toNat_natCast, Nat.le_refl, not_true_eq_false, Int.reduceAdd, Int.reduceSub, Int.reduceMul, wrap64, false_and, and_false, cond_true, cond_false, Bool.cond_true_left, Bool.cond_false_right, Int.reduceBNe, Int.reduceBEq, decide_true, decide_false, Int.cast_ofNat_Int, Nat.mul_one, eq_self, Bool.true_eq_false, Bool.not_eq_true, Bool.not_eq_false, deads, List.replicate, argsF, l3R, c14]
theorem l3K_wp {N n : Nat} (hN : 1500 ≤ N) (hn : 5 ≤ n) {H0 : Heap} {l : V} {M : List Mv} (hl : IsL l 4 (M.map Mv.cs)) {i : Nat} {m : Mv} (hi : M[i]? = some m) (hi80 : i < 80) (D : Ord1 H0 0 0 i i (i * 90)) :
    wp ⟨pureOf am, callA am N n, N, H0.length⟩ l3K (slots3 l 0 i) (H0 ++ deads 9) fun e t' H' => e = .norm ∧ t' = slots3 l 0 i ∧ Ord1 H' 0 0 (i + 1) (i + 1) ((i + 1) * 90) := by
  obtain ⟨on, a, c, sa, sc, sent, sent', out, out', S, T, O, U, R, R', C, D, h1, h2, h3⟩ := D
  rw [l3K_is]
  refine wp_cutM (fun t' H' => t' = fr 305 [(1, l), (9, .ptr 0 1 0), (10, .int .i64 i), (11, .ptr (H0.length + 1) 1 0)] ∧ H' = (H0 ++ deads 9).set (H0.length + 1) ⟨1, .var m.cs⟩) (l3A_wp hl hi (x := ⟨0, .dead⟩) (by rw [app_get]; rfl) rfl) ?_
  rintro t H ⟨rfl, rfl⟩
  obtain ⟨k, hk, hkk⟩ := and_one m.who
  have gx : ∀ j, 2 ≤ j → j < 9 → ((H0 ++ deads 9).set (H0.length + 1) ⟨1, .var m.cs⟩)[H0.length + j]? = some ⟨0, .dead⟩ := fun j h1 h2 => by
    rw [List.getElem?_set_ne (by omega), app_get]
    unfold deads
    rw [List.getElem?_replicate, if_pos h2]
  have gm : ((H0 ++ deads 9).set (H0.length + 1) ⟨1, .var m.cs⟩)[H0.length + 1]? = some ⟨1, .var m.cs⟩ := by rw [List.getElem?_set_self (by simp [deads])]
  have go : ∀ o, o < H0.length → ((H0 ++ deads 9).set (H0.length + 1) ⟨1, .var m.cs⟩)[o]? = H0[o]? := fun o ho => by
    rw [List.getElem?_set_ne (by omega), List.getElem?_append_left ho]
  have hlt : ∀ o, o = 0 ∨ o ∈ R ∨ o ∈ R' ∨ o ∈ on.objs → o < H0.length := fun o ho => by
    rcases ho with h | h | h | h
    · exact D.duo.lt o (.inl h)
    · exact D.duo.lt o (.inr (.inl h))
    · exact D.duo.lt o (.inr (.inr h))
    · exact D.row.lt o h
  have D1 := D.keep go
  refine wp_cutM (fun t' H' => t' = slots3k l 0 i (H0.length + 1) k ∧ H' = (H0 ++ deads 9).set (H0.length + 1) ⟨1, .var m.cs⟩) (l3B_wp gm hkk) ?_
  rintro t H ⟨rfl, rfl⟩
  generalize ((H0 ++ deads 9).set (H0.length + 1) ⟨1, .var m.cs⟩) = H1 at *
  refine wp_cutM (fun t' H' => t' = slots3 l 0 i ∧ Ord1 H' 0 0 (i + 1) (i + 1) ((i + 1) * 90)) ?_ ?_
  · have key : ∀ (a c : Nat) (sa sc : Ses) (sent sent' out out' : List (List Int)) (S T O U : V) (R R' : List Nat), Ord H1 0 k on a c sa sc sent sent' out out' S T O U R R' C → sent.length ≤ i → sent'.length ≤ i → (∀ o, o = 0 ∨ o ∈ R ∨ o ∈ R' ∨ o ∈ on.objs → o < H0.length) →
        wp ⟨pureOf am, callA am N n, N, H0.length⟩ l3C (slots3k l 0 i (H0.length + 1) k) H1 fun e t' H' => e = .norm ∧ t' = slots3 l 0 i ∧ Ord1 H' 0 k (i + 1) (i + 1) ((i + 1) * 90) := by
      intro a c sa sc sent sent' out out' S T O U R R' D h1 h2 hlt
      have hs : sent.length < 80 := by omega
      have hC : C.length ≤ 90000 := by omega
      have fin : ∀ e t' H', (e = Ex.norm ∧ t' = slots3 l 0 i ∧ Ord1 H' 0 k (sent.length + 1) sent'.length (C.length + 90)) → (e = .norm ∧ t' = slots3 l 0 i ∧ Ord1 H' 0 k (i + 1) (i + 1) ((i + 1) * 90)) := fun e t' H' ⟨q1, q2, q3⟩ =>
        ⟨q1, q2, q3.weak (by omega) (by omega) (by omega)⟩
      cases g1 : (m.kind == 1) with
      | true => exact wp_mono (l3C_one hN hn D hk m.kind m.who m.nn m.ok gm gx hlt hs hC l i g1) fin
      | false =>
        cases g2 : (m.kind == 2) with
        | true => exact wp_mono (l3C_two hN hn D hk m.kind m.who m.nn m.ok gm gx hlt hs hC l i g1 g2) fin
        | false =>
          cases g3 : (m.kind == 3) with
          | true => exact wp_mono (l3C_three hN hn D hk m.kind m.who m.nn m.ok gm gx hlt hs hC l i g1 g2 g3) fin
          | false => exact wp_mono (l3C_four hN hn D hk m.kind m.who m.nn m.ok gm gx hlt hs hC l i g1 g2 g3) fin
    rcases two_cases hk with rfl | rfl
    · exact key _ _ _ _ _ _ _ _ _ _ _ _ _ _ D1 h1 h2 hlt
    · refine wp_mono (key _ _ _ _ _ _ _ _ _ _ _ _ _ _ (D1.swap (by omega)) h2 h1 (fun o ho => hlt o (by rcases ho with h | h | h | h <;> simp [h]))) ?_
      rintro e t H4 ⟨rfl, rfl, on2, a, c, sa, sc, sent, sent', out, out', S, T, O, U, R, R', C2, D4, q1, q2, q3⟩
      exact ⟨rfl, rfl, (D4.swap (k := 1) (by omega)).to1 q2 q1 q3⟩
  · rintro t H2 ⟨rfl, D2⟩
    obtain ⟨on, a, c, sa, sc, sent, sent', out, out', S, T, O, U, R, R', C, D2, h1, h2, h3⟩ := D2
    refine wp_mono (l3R_wp (ord_right hN (by omega) D2)) ?_
    rintro e t H3 ⟨rfl, rfl, rfl⟩
    exact ⟨rfl, rfl, D2.to1 h1 h2 h3⟩
end Go.Am.T


set_option linter.unusedVariables false
set_option linter.unusedSimpArgs false
set_option linter.unusedSectionVars false
set_option maxRecDepth 10000
namespace Go.Am.T
attribute [local congr] selV_congr impB_congr
def l3J : ACode := (.seq (.seq (.region [⟨some 207, (.move (.tmp 15)), none⟩, ⟨some 208, (.bin .lss (.tmp 207) (.cst (.int .i64 2))), none⟩]) (.clr [207])) (.cond (.tmp 208) (.seq (.clr [208]) .skip) (.seq (.clr [208, 15]) (.exit 3))))
def l3Q : ACode := (.seq (.region [⟨some 209, (.move (.tmp 15)), none⟩, ⟨some 210, (.bin .add (.tmp 209) (.cst (.int .i64 1))), none⟩, ⟨some 15, (.move (.tmp 210)), none⟩]) (.clr [210, 209]))
def l3M : ACode := (.region [⟨some 16, (.move (.cst (.int .i64 0))), none⟩])
def l3V : ACode := (.seq (.seq (.region [⟨some 211, (.move (.tmp 16)), none⟩, ⟨some 212, (.bin .lss (.tmp 211) (.cst (.int .i64 2))), none⟩]) (.clr [211])) (.cond (.tmp 212) (.seq (.clr [212]) .skip) (.seq (.clr [212, 16]) (.exit 5))))
def l3W : ACode := (.seq (.region [⟨some 213, (.move (.tmp 16)), none⟩, ⟨some 214, (.bin .add (.tmp 213) (.cst (.int .i64 1))), none⟩, ⟨some 16, (.move (.tmp 214)), none⟩]) (.clr [214, 213]))
def l3G : ACode := (.seq (.seq (.region [⟨some 215, (.move (.tmp 9)), none⟩, ⟨some 216, (.move (.tmp 16)), none⟩, ⟨some 217, (.nilck (.tmp 215)), none⟩, ⟨some 218, (.faddr 0 (.tmp 217)), none⟩, ⟨some 219, (.iaddrA 2 1 (.tmp 218) (.tmp 216)), none⟩, ⟨some 220, (.load none (.tmp 219)), none⟩, ⟨some 221, (.call 12 [(.tmp 220)]), none⟩, ⟨some 17, (.move (.tmp 221)), none⟩]) (.clr [221, 220, 219, 218, 217, 216, 215])) (.seq (.region [⟨some 18, (.move (.cst (.int .i64 0))), none⟩]) (.block 7 (.loop [] [] (.seq (.seq (.seq (.region [⟨some 222, (.move (.tmp 18)), none⟩, ⟨some 223, (.move (.tmp 17)), none⟩, ⟨some 224, (.lenS (.tmp 223)), none⟩, ⟨some 225, (.bin .lss (.tmp 222) (.tmp 224)), none⟩]) (.clr [224, 223, 222])) (.cond (.tmp 225) (.seq (.clr [225]) .skip) (.seq (.clr [225, 18, 17]) (.exit 7)))) (.seq (.block 8 (.seq (.region [⟨some 228, (.move (.tmp 9)), none⟩, ⟨some 229, (.move (.tmp 17)), none⟩, ⟨some 230, (.move (.tmp 18)), none⟩, ⟨some 231, (.iaddrS 6 (.tmp 229) (.tmp 230)), none⟩, ⟨some 232, (.load (some 6) (.tmp 231)), none⟩, ⟨some 233, (.call 13 [(.tmp 228), (.tmp 232)]), none⟩]) (.clr [233, 232, 231, 230, 229, 228]))) (.seq (.region [⟨some 226, (.move (.tmp 18)), none⟩, ⟨some 227, (.bin .add (.tmp 226) (.cst (.int .i64 1))), none⟩, ⟨some 18, (.move (.tmp 227)), none⟩]) (.clr [227, 226]))))))))
def l3H1 : ACode := (.seq (.region [⟨some 234, (.move (.tmp 9)), none⟩, ⟨some 235, (.nilck (.tmp 234)), none⟩, ⟨some 236, (.faddr 0 (.tmp 235)), none⟩, ⟨some 237, (.iaddrA 2 1 (.tmp 236) (.cst (.int .i64 0))), none⟩, ⟨some 238, (.load none (.tmp 237)), none⟩, ⟨some 239, (.call 12 [(.tmp 238)]), none⟩, ⟨some 19, (.move (.tmp 239)), none⟩]) (.clr [239, 238, 237, 236, 235, 234]))
def l3H2 : ACode := (.seq (.region [⟨some 20, (.move (.cst (.int .i64 0))), none⟩]) (.block 9 (.loop [] [] (.seq (.seq (.seq (.region [⟨some 240, (.move (.tmp 20)), none⟩, ⟨some 241, (.move (.tmp 19)), none⟩, ⟨some 242, (.lenS (.tmp 241)), none⟩, ⟨some 243, (.bin .lss (.tmp 240) (.tmp 242)), none⟩]) (.clr [242, 241, 240])) (.cond (.tmp 243) (.seq (.clr [243]) .skip) (.seq (.clr [243, 20, 19]) (.exit 9)))) (.seq (.block 10 (.seq (.region [⟨some 246, (.move (.tmp 9)), none⟩, ⟨some 247, (.move (.tmp 19)), none⟩, ⟨some 248, (.move (.tmp 20)), none⟩, ⟨some 249, (.iaddrS 6 (.tmp 247) (.tmp 248)), none⟩, ⟨some 250, (.load (some 6) (.tmp 249)), none⟩, ⟨some 251, (.call 13 [(.tmp 246), (.tmp 250)]), none⟩]) (.clr [251, 250, 249, 248, 247, 246]))) (.seq (.region [⟨some 244, (.move (.tmp 20)), none⟩, ⟨some 245, (.bin .add (.tmp 244) (.cst (.int .i64 1))), none⟩, ⟨some 20, (.move (.tmp 245)), none⟩]) (.clr [245, 244])))))))
theorem again_cases {s : Ses} {L : List V} {C : List (List V)} (h : Tells s L s.first C) :
    (L ≠ [] ∧ C.length = L.length ∧ ∀ {j : Nat}, j < L.length → ∃ b c l, C[j]? = some (dgS s (s.first + (j : Int)) b) ∧ L[j]? = some c ∧ By l c ∧ By l b) ∨
    (L = [] ∧ s.owes = false ∧ C = []) ∨ (L = [] ∧ s.owes = true ∧ ∃ b, By [] b ∧ C = [dgS s 0 b]) := by
  by_cases hL : L = []
  · subst hL
    obtain ⟨C', h1, h2⟩ := h.told
    have hl := h1.len
    simp only [List.length_nil, tellI] at hl
    have hC' : C' = [] := List.length_eq_zero_iff.1 hl
    rcases h2 with ⟨rfl, q⟩ | ⟨-, q, b, hb, hC⟩
    · exact .inr (.inl ⟨rfl, q hC', hC'⟩)
    · exact .inr (.inr ⟨rfl, q, b, hb, hC⟩)
  · exact .inl ⟨hL, (again_all h hL).1, (again_all h hL).2⟩
def Dlv (w k : Nat) (on : V) (a c : Nat) (sa sc : Ses) (sent sent' out : List (List Int)) (S T O : V) (R : List Nat) (Cn : List (List V)) (L : List V) (v1 : V) (C : List (List V)) (j : Nat) (Hc : Heap) : Prop :=
  DRow 0 Hc v1 C ∧ ∃ sc1 out1 U1 R1, Ord Hc w k on a c (toldS sa L.length) sc1 sent sent' out out1 S T O U1 R R1 Cn ∧ (∀ o ∈ v1.objs, o ≠ w ∧ o ∉ R1) ∧
    sc1.first = (if j = 0 then sc.first else max sc.first ((out.length : Int) + 1)) ∧ sc1.owes = (sc.owes || (decide (0 < j) && decide (0 < L.length))) ∧ sa.first - 1 + (if L.length = 0 then 0 else (j : Int)) ≤ out1.length
theorem dlv_step {N n : Nat} (hn : 4 ≤ n) {w k : Nat} (hk : k < 2) {on : V} {a c : Nat} {sa sc : Ses} {sent sent' out : List (List Int)} {S T O : V} {R : List Nat} {Cn : List (List V)} {L : List V} {v1 : V} {C : List (List V)} {j : Nat} {Hc : Heap}
    (hT : Tells sa L sa.first C) (hB : Bys (sent.drop (sa.first - 1).toNat) L) (f0 : 1 ≤ sa.first) (hsum : sa.first - 1 + (L.length : Int) = sent.length) (hgot : sa.got = out.length) (hj : j < C.length)
    (D : Dlv w k on a c sa sc sent sent' out S T O R Cn L v1 C j Hc) :
    ∃ cc v2 H2, C[j]? = some cc ∧ callA am N n 13 [.ptr w 1 0, .agg cc] Hc = some (v2, H2) ∧ Dlv w k on a c sa sc sent sent' out S T O R Cn L v1 C (j + 1) H2 := by
  obtain ⟨hrow, sc1, out1, U1, R1, D1, hap, q1, q2, q3⟩ := D
  obtain ⟨cc, hcc⟩ : ∃ cc, C[j]? = some cc := ⟨_, List.getElem?_eq_getElem hj⟩
  -- which one it is
  have hd : ∃ seq b l, cc = dgS sa seq b ∧ By l b ∧ l.length ≤ 256 ∧ (seq = 0 ∧ l = [] ∨ 1 ≤ seq ∧ seq ≤ sent.length ∧ sent[(seq - 1).toNat]? = some l) ∧ (L.length = 0 → seq = 0) ∧ (L.length ≠ 0 → seq = sa.first + (j : Int)) := by
    rcases again_cases hT with ⟨hL, hl, hat⟩ | ⟨rfl, -, rfl⟩ | ⟨rfl, -, b, hb, rfl⟩
    · have hp : 0 < L.length := List.length_pos_iff.2 hL
      obtain ⟨b, c', l, h1, h2, h3, h4⟩ := hat (j := j) (by omega)
      rw [hcc] at h1
      obtain rfl := Option.some.inj h1
      obtain ⟨w1, w2⟩ := wait_at hB f0 h2 h3
      exact ⟨_, b, l, rfl, h4, w2, .inr ⟨by omega, by omega, w1⟩, fun h => by omega, fun _ => rfl⟩
    · simp at hj
    · have : j = 0 := by simpa using hj
      subst this
      simp at hcc
      subst hcc
      exact ⟨0, b, [], rfl, hb, by simp, .inl ⟨rfl, rfl⟩, fun _ => rfl, fun h => absurd rfl h⟩
  obtain ⟨seq, b, l, rfl, hb, hl, hq, z1, z2⟩ := hd
  obtain ⟨v2, H2, hc, hle, oth, out2, U2, R2, D2, hR2, hlo, ho2⟩ := @duo_come' N n hn _ _ _ hk _ _ _ _ _ _ _ _ _ _ _ _ _ _ _ D1.duo seq sa.got l b hb hl (by omega) (by omega) hq
  refine ⟨_, v2, H2, hcc, hc, ?_, cameS sc1 seq sa.got, out2, U2, R2, ⟨D2, ?_, ?_, ?_⟩, ?_, ?_, ?_, ?_⟩
  · exact hrow.keepO fun o ho => oth o (hrow.lt o ho) (hap o ho).1 (hap o ho).2
  · exact D1.row.keepO fun o ho => oth o (D1.row.lt o ho) (D1.apart o ho).1 (D1.apart o ho).2.2
  · exact D1.net.mono ⟨[], by simp⟩ ⟨[], by simp⟩ (Nat.le_refl _) hlo
  · intro o ho
    refine ⟨(D1.apart o ho).1, (D1.apart o ho).2.1, fun h => ?_⟩
    rcases hR2 o h with h | h
    · exact (D1.apart o ho).2.2 h
    · have := D1.row.lt o ho; omega
  · intro o ho
    refine ⟨(hap o ho).1, fun h => ?_⟩
    rcases hR2 o h with h | h
    · exact (hap o ho).2 h
    · have := hrow.lt o ho; omega
  · show max sc1.first (sa.got + 1) = _
    rw [q1, hgot]
    split <;> simp <;> omega
  · show (sc1.owes || !(seq == 0)) = _
    rw [q2]
    by_cases hL0 : L.length = 0
    · have : (seq == 0) = true := by simp [z1 hL0]
      rw [this, hL0]
      simp
    · have h1 : (seq == 0) = false := by rw [beq_eq_false_iff_ne]; have := z2 hL0; omega
      have h2 : decide (0 < L.length) = true := decide_eq_true (by omega)
      rw [h1, h2]
      simp
  · by_cases hL0 : L.length = 0
    · rw [if_pos hL0] at q3 ⊢
      omega
    · rw [if_neg hL0] at q3 ⊢
      have := z2 hL0
      rw [ho2]
      split
      · simp; omega
      · omega
structure Aft (H' : Heap) (w k : Nat) (on : V) (a c : Nat) (sa sc : Ses) (sent sent' out : List (List Int)) (S T O : V) (R : List Nat) (Cn : List (List V)) : Prop where
  st : ∃ sa1 sc1 out1 U1 R1, Ord H' w k on a c sa1 sc1 sent sent' out out1 S T O U1 R R1 Cn ∧ out1.length = sent.length ∧ sa1.first = sa.first ∧
    ((sa.first - 1 = sent.length ∧ sa.owes = false ∧ sc1.first = sc.first ∧ sc1.owes = sc.owes) ∨
     (sc1.first = max sc.first ((out.length : Int) + 1) ∧ sc1.owes = (sc.owes || decide (sa.first - 1 < (sent.length : Int)))))
theorem again_start {N n : Nat} (hN : 1500 ≤ N) (hn : 5 ≤ n) {H : Heap} {w k : Nat} {on : V} {a c : Nat} {sa sc : Ses} {sent sent' out out' : List (List Int)} {S T O U : V} {R R' : List Nat} {Cn : List (List V)} (D : Ord H w k on a c sa sc sent sent' out out' S T O U R R' Cn) :
    ∃ v1 H1 C L, callA am N n 12 [.ptr a 1 0] H = some (v1, H1) ∧ lenA v1 = some C.length ∧ (∀ s, v1 ≠ .str s) ∧ C.length ≤ 90 ∧ Cells6 C ∧ Dlv w k on a c sa sc sent sent' out S T O R Cn L v1 C 0 H1 ∧
      (Tells sa L sa.first C ∧ Bys (sent.drop (sa.first - 1).toNat) L ∧ 1 ≤ sa.first ∧ sa.first - 1 + (L.length : Int) = sent.length ∧ sa.got = out.length) ∧
      ∀ Hc, Dlv w k on a c sa sc sent sent' out S T O R Cn L v1 C C.length Hc → Aft Hc w k on a c sa sc sent sent' out S T O R Cn := by
  obtain ⟨L, W, Rw, LS, RS, LO, RO, hS, hB, hSr, hEl, hO, hBo, hE, hRs, hnd⟩ := D.duo.near.all
  have f0 := hE.f0
  have hsum := hE.sum
  have hmost := hE.most
  have hack := hE.ack
  have hgot := hE.got
  have hLl : L.length ≤ 1000 := by omega
  obtain ⟨v1, H1, c12, hS1, hbe, C, hC, hT⟩ := @again_spec N n hN (by omega) _ _ _ _ _ _ hS f0 (by omega) hLl
  have D1 := duo_told D.duo hS hS1 hbe ⟨LS, RS, LO, RO, hB, hSr, hEl, hO, hBo, hE, hRs, hnd⟩
  obtain ⟨hlen, hns, -⟩ := hC.len
  have sub : ∀ o, o = a ∨ o ∈ Rw → o ∈ R := fun o ho => by rw [hRs]; simp only [List.mem_cons, List.mem_append]; rcases ho with h | h <;> simp [h]
  have hcl := hT.len
  refine ⟨v1, H1, C, L, c12, hlen, hns, by omega, hT.six, ⟨hC.weak, sc, out', U, R', ⟨D1, D.row.keepO fun o ho => ?_, D.net, D.apart⟩, fun o ho => ?_, by simp, by simp, ?_⟩, ⟨hT, hB, f0, hsum, hgot⟩, ?_⟩
  · exact hbe.oth o (D.row.lt o ho) (fun e => (D.apart o ho).2.1 (sub o (.inl e))) (fun h => (D.apart o ho).2.1 (sub o (.inr h)))
  · have hlt : H.length ≤ o := by
      rcases hC with ⟨-, rfl⟩ | ⟨-, o', ver, h1, rfl, -⟩
      · cases ho
      · have : o = o' := by simpa [V.objs] using ho
        omega
    exact ⟨fun e => by have := lt_of_get D.duo.ob; omega, fun h => by have := D.duo.far.lt o h; omega⟩
  · split <;> omega
  · rintro Hc ⟨-, sc1, out1, U1, R1, D2, -, q1, q2, q3⟩
    have hfull : out1.length = sent.length := by
      obtain ⟨r, hr⟩ := D2.duo.pre'
      have : out1.length ≤ sent.length := by rw [hr]; simp
      rcases again_cases hT with ⟨hL, hl, -⟩ | ⟨rfl, -, rfl⟩ | ⟨rfl, -, b, hb, rfl⟩
      · have hp : 0 < L.length := List.length_pos_iff.2 hL
        rw [if_neg (by omega), hl] at q3
        omega
      · simp only [List.length_nil, ↓reduceIte] at q3 hsum; omega
      · simp only [List.length_nil, ↓reduceIte] at q3 hsum; omega
    refine ⟨_, sc1, out1, U1, R1, D2, hfull, rfl, ?_⟩
    rcases again_cases hT with ⟨hL, hl, -⟩ | ⟨rfl, ho, rfl⟩ | ⟨rfl, ho, b, hb, rfl⟩
    · have hp : 0 < L.length := List.length_pos_iff.2 hL
      refine .inr ⟨by rw [q1, if_neg (by omega)], ?_⟩
      rw [q2, decide_eq_true (show 0 < C.length by omega), decide_eq_true hp, decide_eq_true (show sa.first - 1 < (sent.length : Int) by omega)]
      rfl
    · refine .inl ⟨by simpa using hsum, ho, by rw [q1]; simp, by rw [q2]; simp⟩
    · refine .inr ⟨by rw [q1]; simp, ?_⟩
      have : decide (sa.first - 1 < (sent.length : Int)) = false := decide_eq_false (by simp at hsum; omega)
      rw [q2, this]
      simp
set_option maxHeartbeats 2000000 in
theorem l3G_wp {N n : Nat} (hN : 1500 ≤ N) (hn : 5 ≤ n) {H : Heap} {w k : Nat} (hk : k < 2) {on : V} {a c : Nat} {sa sc : Ses} {sent sent' out out' : List (List Int)} {S T O U : V} {R R' : List Nat} {Cn : List (List V)} (D : Ord H w k on a c sa sc sent sent' out out' S T O U R R' Cn) (x : V) (fb : Nat) :
    wp ⟨pureOf am, callA am N n, N, fb⟩ l3G (fr 305 [(9, .ptr w 1 0), (15, x), (16, .int .i64 k)]) H fun e t' H' => e = .norm ∧ t' = fr 305 [(9, .ptr w 1 0), (15, x), (16, .int .i64 k)] ∧ Aft H' w k on a c sa sc sent sent' out S T O R Cn := by
  have hk2 : (k : Int) < 2 := by omega
  have hle : k + 1 ≤ 7 := by omega
  have q7 := @tw_len k on a c S T O U
  have qn := @tw_near k on a c S T O U hk
  have hw := D.duo.ob
  obtain ⟨v1, H1, C, L, c12, hlen, hns, hC90, hC6, D0, ⟨hT, hB, f0, hsum, hgot⟩, fin⟩ := again_start (N := N) (n := n) hN hn D
  refine sx_wp ?_
  simp +contextual -implicitDefEqProofs (maxSteps := 10000000) only [sx_seq, sxL_succ, lpQ_norm, lpQ_exit, lpQ_ret, loopQ_norm, loopQ_exit, loopQ_ret, sqQ_norm, sqQ_ret, sqQ_exit, sx_block, blkQ_norm, blkQ_exit, blkQ_ret, sx_cond, cdP_true, cdP_false, cdP_bool, sx_region, sx_draw, plainD, List.all_cons, List.all_nil, List.isEmpty_nil, List.isEmpty_cons, sxo_nil, sxo_cons, sxo_guard, gdS_bool, gdS_eff, gdS_tup, gdS_sel, gdS_seleff, sxK_def, wcall_some, effP_ret, effP_set, effP_none, effP_ite, wop_call, wop_cv, cvP_func, sx_ret, sx_exit, sx_skip, sx_clr, sx_fresh, stays, ↓selV_wt, ↓selV_wf, ↓impB_wt, ↓impB_wf, ↓selV_nor, ↓impB_nor, ↓selV_nt, ↓selV_nf, ↓impB_nt, ↓impB_nf, wantB_true, wantB_false, ↓selV_true, ↓selV_false, ↓selV_and, ↓impB_true, ↓impB_false, ↓impB_and, impB_triv, valOf_some, retH_some, ↓prim_pick, pickO_true, pickO_false, pickO_and, pickO_or, pickO_andr, pickO_orr, pickO_orrn, pickO_orn, pickO_bb, pickAnd_bool, pickOr_bool, ↓selV_nn, ↓impB_nn, Bool.and_assoc, Bool.or_assoc, doOp, ev_fr, ev_cst, put_none, put_fr, get, ins, del, dels, Nat.reduceLT, Nat.reduceEqDiff, ↓reduceIte, reduceCtorEq, ne_eq, not_false_eq_true, implies_true, framed_pureF, framed_fb, framed_N, framed_pure, wop_prim, prim, YLD, mkA, V.cells, List.getElem?_cons_zero, List.getElem?_cons_succ, List.set_cons_zero, List.set_cons_succ, Nat.zero_add, Nat.add_zero, Nat.reduceAdd, Nat.reduceSub, Nat.reduceMul, Nat.reduceLeDiff, Nat.not_lt_zero, List.map_cons, List.map_nil, List.cons_append, List.nil_append, loadA, cellsAt, nAg, packA, opt_bind_some, opt_map_some, opt_bind_none, opt_map_none, List.drop, List.take, List.head?, List.length_cons, List.length_nil, binA, unA, eqCells, eqCell, negB, fillA, sr_nil, sr_cons, sr_succ, sr_all, sr_len, storeA, Ob.with, indexedI, V.oneCell, intOf?, retQ_ret, retQ_norm, resA, resA1, fr_getD, packR, sealDepth, shut_bool, shut_int, Option.some.injEq, V.bool.injEq, V.int.injEq, Bool.not_true, Bool.not_false, true_and, and_true, and_self, Bool.and_true, Bool.and_false, Bool.true_and, Bool.false_and, Bool.or_true, Bool.or_false, Bool.true_or, Bool.false_or, Bool.false_eq_true, Int.reduceLT, Int.reduceLE, Int.reduceToNat, Int.reduceNeg, shut_plain, freeL_cons, freeL_nil, free_int, free_bool, free_agg, free_str, free_nils, free_tup, free_sl, true_implies, false_implies, Nat.sub_zero, Int.natCast_nonneg, Int.toNat_natCast, Nat.le_refl, not_true_eq_false, Int.reduceAdd, Int.reduceSub, Int.reduceMul, wrap64, false_and, and_false, cond_true, cond_false, Bool.cond_true_left, Bool.cond_false_right, Int.reduceBNe, Int.reduceBEq, decide_true, decide_false, Int.cast_ofNat_Int, Nat.mul_one, eq_self, Bool.true_eq_false, Bool.not_eq_true, Bool.not_eq_false, deads, List.replicate, argsF, l3G, hw, q7, qn, hk2, hle, isNil, c12]
  refine sx_loop (fun j t Hc => t = fr 305 [(9, .ptr w 1 0), (15, x), (16, .int .i64 k), (17, v1), (18, .int .i64 j)] ∧ j ≤ C.length ∧ Dlv w k on a c sa sc sent sent' out S T O R Cn L v1 C j Hc) C.length (by show C.length < N; omega) ⟨rfl, Nat.zero_le _, D0⟩ ?_
  rintro j t Hc hj ⟨rfl, hjC, hD⟩
  by_cases hlt : j < C.length
  · have g1 : decide ((j : Int) < (C.length : Int)) = true := decide_eq_true (by omega)
    have w4 : IntKind.i64.wrap ((j : Int) + 1) = ((j + 1 : Nat) : Int) := (wrap64 (by omega) (by omega)).trans (by omega)
    have hj1 : j + 1 ≤ C.length := by omega
    obtain ⟨cc, v2, H2, hcc, c13, D2⟩ := dlv_step (N := N) (n := n) (by omega) hk hT hB f0 hsum hgot hlt hD
    obtain ⟨o, ver, off, cs, hia, hoc, hle6, hld, -⟩ := hD.1.at_ hC6 hcc
    obtain ⟨cc6, -⟩ := hC6 cc (List.mem_of_getElem? hcc)
    simp +contextual -implicitDefEqProofs (maxSteps := 10000000) only [sx_seq, sxL_succ, lpQ_norm, lpQ_exit, lpQ_ret, loopQ_norm, loopQ_exit, loopQ_ret, sqQ_norm, sqQ_ret, sqQ_exit, sx_block, blkQ_norm, blkQ_exit, blkQ_ret, sx_cond, cdP_true, cdP_false, cdP_bool, sx_region, sx_draw, plainD, List.all_cons, List.all_nil, List.isEmpty_nil, List.isEmpty_cons, sxo_nil, sxo_cons, sxo_guard, gdS_bool, gdS_eff, gdS_tup, gdS_sel, gdS_seleff, sxK_def, wcall_some, effP_ret, effP_set, effP_none, effP_ite, wop_call, wop_cv, cvP_func, sx_ret, sx_exit, sx_skip, sx_clr, sx_fresh, stays, ↓selV_wt, ↓selV_wf, ↓impB_wt, ↓impB_wf, ↓selV_nor, ↓impB_nor, ↓selV_nt, ↓selV_nf, ↓impB_nt, ↓impB_nf, wantB_true, wantB_false, ↓selV_true, ↓selV_false, ↓selV_and, ↓impB_true, ↓impB_false, ↓impB_and, impB_triv, valOf_some, retH_some, ↓prim_pick, pickO_true, pickO_false, pickO_and, pickO_or, pickO_andr, pickO_orr, pickO_orrn, pickO_orn, pickO_bb, pickAnd_bool, pickOr_bool, ↓selV_nn, ↓impB_nn, Bool.and_assoc, Bool.or_assoc, doOp, ev_fr, ev_cst, put_none, put_fr, get, ins, del, dels, Nat.reduceLT, Nat.reduceEqDiff, ↓reduceIte, reduceCtorEq, ne_eq, not_false_eq_true, implies_true, framed_pureF, framed_fb, framed_N, framed_pure, wop_prim, prim, YLD, mkA, V.cells, List.getElem?_cons_zero, List.getElem?_cons_succ, List.set_cons_zero, List.set_cons_succ, Nat.zero_add, Nat.add_zero, Nat.reduceAdd, Nat.reduceSub, Nat.reduceMul, Nat.reduceLeDiff, Nat.not_lt_zero, List.map_cons, List.map_nil, List.cons_append, List.nil_append, loadA, cellsAt, nAg, packA, opt_bind_some, opt_map_some, opt_bind_none, opt_map_none, List.drop, List.take, List.head?, List.length_cons, List.length_nil, binA, unA, eqCells, eqCell, negB, fillA, sr_nil, sr_cons, sr_succ, sr_all, sr_len, storeA, Ob.with, indexedI, V.oneCell, intOf?, retQ_ret, retQ_norm, resA, resA1, fr_getD, packR, sealDepth, shut_bool, shut_int, Option.some.injEq, V.bool.injEq, V.int.injEq, Bool.not_true, Bool.not_false, true_and, and_true, and_self, Bool.and_true, Bool.and_false, Bool.true_and, Bool.false_and, Bool.or_true, Bool.or_false, Bool.true_or, Bool.false_or, Bool.false_eq_true, Int.reduceLT, Int.reduceLE, Int.reduceToNat, Int.reduceNeg, shut_plain, freeL_cons, freeL_nil, free_int, free_bool, free_agg, free_str, free_nils, free_tup, free_sl, true_implies, false_implies, Nat.sub_zero, Int.natCast_nonneg, Int.toNat_natCast, Nat.le_refl, not_true_eq_false, Int.reduceAdd, Int.reduceSub, Int.reduceMul, wrap64, false_and, and_false, cond_true, cond_false, Bool.cond_true_left, Bool.cond_false_right, Int.reduceBNe, Int.reduceBEq, decide_true, decide_false, Int.cast_ofNat_Int, Nat.mul_one, eq_self, Bool.true_eq_false, Bool.not_eq_true, Bool.not_eq_false, deads, List.replicate, argsF, hlen, g1, hia, hoc, hle6, hld, cc6, c13, w4, hj1, hlt, -List.drop, -List.take]
    exact D2
  · have e : j = C.length := by omega
    subst e
    have g1 : decide ((C.length : Int) < (C.length : Int)) = false := decide_eq_false (by omega)
    simp +contextual -implicitDefEqProofs (maxSteps := 10000000) only [sx_seq, sxL_succ, lpQ_norm, lpQ_exit, lpQ_ret, loopQ_norm, loopQ_exit, loopQ_ret, sqQ_norm, sqQ_ret, sqQ_exit, sx_block, blkQ_norm, blkQ_exit, blkQ_ret, sx_cond, cdP_true, cdP_false, cdP_bool, sx_region, sx_draw, plainD, List.all_cons, List.all_nil, List.isEmpty_nil, List.isEmpty_cons, sxo_nil, sxo_cons, sxo_guard, gdS_bool, gdS_eff, gdS_tup, gdS_sel, gdS_seleff, sxK_def, wcall_some, effP_ret, effP_set, effP_none, effP_ite, wop_call, wop_cv, cvP_func, sx_ret, sx_exit, sx_skip, sx_clr, sx_fresh, stays, ↓selV_wt, ↓selV_wf, ↓impB_wt, ↓impB_wf, ↓selV_nor, ↓impB_nor, ↓selV_nt, ↓selV_nf, ↓impB_nt, ↓impB_nf, wantB_true, wantB_false, ↓selV_true, ↓selV_false, ↓selV_and, ↓impB_true, ↓impB_false, ↓impB_and, impB_triv, valOf_some, retH_some, ↓prim_pick, pickO_true, pickO_false, pickO_and, pickO_or, pickO_andr, pickO_orr, pickO_orrn, pickO_orn, pickO_bb, pickAnd_bool, pickOr_bool, ↓selV_nn, ↓impB_nn, Bool.and_assoc, Bool.or_assoc, doOp, ev_fr, ev_cst, put_none, put_fr, get, ins, del, dels, Nat.reduceLT, Nat.reduceEqDiff, ↓reduceIte, reduceCtorEq, ne_eq, not_false_eq_true, implies_true, framed_pureF, framed_fb, framed_N, framed_pure, wop_prim, prim, YLD, mkA, V.cells, List.getElem?_cons_zero, List.getElem?_cons_succ, List.set_cons_zero, List.set_cons_succ, Nat.zero_add, Nat.add_zero, Nat.reduceAdd, Nat.reduceSub, Nat.reduceMul, Nat.reduceLeDiff, Nat.not_lt_zero, List.map_cons, List.map_nil, List.cons_append, List.nil_append, loadA, cellsAt, nAg, packA, opt_bind_some, opt_map_some, opt_bind_none, opt_map_none, List.drop, List.take, List.head?, List.length_cons, List.length_nil, binA, unA, eqCells, eqCell, negB, fillA, sr_nil, sr_cons, sr_succ, sr_all, sr_len, storeA, Ob.with, indexedI, V.oneCell, intOf?, retQ_ret, retQ_norm, resA, resA1, fr_getD, packR, sealDepth, shut_bool, shut_int, Option.some.injEq, V.bool.injEq, V.int.injEq, Bool.not_true, Bool.not_false, true_and, and_true, and_self, Bool.and_true, Bool.and_false, Bool.true_and, Bool.false_and, Bool.or_true, Bool.or_false, Bool.true_or, Bool.false_or, Bool.false_eq_true, Int.reduceLT, Int.reduceLE, Int.reduceToNat, Int.reduceNeg, shut_plain, freeL_cons, freeL_nil, free_int, free_bool, free_agg, free_str, free_nils, free_tup, free_sl, true_implies, false_implies, Nat.sub_zero, Int.natCast_nonneg, Int.toNat_natCast, Nat.le_refl, not_true_eq_false, Int.reduceAdd, Int.reduceSub, Int.reduceMul, wrap64, false_and, and_false, cond_true, cond_false, Bool.cond_true_left, Bool.cond_false_right, Int.reduceBNe, Int.reduceBEq, decide_true, decide_false, Int.cast_ofNat_Int, Nat.mul_one, eq_self, Bool.true_eq_false, Bool.not_eq_true, Bool.not_eq_false, deads, List.replicate, argsF, hlen, g1]
    exact fin _ hD
set_option maxHeartbeats 2000000 in
theorem l3H_wp {N n : Nat} (hN : 1500 ≤ N) (hn : 5 ≤ n) {H : Heap} {w : Nat} {on : V} {a c : Nat} {sa sc : Ses} {sent sent' out out' : List (List Int)} {S T O U : V} {R R' : List Nat} {Cn : List (List V)} (D : Ord H w 0 on a c sa sc sent sent' out out' S T O U R R' Cn) (fb : Nat) (rest : ACode) (Q : Post)
    (hQ : ∀ H', Aft H' w 0 on a c sa sc sent sent' out S T O R Cn → wp ⟨pureOf am, callA am N n, N, fb⟩ rest (fr 305 [(9, .ptr w 1 0)]) H' Q) :
    wp ⟨pureOf am, callA am N n, N, fb⟩ (.seq l3H1 (.seq l3H2 rest)) (fr 305 [(9, .ptr w 1 0)]) H Q := by
  have q7 := @tw_len 0 on a c S T O U
  have qn := @tw_near 0 on a c S T O U (by omega)
  rw [List.drop_zero] at qn
  have hw := D.duo.ob
  obtain ⟨v1, H1, C, L, c12, hlen, hns, hC90, hC6, D0, ⟨hT, hB, f0, hsum, hgot⟩, fin⟩ := again_start (N := N) (n := n) hN hn D
  refine wp_cutM (fun t' H' => t' = fr 305 [(9, .ptr w 1 0), (19, v1)] ∧ H' = H1) (sx_wp ?_) ?_
  · have h01 : 0 + 1 ≤ 7 := by omega
    simp +contextual -implicitDefEqProofs (maxSteps := 10000000) only [sx_seq, sxL_succ, lpQ_norm, lpQ_exit, lpQ_ret, loopQ_norm, loopQ_exit, loopQ_ret, sqQ_norm, sqQ_ret, sqQ_exit, sx_block, blkQ_norm, blkQ_exit, blkQ_ret, sx_cond, cdP_true, cdP_false, cdP_bool, sx_region, sx_draw, plainD, List.all_cons, List.all_nil, List.isEmpty_nil, List.isEmpty_cons, sxo_nil, sxo_cons, sxo_guard, gdS_bool, gdS_eff, gdS_tup, gdS_sel, gdS_seleff, sxK_def, wcall_some, effP_ret, effP_set, effP_none, effP_ite, wop_call, wop_cv, cvP_func, sx_ret, sx_exit, sx_skip, sx_clr, sx_fresh, stays, ↓selV_wt, ↓selV_wf, ↓impB_wt, ↓impB_wf, ↓selV_nor, ↓impB_nor, ↓selV_nt, ↓selV_nf, ↓impB_nt, ↓impB_nf, wantB_true, wantB_false, ↓selV_true, ↓selV_false, ↓selV_and, ↓impB_true, ↓impB_false, ↓impB_and, impB_triv, valOf_some, retH_some, ↓prim_pick, pickO_true, pickO_false, pickO_and, pickO_or, pickO_andr, pickO_orr, pickO_orrn, pickO_orn, pickO_bb, pickAnd_bool, pickOr_bool, ↓selV_nn, ↓impB_nn, Bool.and_assoc, Bool.or_assoc, doOp, ev_fr, ev_cst, put_none, put_fr, get, ins, del, dels, Nat.reduceLT, Nat.reduceEqDiff, ↓reduceIte, reduceCtorEq, ne_eq, not_false_eq_true, implies_true, framed_pureF, framed_fb, framed_N, framed_pure, wop_prim, prim, YLD, mkA, V.cells, List.getElem?_cons_zero, List.getElem?_cons_succ, List.set_cons_zero, List.set_cons_succ, Nat.zero_add, Nat.add_zero, Nat.reduceAdd, Nat.reduceSub, Nat.reduceMul, Nat.reduceLeDiff, Nat.not_lt_zero, List.map_cons, List.map_nil, List.cons_append, List.nil_append, loadA, cellsAt, nAg, packA, opt_bind_some, opt_map_some, opt_bind_none, opt_map_none, List.drop, List.take, List.head?, List.length_cons, List.length_nil, binA, unA, eqCells, eqCell, negB, fillA, sr_nil, sr_cons, sr_succ, sr_all, sr_len, storeA, Ob.with, indexedI, V.oneCell, intOf?, retQ_ret, retQ_norm, resA, resA1, fr_getD, packR, sealDepth, shut_bool, shut_int, Option.some.injEq, V.bool.injEq, V.int.injEq, Bool.not_true, Bool.not_false, true_and, and_true, and_self, Bool.and_true, Bool.and_false, Bool.true_and, Bool.false_and, Bool.or_true, Bool.or_false, Bool.true_or, Bool.false_or, Bool.false_eq_true, Int.reduceLT, Int.reduceLE, Int.reduceToNat, Int.reduceNeg, shut_plain, freeL_cons, freeL_nil, free_int, free_bool, free_agg, free_str, free_nils, free_tup, free_sl, true_implies, false_implies, Nat.sub_zero, Int.natCast_nonneg, Int.toNat_natCast, Nat.le_refl, not_true_eq_false, Int.reduceAdd, Int.reduceSub, Int.reduceMul, wrap64, false_and, and_false, cond_true, cond_false, Bool.cond_true_left, Bool.cond_false_right, Int.reduceBNe, Int.reduceBEq, decide_true, decide_false, Int.cast_ofNat_Int, Nat.mul_one, eq_self, Bool.true_eq_false, Bool.not_eq_true, Bool.not_eq_false, deads, List.replicate, argsF, l3H1, hw, q7, qn, h01, isNil, c12]
  rintro t H' ⟨rfl, rfl⟩
  refine wp_cutM (fun t' H' => t' = fr 305 [(9, .ptr w 1 0)] ∧ Aft H' w 0 on a c sa sc sent sent' out S T O R Cn) (sx_wp ?_) ?_
  · simp +contextual -implicitDefEqProofs (maxSteps := 10000000) only [sx_seq, sxL_succ, lpQ_norm, lpQ_exit, lpQ_ret, loopQ_norm, loopQ_exit, loopQ_ret, sqQ_norm, sqQ_ret, sqQ_exit, sx_block, blkQ_norm, blkQ_exit, blkQ_ret, sx_cond, cdP_true, cdP_false, cdP_bool, sx_region, sx_draw, plainD, List.all_cons, List.all_nil, List.isEmpty_nil, List.isEmpty_cons, sxo_nil, sxo_cons, sxo_guard, gdS_bool, gdS_eff, gdS_tup, gdS_sel, gdS_seleff, sxK_def, wcall_some, effP_ret, effP_set, effP_none, effP_ite, wop_call, wop_cv, cvP_func, sx_ret, sx_exit, sx_skip, sx_clr, sx_fresh, stays, ↓selV_wt, ↓selV_wf, ↓impB_wt, ↓impB_wf, ↓selV_nor, ↓impB_nor, ↓selV_nt, ↓selV_nf, ↓impB_nt, ↓impB_nf, wantB_true, wantB_false, ↓selV_true, ↓selV_false, ↓selV_and, ↓impB_true, ↓impB_false, ↓impB_and, impB_triv, valOf_some, retH_some, ↓prim_pick, pickO_true, pickO_false, pickO_and, pickO_or, pickO_andr, pickO_orr, pickO_orrn, pickO_orn, pickO_bb, pickAnd_bool, pickOr_bool, ↓selV_nn, ↓impB_nn, Bool.and_assoc, Bool.or_assoc, doOp, ev_fr, ev_cst, put_none, put_fr, get, ins, del, dels, Nat.reduceLT, Nat.reduceEqDiff, ↓reduceIte, reduceCtorEq, ne_eq, not_false_eq_true, implies_true, framed_pureF, framed_fb, framed_N, framed_pure, wop_prim, prim, YLD, mkA, V.cells, List.getElem?_cons_zero, List.getElem?_cons_succ, List.set_cons_zero, List.set_cons_succ, Nat.zero_add, Nat.add_zero, Nat.reduceAdd, Nat.reduceSub, Nat.reduceMul, Nat.reduceLeDiff, Nat.not_lt_zero, List.map_cons, List.map_nil, List.cons_append, List.nil_append, loadA, cellsAt, nAg, packA, opt_bind_some, opt_map_some, opt_bind_none, opt_map_none, List.drop, List.take, List.head?, List.length_cons, List.length_nil, binA, unA, eqCells, eqCell, negB, fillA, sr_nil, sr_cons, sr_succ, sr_all, sr_len, storeA, Ob.with, indexedI, V.oneCell, intOf?, retQ_ret, retQ_norm, resA, resA1, fr_getD, packR, sealDepth, shut_bool, shut_int, Option.some.injEq, V.bool.injEq, V.int.injEq, Bool.not_true, Bool.not_false, true_and, and_true, and_self, Bool.and_true, Bool.and_false, Bool.true_and, Bool.false_and, Bool.or_true, Bool.or_false, Bool.true_or, Bool.false_or, Bool.false_eq_true, Int.reduceLT, Int.reduceLE, Int.reduceToNat, Int.reduceNeg, shut_plain, freeL_cons, freeL_nil, free_int, free_bool, free_agg, free_str, free_nils, free_tup, free_sl, true_implies, false_implies, Nat.sub_zero, Int.natCast_nonneg, Int.toNat_natCast, Nat.le_refl, not_true_eq_false, Int.reduceAdd, Int.reduceSub, Int.reduceMul, wrap64, false_and, and_false, cond_true, cond_false, Bool.cond_true_left, Bool.cond_false_right, Int.reduceBNe, Int.reduceBEq, decide_true, decide_false, Int.cast_ofNat_Int, Nat.mul_one, eq_self, Bool.true_eq_false, Bool.not_eq_true, Bool.not_eq_false, deads, List.replicate, argsF, l3H2]
    refine sx_loop (fun j t Hc => t = fr 305 [(9, .ptr w 1 0), (19, v1), (20, .int .i64 j)] ∧ j ≤ C.length ∧ Dlv w 0 on a c sa sc sent sent' out S T O R Cn L v1 C j Hc) C.length (by show C.length < N; omega) ⟨rfl, Nat.zero_le _, D0⟩ ?_
    rintro j t Hc hj ⟨rfl, hjC, hD⟩
    by_cases hlt : j < C.length
    · have g1 : decide ((j : Int) < (C.length : Int)) = true := decide_eq_true (by omega)
      have w4 : IntKind.i64.wrap ((j : Int) + 1) = ((j + 1 : Nat) : Int) := (wrap64 (by omega) (by omega)).trans (by omega)
      have hj1 : j + 1 ≤ C.length := by omega
      obtain ⟨cc, v2, H2, hcc, c13, D2⟩ := dlv_step (N := N) (n := n) (by omega) (by omega) hT hB f0 hsum hgot hlt hD
      obtain ⟨o, ver, off, cs, hia, hoc, hle6, hld, -⟩ := hD.1.at_ hC6 hcc
      obtain ⟨cc6, -⟩ := hC6 cc (List.mem_of_getElem? hcc)
      simp +contextual -implicitDefEqProofs (maxSteps := 10000000) only [sx_seq, sxL_succ, lpQ_norm, lpQ_exit, lpQ_ret, loopQ_norm, loopQ_exit, loopQ_ret, sqQ_norm, sqQ_ret, sqQ_exit, sx_block, blkQ_norm, blkQ_exit, blkQ_ret, sx_cond, cdP_true, cdP_false, cdP_bool, sx_region, sx_draw, plainD, List.all_cons, List.all_nil, List.isEmpty_nil, List.isEmpty_cons, sxo_nil, sxo_cons, sxo_guard, gdS_bool, gdS_eff, gdS_tup, gdS_sel, gdS_seleff, sxK_def, wcall_some, effP_ret, effP_set, effP_none, effP_ite, wop_call, wop_cv, cvP_func, sx_ret, sx_exit, sx_skip, sx_clr, sx_fresh, stays, ↓selV_wt, ↓selV_wf, ↓impB_wt, ↓impB_wf, ↓selV_nor, ↓impB_nor, ↓selV_nt, ↓selV_nf, ↓impB_nt, ↓impB_nf, wantB_true, wantB_false, ↓selV_true, ↓selV_false, ↓selV_and, ↓impB_true, ↓impB_false, ↓impB_and, impB_triv, valOf_some, retH_some, ↓prim_pick, pickO_true, pickO_false, pickO_and, pickO_or, pickO_andr, pickO_orr, pickO_orrn, pickO_orn, pickO_bb, pickAnd_bool, pickOr_bool, ↓selV_nn, ↓impB_nn, Bool.and_assoc, Bool.or_assoc, doOp, ev_fr, ev_cst, put_none, put_fr, get, ins, del, dels, Nat.reduceLT, Nat.reduceEqDiff, ↓reduceIte, reduceCtorEq, ne_eq, not_false_eq_true, implies_true, framed_pureF, framed_fb, framed_N, framed_pure, wop_prim, prim, YLD, mkA, V.cells, List.getElem?_cons_zero, List.getElem?_cons_succ, List.set_cons_zero, List.set_cons_succ, Nat.zero_add, Nat.add_zero, Nat.reduceAdd, Nat.reduceSub, Nat.reduceMul, Nat.reduceLeDiff, Nat.not_lt_zero, List.map_cons, List.map_nil, List.cons_append, List.nil_append, loadA, cellsAt, nAg, packA, opt_bind_some, opt_map_some, opt_bind_none, opt_map_none, List.drop, List.take, List.head?, List.length_cons, List.length_nil, binA, unA, eqCells, eqCell, negB, fillA, sr_nil, sr_cons, sr_succ, sr_all, sr_len, storeA, Ob.with, indexedI, V.oneCell, intOf?, retQ_ret, retQ_norm, resA, resA1, fr_getD, packR, sealDepth, shut_bool, shut_int, Option.some.injEq, V.bool.injEq, V.int.injEq, Bool.not_true, Bool.not_false, true_and, and_true, and_self, Bool.and_true, Bool.and_false, Bool.true_and, Bool.false_and, Bool.or_true, Bool.or_false, Bool.true_or, Bool.false_or, Bool.false_eq_true, Int.reduceLT, Int.reduceLE, Int.reduceToNat, Int.reduceNeg, shut_plain, freeL_cons, freeL_nil, free_int, free_bool, free_agg, free_str, free_nils, free_tup, free_sl, true_implies, false_implies, Nat.sub_zero, Int.natCast_nonneg, Int.toNat_natCast, Nat.le_refl, not_true_eq_false, Int.reduceAdd, Int.reduceSub, Int.reduceMul, wrap64, false_and, and_false, cond_true, cond_false, Bool.cond_true_left, Bool.cond_false_right, Int.reduceBNe, Int.reduceBEq, decide_true, decide_false, Int.cast_ofNat_Int, Nat.mul_one, eq_self, Bool.true_eq_false, Bool.not_eq_true, Bool.not_eq_false, deads, List.replicate, argsF, hlen, g1, hia, hoc, hle6, hld, cc6, c13, w4, hj1, hlt, -List.drop, -List.take]
      exact D2
    · have e : j = C.length := by omega
      subst e
      have g1 : decide ((C.length : Int) < (C.length : Int)) = false := decide_eq_false (by omega)
      simp +contextual -implicitDefEqProofs (maxSteps := 10000000) only [sx_seq, sxL_succ, lpQ_norm, lpQ_exit, lpQ_ret, loopQ_norm, loopQ_exit, loopQ_ret, sqQ_norm, sqQ_ret, sqQ_exit, sx_block, blkQ_norm, blkQ_exit, blkQ_ret, sx_cond, cdP_true, cdP_false, cdP_bool, sx_region, sx_draw, plainD, List.all_cons, List.all_nil, List.isEmpty_nil, List.isEmpty_cons, sxo_nil, sxo_cons, sxo_guard, gdS_bool, gdS_eff, gdS_tup, gdS_sel, gdS_seleff, sxK_def, wcall_some, effP_ret, effP_set, effP_none, effP_ite, wop_call, wop_cv, cvP_func, sx_ret, sx_exit, sx_skip, sx_clr, sx_fresh, stays, ↓selV_wt, ↓selV_wf, ↓impB_wt, ↓impB_wf, ↓selV_nor, ↓impB_nor, ↓selV_nt, ↓selV_nf, ↓impB_nt, ↓impB_nf, wantB_true, wantB_false, ↓selV_true, ↓selV_false, ↓selV_and, ↓impB_true, ↓impB_false, ↓impB_and, impB_triv, valOf_some, retH_some, ↓prim_pick, pickO_true, pickO_false, pickO_and, pickO_or, pickO_andr, pickO_orr, pickO_orrn, pickO_orn, pickO_bb, pickAnd_bool, pickOr_bool, ↓selV_nn, ↓impB_nn, Bool.and_assoc, Bool.or_assoc, doOp, ev_fr, ev_cst, put_none, put_fr, get, ins, del, dels, Nat.reduceLT, Nat.reduceEqDiff, ↓reduceIte, reduceCtorEq, ne_eq, not_false_eq_true, implies_true, framed_pureF, framed_fb, framed_N, framed_pure, wop_prim, prim, YLD, mkA, V.cells, List.getElem?_cons_zero, List.getElem?_cons_succ, List.set_cons_zero, List.set_cons_succ, Nat.zero_add, Nat.add_zero, Nat.reduceAdd, Nat.reduceSub, Nat.reduceMul, Nat.reduceLeDiff, Nat.not_lt_zero, List.map_cons, List.map_nil, List.cons_append, List.nil_append, loadA, cellsAt, nAg, packA, opt_bind_some, opt_map_some, opt_bind_none, opt_map_none, List.drop, List.take, List.head?, List.length_cons, List.length_nil, binA, unA, eqCells, eqCell, negB, fillA, sr_nil, sr_cons, sr_succ, sr_all, sr_len, storeA, Ob.with, indexedI, V.oneCell, intOf?, retQ_ret, retQ_norm, resA, resA1, fr_getD, packR, sealDepth, shut_bool, shut_int, Option.some.injEq, V.bool.injEq, V.int.injEq, Bool.not_true, Bool.not_false, true_and, and_true, and_self, Bool.and_true, Bool.and_false, Bool.true_and, Bool.false_and, Bool.or_true, Bool.or_false, Bool.true_or, Bool.false_or, Bool.false_eq_true, Int.reduceLT, Int.reduceLE, Int.reduceToNat, Int.reduceNeg, shut_plain, freeL_cons, freeL_nil, free_int, free_bool, free_agg, free_str, free_nils, free_tup, free_sl, true_implies, false_implies, Nat.sub_zero, Int.natCast_nonneg, Int.toNat_natCast, Nat.le_refl, not_true_eq_false, Int.reduceAdd, Int.reduceSub, Int.reduceMul, wrap64, false_and, and_false, cond_true, cond_false, Bool.cond_true_left, Bool.cond_false_right, Int.reduceBNe, Int.reduceBEq, decide_true, decide_false, Int.cast_ofNat_Int, Nat.mul_one, eq_self, Bool.true_eq_false, Bool.not_eq_true, Bool.not_eq_false, deads, List.replicate, argsF, hlen, g1]
      exact fin _ hD
  rintro t H' ⟨rfl, hA⟩
  exact hQ H' hA
end Go.Am.T


set_option linter.unusedVariables false
set_option linter.unusedSimpArgs false
set_option linter.unusedSectionVars false
set_option maxRecDepth 10000
namespace Go.Am.T
attribute [local congr] selV_congr impB_congr
def l3Z : ACode := (.seq (.region [⟨some 4, (.move (.cst (.bool false))), none⟩]) (.clr [4]))
def l3Z1 : ACode := (.seq (.region [⟨some 22, (.move (.tmp 0)), none⟩, ⟨some 23, (.call 7 [(.cst (.int .i64 0)), (.cst (.int .i64 1)), (.tmp 22)]), none⟩, ⟨some 21, (.move (.tmp 23)), none⟩, ⟨some 24, (.extract (.tmp 21) 0), none⟩, ⟨some 25, (.extract (.tmp 21) 1), none⟩, ⟨some 5, (.move (.tmp 24)), none⟩, ⟨some 6, (.move (.tmp 25)), none⟩]) (.clr [25, 24, 23, 22, 21]))
def l3Z2 : ACode := (.seq (.region [⟨some 27, (.move (.tmp 0)), none⟩, ⟨some 28, (.call 7 [(.cst (.int .i64 1)), (.cst (.int .i64 0)), (.tmp 27)]), none⟩, ⟨some 26, (.move (.tmp 28)), none⟩, ⟨some 29, (.extract (.tmp 26) 0), none⟩, ⟨some 30, (.extract (.tmp 26) 1), none⟩, ⟨some 7, (.move (.tmp 29)), none⟩, ⟨some 8, (.move (.tmp 30)), none⟩]) (.clr [30, 29, 28, 27, 26]))
def l3Z3 : ACode := (.seq (.seq (.region [⟨some 31, (.move (.tmp 6)), none⟩, ⟨some 32, (.bin .neq (.tmp 31) (.cst (.int .i64 0))), none⟩, ⟨some 33, (.move (.tmp 32)), none⟩, ⟨some 34, (.move (.tmp 8)), some (33, false)⟩, ⟨some 35, (.bin .neq (.tmp 34) (.cst (.int .i64 0))), some (33, false)⟩, ⟨some 36, (.pick (.tmp 33) (.cst (.bool true)) (.tmp 35)), none⟩, ⟨some 37, (.move (.tmp 36)), none⟩, ⟨some 38, (.move (.tmp 1)), some (37, false)⟩, ⟨some 39, (.lenS (.tmp 38)), some (37, false)⟩, ⟨some 40, (.bin .gtr (.tmp 39) (.cst (.int .i64 80))), some (37, false)⟩, ⟨some 41, (.pick (.tmp 37) (.cst (.bool true)) (.tmp 40)), none⟩]) (.clr [40, 39, 38, 37, 36, 35, 34, 33, 32, 31])) (.cond (.tmp 41) (.seq (.clr [41, 7, 5, 1]) (.seq (.seq (.region [⟨some 42, (.move (.tmp 6)), none⟩, ⟨some 43, (.bin .eql (.tmp 42) (.cst (.int .i64 0))), none⟩, ⟨some 44, (.move (.tmp 0)), none⟩, ⟨some 45, (.call 8 [(.cst (.int .i64 0)), (.cst (.int .i64 1)), (.tmp 44)]), none⟩, ⟨some 46, (.eqc false false [.b] (.tmp 43) (.tmp 45)), none⟩, ⟨some 47, (.move (.tmp 46)), none⟩, ⟨some 48, (.move (.tmp 6)), some (47, true)⟩, ⟨some 49, (.move (.tmp 8)), some (47, true)⟩, ⟨some 50, (.bin .eql (.tmp 48) (.tmp 49)), some (47, true)⟩, ⟨some 51, (.pick (.tmp 47) (.tmp 50) (.cst (.bool false))), none⟩, ⟨some 52, (.move (.tmp 51)), none⟩, ⟨some 53, (.call 9 []), some (52, true)⟩, ⟨some 54, (.pick (.tmp 52) (.tmp 53) (.cst (.bool false))), none⟩, ⟨some 4, (.move (.tmp 54)), none⟩]) (.clr [54, 53, 52, 51, 50, 49, 48, 47, 46, 45, 44, 43, 42, 8, 6, 0])) .ret)) (.seq (.clr [41, 8, 6, 0]) .skip)))
def l3Z4 : ACode := (.seq (.region [⟨some 55, (.move (.tmp 5)), none⟩, ⟨some 56, (.move (.tmp 7)), none⟩, ⟨some 57, (.build [.nilp, .nilp] [(0, 1, (.tmp 55)), (1, 1, (.tmp 56))]), none⟩, ⟨some 58, (.build [.nilp, .nilp, .nils, .nils, .nils, .nils, .nils] [(0, 2, (.tmp 57))]), none⟩, ⟨some 59, (.box 0 (.tmp 58)), none⟩, ⟨some 9, (.move (.tmp 59)), none⟩]) (.clr [59, 58, 57, 56, 55, 7, 5]))
def l3T : ACode := (.seq (.seq (.region [⟨some 252, (.move (.tmp 9)), none⟩, ⟨some 253, (.call 14 [(.tmp 252)]), none⟩, ⟨some 254, (.move (.tmp 253)), none⟩, ⟨some 255, (.move (.tmp 9)), some (254, true)⟩, ⟨some 256, (.nilck (.tmp 255)), some (254, true)⟩, ⟨some 257, (.faddr 5 (.tmp 256)), some (254, true)⟩, ⟨some 258, (.iaddrA 2 1 (.tmp 257) (.cst (.int .i64 0))), some (254, true)⟩, ⟨some 259, (.load none (.tmp 258)), some (254, true)⟩, ⟨some 260, (.lenS (.tmp 259)), some (254, true)⟩, ⟨some 261, (.move (.tmp 9)), some (254, true)⟩, ⟨some 262, (.nilck (.tmp 261)), some (254, true)⟩, ⟨some 263, (.faddr 3 (.tmp 262)), some (254, true)⟩, ⟨some 264, (.iaddrA 2 1 (.tmp 263) (.cst (.int .i64 1))), some (254, true)⟩, ⟨some 265, (.load none (.tmp 264)), some (254, true)⟩, ⟨some 266, (.lenS (.tmp 265)), some (254, true)⟩, ⟨some 267, (.bin .eql (.tmp 260) (.tmp 266)), some (254, true)⟩, ⟨some 268, (.pick (.tmp 254) (.tmp 267) (.cst (.bool false))), none⟩, ⟨some 269, (.move (.tmp 268)), none⟩, ⟨some 270, (.move (.tmp 9)), some (269, true)⟩, ⟨some 271, (.nilck (.tmp 270)), some (269, true)⟩, ⟨some 272, (.faddr 5 (.tmp 271)), some (269, true)⟩, ⟨some 273, (.iaddrA 2 1 (.tmp 272) (.cst (.int .i64 1))), some (269, true)⟩, ⟨some 274, (.load none (.tmp 273)), some (269, true)⟩, ⟨some 275, (.lenS (.tmp 274)), some (269, true)⟩, ⟨some 276, (.move (.tmp 9)), some (269, true)⟩, ⟨some 277, (.nilck (.tmp 276)), some (269, true)⟩, ⟨some 278, (.faddr 3 (.tmp 277)), some (269, true)⟩, ⟨some 279, (.iaddrA 2 1 (.tmp 278) (.cst (.int .i64 0))), some (269, true)⟩, ⟨some 280, (.load none (.tmp 279)), some (269, true)⟩, ⟨some 281, (.lenS (.tmp 280)), some (269, true)⟩, ⟨some 282, (.bin .eql (.tmp 275) (.tmp 281)), some (269, true)⟩, ⟨some 283, (.pick (.tmp 269) (.tmp 282) (.cst (.bool false))), none⟩, ⟨some 284, (.move (.tmp 283)), none⟩, ⟨some 285, (.move (.tmp 9)), some (284, true)⟩, ⟨some 286, (.nilck (.tmp 285)), some (284, true)⟩, ⟨some 287, (.faddr 0 (.tmp 286)), some (284, true)⟩, ⟨some 288, (.iaddrA 2 1 (.tmp 287) (.cst (.int .i64 0))), some (284, true)⟩, ⟨some 289, (.load none (.tmp 288)), some (284, true)⟩, ⟨some 290, (.call 15 [(.tmp 289)]), some (284, true)⟩, ⟨some 291, (.bin .eql (.tmp 290) (.cst (.int .i64 0))), some (284, true)⟩, ⟨some 292, (.pick (.tmp 284) (.tmp 291) (.cst (.bool false))), none⟩, ⟨some 293, (.move (.tmp 292)), none⟩, ⟨some 294, (.move (.tmp 9)), some (293, true)⟩, ⟨some 295, (.nilck (.tmp 294)), some (293, true)⟩, ⟨some 296, (.faddr 0 (.tmp 295)), some (293, true)⟩, ⟨some 297, (.iaddrA 2 1 (.tmp 296) (.cst (.int .i64 1))), some (293, true)⟩, ⟨some 298, (.load none (.tmp 297)), some (293, true)⟩, ⟨some 299, (.call 15 [(.tmp 298)]), some (293, true)⟩, ⟨some 300, (.bin .eql (.tmp 299) (.cst (.int .i64 0))), some (293, true)⟩, ⟨some 301, (.pick (.tmp 293) (.tmp 300) (.cst (.bool false))), none⟩, ⟨some 302, (.move (.tmp 301)), none⟩, ⟨some 303, (.call 9 []), some (302, true)⟩, ⟨some 304, (.pick (.tmp 302) (.tmp 303) (.cst (.bool false))), none⟩, ⟨some 4, (.move (.tmp 304)), none⟩]) (.clr [304, 303, 302, 301, 300, 299, 298, 297, 296, 295, 294, 293, 292, 291, 290, 289, 288, 287, 286, 285, 284, 283, 282, 281, 280, 279, 278, 277, 276, 275, 274, 273, 272, 271, 270, 269, 268, 267, 266, 265, 264, 263, 262, 261, 260, 259, 258, 257, 256, 255, 254, 253, 252, 9])) .ret)
def l3X1 : ACode := .seq (.region [⟨some 10, (.move (.cst (.int .i64 0))), none⟩]) (.block 0 (.loop [] [] (.fresh 9 (.seq l3p (.seq (.block 1 l3K) l3q)))))
def l3X2 : ACode := .seq (.region [⟨some 15, (.move (.cst (.int .i64 0))), none⟩]) (.block 3 (.loop [] [] (.seq l3J (.seq (.block 4 (.seq l3M (.block 5 (.loop [] [] (.seq l3V (.seq (.block 6 l3G) l3W)))))) l3Q))))
theorem am3_is : am3.body = .seq l3Z (.seq l3Z1 (.seq l3Z2 (.seq l3Z3 (.seq l3Z4 (.seq l3X1 (.seq l3X2 (.seq l3H1 (.seq l3H2 l3T)))))))) := rfl
theorem wp_assoc {E : Env} {a b c : ACode} {t : List V} {h : Heap} {Q : Post} : wp E (.seq a (.seq b c)) t h Q = wp E (.seq (.seq a b) c) t h Q := by
  rw [wp_seq, wp_seq, wp_seq]
  have e : seqQ E (.seq b c) Q = seqQ E b (seqQ E c Q) := by
    funext e t h
    cases e with
    | norm => exact wp_seq
    | exit i => rfl
    | ret => rfl
  rw [e]
def PhI : Nat → Int → Int → Bool → Bool → Nat → Nat → Nat → Nat → Prop
  | 0, _, _, _, _, _, _, _, _ => True
  | 1, _, _, _, _, ns, _, _, no' => no' = ns
  | 2, _, _, _, _, ns, ns', no, no' => no' = ns ∧ no = ns'
  | 3, fa, _, _, oc, ns, ns', no, no' => no' = ns ∧ no = ns' ∧ (fa - 1 < (ns : Int) → oc = true)
  | 4, fa, fc, oa, _, ns, ns', no, no' => no' = ns ∧ no = ns' ∧ fa - 1 = (ns : Int) ∧ (fc - 1 < (ns' : Int) → oa = true)
  | _, fa, fc, _, _, ns, ns', no, no' => no' = ns ∧ no = ns' ∧ fa - 1 = (ns : Int) ∧ fc - 1 = (ns' : Int)
def PH (j : Nat) (H : Heap) : Prop := ∃ on a c sa sc sent sent' out out' S T O U R R' C, Ord H 0 0 on a c sa sc sent sent' out out' S T O U R R' C ∧ PhI j sa.first sc.first sa.owes sc.owes sent.length sent'.length out.length out'.length
theorem Ord.le {H : Heap} {w k : Nat} {on : V} {a c : Nat} {sa sc : Ses} {sent sent' out out' : List (List Int)} {S T O U : V} {R R' : List Nat} {C : List (List V)} (D : Ord H w k on a c sa sc sent sent' out out' S T O U R R' C) : sa.first - 1 ≤ (sent.length : Int) ∧ sc.first - 1 ≤ (sent'.length : Int) := by
  obtain ⟨L, W, Rw, LS, RS, LO, RO, hS, hB, hSr, hEl, hO, hBo, hE, hRs, hnd⟩ := D.duo.near.all
  obtain ⟨L', W', Rw', LS', RS', LO', RO', hS', hB', hSr', hEl', hO', hBo', hE', hRs', hnd'⟩ := D.duo.far.all
  have := hE.sum
  have := hE'.sum
  omega
theorem ph_near {H' : Heap} {j : Nat} (hj : j = 0 ∨ j = 2 ∨ j = 4) {on : V} {a c : Nat} {sa sc : Ses} {sent sent' out out' : List (List Int)} {S T O : V} {R : List Nat} {C : List (List V)} (hP : PhI j sa.first sc.first sa.owes sc.owes sent.length sent'.length out.length out'.length)
    (h : Aft H' 0 0 on a c sa sc sent sent' out S T O R C) : PH (j + 1) H' := by
  obtain ⟨sa1, sc1, out1, U1, R1, D1, h1, h2, h3⟩ := h.st
  obtain ⟨q1, q2⟩ := D1.le
  refine ⟨on, a, c, sa1, sc1, sent, sent', out, out1, S, T, O, U1, R, R1, C, D1, ?_⟩
  rcases hj with rfl | rfl | rfl
  · exact h1
  · obtain ⟨p1, p2⟩ := hP
    refine ⟨h1, p2, fun hlt => ?_⟩
    rcases h3 with ⟨r1, -, -, -⟩ | ⟨r1, r2⟩
    · omega
    · rw [r2, decide_eq_true (show sa.first - 1 < (sent.length : Int) by omega), Bool.or_true]
  · obtain ⟨p1, p2, p3, p4⟩ := hP
    refine ⟨h1, p2, by omega, ?_⟩
    rcases h3 with ⟨r1, r2, r3, r4⟩ | ⟨r1, r2⟩
    · rw [r3] at q2 ⊢
      by_cases h : sc.first - 1 < (sent'.length : Int)
      · have := p4 h
        rw [r2] at this
        cases this
      · omega
    · omega
theorem ph_far {H' : Heap} {j : Nat} (hj : j = 1 ∨ j = 3) {on : V} {a c : Nat} {sa sc : Ses} {sent sent' out out' : List (List Int)} {S T U : V} {R' : List Nat} {C : List (List V)} (hP : PhI j sa.first sc.first sa.owes sc.owes sent.length sent'.length out.length out'.length)
    (hle : sa.first - 1 ≤ (sent.length : Int)) (h : Aft H' 0 1 on c a sc sa sent' sent out' T S U R' C) : PH (j + 1) H' := by
  obtain ⟨sc1, sa1, out1, O1, R1, D1, h1, h2, h3⟩ := h.st
  obtain ⟨q1, q2⟩ := D1.le
  refine ⟨on, a, c, sa1, sc1, sent, sent', out1, out', S, T, O1, U, R1, R', C, D1.swap (k := 1) (by omega), ?_⟩
  rcases hj with rfl | rfl
  · exact ⟨hP, h1⟩
  · obtain ⟨p1, p2, p3⟩ := hP
    refine ⟨p1, h1, ?_, fun hlt => ?_⟩
    · rcases h3 with ⟨r1, r2, r3, r4⟩ | ⟨r1, r2⟩
      · rw [r3]
        by_cases h : sa.first - 1 < (sent.length : Int)
        · have := p3 h
          rw [r2] at this
          cases this
        · omega
      · omega
    · rcases h3 with ⟨r1, -, -, -⟩ | ⟨r1, r2⟩
      · omega
      · rw [r2, decide_eq_true (show sc.first - 1 < (sent'.length : Int) by omega), Bool.or_true]
set_option maxHeartbeats 4000000 in
theorem ph_step {N n : Nat} (hN : 1500 ≤ N) (hn : 5 ≤ n) {H : Heap} {i k : Nat} (hi : i < 2) (hk : k < 2) (hP : PH (2 * i + k) H) (fb : Nat) :
    wp ⟨pureOf am, callA am N n, N, fb⟩ l3G (fr 305 [(9, .ptr 0 1 0), (15, .int .i64 i), (16, .int .i64 k)]) H fun e t' H' => e = .norm ∧ t' = fr 305 [(9, .ptr 0 1 0), (15, .int .i64 i), (16, .int .i64 k)] ∧ PH (2 * i + k + 1) H' := by
  obtain ⟨on, a, c, sa, sc, sent, sent', out, out', S, T, O, U, R, R', C, D, hP⟩ := hP
  rcases two_cases hk with rfl | rfl
  · have g := l3G_wp (N := N) (n := n) hN hn (k := 0) (by omega) D (.int .i64 i) fb
    refine wp_mono (c := l3G) g ?_
    rintro e t' H' ⟨rfl, rfl, hA⟩
    refine ⟨rfl, rfl, ?_⟩
    rcases two_cases hi with rfl | rfl
    · exact ph_near (j := 0) (by omega) hP hA
    · exact ph_near (j := 2) (by omega) hP hA
  · have g := l3G_wp (N := N) (n := n) hN hn (k := 1) (by omega) (D.swap (k := 0) (by omega)) (.int .i64 i) fb
    refine wp_mono (c := l3G) g ?_
    rintro e t' H' ⟨rfl, rfl, hA⟩
    refine ⟨rfl, rfl, ?_⟩
    rcases two_cases hi with rfl | rfl
    · exact ph_far (j := 1) (by omega) hP D.le.1 hA
    · exact ph_far (j := 3) (by omega) hP D.le.1 hA
set_option maxHeartbeats 2000000 in
theorem l3X2_wp {N n : Nat} (hN : 1500 ≤ N) (hn : 5 ≤ n) {H : Heap} (hP : PH 0 H) (fb : Nat) :
    wp ⟨pureOf am, callA am N n, N, fb⟩ l3X2 (fr 305 [(9, .ptr 0 1 0)]) H fun e t' H' => e = .norm ∧ t' = fr 305 [(9, .ptr 0 1 0)] ∧ PH 4 H' := by
  unfold l3X2
  refine wp_cutM (fun t' H' => t' = fr 305 [(9, .ptr 0 1 0), (15, .int .i64 0)] ∧ H' = H) (sx_wp (by simp +contextual -implicitDefEqProofs (maxSteps := 10000000) only [sx_seq, sxL_succ, lpQ_norm, lpQ_exit, lpQ_ret, loopQ_norm, loopQ_exit, loopQ_ret, sqQ_norm, sqQ_ret, sqQ_exit, sx_block, blkQ_norm, blkQ_exit, blkQ_ret, sx_cond, cdP_true, cdP_false, cdP_bool, sx_region, sx_draw, plainD, List.all_cons, List.all_nil, List.isEmpty_nil, List.isEmpty_cons, sxo_nil, sxo_cons, sxo_guard, gdS_bool, gdS_eff, gdS_tup, gdS_sel, gdS_seleff, sxK_def, wcall_some, effP_ret, effP_set, effP_none, effP_ite, wop_call, wop_cv, cvP_func, sx_ret, sx_exit, sx_skip, sx_clr, sx_fresh, stays, ↓selV_wt, ↓selV_wf, ↓impB_wt, ↓impB_wf, ↓selV_nor, ↓impB_nor, ↓selV_nt, ↓selV_nf, ↓impB_nt, ↓impB_nf, wantB_true, wantB_false, ↓selV_true, ↓selV_false, ↓selV_and, ↓impB_true, ↓impB_false, ↓impB_and, impB_triv, valOf_some, retH_some, ↓prim_pick, pickO_true, pickO_false, pickO_and, pickO_or, pickO_andr, pickO_orr, pickO_orrn, pickO_orn, pickO_bb, pickAnd_bool, pickOr_bool, ↓selV_nn, ↓impB_nn, Bool.and_assoc, Bool.or_assoc, doOp, ev_fr, ev_cst, put_none, put_fr, get, ins, del, dels, Nat.reduceLT, Nat.reduceEqDiff, ↓reduceIte, reduceCtorEq, ne_eq, not_false_eq_true, implies_true, framed_pureF, framed_fb, framed_N, framed_pure, wop_prim, prim, YLD, mkA, V.cells, List.getElem?_cons_zero, List.getElem?_cons_succ, List.set_cons_zero, List.set_cons_succ, Nat.zero_add, Nat.add_zero, Nat.reduceAdd, Nat.reduceSub, Nat.reduceMul, Nat.reduceLeDiff, Nat.not_lt_zero, List.map_cons, List.map_nil, List.cons_append, List.nil_append, loadA, cellsAt, nAg, packA, opt_bind_some, opt_map_some, opt_bind_none, opt_map_none, List.drop, List.take, List.head?, List.length_cons, List.length_nil, binA, unA, eqCells, eqCell, negB, fillA, sr_nil, sr_cons, sr_succ, sr_all, sr_len, storeA, Ob.with, indexedI, V.oneCell, intOf?, retQ_ret, retQ_norm, resA, resA1, fr_getD, packR, sealDepth, shut_bool, shut_int, Option.some.injEq, V.bool.injEq, V.int.injEq, Bool.not_true, Bool.not_false, true_and, and_true, and_self, Bool.and_true, Bool.and_false, Bool.true_and, Bool.false_and, Bool.or_true, Bool.or_false, Bool.true_or, Bool.false_or, Bool.false_eq_true, Int.reduceLT, Int.reduceLE, Int.reduceToNat, Int.reduceNeg, shut_plain, freeL_cons, freeL_nil, free_int, free_bool, free_agg, free_str, free_nils, free_tup, free_sl, true_implies, false_implies, Nat.sub_zero, Int.natCast_nonneg, Int.toNat_natCast, Nat.le_refl, not_true_eq_false, Int.reduceAdd, Int.reduceSub, Int.reduceMul, wrap64, false_and, and_false, cond_true, cond_false, Bool.cond_true_left, Bool.cond_false_right, Int.reduceBNe, Int.reduceBEq, decide_true, decide_false, Int.cast_ofNat_Int, Nat.mul_one, eq_self, Bool.true_eq_false, Bool.not_eq_true, Bool.not_eq_false, deads, List.replicate, argsF, l3M])) ?_
  rintro t1 H1 ⟨rfl, rfl⟩
  rw [wp_block]
  refine wp_loop (fun i t Hc => t = fr 305 [(9, .ptr 0 1 0), (15, .int .i64 i)] ∧ i ≤ 2 ∧ PH (2 * i) Hc) 2 (by show 2 < N; omega) ⟨rfl, by omega, hP⟩ ?_
  rintro i t Hc hi ⟨rfl, hi2, hP⟩
  by_cases hlt : i < 2
  · have g1 : decide ((i : Int) < 2) = true := decide_eq_true (by omega)
    have w4 : IntKind.i64.wrap ((i : Int) + 1) = ((i + 1 : Nat) : Int) := (wrap64 (by omega) (by omega)).trans (by omega)
    refine wp_cutM (fun t' H' => t' = fr 305 [(9, .ptr 0 1 0), (15, .int .i64 i)] ∧ H' = Hc) (sx_wp (by simp +contextual -implicitDefEqProofs (maxSteps := 10000000) only [sx_seq, sxL_succ, lpQ_norm, lpQ_exit, lpQ_ret, loopQ_norm, loopQ_exit, loopQ_ret, sqQ_norm, sqQ_ret, sqQ_exit, sx_block, blkQ_norm, blkQ_exit, blkQ_ret, sx_cond, cdP_true, cdP_false, cdP_bool, sx_region, sx_draw, plainD, List.all_cons, List.all_nil, List.isEmpty_nil, List.isEmpty_cons, sxo_nil, sxo_cons, sxo_guard, gdS_bool, gdS_eff, gdS_tup, gdS_sel, gdS_seleff, sxK_def, wcall_some, effP_ret, effP_set, effP_none, effP_ite, wop_call, wop_cv, cvP_func, sx_ret, sx_exit, sx_skip, sx_clr, sx_fresh, stays, ↓selV_wt, ↓selV_wf, ↓impB_wt, ↓impB_wf, ↓selV_nor, ↓impB_nor, ↓selV_nt, ↓selV_nf, ↓impB_nt, ↓impB_nf, wantB_true, wantB_false, ↓selV_true, ↓selV_false, ↓selV_and, ↓impB_true, ↓impB_false, ↓impB_and, impB_triv, valOf_some, retH_some, ↓prim_pick, pickO_true, pickO_false, pickO_and, pickO_or, pickO_andr, pickO_orr, pickO_orrn, pickO_orn, pickO_bb, pickAnd_bool, pickOr_bool, ↓selV_nn, ↓impB_nn, Bool.and_assoc, Bool.or_assoc, doOp, ev_fr, ev_cst, put_none, put_fr, get, ins, del, dels, Nat.reduceLT, Nat.reduceEqDiff, ↓reduceIte, reduceCtorEq, ne_eq, not_false_eq_true, implies_true, framed_pureF, framed_fb, framed_N, framed_pure, wop_prim, prim, YLD, mkA, V.cells, List.getElem?_cons_zero, List.getElem?_cons_succ, List.set_cons_zero, List.set_cons_succ, Nat.zero_add, Nat.add_zero, Nat.reduceAdd, Nat.reduceSub, Nat.reduceMul, Nat.reduceLeDiff, Nat.not_lt_zero, List.map_cons, List.map_nil, List.cons_append, List.nil_append, loadA, cellsAt, nAg, packA, opt_bind_some, opt_map_some, opt_bind_none, opt_map_none, List.drop, List.take, List.head?, List.length_cons, List.length_nil, binA, unA, eqCells, eqCell, negB, fillA, sr_nil, sr_cons, sr_succ, sr_all, sr_len, storeA, Ob.with, indexedI, V.oneCell, intOf?, retQ_ret, retQ_norm, resA, resA1, fr_getD, packR, sealDepth, shut_bool, shut_int, Option.some.injEq, V.bool.injEq, V.int.injEq, Bool.not_true, Bool.not_false, true_and, and_true, and_self, Bool.and_true, Bool.and_false, Bool.true_and, Bool.false_and, Bool.or_true, Bool.or_false, Bool.true_or, Bool.false_or, Bool.false_eq_true, Int.reduceLT, Int.reduceLE, Int.reduceToNat, Int.reduceNeg, shut_plain, freeL_cons, freeL_nil, free_int, free_bool, free_agg, free_str, free_nils, free_tup, free_sl, true_implies, false_implies, Nat.sub_zero, Int.natCast_nonneg, Int.toNat_natCast, Nat.le_refl, not_true_eq_false, Int.reduceAdd, Int.reduceSub, Int.reduceMul, wrap64, false_and, and_false, cond_true, cond_false, Bool.cond_true_left, Bool.cond_false_right, Int.reduceBNe, Int.reduceBEq, decide_true, decide_false, Int.cast_ofNat_Int, Nat.mul_one, eq_self, Bool.true_eq_false, Bool.not_eq_true, Bool.not_eq_false, deads, List.replicate, argsF, l3J, g1])) ?_
    rintro t1 H1 ⟨rfl, rfl⟩
    refine wp_cutM (fun t' H' => t' = fr 305 [(9, .ptr 0 1 0), (15, .int .i64 i)] ∧ PH (2 * (i + 1)) H') ?_ ?_
    · rw [wp_block]
      refine wp_cutM (fun t' H' => t' = fr 305 [(9, .ptr 0 1 0), (15, .int .i64 i), (16, .int .i64 0)] ∧ H' = H1) (sx_wp (by simp +contextual -implicitDefEqProofs (maxSteps := 10000000) only [sx_seq, sxL_succ, lpQ_norm, lpQ_exit, lpQ_ret, loopQ_norm, loopQ_exit, loopQ_ret, sqQ_norm, sqQ_ret, sqQ_exit, sx_block, blkQ_norm, blkQ_exit, blkQ_ret, sx_cond, cdP_true, cdP_false, cdP_bool, sx_region, sx_draw, plainD, List.all_cons, List.all_nil, List.isEmpty_nil, List.isEmpty_cons, sxo_nil, sxo_cons, sxo_guard, gdS_bool, gdS_eff, gdS_tup, gdS_sel, gdS_seleff, sxK_def, wcall_some, effP_ret, effP_set, effP_none, effP_ite, wop_call, wop_cv, cvP_func, sx_ret, sx_exit, sx_skip, sx_clr, sx_fresh, stays, ↓selV_wt, ↓selV_wf, ↓impB_wt, ↓impB_wf, ↓selV_nor, ↓impB_nor, ↓selV_nt, ↓selV_nf, ↓impB_nt, ↓impB_nf, wantB_true, wantB_false, ↓selV_true, ↓selV_false, ↓selV_and, ↓impB_true, ↓impB_false, ↓impB_and, impB_triv, valOf_some, retH_some, ↓prim_pick, pickO_true, pickO_false, pickO_and, pickO_or, pickO_andr, pickO_orr, pickO_orrn, pickO_orn, pickO_bb, pickAnd_bool, pickOr_bool, ↓selV_nn, ↓impB_nn, Bool.and_assoc, Bool.or_assoc, doOp, ev_fr, ev_cst, put_none, put_fr, get, ins, del, dels, Nat.reduceLT, Nat.reduceEqDiff, ↓reduceIte, reduceCtorEq, ne_eq, not_false_eq_true, implies_true, framed_pureF, framed_fb, framed_N, framed_pure, wop_prim, prim, YLD, mkA, V.cells, List.getElem?_cons_zero, List.getElem?_cons_succ, List.set_cons_zero, List.set_cons_succ, Nat.zero_add, Nat.add_zero, Nat.reduceAdd, Nat.reduceSub, Nat.reduceMul, Nat.reduceLeDiff, Nat.not_lt_zero, List.map_cons, List.map_nil, List.cons_append, List.nil_append, loadA, cellsAt, nAg, packA, opt_bind_some, opt_map_some, opt_bind_none, opt_map_none, List.drop, List.take, List.head?, List.length_cons, List.length_nil, binA, unA, eqCells, eqCell, negB, fillA, sr_nil, sr_cons, sr_succ, sr_all, sr_len, storeA, Ob.with, indexedI, V.oneCell, intOf?, retQ_ret, retQ_norm, resA, resA1, fr_getD, packR, sealDepth, shut_bool, shut_int, Option.some.injEq, V.bool.injEq, V.int.injEq, Bool.not_true, Bool.not_false, true_and, and_true, and_self, Bool.and_true, Bool.and_false, Bool.true_and, Bool.false_and, Bool.or_true, Bool.or_false, Bool.true_or, Bool.false_or, Bool.false_eq_true, Int.reduceLT, Int.reduceLE, Int.reduceToNat, Int.reduceNeg, shut_plain, freeL_cons, freeL_nil, free_int, free_bool, free_agg, free_str, free_nils, free_tup, free_sl, true_implies, false_implies, Nat.sub_zero, Int.natCast_nonneg, Int.toNat_natCast, Nat.le_refl, not_true_eq_false, Int.reduceAdd, Int.reduceSub, Int.reduceMul, wrap64, false_and, and_false, cond_true, cond_false, Bool.cond_true_left, Bool.cond_false_right, Int.reduceBNe, Int.reduceBEq, decide_true, decide_false, Int.cast_ofNat_Int, Nat.mul_one, eq_self, Bool.true_eq_false, Bool.not_eq_true, Bool.not_eq_false, deads, List.replicate, argsF, l3M])) ?_
      rintro t2 H2 ⟨rfl, rfl⟩
      rw [wp_block]
      refine wp_loop (fun k t Hc => t = fr 305 [(9, .ptr 0 1 0), (15, .int .i64 i), (16, .int .i64 k)] ∧ k ≤ 2 ∧ PH (2 * i + k) Hc) 2 (by show 2 < N; omega) ⟨rfl, by omega, hP⟩ ?_
      rintro k t Hc hk ⟨rfl, hk2, hP⟩
      by_cases hlk : k < 2
      · have g2 : decide ((k : Int) < 2) = true := decide_eq_true (by omega)
        have w5 : IntKind.i64.wrap ((k : Int) + 1) = ((k + 1 : Nat) : Int) := (wrap64 (by omega) (by omega)).trans (by omega)
        refine wp_cutM (fun t' H' => t' = fr 305 [(9, .ptr 0 1 0), (15, .int .i64 i), (16, .int .i64 k)] ∧ H' = Hc) (sx_wp (by simp +contextual -implicitDefEqProofs (maxSteps := 10000000) only [sx_seq, sxL_succ, lpQ_norm, lpQ_exit, lpQ_ret, loopQ_norm, loopQ_exit, loopQ_ret, sqQ_norm, sqQ_ret, sqQ_exit, sx_block, blkQ_norm, blkQ_exit, blkQ_ret, sx_cond, cdP_true, cdP_false, cdP_bool, sx_region, sx_draw, plainD, List.all_cons, List.all_nil, List.isEmpty_nil, List.isEmpty_cons, sxo_nil, sxo_cons, sxo_guard, gdS_bool, gdS_eff, gdS_tup, gdS_sel, gdS_seleff, sxK_def, wcall_some, effP_ret, effP_set, effP_none, effP_ite, wop_call, wop_cv, cvP_func, sx_ret, sx_exit, sx_skip, sx_clr, sx_fresh, stays, ↓selV_wt, ↓selV_wf, ↓impB_wt, ↓impB_wf, ↓selV_nor, ↓impB_nor, ↓selV_nt, ↓selV_nf, ↓impB_nt, ↓impB_nf, wantB_true, wantB_false, ↓selV_true, ↓selV_false, ↓selV_and, ↓impB_true, ↓impB_false, ↓impB_and, impB_triv, valOf_some, retH_some, ↓prim_pick, pickO_true, pickO_false, pickO_and, pickO_or, pickO_andr, pickO_orr, pickO_orrn, pickO_orn, pickO_bb, pickAnd_bool, pickOr_bool, ↓selV_nn, ↓impB_nn, Bool.and_assoc, Bool.or_assoc, doOp, ev_fr, ev_cst, put_none, put_fr, get, ins, del, dels, Nat.reduceLT, Nat.reduceEqDiff, ↓reduceIte, reduceCtorEq, ne_eq, not_false_eq_true, implies_true, framed_pureF, framed_fb, framed_N, framed_pure, wop_prim, prim, YLD, mkA, V.cells, List.getElem?_cons_zero, List.getElem?_cons_succ, List.set_cons_zero, List.set_cons_succ, Nat.zero_add, Nat.add_zero, Nat.reduceAdd, Nat.reduceSub, Nat.reduceMul, Nat.reduceLeDiff, Nat.not_lt_zero, List.map_cons, List.map_nil, List.cons_append, List.nil_append, loadA, cellsAt, nAg, packA, opt_bind_some, opt_map_some, opt_bind_none, opt_map_none, List.drop, List.take, List.head?, List.length_cons, List.length_nil, binA, unA, eqCells, eqCell, negB, fillA, sr_nil, sr_cons, sr_succ, sr_all, sr_len, storeA, Ob.with, indexedI, V.oneCell, intOf?, retQ_ret, retQ_norm, resA, resA1, fr_getD, packR, sealDepth, shut_bool, shut_int, Option.some.injEq, V.bool.injEq, V.int.injEq, Bool.not_true, Bool.not_false, true_and, and_true, and_self, Bool.and_true, Bool.and_false, Bool.true_and, Bool.false_and, Bool.or_true, Bool.or_false, Bool.true_or, Bool.false_or, Bool.false_eq_true, Int.reduceLT, Int.reduceLE, Int.reduceToNat, Int.reduceNeg, shut_plain, freeL_cons, freeL_nil, free_int, free_bool, free_agg, free_str, free_nils, free_tup, free_sl, true_implies, false_implies, Nat.sub_zero, Int.natCast_nonneg, Int.toNat_natCast, Nat.le_refl, not_true_eq_false, Int.reduceAdd, Int.reduceSub, Int.reduceMul, wrap64, false_and, and_false, cond_true, cond_false, Bool.cond_true_left, Bool.cond_false_right, Int.reduceBNe, Int.reduceBEq, decide_true, decide_false, Int.cast_ofNat_Int, Nat.mul_one, eq_self, Bool.true_eq_false, Bool.not_eq_true, Bool.not_eq_false, deads, List.replicate, argsF, l3V, g2])) ?_
        rintro t3 H3 ⟨rfl, rfl⟩
        refine wp_cutM (fun t' H' => t' = fr 305 [(9, .ptr 0 1 0), (15, .int .i64 i), (16, .int .i64 k)] ∧ PH (2 * i + (k + 1)) H') ?_ ?_
        · rw [wp_block]
          refine wp_mono (ph_step hN hn hlt hlk hP fb) ?_
          rintro e t4 H4 ⟨rfl, rfl, h4⟩
          exact ⟨rfl, rfl, h4⟩
        · rintro t4 H4 ⟨rfl, h4⟩
          refine sx_wp ?_
          simp +contextual -implicitDefEqProofs (maxSteps := 10000000) only [sx_seq, sxL_succ, lpQ_norm, lpQ_exit, lpQ_ret, loopQ_norm, loopQ_exit, loopQ_ret, sqQ_norm, sqQ_ret, sqQ_exit, sx_block, blkQ_norm, blkQ_exit, blkQ_ret, sx_cond, cdP_true, cdP_false, cdP_bool, sx_region, sx_draw, plainD, List.all_cons, List.all_nil, List.isEmpty_nil, List.isEmpty_cons, sxo_nil, sxo_cons, sxo_guard, gdS_bool, gdS_eff, gdS_tup, gdS_sel, gdS_seleff, sxK_def, wcall_some, effP_ret, effP_set, effP_none, effP_ite, wop_call, wop_cv, cvP_func, sx_ret, sx_exit, sx_skip, sx_clr, sx_fresh, stays, ↓selV_wt, ↓selV_wf, ↓impB_wt, ↓impB_wf, ↓selV_nor, ↓impB_nor, ↓selV_nt, ↓selV_nf, ↓impB_nt, ↓impB_nf, wantB_true, wantB_false, ↓selV_true, ↓selV_false, ↓selV_and, ↓impB_true, ↓impB_false, ↓impB_and, impB_triv, valOf_some, retH_some, ↓prim_pick, pickO_true, pickO_false, pickO_and, pickO_or, pickO_andr, pickO_orr, pickO_orrn, pickO_orn, pickO_bb, pickAnd_bool, pickOr_bool, ↓selV_nn, ↓impB_nn, Bool.and_assoc, Bool.or_assoc, doOp, ev_fr, ev_cst, put_none, put_fr, get, ins, del, dels, Nat.reduceLT, Nat.reduceEqDiff, ↓reduceIte, reduceCtorEq, ne_eq, not_false_eq_true, implies_true, framed_pureF, framed_fb, framed_N, framed_pure, wop_prim, prim, YLD, mkA, V.cells, List.getElem?_cons_zero, List.getElem?_cons_succ, List.set_cons_zero, List.set_cons_succ, Nat.zero_add, Nat.add_zero, Nat.reduceAdd, Nat.reduceSub, Nat.reduceMul, Nat.reduceLeDiff, Nat.not_lt_zero, List.map_cons, List.map_nil, List.cons_append, List.nil_append, loadA, cellsAt, nAg, packA, opt_bind_some, opt_map_some, opt_bind_none, opt_map_none, List.drop, List.take, List.head?, List.length_cons, List.length_nil, binA, unA, eqCells, eqCell, negB, fillA, sr_nil, sr_cons, sr_succ, sr_all, sr_len, storeA, Ob.with, indexedI, V.oneCell, intOf?, retQ_ret, retQ_norm, resA, resA1, fr_getD, packR, sealDepth, shut_bool, shut_int, Option.some.injEq, V.bool.injEq, V.int.injEq, Bool.not_true, Bool.not_false, true_and, and_true, and_self, Bool.and_true, Bool.and_false, Bool.true_and, Bool.false_and, Bool.or_true, Bool.or_false, Bool.true_or, Bool.false_or, Bool.false_eq_true, Int.reduceLT, Int.reduceLE, Int.reduceToNat, Int.reduceNeg, shut_plain, freeL_cons, freeL_nil, free_int, free_bool, free_agg, free_str, free_nils, free_tup, free_sl, true_implies, false_implies, Nat.sub_zero, Int.natCast_nonneg, Int.toNat_natCast, Nat.le_refl, not_true_eq_false, Int.reduceAdd, Int.reduceSub, Int.reduceMul, wrap64, false_and, and_false, cond_true, cond_false, Bool.cond_true_left, Bool.cond_false_right, Int.reduceBNe, Int.reduceBEq, decide_true, decide_false, Int.cast_ofNat_Int, Nat.mul_one, eq_self, Bool.true_eq_false, Bool.not_eq_true, Bool.not_eq_false, deads, List.replicate, argsF, l3W, w5]
          exact ⟨by omega, by omega, h4⟩
      · have e : k = 2 := by omega
        subst e
        have g2 : decide (((2 : Nat) : Int) < 2) = false := by decide
        rw [show 2 * i + 2 = 2 * (i + 1) by omega] at hP
        refine sx_wp ?_
        simp +contextual -implicitDefEqProofs (maxSteps := 10000000) only [sx_seq, sxL_succ, lpQ_norm, lpQ_exit, lpQ_ret, loopQ_norm, loopQ_exit, loopQ_ret, sqQ_norm, sqQ_ret, sqQ_exit, sx_block, blkQ_norm, blkQ_exit, blkQ_ret, sx_cond, cdP_true, cdP_false, cdP_bool, sx_region, sx_draw, plainD, List.all_cons, List.all_nil, List.isEmpty_nil, List.isEmpty_cons, sxo_nil, sxo_cons, sxo_guard, gdS_bool, gdS_eff, gdS_tup, gdS_sel, gdS_seleff, sxK_def, wcall_some, effP_ret, effP_set, effP_none, effP_ite, wop_call, wop_cv, cvP_func, sx_ret, sx_exit, sx_skip, sx_clr, sx_fresh, stays, ↓selV_wt, ↓selV_wf, ↓impB_wt, ↓impB_wf, ↓selV_nor, ↓impB_nor, ↓selV_nt, ↓selV_nf, ↓impB_nt, ↓impB_nf, wantB_true, wantB_false, ↓selV_true, ↓selV_false, ↓selV_and, ↓impB_true, ↓impB_false, ↓impB_and, impB_triv, valOf_some, retH_some, ↓prim_pick, pickO_true, pickO_false, pickO_and, pickO_or, pickO_andr, pickO_orr, pickO_orrn, pickO_orn, pickO_bb, pickAnd_bool, pickOr_bool, ↓selV_nn, ↓impB_nn, Bool.and_assoc, Bool.or_assoc, doOp, ev_fr, ev_cst, put_none, put_fr, get, ins, del, dels, Nat.reduceLT, Nat.reduceEqDiff, ↓reduceIte, reduceCtorEq, ne_eq, not_false_eq_true, implies_true, framed_pureF, framed_fb, framed_N, framed_pure, wop_prim, prim, YLD, mkA, V.cells, List.getElem?_cons_zero, List.getElem?_cons_succ, List.set_cons_zero, List.set_cons_succ, Nat.zero_add, Nat.add_zero, Nat.reduceAdd, Nat.reduceSub, Nat.reduceMul, Nat.reduceLeDiff, Nat.not_lt_zero, List.map_cons, List.map_nil, List.cons_append, List.nil_append, loadA, cellsAt, nAg, packA, opt_bind_some, opt_map_some, opt_bind_none, opt_map_none, List.drop, List.take, List.head?, List.length_cons, List.length_nil, binA, unA, eqCells, eqCell, negB, fillA, sr_nil, sr_cons, sr_succ, sr_all, sr_len, storeA, Ob.with, indexedI, V.oneCell, intOf?, retQ_ret, retQ_norm, resA, resA1, fr_getD, packR, sealDepth, shut_bool, shut_int, Option.some.injEq, V.bool.injEq, V.int.injEq, Bool.not_true, Bool.not_false, true_and, and_true, and_self, Bool.and_true, Bool.and_false, Bool.true_and, Bool.false_and, Bool.or_true, Bool.or_false, Bool.true_or, Bool.false_or, Bool.false_eq_true, Int.reduceLT, Int.reduceLE, Int.reduceToNat, Int.reduceNeg, shut_plain, freeL_cons, freeL_nil, free_int, free_bool, free_agg, free_str, free_nils, free_tup, free_sl, true_implies, false_implies, Nat.sub_zero, Int.natCast_nonneg, Int.toNat_natCast, Nat.le_refl, not_true_eq_false, Int.reduceAdd, Int.reduceSub, Int.reduceMul, wrap64, false_and, and_false, cond_true, cond_false, Bool.cond_true_left, Bool.cond_false_right, Int.reduceBNe, Int.reduceBEq, decide_true, decide_false, Int.cast_ofNat_Int, Nat.mul_one, eq_self, Bool.true_eq_false, Bool.not_eq_true, Bool.not_eq_false, deads, List.replicate, argsF, l3V, g2]
        exact hP
    · rintro t4 H4 ⟨rfl, h4⟩
      refine sx_wp ?_
      simp +contextual -implicitDefEqProofs (maxSteps := 10000000) only [sx_seq, sxL_succ, lpQ_norm, lpQ_exit, lpQ_ret, loopQ_norm, loopQ_exit, loopQ_ret, sqQ_norm, sqQ_ret, sqQ_exit, sx_block, blkQ_norm, blkQ_exit, blkQ_ret, sx_cond, cdP_true, cdP_false, cdP_bool, sx_region, sx_draw, plainD, List.all_cons, List.all_nil, List.isEmpty_nil, List.isEmpty_cons, sxo_nil, sxo_cons, sxo_guard, gdS_bool, gdS_eff, gdS_tup, gdS_sel, gdS_seleff, sxK_def, wcall_some, effP_ret, effP_set, effP_none, effP_ite, wop_call, wop_cv, cvP_func, sx_ret, sx_exit, sx_skip, sx_clr, sx_fresh, stays, ↓selV_wt, ↓selV_wf, ↓impB_wt, ↓impB_wf, ↓selV_nor, ↓impB_nor, ↓selV_nt, ↓selV_nf, ↓impB_nt, ↓impB_nf, wantB_true, wantB_false, ↓selV_true, ↓selV_false, ↓selV_and, ↓impB_true, ↓impB_false, ↓impB_and, impB_triv, valOf_some, retH_some, ↓prim_pick, pickO_true, pickO_false, pickO_and, pickO_or, pickO_andr, pickO_orr, pickO_orrn, pickO_orn, pickO_bb, pickAnd_bool, pickOr_bool, ↓selV_nn, ↓impB_nn, Bool.and_assoc, Bool.or_assoc, doOp, ev_fr, ev_cst, put_none, put_fr, get, ins, del, dels, Nat.reduceLT, Nat.reduceEqDiff, ↓reduceIte, reduceCtorEq, ne_eq, not_false_eq_true, implies_true, framed_pureF, framed_fb, framed_N, framed_pure, wop_prim, prim, YLD, mkA, V.cells, List.getElem?_cons_zero, List.getElem?_cons_succ, List.set_cons_zero, List.set_cons_succ, Nat.zero_add, Nat.add_zero, Nat.reduceAdd, Nat.reduceSub, Nat.reduceMul, Nat.reduceLeDiff, Nat.not_lt_zero, List.map_cons, List.map_nil, List.cons_append, List.nil_append, loadA, cellsAt, nAg, packA, opt_bind_some, opt_map_some, opt_bind_none, opt_map_none, List.drop, List.take, List.head?, List.length_cons, List.length_nil, binA, unA, eqCells, eqCell, negB, fillA, sr_nil, sr_cons, sr_succ, sr_all, sr_len, storeA, Ob.with, indexedI, V.oneCell, intOf?, retQ_ret, retQ_norm, resA, resA1, fr_getD, packR, sealDepth, shut_bool, shut_int, Option.some.injEq, V.bool.injEq, V.int.injEq, Bool.not_true, Bool.not_false, true_and, and_true, and_self, Bool.and_true, Bool.and_false, Bool.true_and, Bool.false_and, Bool.or_true, Bool.or_false, Bool.true_or, Bool.false_or, Bool.false_eq_true, Int.reduceLT, Int.reduceLE, Int.reduceToNat, Int.reduceNeg, shut_plain, freeL_cons, freeL_nil, free_int, free_bool, free_agg, free_str, free_nils, free_tup, free_sl, true_implies, false_implies, Nat.sub_zero, Int.natCast_nonneg, Int.toNat_natCast, Nat.le_refl, not_true_eq_false, Int.reduceAdd, Int.reduceSub, Int.reduceMul, wrap64, false_and, and_false, cond_true, cond_false, Bool.cond_true_left, Bool.cond_false_right, Int.reduceBNe, Int.reduceBEq, decide_true, decide_false, Int.cast_ofNat_Int, Nat.mul_one, eq_self, Bool.true_eq_false, Bool.not_eq_true, Bool.not_eq_false, deads, List.replicate, argsF, l3Q, w4]
      exact ⟨by omega, by omega, h4⟩
  · have e : i = 2 := by omega
    subst e
    have g2 : decide (((2 : Nat) : Int) < 2) = false := by decide
    refine sx_wp ?_
    simp +contextual -implicitDefEqProofs (maxSteps := 10000000) only [sx_seq, sxL_succ, lpQ_norm, lpQ_exit, lpQ_ret, loopQ_norm, loopQ_exit, loopQ_ret, sqQ_norm, sqQ_ret, sqQ_exit, sx_block, blkQ_norm, blkQ_exit, blkQ_ret, sx_cond, cdP_true, cdP_false, cdP_bool, sx_region, sx_draw, plainD, List.all_cons, List.all_nil, List.isEmpty_nil, List.isEmpty_cons, sxo_nil, sxo_cons, sxo_guard, gdS_bool, gdS_eff, gdS_tup, gdS_sel, gdS_seleff, sxK_def, wcall_some, effP_ret, effP_set, effP_none, effP_ite, wop_call, wop_cv, cvP_func, sx_ret, sx_exit, sx_skip, sx_clr, sx_fresh, stays, ↓selV_wt, ↓selV_wf, ↓impB_wt, ↓impB_wf, ↓selV_nor, ↓impB_nor, ↓selV_nt, ↓selV_nf, ↓impB_nt, ↓impB_nf, wantB_true, wantB_false, ↓selV_true, ↓selV_false, ↓selV_and, ↓impB_true, ↓impB_false, ↓impB_and, impB_triv, valOf_some, retH_some, ↓prim_pick, pickO_true, pickO_false, pickO_and, pickO_or, pickO_andr, pickO_orr, pickO_orrn, pickO_orn, pickO_bb, pickAnd_bool, pickOr_bool, ↓selV_nn, ↓impB_nn, Bool.and_assoc, Bool.or_assoc, doOp, ev_fr, ev_cst, put_none, put_fr, get, ins, del, dels, Nat.reduceLT, Nat.reduceEqDiff, ↓reduceIte, reduceCtorEq, ne_eq, not_false_eq_true, implies_true, framed_pureF, framed_fb, framed_N, framed_pure, wop_prim, prim, YLD, mkA, V.cells, List.getElem?_cons_zero, List.getElem?_cons_succ, List.set_cons_zero, List.set_cons_succ, Nat.zero_add, Nat.add_zero, Nat.reduceAdd, Nat.reduceSub, Nat.reduceMul, Nat.reduceLeDiff, Nat.not_lt_zero, List.map_cons, List.map_nil, List.cons_append, List.nil_append, loadA, cellsAt, nAg, packA, opt_bind_some, opt_map_some, opt_bind_none, opt_map_none, List.drop, List.take, List.head?, List.length_cons, List.length_nil, binA, unA, eqCells, eqCell, negB, fillA, sr_nil, sr_cons, sr_succ, sr_all, sr_len, storeA, Ob.with, indexedI, V.oneCell, intOf?, retQ_ret, retQ_norm, resA, resA1, fr_getD, packR, sealDepth, shut_bool, shut_int, Option.some.injEq, V.bool.injEq, V.int.injEq, Bool.not_true, Bool.not_false, true_and, and_true, and_self, Bool.and_true, Bool.and_false, Bool.true_and, Bool.false_and, Bool.or_true, Bool.or_false, Bool.true_or, Bool.false_or, Bool.false_eq_true, Int.reduceLT, Int.reduceLE, Int.reduceToNat, Int.reduceNeg, shut_plain, freeL_cons, freeL_nil, free_int, free_bool, free_agg, free_str, free_nils, free_tup, free_sl, true_implies, false_implies, Nat.sub_zero, Int.natCast_nonneg, Int.toNat_natCast, Nat.le_refl, not_true_eq_false, Int.reduceAdd, Int.reduceSub, Int.reduceMul, wrap64, false_and, and_false, cond_true, cond_false, Bool.cond_true_left, Bool.cond_false_right, Int.reduceBNe, Int.reduceBEq, decide_true, decide_false, Int.cast_ofNat_Int, Nat.mul_one, eq_self, Bool.true_eq_false, Bool.not_eq_true, Bool.not_eq_false, deads, List.replicate, argsF, l3J, g2]
    exact hP
set_option maxHeartbeats 2000000 in
theorem l3X1_wp {N n : Nat} (hN : 1500 ≤ N) (hn : 5 ≤ n) {H : Heap} {l : V} {M : List Mv} (hl : IsL l 4 (M.map Mv.cs)) (hM : M.length ≤ 80) (hP : Ord1 H 0 0 0 0 0) (fb : Nat) :
    wp ⟨pureOf am, callA am N n, N, fb⟩ l3X1 (fr 305 [(1, l), (9, .ptr 0 1 0)]) H fun e t' H' => e = .norm ∧ t' = fr 305 [(9, .ptr 0 1 0)] ∧ PH 0 H' := by
  have la := hl.len
  rw [List.length_map] at la
  have ln := hl.nstr
  refine sx_wp ?_
  simp +contextual -implicitDefEqProofs (maxSteps := 10000000) only [sx_seq, sxL_succ, lpQ_norm, lpQ_exit, lpQ_ret, loopQ_norm, loopQ_exit, loopQ_ret, sqQ_norm, sqQ_ret, sqQ_exit, sx_block, blkQ_norm, blkQ_exit, blkQ_ret, sx_cond, cdP_true, cdP_false, cdP_bool, sx_region, sx_draw, plainD, List.all_cons, List.all_nil, List.isEmpty_nil, List.isEmpty_cons, sxo_nil, sxo_cons, sxo_guard, gdS_bool, gdS_eff, gdS_tup, gdS_sel, gdS_seleff, sxK_def, wcall_some, effP_ret, effP_set, effP_none, effP_ite, wop_call, wop_cv, cvP_func, sx_ret, sx_exit, sx_skip, sx_clr, sx_fresh, stays, ↓selV_wt, ↓selV_wf, ↓impB_wt, ↓impB_wf, ↓selV_nor, ↓impB_nor, ↓selV_nt, ↓selV_nf, ↓impB_nt, ↓impB_nf, wantB_true, wantB_false, ↓selV_true, ↓selV_false, ↓selV_and, ↓impB_true, ↓impB_false, ↓impB_and, impB_triv, valOf_some, retH_some, ↓prim_pick, pickO_true, pickO_false, pickO_and, pickO_or, pickO_andr, pickO_orr, pickO_orrn, pickO_orn, pickO_bb, pickAnd_bool, pickOr_bool, ↓selV_nn, ↓impB_nn, Bool.and_assoc, Bool.or_assoc, doOp, ev_fr, ev_cst, put_none, put_fr, get, ins, del, dels, Nat.reduceLT, Nat.reduceEqDiff, ↓reduceIte, reduceCtorEq, ne_eq, not_false_eq_true, implies_true, framed_pureF, framed_fb, framed_N, framed_pure, wop_prim, prim, YLD, mkA, V.cells, List.getElem?_cons_zero, List.getElem?_cons_succ, List.set_cons_zero, List.set_cons_succ, Nat.zero_add, Nat.add_zero, Nat.reduceAdd, Nat.reduceSub, Nat.reduceMul, Nat.reduceLeDiff, Nat.not_lt_zero, List.map_cons, List.map_nil, List.cons_append, List.nil_append, loadA, cellsAt, nAg, packA, opt_bind_some, opt_map_some, opt_bind_none, opt_map_none, List.drop, List.take, List.head?, List.length_cons, List.length_nil, binA, unA, eqCells, eqCell, negB, fillA, sr_nil, sr_cons, sr_succ, sr_all, sr_len, storeA, Ob.with, indexedI, V.oneCell, intOf?, retQ_ret, retQ_norm, resA, resA1, fr_getD, packR, sealDepth, shut_bool, shut_int, Option.some.injEq, V.bool.injEq, V.int.injEq, Bool.not_true, Bool.not_false, true_and, and_true, and_self, Bool.and_true, Bool.and_false, Bool.true_and, Bool.false_and, Bool.or_true, Bool.or_false, Bool.true_or, Bool.false_or, Bool.false_eq_true, Int.reduceLT, Int.reduceLE, Int.reduceToNat, Int.reduceNeg, shut_plain, freeL_cons, freeL_nil, free_int, free_bool, free_agg, free_str, free_nils, free_tup, free_sl, true_implies, false_implies, Nat.sub_zero, Int.natCast_nonneg, Int.toNat_natCast, Nat.le_refl, not_true_eq_false, Int.reduceAdd, Int.reduceSub, Int.reduceMul, wrap64, false_and, and_false, cond_true, cond_false, Bool.cond_true_left, Bool.cond_false_right, Int.reduceBNe, Int.reduceBEq, decide_true, decide_false, Int.cast_ofNat_Int, Nat.mul_one, eq_self, Bool.true_eq_false, Bool.not_eq_true, Bool.not_eq_false, deads, List.replicate, argsF, l3X1]
  refine wp_loop (fun i t Hc => t = slots3 l 0 i ∧ i ≤ M.length ∧ Ord1 Hc 0 0 i i (i * 90)) M.length (by show M.length < N; omega) ⟨rfl, Nat.zero_le _, by simpa using hP⟩ ?_
  rintro i t Hc hi ⟨rfl, hiM, hD⟩
  show wp _ (.fresh 9 (.seq l3p (.seq (.block 1 l3K) l3q))) _ _ _
  rw [wp_fresh]
  by_cases hlt : i < M.length
  · have g2 : decide ((i : Int) < (M.length : Int)) = true := decide_eq_true (by omega)
    have w4 : IntKind.i64.wrap ((i : Int) + 1) = ((i + 1 : Nat) : Int) := (wrap64 (by omega) (by omega)).trans (by omega)
    have hi1 : i + 1 ≤ M.length := by omega
    refine wp_cutM (fun t' H' => t' = slots3 l 0 i ∧ H' = Hc ++ deads 9) (sx_wp (by unfold slots3; simp +contextual -implicitDefEqProofs (maxSteps := 10000000) only [sx_seq, sxL_succ, lpQ_norm, lpQ_exit, lpQ_ret, loopQ_norm, loopQ_exit, loopQ_ret, sqQ_norm, sqQ_ret, sqQ_exit, sx_block, blkQ_norm, blkQ_exit, blkQ_ret, sx_cond, cdP_true, cdP_false, cdP_bool, sx_region, sx_draw, plainD, List.all_cons, List.all_nil, List.isEmpty_nil, List.isEmpty_cons, sxo_nil, sxo_cons, sxo_guard, gdS_bool, gdS_eff, gdS_tup, gdS_sel, gdS_seleff, sxK_def, wcall_some, effP_ret, effP_set, effP_none, effP_ite, wop_call, wop_cv, cvP_func, sx_ret, sx_exit, sx_skip, sx_clr, sx_fresh, stays, ↓selV_wt, ↓selV_wf, ↓impB_wt, ↓impB_wf, ↓selV_nor, ↓impB_nor, ↓selV_nt, ↓selV_nf, ↓impB_nt, ↓impB_nf, wantB_true, wantB_false, ↓selV_true, ↓selV_false, ↓selV_and, ↓impB_true, ↓impB_false, ↓impB_and, impB_triv, valOf_some, retH_some, ↓prim_pick, pickO_true, pickO_false, pickO_and, pickO_or, pickO_andr, pickO_orr, pickO_orrn, pickO_orn, pickO_bb, pickAnd_bool, pickOr_bool, ↓selV_nn, ↓impB_nn, Bool.and_assoc, Bool.or_assoc, doOp, ev_fr, ev_cst, put_none, put_fr, get, ins, del, dels, Nat.reduceLT, Nat.reduceEqDiff, ↓reduceIte, reduceCtorEq, ne_eq, not_false_eq_true, implies_true, framed_pureF, framed_fb, framed_N, framed_pure, wop_prim, prim, YLD, mkA, V.cells, List.getElem?_cons_zero, List.getElem?_cons_succ, List.set_cons_zero, List.set_cons_succ, Nat.zero_add, Nat.add_zero, Nat.reduceAdd, Nat.reduceSub, Nat.reduceMul, Nat.reduceLeDiff, Nat.not_lt_zero, List.map_cons, List.map_nil, List.cons_append, List.nil_append, loadA, cellsAt, nAg, packA, opt_bind_some, opt_map_some, opt_bind_none, opt_map_none, List.drop, List.take, List.head?, List.length_cons, List.length_nil, binA, unA, eqCells, eqCell, negB, fillA, sr_nil, sr_cons, sr_succ, sr_all, sr_len, storeA, Ob.with, indexedI, V.oneCell, intOf?, retQ_ret, retQ_norm, resA, resA1, fr_getD, packR, sealDepth, shut_bool, shut_int, Option.some.injEq, V.bool.injEq, V.int.injEq, Bool.not_true, Bool.not_false, true_and, and_true, and_self, Bool.and_true, Bool.and_false, Bool.true_and, Bool.false_and, Bool.or_true, Bool.or_false, Bool.true_or, Bool.false_or, Bool.false_eq_true, Int.reduceLT, Int.reduceLE, Int.reduceToNat, Int.reduceNeg, shut_plain, freeL_cons, freeL_nil, free_int, free_bool, free_agg, free_str, free_nils, free_tup, free_sl, true_implies, false_implies, Nat.sub_zero, Int.natCast_nonneg, Int.toNat_natCast, Nat.le_refl, not_true_eq_false, Int.reduceAdd, Int.reduceSub, Int.reduceMul, wrap64, false_and, and_false, cond_true, cond_false, Bool.cond_true_left, Bool.cond_false_right, Int.reduceBNe, Int.reduceBEq, decide_true, decide_false, Int.cast_ofNat_Int, Nat.mul_one, eq_self, Bool.true_eq_false, Bool.not_eq_true, Bool.not_eq_false, deads, List.replicate, argsF, l3p, la, g2])) ?_
    rintro t1 H1 ⟨rfl, rfl⟩
    refine wp_cutM (fun t' H' => t' = slots3 l 0 i ∧ Ord1 H' 0 0 (i + 1) (i + 1) ((i + 1) * 90)) ?_ ?_
    · rw [wp_block]
      refine wp_mono (l3K_wp hN (by omega) hl (List.getElem?_eq_getElem hlt) (by omega) hD) ?_
      rintro e t2 H2 ⟨rfl, h2⟩
      exact ⟨rfl, h2⟩
    · rintro t2 H2 ⟨rfl, h2⟩
      refine sx_wp ?_
      unfold slots3
      simp +contextual -implicitDefEqProofs (maxSteps := 10000000) only [sx_seq, sxL_succ, lpQ_norm, lpQ_exit, lpQ_ret, loopQ_norm, loopQ_exit, loopQ_ret, sqQ_norm, sqQ_ret, sqQ_exit, sx_block, blkQ_norm, blkQ_exit, blkQ_ret, sx_cond, cdP_true, cdP_false, cdP_bool, sx_region, sx_draw, plainD, List.all_cons, List.all_nil, List.isEmpty_nil, List.isEmpty_cons, sxo_nil, sxo_cons, sxo_guard, gdS_bool, gdS_eff, gdS_tup, gdS_sel, gdS_seleff, sxK_def, wcall_some, effP_ret, effP_set, effP_none, effP_ite, wop_call, wop_cv, cvP_func, sx_ret, sx_exit, sx_skip, sx_clr, sx_fresh, stays, ↓selV_wt, ↓selV_wf, ↓impB_wt, ↓impB_wf, ↓selV_nor, ↓impB_nor, ↓selV_nt, ↓selV_nf, ↓impB_nt, ↓impB_nf, wantB_true, wantB_false, ↓selV_true, ↓selV_false, ↓selV_and, ↓impB_true, ↓impB_false, ↓impB_and, impB_triv, valOf_some, retH_some, ↓prim_pick, pickO_true, pickO_false, pickO_and, pickO_or, pickO_andr, pickO_orr, pickO_orrn, pickO_orn, pickO_bb, pickAnd_bool, pickOr_bool, ↓selV_nn, ↓impB_nn, Bool.and_assoc, Bool.or_assoc, doOp, ev_fr, ev_cst, put_none, put_fr, get, ins, del, dels, Nat.reduceLT, Nat.reduceEqDiff, ↓reduceIte, reduceCtorEq, ne_eq, not_false_eq_true, implies_true, framed_pureF, framed_fb, framed_N, framed_pure, wop_prim, prim, YLD, mkA, V.cells, List.getElem?_cons_zero, List.getElem?_cons_succ, List.set_cons_zero, List.set_cons_succ, Nat.zero_add, Nat.add_zero, Nat.reduceAdd, Nat.reduceSub, Nat.reduceMul, Nat.reduceLeDiff, Nat.not_lt_zero, List.map_cons, List.map_nil, List.cons_append, List.nil_append, loadA, cellsAt, nAg, packA, opt_bind_some, opt_map_some, opt_bind_none, opt_map_none, List.drop, List.take, List.head?, List.length_cons, List.length_nil, binA, unA, eqCells, eqCell, negB, fillA, sr_nil, sr_cons, sr_succ, sr_all, sr_len, storeA, Ob.with, indexedI, V.oneCell, intOf?, retQ_ret, retQ_norm, resA, resA1, fr_getD, packR, sealDepth, shut_bool, shut_int, Option.some.injEq, V.bool.injEq, V.int.injEq, Bool.not_true, Bool.not_false, true_and, and_true, and_self, Bool.and_true, Bool.and_false, Bool.true_and, Bool.false_and, Bool.or_true, Bool.or_false, Bool.true_or, Bool.false_or, Bool.false_eq_true, Int.reduceLT, Int.reduceLE, Int.reduceToNat, Int.reduceNeg, shut_plain, freeL_cons, freeL_nil, free_int, free_bool, free_agg, free_str, free_nils, free_tup, free_sl, true_implies, false_implies, Nat.sub_zero, Int.natCast_nonneg, Int.toNat_natCast, Nat.le_refl, not_true_eq_false, Int.reduceAdd, Int.reduceSub, Int.reduceMul, wrap64, false_and, and_false, cond_true, cond_false, Bool.cond_true_left, Bool.cond_false_right, Int.reduceBNe, Int.reduceBEq, decide_true, decide_false, Int.cast_ofNat_Int, Nat.mul_one, eq_self, Bool.true_eq_false, Bool.not_eq_true, Bool.not_eq_false, deads, List.replicate, argsF, l3q, w4]
      exact ⟨hlt, hi1, h2⟩
  · have e : i = M.length := by omega
    subst e
    have g2 : decide ((M.length : Int) < (M.length : Int)) = false := decide_eq_false (by omega)
    obtain ⟨on, a, c, sa, sc, sent, sent', out, out', S, T, O, U, R, R', C, D, q1, q2, q3⟩ := hD
    have D1 : PH 0 (Hc ++ deads 9) := ⟨_, _, _, _, _, _, _, _, _, _, _, _, _, _, _, _, D.keep (H' := Hc ++ deads 9) (fun o ho => List.getElem?_append_left ho), trivial⟩
    refine sx_wp ?_
    unfold slots3
    simp +contextual -implicitDefEqProofs (maxSteps := 10000000) only [sx_seq, sxL_succ, lpQ_norm, lpQ_exit, lpQ_ret, loopQ_norm, loopQ_exit, loopQ_ret, sqQ_norm, sqQ_ret, sqQ_exit, sx_block, blkQ_norm, blkQ_exit, blkQ_ret, sx_cond, cdP_true, cdP_false, cdP_bool, sx_region, sx_draw, plainD, List.all_cons, List.all_nil, List.isEmpty_nil, List.isEmpty_cons, sxo_nil, sxo_cons, sxo_guard, gdS_bool, gdS_eff, gdS_tup, gdS_sel, gdS_seleff, sxK_def, wcall_some, effP_ret, effP_set, effP_none, effP_ite, wop_call, wop_cv, cvP_func, sx_ret, sx_exit, sx_skip, sx_clr, sx_fresh, stays, ↓selV_wt, ↓selV_wf, ↓impB_wt, ↓impB_wf, ↓selV_nor, ↓impB_nor, ↓selV_nt, ↓selV_nf, ↓impB_nt, ↓impB_nf, wantB_true, wantB_false, ↓selV_true, ↓selV_false, ↓selV_and, ↓impB_true, ↓impB_false, ↓impB_and, impB_triv, valOf_some, retH_some, ↓prim_pick, pickO_true, pickO_false, pickO_and, pickO_or, pickO_andr, pickO_orr, pickO_orrn, pickO_orn, pickO_bb, pickAnd_bool, pickOr_bool, ↓selV_nn, ↓impB_nn, Bool.and_assoc, Bool.or_assoc, doOp, ev_fr, ev_cst, put_none, put_fr, get, ins, del, dels, Nat.reduceLT, Nat.reduceEqDiff, ↓reduceIte, reduceCtorEq, ne_eq, not_false_eq_true, implies_true, framed_pureF, framed_fb, framed_N, framed_pure, wop_prim, prim, YLD, mkA, V.cells, List.getElem?_cons_zero, List.getElem?_cons_succ, List.set_cons_zero, List.set_cons_succ, Nat.zero_add, Nat.add_zero, Nat.reduceAdd, Nat.reduceSub, Nat.reduceMul, Nat.reduceLeDiff, Nat.not_lt_zero, List.map_cons, List.map_nil, List.cons_append, List.nil_append, loadA, cellsAt, nAg, packA, opt_bind_some, opt_map_some, opt_bind_none, opt_map_none, List.drop, List.take, List.head?, List.length_cons, List.length_nil, binA, unA, eqCells, eqCell, negB, fillA, sr_nil, sr_cons, sr_succ, sr_all, sr_len, storeA, Ob.with, indexedI, V.oneCell, intOf?, retQ_ret, retQ_norm, resA, resA1, fr_getD, packR, sealDepth, shut_bool, shut_int, Option.some.injEq, V.bool.injEq, V.int.injEq, Bool.not_true, Bool.not_false, true_and, and_true, and_self, Bool.and_true, Bool.and_false, Bool.true_and, Bool.false_and, Bool.or_true, Bool.or_false, Bool.true_or, Bool.false_or, Bool.false_eq_true, Int.reduceLT, Int.reduceLE, Int.reduceToNat, Int.reduceNeg, shut_plain, freeL_cons, freeL_nil, free_int, free_bool, free_agg, free_str, free_nils, free_tup, free_sl, true_implies, false_implies, Nat.sub_zero, Int.natCast_nonneg, Int.toNat_natCast, Nat.le_refl, not_true_eq_false, Int.reduceAdd, Int.reduceSub, Int.reduceMul, wrap64, false_and, and_false, cond_true, cond_false, Bool.cond_true_left, Bool.cond_false_right, Int.reduceBNe, Int.reduceBEq, decide_true, decide_false, Int.cast_ofNat_Int, Nat.mul_one, eq_self, Bool.true_eq_false, Bool.not_eq_true, Bool.not_eq_false, deads, List.replicate, argsF, l3p, la, g2]
    exact D1
set_option maxHeartbeats 2000000 in
theorem l3T_wp {N n : Nat} (hN : 1500 ≤ N) (hn : 21 ≤ n) {H : Heap} (hP : PH 5 H) (fb : Nat) :
    wp ⟨pureOf am, callA am N n, N, fb⟩ l3T (fr 305 [(9, .ptr 0 1 0)]) H fun e t' H' => e = .ret ∧ t' = fr 305 [(4, .bool true)] := by
  obtain ⟨on, a, c, sa, sc, sent, sent', out, out', S, T, O, U, R, R', C, D, p1, p2, p3, p4⟩ := hP
  have c14 := @ord_right N n hN (by omega) _ _ _ _ _ _ _ _ _ _ _ _ _ _ _ _ _ _ D
  have c9 := @known_spec N n (by omega) (by omega)
  obtain ⟨L, W, Rw, LS, RS, LO, RO, hS, hB, hSr, hEl, hO, hBo, hE, hRs, hnd⟩ := D.duo.near.all
  obtain ⟨L', W', Rw', LS', RS', LO', RO', hS', hB', hSr', hEl', hO', hBo', hE', hRs', hnd'⟩ := D.duo.far.all
  have c15 := @waits_spec N n (by omega) _ _ _ _ _ _ hS
  have c15' := @waits_spec N n (by omega) _ _ _ _ _ _ hS'
  have e0 : L.length = 0 := by have := hE.sum; omega
  have e0' : L'.length = 0 := by have := hE'.sum; omega
  rw [e0] at c15
  rw [e0'] at c15'
  have hw := D.duo.ob
  have n1 : lenA S = some sent.length := by rw [hSr.len, hEl.1]
  have n2 : lenA T = some sent'.length := by rw [hSr'.len, hEl'.1]
  have n3 : lenA O = some sent'.length := by rw [hO.len, hBo.1, p2]
  have n4 : lenA U = some sent.length := by rw [hO'.len, hBo'.1, p1]
  obtain ⟨-, -, m1, -, -, -⟩ := hSr.shape
  obtain ⟨-, -, m2, -, -, -⟩ := hSr'.shape
  obtain ⟨-, -, m3, -, -, -⟩ := hO.shape
  obtain ⟨-, -, m4, -, -, -⟩ := hO'.shape
  have tt : tw 0 on a c S T O U = twoC a c on S T O U := rfl
  rw [tt] at hw
  unfold twoC at hw
  refine sx_wp ?_
  simp +contextual -implicitDefEqProofs (maxSteps := 10000000) only [sx_seq, sxL_succ, lpQ_norm, lpQ_exit, lpQ_ret, loopQ_norm, loopQ_exit, loopQ_ret, sqQ_norm, sqQ_ret, sqQ_exit, sx_block, blkQ_norm, blkQ_exit, blkQ_ret, sx_cond, cdP_true, cdP_false, cdP_bool, sx_region, sx_draw, plainD, List.all_cons, List.all_nil, List.isEmpty_nil, List.isEmpty_cons, sxo_nil, sxo_cons, sxo_guard, gdS_bool, gdS_eff, gdS_tup, gdS_sel, gdS_seleff, sxK_def, wcall_some, effP_ret, effP_set, effP_none, effP_ite, wop_call, wop_cv, cvP_func, sx_ret, sx_exit, sx_skip, sx_clr, sx_fresh, stays, ↓selV_wt, ↓selV_wf, ↓impB_wt, ↓impB_wf, ↓selV_nor, ↓impB_nor, ↓selV_nt, ↓selV_nf, ↓impB_nt, ↓impB_nf, wantB_true, wantB_false, ↓selV_true, ↓selV_false, ↓selV_and, ↓impB_true, ↓impB_false, ↓impB_and, impB_triv, valOf_some, retH_some, ↓prim_pick, pickO_true, pickO_false, pickO_and, pickO_or, pickO_andr, pickO_orr, pickO_orrn, pickO_orn, pickO_bb, pickAnd_bool, pickOr_bool, ↓selV_nn, ↓impB_nn, Bool.and_assoc, Bool.or_assoc, doOp, ev_fr, ev_cst, put_none, put_fr, get, ins, del, dels, Nat.reduceLT, Nat.reduceEqDiff, ↓reduceIte, reduceCtorEq, ne_eq, not_false_eq_true, implies_true, framed_pureF, framed_fb, framed_N, framed_pure, wop_prim, prim, YLD, mkA, V.cells, List.getElem?_cons_zero, List.getElem?_cons_succ, List.set_cons_zero, List.set_cons_succ, Nat.zero_add, Nat.add_zero, Nat.reduceAdd, Nat.reduceSub, Nat.reduceMul, Nat.reduceLeDiff, Nat.not_lt_zero, List.map_cons, List.map_nil, List.cons_append, List.nil_append, loadA, cellsAt, nAg, packA, opt_bind_some, opt_map_some, opt_bind_none, opt_map_none, List.drop, List.take, List.head?, List.length_cons, List.length_nil, binA, unA, eqCells, eqCell, negB, fillA, sr_nil, sr_cons, sr_succ, sr_all, sr_len, storeA, Ob.with, indexedI, V.oneCell, intOf?, retQ_ret, retQ_norm, resA, resA1, fr_getD, packR, sealDepth, shut_bool, shut_int, Option.some.injEq, V.bool.injEq, V.int.injEq, Bool.not_true, Bool.not_false, true_and, and_true, and_self, Bool.and_true, Bool.and_false, Bool.true_and, Bool.false_and, Bool.or_true, Bool.or_false, Bool.true_or, Bool.false_or, Bool.false_eq_true, Int.reduceLT, Int.reduceLE, Int.reduceToNat, Int.reduceNeg, shut_plain, freeL_cons, freeL_nil, free_int, free_bool, free_agg, free_str, free_nils, free_tup, free_sl, true_implies, false_implies, Nat.sub_zero, Int.natCast_nonneg, Int.toNat_natCast, Nat.le_refl, not_true_eq_false, Int.reduceAdd, Int.reduceSub, Int.reduceMul, wrap64, false_and, and_false, cond_true, cond_false, Bool.cond_true_left, Bool.cond_false_right, Int.reduceBNe, Int.reduceBEq, decide_true, decide_false, Int.cast_ofNat_Int, Nat.mul_one, eq_self, Bool.true_eq_false, Bool.not_eq_true, Bool.not_eq_false, deads, List.replicate, argsF, l3T, c14, c9, pm9, pm14, pm15, hw, isNil, n1, n2, n3, n4, c15, c15']
  simp only [beq_self_eq_true, Bool.and_self]
theorem ord_new (view : Int) : Ord1 [⟨1, .var (twoC 9 10 .nils .nils .nils .nils .nils)⟩, ⟨0, .dead⟩, ⟨0, .dead⟩, ⟨0, .dead⟩, ⟨0, .dead⟩, ⟨0, .dead⟩, ⟨0, .dead⟩, ⟨0, .dead⟩, ⟨0, .dead⟩, ⟨1, .var ((newS 0 1 view).cs .nils)⟩, ⟨1, .var ((newS 1 0 view).cs .nils)⟩] 0 0 0 0 0 := by
  have e : ∀ {H : Heap}, WRow H .nils [] [] := .inl ⟨rfl, rfl, rfl⟩
  have s : ∀ {H : Heap} {a : Nat} {s : Ses}, H[a]? = some ⟨1, .var (s.cs .nils)⟩ → SAt H a s [] .nils [] := fun h => ⟨h, e, fun c hc => (by cases hc), by simp⟩
  have b : Bys [] [] := ⟨rfl, fun i b l h => by simp at h⟩
  refine ⟨.nils, 9, 10, newS 0 1 view, newS 1 0 view, [], [], [], [], .nils, .nils, .nils, .nils, [9], [10], [], ⟨?_, .inl ⟨rfl, rfl⟩, fun c hc => (by cases hc), fun o ho => (by cases ho)⟩, Nat.le_refl _, Nat.le_refl _, Nat.le_refl _⟩
  exact ⟨rfl, ⟨[], .nils, [], [], [], [], [], s rfl, b, e, Els.nil, e, b, ⟨Int.le_refl 1, rfl, Int.le_refl 0, Nat.le_refl 0, rfl, by decide⟩, rfl, by decide⟩, ⟨[], .nils, [], [], [], [], [], s rfl, b, e, Els.nil, e, b, ⟨Int.le_refl 1, rfl, Int.le_refl 0, Nat.le_refl 0, rfl, by decide⟩, rfl, by decide⟩,
    by decide, by decide, by decide, rfl, rfl, rfl, rfl, rfl, ⟨[], rfl⟩, ⟨[], rfl⟩, ⟨Int.le_refl 0, by show (0 : Int) ≤ 2000; decide⟩, ⟨Int.le_refl 0, by show (0 : Int) ≤ 2000; decide⟩⟩
theorem am3_wp {N n : Nat} {args : List V} {h : Heap} {v : V} (ha : args.length = 2) (hfree : V.freeL args = true)
    (H : wp ⟨pureOf am, callA am N n, N, 0⟩ am3.body (fr am3.nt (argsF 0 args)) (deads am3.sites) (retQ am3.res fun x h' => V.shut (fun o => h'[o]?) sealDepth x = some v)) : callA am N (n + 1) 3 args h = some (v, h) :=
  call_auto at3 rfl ha (by decide) hfree H
set_option maxHeartbeats 4000000 in
theorem order_spec {N n : Nat} (hN : 1500 ≤ N) (hn : 25 ≤ n) (view : Int) (l : V) (M : List Mv) (hl : IsL l 4 (M.map Mv.cs)) (h : Heap) : callA am N n 3 [.int .i64 view, l] h = some (.bool true, h) := by
  obtain ⟨n, rfl⟩ : ∃ m, n = m + 1 := ⟨n - 1, by omega⟩
  have c9 := @known_spec N n (by omega) (by omega)
  have c8 := @may_spec N n (by omega) view
  have la := hl.len
  rw [List.length_map] at la
  have ln := hl.nstr
  have hfree : V.freeL [.int .i64 view, l] = true := by simp only [freeL_cons, freeL_nil, hl.free, free_int, Bool.and_self]
  refine am3_wp rfl hfree ?_
  cases hm : mayS 0 1 view with
  | false =>
    have c7 := @new_no N n (by omega) 0 1 view hm
    have c7' := @new_no N n (by omega) 1 0 view ((mayS_swap view).trans hm)
    refine sx_wp ?_
    simp +contextual -implicitDefEqProofs (maxSteps := 10000000) only [sx_seq, sxL_succ, lpQ_norm, lpQ_exit, lpQ_ret, loopQ_norm, loopQ_exit, loopQ_ret, sqQ_norm, sqQ_ret, sqQ_exit, sx_block, blkQ_norm, blkQ_exit, blkQ_ret, sx_cond, cdP_true, cdP_false, cdP_bool, sx_region, sx_draw, plainD, List.all_cons, List.all_nil, List.isEmpty_nil, List.isEmpty_cons, sxo_nil, sxo_cons, sxo_guard, gdS_bool, gdS_eff, gdS_tup, gdS_sel, gdS_seleff, sxK_def, wcall_some, effP_ret, effP_set, effP_none, effP_ite, wop_call, wop_cv, cvP_func, sx_ret, sx_exit, sx_skip, sx_clr, sx_fresh, stays, ↓selV_wt, ↓selV_wf, ↓impB_wt, ↓impB_wf, ↓selV_nor, ↓impB_nor, ↓selV_nt, ↓selV_nf, ↓impB_nt, ↓impB_nf, wantB_true, wantB_false, ↓selV_true, ↓selV_false, ↓selV_and, ↓impB_true, ↓impB_false, ↓impB_and, impB_triv, valOf_some, retH_some, ↓prim_pick, pickO_true, pickO_false, pickO_and, pickO_or, pickO_andr, pickO_orr, pickO_orrn, pickO_orn, pickO_bb, pickAnd_bool, pickOr_bool, ↓selV_nn, ↓impB_nn, Bool.and_assoc, Bool.or_assoc, doOp, ev_fr, ev_cst, put_none, put_fr, get, ins, del, dels, Nat.reduceLT, Nat.reduceEqDiff, ↓reduceIte, reduceCtorEq, ne_eq, not_false_eq_true, implies_true, framed_pureF, framed_fb, framed_N, framed_pure, wop_prim, prim, YLD, mkA, V.cells, List.getElem?_cons_zero, List.getElem?_cons_succ, List.set_cons_zero, List.set_cons_succ, Nat.zero_add, Nat.add_zero, Nat.reduceAdd, Nat.reduceSub, Nat.reduceMul, Nat.reduceLeDiff, Nat.not_lt_zero, List.map_cons, List.map_nil, List.cons_append, List.nil_append, loadA, cellsAt, nAg, packA, opt_bind_some, opt_map_some, opt_bind_none, opt_map_none, List.drop, List.take, List.head?, List.length_cons, List.length_nil, binA, unA, eqCells, eqCell, negB, fillA, sr_nil, sr_cons, sr_succ, sr_all, sr_len, storeA, Ob.with, indexedI, V.oneCell, intOf?, retQ_ret, retQ_norm, resA, resA1, fr_getD, packR, sealDepth, shut_bool, shut_int, Option.some.injEq, V.bool.injEq, V.int.injEq, Bool.not_true, Bool.not_false, true_and, and_true, and_self, Bool.and_true, Bool.and_false, Bool.true_and, Bool.false_and, Bool.or_true, Bool.or_false, Bool.true_or, Bool.false_or, Bool.false_eq_true, Int.reduceLT, Int.reduceLE, Int.reduceToNat, Int.reduceNeg, shut_plain, freeL_cons, freeL_nil, free_int, free_bool, free_agg, free_str, free_nils, free_tup, free_sl, true_implies, false_implies, Nat.sub_zero, Int.natCast_nonneg, Int.toNat_natCast, Nat.le_refl, not_true_eq_false, Int.reduceAdd, Int.reduceSub, Int.reduceMul, wrap64, false_and, and_false, cond_true, cond_false, Bool.cond_true_left, Bool.cond_false_right, Int.reduceBNe, Int.reduceBEq, decide_true, decide_false, Int.cast_ofNat_Int, Nat.mul_one, eq_self, Bool.true_eq_false, Bool.not_eq_true, Bool.not_eq_false, deads, List.replicate, argsF, am3, c7, c7', c8, hm, c9, pm9]
    rfl
  | true =>
    have c7 := @new_ok N n (by omega) 0 1 view hm
    have c7' := @new_ok N n (by omega) 1 0 view ((mayS_swap view).trans hm)
    by_cases h80 : M.length ≤ 80
    · have g1 : decide ((M.length : Int) > 80) = false := decide_eq_false (by omega)
      rw [am3_is, wp_assoc, wp_assoc, wp_assoc, wp_assoc]
      refine wp_cutM (fun t' H' => t' = fr 305 [(1, l), (9, .ptr 0 1 0)] ∧ H' = [⟨1, .var (twoC 9 10 .nils .nils .nils .nils .nils)⟩, ⟨0, .dead⟩, ⟨0, .dead⟩, ⟨0, .dead⟩, ⟨0, .dead⟩, ⟨0, .dead⟩, ⟨0, .dead⟩, ⟨0, .dead⟩, ⟨0, .dead⟩, ⟨1, .var ((newS 0 1 view).cs .nils)⟩, ⟨1, .var ((newS 1 0 view).cs .nils)⟩]) (sx_wp ?_) ?_
      · show sx _ _ (fr 305 [(0, .int .i64 view), (1, l)]) (deads 9) _
        simp +contextual -implicitDefEqProofs (maxSteps := 10000000) only [sx_seq, sxL_succ, lpQ_norm, lpQ_exit, lpQ_ret, loopQ_norm, loopQ_exit, loopQ_ret, sqQ_norm, sqQ_ret, sqQ_exit, sx_block, blkQ_norm, blkQ_exit, blkQ_ret, sx_cond, cdP_true, cdP_false, cdP_bool, sx_region, sx_draw, plainD, List.all_cons, List.all_nil, List.isEmpty_nil, List.isEmpty_cons, sxo_nil, sxo_cons, sxo_guard, gdS_bool, gdS_eff, gdS_tup, gdS_sel, gdS_seleff, sxK_def, wcall_some, effP_ret, effP_set, effP_none, effP_ite, wop_call, wop_cv, cvP_func, sx_ret, sx_exit, sx_skip, sx_clr, sx_fresh, stays, ↓selV_wt, ↓selV_wf, ↓impB_wt, ↓impB_wf, ↓selV_nor, ↓impB_nor, ↓selV_nt, ↓selV_nf, ↓impB_nt, ↓impB_nf, wantB_true, wantB_false, ↓selV_true, ↓selV_false, ↓selV_and, ↓impB_true, ↓impB_false, ↓impB_and, impB_triv, valOf_some, retH_some, ↓prim_pick, pickO_true, pickO_false, pickO_and, pickO_or, pickO_andr, pickO_orr, pickO_orrn, pickO_orn, pickO_bb, pickAnd_bool, pickOr_bool, ↓selV_nn, ↓impB_nn, Bool.and_assoc, Bool.or_assoc, doOp, ev_fr, ev_cst, put_none, put_fr, get, ins, del, dels, Nat.reduceLT, Nat.reduceEqDiff, ↓reduceIte, reduceCtorEq, ne_eq, not_false_eq_true, implies_true, framed_pureF, framed_fb, framed_N, framed_pure, wop_prim, prim, YLD, mkA, V.cells, List.getElem?_cons_zero, List.getElem?_cons_succ, List.set_cons_zero, List.set_cons_succ, Nat.zero_add, Nat.add_zero, Nat.reduceAdd, Nat.reduceSub, Nat.reduceMul, Nat.reduceLeDiff, Nat.not_lt_zero, List.map_cons, List.map_nil, List.cons_append, List.nil_append, loadA, cellsAt, nAg, packA, opt_bind_some, opt_map_some, opt_bind_none, opt_map_none, List.drop, List.take, List.head?, List.length_cons, List.length_nil, binA, unA, eqCells, eqCell, negB, fillA, sr_nil, sr_cons, sr_succ, sr_all, sr_len, storeA, Ob.with, indexedI, V.oneCell, intOf?, retQ_ret, retQ_norm, resA, resA1, fr_getD, packR, sealDepth, shut_bool, shut_int, Option.some.injEq, V.bool.injEq, V.int.injEq, Bool.not_true, Bool.not_false, true_and, and_true, and_self, Bool.and_true, Bool.and_false, Bool.true_and, Bool.false_and, Bool.or_true, Bool.or_false, Bool.true_or, Bool.false_or, Bool.false_eq_true, Int.reduceLT, Int.reduceLE, Int.reduceToNat, Int.reduceNeg, shut_plain, freeL_cons, freeL_nil, free_int, free_bool, free_agg, free_str, free_nils, free_tup, free_sl, true_implies, false_implies, Nat.sub_zero, Int.natCast_nonneg, Int.toNat_natCast, Nat.le_refl, not_true_eq_false, Int.reduceAdd, Int.reduceSub, Int.reduceMul, wrap64, false_and, and_false, cond_true, cond_false, Bool.cond_true_left, Bool.cond_false_right, Int.reduceBNe, Int.reduceBEq, decide_true, decide_false, Int.cast_ofNat_Int, Nat.mul_one, eq_self, Bool.true_eq_false, Bool.not_eq_true, Bool.not_eq_false, deads, List.replicate, argsF, l3Z, l3Z1, l3Z2, l3Z3, l3Z4, c7, c7', c8, hm, la, g1]
        rfl
      rintro t1 H1 ⟨rfl, rfl⟩
      refine wp_cutM (fun t' H' => t' = fr 305 [(9, .ptr 0 1 0)] ∧ PH 0 H') (l3X1_wp hN (by omega) hl h80 (ord_new view) 0) ?_
      rintro t2 H2 ⟨rfl, h2⟩
      refine wp_cutM (fun t' H' => t' = fr 305 [(9, .ptr 0 1 0)] ∧ PH 4 H') (l3X2_wp hN (by omega) h2 0) ?_
      rintro t3 H3 ⟨rfl, on, a, c, sa, sc, sent, sent', out, out', S, T, O, U, R, R', C, D, hP⟩
      refine l3H_wp hN (by omega) D 0 _ _ fun H' hA => ?_
      refine wp_mono (l3T_wp hN (by omega) (ph_near (j := 4) (by omega) hP hA) 0) ?_
      rintro e t' H4 ⟨rfl, rfl⟩
      exact rfl
    · have g1 : decide ((M.length : Int) > 80) = true := decide_eq_true (by omega)
      refine sx_wp ?_
      simp +contextual -implicitDefEqProofs (maxSteps := 10000000) only [sx_seq, sxL_succ, lpQ_norm, lpQ_exit, lpQ_ret, loopQ_norm, loopQ_exit, loopQ_ret, sqQ_norm, sqQ_ret, sqQ_exit, sx_block, blkQ_norm, blkQ_exit, blkQ_ret, sx_cond, cdP_true, cdP_false, cdP_bool, sx_region, sx_draw, plainD, List.all_cons, List.all_nil, List.isEmpty_nil, List.isEmpty_cons, sxo_nil, sxo_cons, sxo_guard, gdS_bool, gdS_eff, gdS_tup, gdS_sel, gdS_seleff, sxK_def, wcall_some, effP_ret, effP_set, effP_none, effP_ite, wop_call, wop_cv, cvP_func, sx_ret, sx_exit, sx_skip, sx_clr, sx_fresh, stays, ↓selV_wt, ↓selV_wf, ↓impB_wt, ↓impB_wf, ↓selV_nor, ↓impB_nor, ↓selV_nt, ↓selV_nf, ↓impB_nt, ↓impB_nf, wantB_true, wantB_false, ↓selV_true, ↓selV_false, ↓selV_and, ↓impB_true, ↓impB_false, ↓impB_and, impB_triv, valOf_some, retH_some, ↓prim_pick, pickO_true, pickO_false, pickO_and, pickO_or, pickO_andr, pickO_orr, pickO_orrn, pickO_orn, pickO_bb, pickAnd_bool, pickOr_bool, ↓selV_nn, ↓impB_nn, Bool.and_assoc, Bool.or_assoc, doOp, ev_fr, ev_cst, put_none, put_fr, get, ins, del, dels, Nat.reduceLT, Nat.reduceEqDiff, ↓reduceIte, reduceCtorEq, ne_eq, not_false_eq_true, implies_true, framed_pureF, framed_fb, framed_N, framed_pure, wop_prim, prim, YLD, mkA, V.cells, List.getElem?_cons_zero, List.getElem?_cons_succ, List.set_cons_zero, List.set_cons_succ, Nat.zero_add, Nat.add_zero, Nat.reduceAdd, Nat.reduceSub, Nat.reduceMul, Nat.reduceLeDiff, Nat.not_lt_zero, List.map_cons, List.map_nil, List.cons_append, List.nil_append, loadA, cellsAt, nAg, packA, opt_bind_some, opt_map_some, opt_bind_none, opt_map_none, List.drop, List.take, List.head?, List.length_cons, List.length_nil, binA, unA, eqCells, eqCell, negB, fillA, sr_nil, sr_cons, sr_succ, sr_all, sr_len, storeA, Ob.with, indexedI, V.oneCell, intOf?, retQ_ret, retQ_norm, resA, resA1, fr_getD, packR, sealDepth, shut_bool, shut_int, Option.some.injEq, V.bool.injEq, V.int.injEq, Bool.not_true, Bool.not_false, true_and, and_true, and_self, Bool.and_true, Bool.and_false, Bool.true_and, Bool.false_and, Bool.or_true, Bool.or_false, Bool.true_or, Bool.false_or, Bool.false_eq_true, Int.reduceLT, Int.reduceLE, Int.reduceToNat, Int.reduceNeg, shut_plain, freeL_cons, freeL_nil, free_int, free_bool, free_agg, free_str, free_nils, free_tup, free_sl, true_implies, false_implies, Nat.sub_zero, Int.natCast_nonneg, Int.toNat_natCast, Nat.le_refl, not_true_eq_false, Int.reduceAdd, Int.reduceSub, Int.reduceMul, wrap64, false_and, and_false, cond_true, cond_false, Bool.cond_true_left, Bool.cond_false_right, Int.reduceBNe, Int.reduceBEq, decide_true, decide_false, Int.cast_ofNat_Int, Nat.mul_one, eq_self, Bool.true_eq_false, Bool.not_eq_true, Bool.not_eq_false, deads, List.replicate, argsF, am3, c7, c7', c8, hm, c9, pm9, la, g1]
      rfl
theorem runsSessionOrder {u1 u2 : V} (h1 : InP false (.int .i64) u1) (h2 : InP false mvsSh u2) : ∃ N n, callA am N n 3 [u1, u2] [] = some (.bool true, []) := by
  obtain ⟨M, hM⟩ := mvs_in h2
  obtain ⟨v, hv, -⟩ := in_i64 h1
  obtain rfl : u1 = .int .i64 v := by simpa using hv
  exact ⟨1500, 30, order_spec (by omega) (by omega) v u2 M hM []⟩
end Go.Am.T

