/- The abstract machine does what the model does: every operation that is no call, in one theorem. -/
import Derived.Test.YtifbkofianklaaaAm14
set_option linter.unusedVariables false
set_option linter.unusedSimpArgs false
namespace Go.Am
variable {P : Program}

theorem EffPrim.ofSkip {s : Sem Unit} {g : G} {h : Heap} {w : World} {e : Eff} (q : EffGoes P (do s; pure undef) g h w e) : EffPrim P (do s; pure .skip) g h w e := by
  have key : ∀ v h', Goes P (do s; pure undef) g h w v h' → PrimGoes P (do s; pure .skip) g h w v h' := by
    rintro v h' ⟨g', w', x, r, rest⟩
    cases hs : s.run P w with
    | ok u w2 =>
      simp only [Sem.run_bind, hs, Result.andThen_ok, Sem.run_pure, Result.ok.injEq] at r
      obtain ⟨rfl, rfl⟩ := r
      exact ⟨g', w2, undef, .skip, by simp [hs], .inr ⟨rfl, rfl⟩, rest⟩
    | halt x w2 => simp [hs, Result.andThen] at r
  cases e with
  | ret v => exact key _ _ q
  | set o x v => exact key _ _ q

theorem mm_tr {g : G} {h : Heap} {w : World} {ρ : Opd → V} {ρ' : Operand → Value} (hρ : OpdRel g w ρ ρ') (s : Sim g h w) {fb : Nat} {mx : Bool} {x : Operand} {xs : List Operand} {ats : Array TypeId} {ty : TypeId} {ao : AOp}
    (ht : (trOpds (x :: xs)).map (AOp.minmax mx) = some ao) {eff : Eff} (he : prim fb ρ (fun o => h[o]?) ao = some eff) :
    match eff with | .ret v => Goes P (mmB mx ats ty ((List.toArray (x :: xs)).map ρ')) g h w v h | .set _ _ _ => False := by
  simp only [Option.map_eq_some_iff] at ht
  obtain ⟨ys, hys, rfl⟩ := ht
  obtain ⟨hl, hr⟩ := trOpds_rel hρ hys
  cases ys with
  | nil => simp at hl
  | cons y ys =>
    simp only [prim, List.map_cons, Option.map_eq_some_iff] at he
    obtain ⟨v, hv, rfl⟩ := he
    obtain ⟨A, hA, ha⟩ := hr 0 (ρ y) (by simp)
    simp at hA
    subst hA
    have := goes_mm (P := P) s (ats := ats) (ty := ty) (L := xs.map ρ') ha (by simpa using hl) (fun i c hi => by simpa using hr (i + 1) c (by simpa using hi)) hv
    simpa using this

theorem sim_builtin {g : G} {h : Heap} {w : World} {ρ : Opd → V} {ρ' : Operand → Value} (hρ : OpdRel g w ρ ρ') (s : Sim g h w) {fb site : Nat} {b : Builtin} {args : Array Operand} {argTypes : Array TypeId} {ty : TypeId} {cs : Array Bool} {ao : AOp}
    (ht : trBuiltin P site b args.toList argTypes.toList = some ao) {eff : Eff} (he : prim fb ρ (fun o => h[o]?) ao = some eff) : EffPrim P (builtin b argTypes ty cs (args.map ρ')) g h w eff := by
  obtain ⟨args⟩ := args
  obtain ⟨argTypes⟩ := argTypes
  simp only at ht
  unfold trBuiltin at ht
  split at ht
  · rename_i x t
    have hm : (List.toArray [x]).map ρ' = #[ρ' x] := by simp
    rw [hm]
    split at ht
    · rename_i e x' hu hx
      cases ht
      simp only [prim] at he
      have hr := hρ _ _ hx
      have hns : ∀ b, ρ x' ≠ .str b := fun b hb => by rw [hb] at he; cases he
      have he' : (lenA (ρ x')).map (fun n : Nat => Eff.ret (.int .i64 (n : Int))) = some eff := by
        generalize ρ x' = v at he hns
        cases v <;> first | exact he | exact absurd rfl (hns _)
      simp only [Option.map_eq_some_iff] at he'
      obtain ⟨n, hn, rfl⟩ := he'
      exact EffPrim.of (P := P) (e := .ret _) (goes_lenS (tt := ty) s hu hr hns hn)
    · rename_i x' hu hx
      cases ht
      simp only [prim] at he
      have hr := hρ _ _ hx
      split at he
      · rename_i b hb
        cases he
        rw [hb] at hr
        exact EffPrim.of (P := P) (e := .ret _) (goes_lenStr (tt := ty) s hu hr)
      · cases he
    · rename_i n e hu
      cases ht
      simp only [prim, Option.some.injEq] at he
      subst he
      exact EffPrim.of (P := P) (e := .ret _) (goes_lenK (tt := ty) s (.inl hu) _)
    · rename_i t' hu
      split at ht
      · rename_i n e hu'
        cases ht
        simp only [prim, Option.some.injEq] at he
        subst he
        exact EffPrim.of (P := P) (e := .ret _) (goes_lenK (tt := ty) s (.inr ⟨_, hu, hu'⟩) _)
      · cases ht
    · cases ht
  · rename_i x y t u
    have hm : (List.toArray [x, y]).map ρ' = #[ρ' x, ρ' y] := by simp
    rw [hm]
    have key : ∀ {e : TypeId} {x' y' : Opd}, P.underlying t = some (.slice e) → ((∃ e', P.underlying u = some (.slice e')) ∨ P.underlying u = some .string) → trOpd x = some x' → trOpd y = some y' →
        (elemInfo P e).map (fun (s, b, _) => AOp.append site s b x' y') = some ao → EffPrim P (builtin .append (List.toArray [t, u]) ty cs #[ρ' x, ρ' y]) g h w eff := by
      intro e x' y' hu hu' hx hy hq
      simp only [Option.map_eq_some_iff] at hq
      obtain ⟨⟨sz, by', z⟩, hei, rfl⟩ := hq
      obtain ⟨i, zv, ok, -⟩ := elem_ok hu hei
      simp only [prim] at he
      exact EffPrim.of (P := P) (goes_append (tt := ty) s ok hu' (hρ _ _ hx) (hρ _ _ hy) he)
    split at ht
    · rename_i e e' x' y' hu hu' hx hy; exact key hu (.inl ⟨_, hu'⟩) hx hy ht
    · rename_i e x' y' hu hu' hx hy; exact key hu (.inr hu') hx hy ht
    · cases ht
  · rename_i x y t u
    have hm : (List.toArray [x, y]).map ρ' = #[ρ' x, ρ' y] := by simp
    rw [hm]
    split at ht
    · rename_i e x' y' hu hx hy
      simp only [Option.map_eq_some_iff] at ht
      obtain ⟨sz, hsz, rfl⟩ := ht
      simp only [prim] at he
      exact EffPrim.of (P := P) (goes_copy (tt := ty) s hu hsz (hρ _ _ hx) (hρ _ _ hy) he)
    · cases ht
  · rename_i x t
    have hm : (List.toArray [x]).map ρ' = #[ρ' x] := by simp
    rw [hm]
    split at ht
    · rename_i e x' hu hx
      split at ht
      case h_2 => cases ht
      rename_i sz by' z hei
      split at ht
      case isFalse => cases ht
      rename_i h1
      cases ht
      obtain ⟨i, zv, ok, hsz, -, hz, hzl, -⟩ := elem_ok hu hei
      simp only [prim] at he
      exact EffPrim.of (P := P) (goes_clear (tt := ty) s hu hsz hz hzl h1 (hρ _ _ hx) he)
    · cases ht
  · rename_i ats x xs
    have := mm_tr (P := P) hρ s (mx := false) (ats := argTypes.toArray) (ty := ty) ht he
    cases eff with
    | ret v => exact EffPrim.of (P := P) (e := .ret _) this
    | set _ _ _ => exact this.elim
  · rename_i ats x xs
    have := mm_tr (P := P) hρ s (mx := true) (ats := argTypes.toArray) (ty := ty) ht he
    cases eff with
    | ret v => exact EffPrim.of (P := P) (e := .ret _) this
    | set _ _ _ => exact this.elim
  · cases ht

set_option maxHeartbeats 1600000 in
theorem sim_prim {g : G} {h : Heap} {w : World} {ρ : Opd → V} {ρ' : Operand → Value} (hρ : OpdRel g w ρ ρ') (hc : ∀ v, ρ' (.const v) = v) (s : Sim g h w) {fb site : Nat} {o : Oper} {ao : AOp}
    (ht : trOp P site o.op = some ao) {eff : Eff} (he : prim fb ρ (fun o => h[o]?) ao = some eff) : EffPrim P (execOp ρ' o) g h w eff := by
  obtain ⟨dst, op, ty, pos, after, guard⟩ := o
  simp only at ht
  cases op <;> simp only [trOp] at ht
  case move x =>
    simp only [Option.map_eq_some_iff] at ht
    obtain ⟨x', hx, rfl⟩ := ht
    simp only [prim, Option.some.injEq] at he
    subst he
    exact ⟨g, w, ρ' x, .value (ρ' x), by simp [execOp], .inl rfl, s, Ext.refl _ _ _, hρ _ _ hx⟩
  case assign x =>
    simp only [Option.map_eq_some_iff] at ht
    obtain ⟨x', hx, rfl⟩ := ht
    simp only [prim, Option.some.injEq] at he
    subst he
    exact ⟨g, w, ρ' x, .value (ρ' x), by simp [execOp], .inl rfl, s, Ext.refl _ _ _, hρ _ _ hx⟩
  case pick c a b =>
    split at ht
    · rename_i c' a' b' hc' ha hb
      cases ht
      simp only [prim] at he
      split at he
      · rename_i t hct
        cases he
        have hr := hρ _ _ hc'
        rw [hct] at hr
        generalize hX : ρ' c = X at hr
        cases hr
        cases t
        · exact ⟨g, w, ρ' b, .value (ρ' b), by simp [execOp, hX, asBool], .inl rfl, s, Ext.refl _ _ _, hρ _ _ hb⟩
        · exact ⟨g, w, ρ' a, .value (ρ' a), by simp [execOp, hX, asBool], .inl rfl, s, Ext.refl _ _ _, hρ _ _ ha⟩
      · cases he
    · cases ht
  case alloc e =>
    simp only [Option.map_eq_some_iff] at ht
    obtain ⟨z, hz, rfl⟩ := ht
    simp only [prim] at he
    exact EffPrim.of (P := P) (goes_alloc s hz he)
  case box e x =>
    simp only [Option.map_eq_some_iff] at ht
    obtain ⟨x', hx, rfl⟩ := ht
    simp only [prim] at he
    have hr := hρ _ _ hx
    have hs : (ρ x').solid = true := by
      generalize ρ x' = v at he
      cases v <;> first | rfl | simp at he
    have he' : mkA (fun o => h[o]?) (fb + site) (.var (ρ x').cells) (fun v => .ptr (fb + site) v 0) = some eff := by
      generalize ρ x' = v at he hs
      cases v <;> first | exact he | simp [V.solid] at hs
    exact EffPrim.of (P := P) (goes_box s hr hs he')
  case build t parts =>
    split at ht
    · rename_i z pl hz hpl
      simp only [Option.map_eq_some_iff] at ht
      obtain ⟨ps, hps, rfl⟩ := ht
      simp only [prim, Option.map_eq_some_iff] at he
      obtain ⟨cs, hf, rfl⟩ := he
      have hp : Parts g w pl (ps.map fun (o, n, x) => (o, n, ρ x)) (parts.map fun (i, x) => (i, ρ' x)).toList := by
        have := trParts_rel hρ hps
        simpa using this
      have q : Goes P (Instr.build t (parts.map fun (i, x) => (i, ρ' x))) g h w (.agg cs) h := goes_build s hz hpl hp hf
      exact EffPrim.of (P := P) (e := .ret _) q
    · cases ht
  case buildSlice t len parts =>
    split at ht
    · rename_i e hu
      split at ht
      · rename_i sz by' z hei
        split at ht
        · rename_i hroom
          split at ht
          · simp only [Option.map_eq_some_iff] at ht
            obtain ⟨ps, hps, rfl⟩ := ht
            simp only [prim] at he
            split at he
            · rename_i cs hf
              obtain ⟨i, zv, ok, hsz, hby, hzo, hzl, -⟩ := elem_ok hu hei
              have hp : Parts g w (fun i => some (i * sz, sz)) (ps.map fun (o, n, x) => (o, n, ρ x)) (parts.map fun (i, x) => (i, ρ' x)).toList := by
                have := trParts_rel hρ hps
                simpa using this
              have hr2 : len * sz ≤ 2 ^ 24 := by omega
              have q := goes_bnew (m := parts.map fun (i, x) => (i, ρ' x)) s hu hsz hzo hzl hr2 rfl hp hf he
              exact EffPrim.of (P := P) q
            · cases he
          simp only [Option.map_eq_some_iff] at ht
          obtain ⟨ps, hps, rfl⟩ := ht
          simp only [prim] at he
          split at he
          · rename_i cs hf
            split at he
            · rename_i h1
              cases he
              obtain ⟨i, zv, ok, hsz, hby, hzo, hzl, -⟩ := elem_ok hu hei
              have hp : Parts g w (fun i => some (i * sz, sz)) (ps.map fun (o, n, x) => (o, n, ρ x)) (parts.map fun (i, x) => (i, ρ' x)).toList := by
                have := trParts_rel hρ hps
                simpa using this
              have hr2 : len * sz ≤ 2 ^ 24 := by omega
              have q := goes_bslice (m := parts.map fun (i, x) => (i, ρ' x)) s hu hsz hzo hzl hr2 rfl hp hf h1
              exact EffPrim.of (P := P) (e := .ret _) q
            · cases he
          · cases he
        · cases ht
      · cases ht
    · cases ht
  case load t a =>
    split at ht
    · rename_i ag a' hag ha
      cases ht
      simp only [prim, Option.bind_eq_some_iff, Option.map_eq_some_iff] at he
      obtain ⟨cs, hl, v, hv, rfl⟩ := he
      exact EffPrim.of (P := P) (e := .ret _) (goes_load s hag (hρ _ _ ha) hl hv)
    · cases ht
  case store t a x =>
    split at ht
    · rename_i n a' x' hn ha hx
      cases ht
      simp only [prim] at he
      split at he
      · rename_i o ver off hp
        split at he
        · rename_i hlen
          split at he
          · rename_i hall
            have hr := hρ _ _ ha
            rw [hp] at hr
            exact EffPrim.ofSkip (P := P) (goes_store s hn hr (hρ _ _ hx) hlen hall he)
          · cases he
        · cases he
      · cases he
    · cases ht
  case nilCheck x =>
    simp only [Option.map_eq_some_iff] at ht
    obtain ⟨x', hx, rfl⟩ := ht
    simp only [prim] at he
    have hr := hρ _ _ hx
    generalize hX : ρ' x = X at hr
    split at he
    · rename_i o v f hv
      cases he
      rw [hv] at hr
      have hr' := hr
      cases hr
      exact ⟨g, w, _, .value _, by simp [execOp, hX], .inl rfl, s, Ext.refl _ _ _, hr'⟩
    · rename_i c f hv
      cases he
      rw [hv] at hr
      have hr' := hr
      cases hr
      exact ⟨g, w, _, .value _, by simp [execOp, hX], .inl rfl, s, Ext.refl _ _ _, hr'⟩
    · rename_i f a b hv
      cases he
      rw [hv] at hr
      have hr' := hr
      cases hr
      exact ⟨g, w, _, .value _, by simp [execOp, hX], .inl rfl, s, Ext.refl _ _ _, hr'⟩
    · cases he
  case binOp op t x y yt =>
    exact EffPrim.of (P := P) (sim_bin hρ hc s ht he)
  case unOp op t x =>
    simp only [Option.map_eq_some_iff] at ht
    obtain ⟨x', hx, rfl⟩ := ht
    simp only [prim, Option.map_eq_some_iff] at he
    obtain ⟨v, hv, rfl⟩ := he
    exact EffPrim.of (P := P) (e := .ret _) (goes_un s (hρ _ _ hx) hv)
  case convert src dst x =>
    split at ht
    · rename_i k0 k x' hs hd hx
      cases ht
      simp only [prim] at he
      split at he
      · rename_i k1 n hv
        cases he
        have hr := hρ _ _ hx
        rw [hv] at hr
        generalize hX : ρ' x = X at hr
        cases hr
        have := EffPrim.of (P := P) (e := .ret _) (goes_cint (k' := k1) (n := n) s ⟨_, hs⟩ hd)
        simpa only [execOp, hX] using this
      · cases he
    · rename_i x' hs hd hx
      cases ht
      simp only [prim] at he
      split at he
      · rename_i l hv
        cases he
        have hr := hρ _ _ hx
        rw [hv] at hr
        generalize hX : ρ' x = X at hr
        have hr' := hr
        cases hr
        have : Goes P (convert src dst (.string ⟨⟨l⟩⟩)) g h w (.str l) h := .still s (by simp [convert, run_underlying hs, run_underlying hd]) hr'
        have := EffPrim.of (P := P) (e := .ret _) this
        simpa only [execOp, hX] using this
      · cases he
    · rename_i e x' hs hd hx
      split at ht
      case isFalse => cases ht
      rename_i hb
      cases ht
      simp only [prim] at he
      split at he
      · cases he
      rename_i hns
      simp only [Option.bind_eq_some_iff, Option.map_eq_some_iff] at he
      obtain ⟨n, hn, cs, hf, l, hl, rfl⟩ := he
      have q := goes_b2s (P := P) s hs (isByte_spec hb) hd (hρ _ _ hx) hn hf hns hl
      exact EffPrim.of (P := P) (e := .ret _) q
    · rename_i e x' hs hd hx
      split at ht
      case isFalse => cases ht
      rename_i hb
      cases ht
      simp only [prim] at he
      split at he
      · rename_i b hv
        have hr := hρ _ _ hx
        rw [hv] at hr
        have q := goes_s2b (P := P) s hs hd (isByte_spec hb) hr he
        exact EffPrim.of (P := P) q
      · cases he
    · rename_i e e' x' hs hd hx
      split at ht
      case isFalse => cases ht
      rename_i heq
      subst heq
      split at ht
      case isFalse => cases ht
      rename_i hb
      cases ht
      simp only [prim] at he
      split at he
      · rename_i o ver off len sz cap hv
        split at he
        · rename_i all hc
          cases he
          have hr := hρ _ _ hx
          rw [hv] at hr
          have q := goes_mark (P := P) s hs (isByte_spec hb) hr hc
          exact EffPrim.of (P := P) (e := .ret _) q
        · cases he
      · cases he
    · cases ht
  case makeInterface t x =>
    split at ht
    · cases ht
    · rename_i d x' hnd hu hx
      cases ht
      simp only [prim] at he
      have hr := hρ _ _ hx
      have he' : eff = .ret (.iface t (ρ x')) := by
        generalize ρ x' = v at he
        cases v <;> first | (cases he; done) | (simp at he; exact he.symm)
      subst he'
      refine EffPrim.of (P := P) (e := .ret _) (.still s ?_ (.iface t _ _ hr))
      cases d <;> first | exact absurd rfl (hnd _) | simp [Instr.makeInterface, run_underlying hu]
    · cases ht
  case makeFunc fn xs ys =>
    cases fn <;> simp only [reduceCtorEq] at ht
    rename_i f
    split at ht
    · rename_i xs' ys' hx hy
      cases ht
      simp only [prim, Option.some.injEq] at he
      subst he
      obtain ⟨h1, h2⟩ := trOpds_rel hρ hx
      obtain ⟨h3, h4⟩ := trOpds_rel hρ hy
      refine EffPrim.of (P := P) (e := .ret _) (.still s (x := .func (.func f) (xs.map ρ') (ys.map ρ')) (by simp [Instr.makeFunc]) ?_)
      obtain ⟨k1, k2⟩ := VRel_list (g := g) (w := w) (xs := xs.map ρ') (cs := xs'.map ρ) (by simp; simpa using h1) (fun i c hi => by simpa using h2 i c hi)
      obtain ⟨k3, k4⟩ := VRel_list (g := g) (w := w) (xs := ys.map ρ') (cs := ys'.map ρ) (by simp; simpa using h3) (fun i c hi => by simpa using h4 i c hi)
      exact .func f _ _ _ _ k1 k3 k2 k4
    · cases ht
  case makeSlice t l c =>
    split at ht
    · rename_i e l' c' hu hl hc'
      simp only [Option.map_eq_some_iff] at ht
      obtain ⟨⟨sz, by', z⟩, hei, rfl⟩ := ht
      obtain ⟨i, zv, ok, hsz, hby, hzo, hzl, -⟩ := elem_ok hu hei
      simp only [prim] at he
      have hrl := hρ _ _ hl
      have hrc := hρ _ _ hc'
      split at he
      · rename_i kl ln kc cn e1 e2
        rw [e1] at hrl
        rw [e2] at hrc
        generalize hXl : ρ' l = Xl at hrl
        generalize hXc : ρ' c = Xc at hrc
        cases hrl
        cases hrc
        split at he
        case isFalse => cases he
        rename_i a1
        split at he
        case isFalse => cases he
        rename_i a2
        split at he
        case isFalse => cases he
        rename_i a3
        split at he
        case isFalse => cases he
        rename_i a4
        have := EffPrim.of (P := P) (goes_mkslice (kl := kl) (kc := kc) s hu hsz hby hzo hzl a1 a2 a3 a4 he)
        simpa only [execOp, hXl, hXc] using this
      · cases he
    · cases ht
  case slice t x lo hi mx =>
    split at ht
    · rename_i n e x' lo' hi' mx' hu hx hlo hhi hmx
      simp only [Option.map_eq_some_iff] at ht
      obtain ⟨sz, hsz, rfl⟩ := ht
      simp only [prim] at he
      split at he
      · rename_i o ver off hv
        split at he
        · rename_i cs hcs
          simp only [Option.map_eq_some_iff] at he
          obtain ⟨⟨l, k, m⟩, hb, rfl⟩ := he
          have hr := hρ _ _ hx
          rw [hv] at hr
          exact EffPrim.of (P := P) (e := .ret _) (goes_slA s hu hsz hr ⟨cs, hcs⟩ (trOpt_rel hρ hlo) (trOpt_rel hρ hhi) (trOpt_rel hρ hmx) hb)
        · cases he
      · rename_i cs off hv
        simp only [Option.bind_eq_some_iff] at he
        obtain ⟨⟨l, k, m⟩, hb, he⟩ := he
        simp only at he
        split at he
        case isFalse => cases he
        rename_i hle
        split at he
        case isFalse => cases he
        rename_i hone
        cases he
        have hr := hρ _ _ hx
        rw [hv] at hr
        exact EffPrim.of (P := P) (e := .ret _) (goes_slAi s hu hsz hr (trOpt_rel hρ hlo) (trOpt_rel hρ hhi) (trOpt_rel hρ hmx) hb hle hone)
      · cases he
    · rename_i e x' lo' hi' mx' hu hx hlo hhi hmx
      simp only [Option.map_eq_some_iff] at ht
      obtain ⟨⟨sz, by', z⟩, hei, rfl⟩ := ht
      obtain ⟨i, zv, ok, hsz, hby, hzo, hzl, hpos⟩ := elem_ok hu hei
      simp only [prim, Option.map_eq_some_iff] at he
      obtain ⟨v, hv, rfl⟩ := he
      exact EffPrim.of (P := P) (e := .ret _) (goes_slS s hu hsz hpos (hρ _ _ hx) (trOpt_rel hρ hlo) (trOpt_rel hρ hhi) (trOpt_rel hρ hmx) hv)
    · rename_i x' lo' hi' hu hx hlo hhi hmx
      cases ht
      simp only [prim] at he
      split at he
      · rename_i b hv
        simp only [Option.map_eq_some_iff] at he
        obtain ⟨⟨l, k, m⟩, hb, rfl⟩ := he
        have hr := hρ _ _ hx
        rw [hv] at hr
        have hmn : mx = none := by
          cases mx with
          | none => rfl
          | some v => simp [trOpt] at hmx
        subst hmn
        exact EffPrim.of (P := P) (e := .ret _) (goes_slStr s hu hr (trOpt_rel hρ hlo) (trOpt_rel hρ hhi) hb)
      · cases he
    · cases ht
  case fieldAddr t x i =>
    split at ht
    · rename_i fs x' hu hx
      split at ht
      · rename_i f hf
        split at ht
        · rename_i n hn
          split at ht
          · cases ht
          rename_i hn0
          cases ht
          simp only [prim] at he
          have hr := hρ _ _ hx
          generalize ρ x' = v at he hr
          cases v <;> simp only [reduceCtorEq, Option.some.injEq] at he
          · subst he; exact EffPrim.of (P := P) (e := .ret _) (goes_faddr s hu hf hn hn0 hr rfl)
          · subst he; exact EffPrim.of (P := P) (e := .ret _) (goes_faddr s hu hf hn hn0 hr rfl)
        · cases ht
      · cases ht
    · cases ht
  case field t x i =>
    split at ht
    · rename_i fs x' hu hx
      split at ht
      · rename_i f hf
        simp only [Option.map_eq_some_iff] at ht
        obtain ⟨ag, hag, rfl⟩ := ht
        simp only [prim] at he
        split at he
        · rename_i cs hv
          split at he
          · rename_i hle
            simp only [Option.map_eq_some_iff] at he
            obtain ⟨v, hv', rfl⟩ := he
            have hr := hρ _ _ hx
            rw [hv] at hr
            exact EffPrim.of (P := P) (e := .ret _) (goes_field s hu hf hag hr hle hv')
          · cases he
        · cases he
      · cases ht
    · cases ht
  case indexAddr t x i =>
    split at ht
    · rename_i n e x' i' hu hx hi
      simp only [Option.map_eq_some_iff] at ht
      obtain ⟨sz, hsz, rfl⟩ := ht
      simp only [prim, Option.bind_eq_some_iff] at he
      obtain ⟨j, hj, he⟩ := he
      have hr := hρ _ _ hx
      generalize ρ x' = v at he hr
      cases v <;> simp only [reduceCtorEq, Option.some.injEq] at he
      · subst he; exact EffPrim.of (P := P) (e := .ret _) (goes_iaddrA s hu hsz hr (hρ _ _ hi) hj rfl)
      · subst he; exact EffPrim.of (P := P) (e := .ret _) (goes_iaddrA s hu hsz hr (hρ _ _ hi) hj rfl)
    · rename_i e x' i' hu hx hi
      simp only [Option.map_eq_some_iff] at ht
      obtain ⟨sz, hsz, rfl⟩ := ht
      simp only [prim] at he
      exact EffPrim.of (P := P) (goes_iaddrS s hu hsz (hρ _ _ hx) (hρ _ _ hi) he)
    · cases ht
  case index t x i =>
    split at ht
    · rename_i n e x' i' hu hx hi
      split at ht
      · rename_i sz ag hsz hag
        cases ht
        simp only [prim, Option.bind_eq_some_iff] at he
        obtain ⟨j, hj, he⟩ := he
        split at he
        · rename_i cs hv
          split at he
          · rename_i hle
            simp only [Option.map_eq_some_iff] at he
            obtain ⟨v, hv', rfl⟩ := he
            have hr := hρ _ _ hx
            rw [hv] at hr
            exact EffPrim.of (P := P) (e := .ret _) (goes_indexA s hu hsz hag hr (hρ _ _ hi) hj hle hv')
          · cases he
        · cases he
      · cases ht
    · rename_i x' i' hu hx hi
      cases ht
      simp only [prim] at he
      split at he
      · rename_i b hv
        simp only [Option.bind_eq_some_iff, Option.map_eq_some_iff] at he
        obtain ⟨j, hj, c, hcc, rfl⟩ := he
        have hr := hρ _ _ hx
        rw [hv] at hr
        exact EffPrim.of (P := P) (e := .ret _) (goes_indexStr s hu hr (hρ _ _ hi) hj hcc)
      · cases he
    · cases ht
  case extract x i =>
    simp only [Option.map_eq_some_iff] at ht
    obtain ⟨x', hx, rfl⟩ := ht
    simp only [prim] at he
    split at he
    · rename_i vs hv
      simp only [Option.map_eq_some_iff] at he
      obtain ⟨v, hv', rfl⟩ := he
      have hr := hρ _ _ hx
      rw [hv] at hr
      exact EffPrim.of (P := P) (e := .ret _) (goes_extract s hr hv')
    · cases he
  case call c =>
    obtain ⟨callee, args, argTypes⟩ := c
    cases callee with
    | builtin b =>
      simp only at ht
      exact sim_builtin (ty := ty) (cs := _) hρ s ht he
    | value f =>
      cases f <;> simp only at ht
      case func f =>
        simp only [Option.map_eq_some_iff] at ht
        obtain ⟨l, -, rfl⟩ := ht
        simp [prim] at he
      all_goals
        split at ht
        · cases ht
          simp [prim] at he
        · cases ht
    | invoke r m => simp at ht
  all_goals cases ht

end Go.Am
