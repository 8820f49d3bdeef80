/- The abstract machine does what the model does: every operation that is no call. -/
import Derived.Test.YtifbkofianklaaaAm13
set_option linter.unusedVariables false
set_option linter.unusedSimpArgs false
namespace Go.Am
variable {P : Program}

theorem not_both_nil {a b : Value} (h : a ≠ .nilIface ∨ b ≠ .nilIface) : ¬ (a = .nilIface ∧ b = .nilIface) := by
  rintro ⟨rfl, rfl⟩; rcases h with h | h <;> exact h rfl

theorem run_guarded {w : World} {op : BinOp} {t : TypeId} {x y : Operand} {a b : Value} {v : Value} {w' : World} (hg : (eqGuard op t x y a b).run P w = .ok () w) (h : (binOp op t a b).run P w = .ok v w') :
    ((do eqGuard op t x y a b; binOp op t a b : Sem Value)).run P w = .ok v w' := by
  simp [hg, h]

theorem goes_guarded {g : G} {h : Heap} {w : World} {op : BinOp} {t : TypeId} {x y : Operand} {a b : Value} {v : V} {h' : Heap} (hg : (eqGuard op t x y a b).run P w = .ok () w) (q : Goes P (binOp op t a b) g h w v h') :
    Goes P (do eqGuard op t x y a b; binOp op t a b) g h w v h' := by
  obtain ⟨g', w', z, r, rest⟩ := q
  exact ⟨g', w', z, run_guarded hg r, rest⟩

theorem bin_sorts {g : G} {w : World} {op : BinOp} {a b v : V} {X : Value} (ha : VRel g w a X) (h : binA op a b = some v) : (∀ c, X ≠ .agg c) ∧ X ≠ .nilIface := by
  cases ha <;> first | (simp [binA] at h; done) | simp

theorem eqcells_sorts {g : G} {w : World} {a b : V} {r : Bool} {X : Value} (ha : VRel g w a X) (h : eqCells [.b] [a] [b] = some r) : ∃ b, X = .bool b := by
  simp only [eqCells] at h
  cases ha <;> simp only [eqCell, reduceCtorEq] at h
  exact ⟨_, rfl⟩

theorem agg_sort {g : G} {w : World} {c : List V} {X : Value} (h : VRel g w (.agg c) X) : ∃ d, X = .agg d := by
  cases h; exact ⟨_, rfl⟩

theorem run_eqGuard_const {w : World} {op : BinOp} {t : TypeId} {x y : Operand} {v : Value} (h : x = .const v ∨ y = .const v) : (eqGuard op t x y .nilIface .nilIface).run P w = .ok () w := by
  rcases h with rfl | rfl
  · cases op <;> simp [eqGuard]
  · cases op <;> simp [eqGuard]

theorem sim_bin {g : G} {h : Heap} {w : World} {ρ : Opd → V} {ρ' : Operand → Value} (hρ : OpdRel g w ρ ρ') (hc : ∀ v, ρ' (.const v) = v) (s : Sim g h w) {fb : Nat} {op : BinOp} {t : TypeId} {x y : Operand} {ao : AOp} (ht : trBin P op t x y = some ao) {eff : Eff}
    (he : prim fb ρ (fun o => h[o]?) ao = some eff) : EffGoes P (do eqGuard op t x y (ρ' x) (ρ' y); binOp op t (ρ' x) (ρ' y)) g h w eff := by
  have two : ∀ {x' y' : Opd}, trOpd x = some x' → trOpd y = some y' → (match P.underlying t with | some (.int _) | some .string => True | _ => False) → ao = .bin op x' y' → EffGoes P (do eqGuard op t x y (ρ' x) (ρ' y); binOp op t (ρ' x) (ρ' y)) g h w eff := by
    intro x' y' h1 h2 _ hao
    subst hao
    simp only [prim, Option.map_eq_some_iff] at he
    obtain ⟨v, hv, rfl⟩ := he
    have hx := hρ _ _ h1
    have hy := hρ _ _ h2
    refine goes_guarded (run_eqGuard_agg ?_ ?_) (goes_bin s hx hy hv)
    · rintro ⟨c, d, e1, e2⟩
      exact absurd e1 ((bin_sorts hx hv).1 c)
    · rintro ⟨e1, e2⟩
      exact absurd e1 (bin_sorts hx hv).2
  unfold trBin at ht
  split at ht
  · rename_i k hu
    split at ht
    · rename_i x' y' h1 h2
      cases ht
      exact two h1 h2 (by simp [hu]) rfl
    · cases ht
  · rename_i hu
    split at ht
    · rename_i x' y' h1 h2
      cases ht
      exact two h1 h2 (by simp [hu]) rfl
    · cases ht
  · rename_i hu
    have key : ∀ (neg : Bool) {x' y' : Opd}, trOpd x = some x' → trOpd y = some y' → op = (eqOp neg) → ao = .eqc neg false [.b] x' y' → EffGoes P (do eqGuard op t x y (ρ' x) (ρ' y); binOp op t (ρ' x) (ρ' y)) g h w eff := by
      intro neg x' y' h1 h2 hop hao
      subst hop; subst hao
      simp only [prim, Option.map_eq_some_iff] at he
      obtain ⟨r, hr, rfl⟩ := he
      have hx := hρ _ _ h1
      have hy := hρ _ _ h2
      have hk : kindsOf P 1 t = some [.b] := by simp [kindsOf, hu]
      obtain ⟨b, hb⟩ := eqcells_sorts hx hr
      refine goes_guarded (run_eqGuard_agg ?_ ?_) (goes_eqc (neg := neg) s (by omega) hk (is_bool hu hx) (is_bool hu hy) (.inl hu) hr)
      · rintro ⟨c, d, e1, e2⟩; rw [hb] at e1; cases e1
      · rintro ⟨e1, e2⟩; rw [hb] at e1; cases e1
    split at ht
    · rename_i x' y' h1 h2; cases ht; exact key false h1 h2 rfl rfl
    · rename_i x' y' h1 h2; cases ht; exact key true h1 h2 rfl rfl
    · cases ht
  case h_6 hu1 hu2 hu3 hu4 hu5 =>
    have key : ∀ (neg : Bool) (k : NK), nkOf P t = some k → op = (eqOp neg) →
        (if isNilOpd k y then (trOpd x).map (AOp.eqnil neg k) else if isNilOpd k x then (trOpd y).map (AOp.eqnil neg k) else none) = some ao → EffGoes P (do eqGuard op t x y (ρ' x) (ρ' y); binOp op t (ρ' x) (ρ' y)) g h w eff := by
      intro neg k hk hop hq
      subst hop
      have guard : ∀ (a b : Value), (isNilOpd k y = true ∧ b = k.nil ∨ isNilOpd k x = true ∧ a = k.nil) → (∀ c d, a = .agg c → b = .agg d → False) → (eqGuard (eqOp neg) t x y a b).run P w = .ok () w := by
        intro a b hab hagg
        by_cases hn : a = .nilIface ∧ b = .nilIface
        · obtain ⟨rfl, rfl⟩ := hn
          rcases hab with ⟨h1, -⟩ | ⟨h1, -⟩
          · exact run_eqGuard_const (.inr (isNilOpd_eval h1))
          · exact run_eqGuard_const (.inl (isNilOpd_eval h1))
        · exact run_eqGuard_agg (fun ⟨c, d, e1, e2⟩ => (hagg c d e1 e2).elim) hn
      split at hq
      · rename_i hy
        simp only [Option.map_eq_some_iff] at hq
        obtain ⟨x', h1, rfl⟩ := hq
        simp only [prim, Option.map_eq_some_iff] at he
        obtain ⟨b, hb, rfl⟩ := he
        have hx := hρ _ _ h1
        have ey : ρ' y = k.nil := by rw [isNilOpd_eval hy]; exact hc _
        rw [ey]
        refine goes_guarded (guard _ _ (.inl ⟨hy, rfl⟩) (fun c d e1 e2 => by cases k <;> simp [NK.nil] at e2)) (goes_eqnil s hk hx hb neg).1
      · split at hq
        · rename_i hnx hx
          simp only [Option.map_eq_some_iff] at hq
          obtain ⟨y', h1, rfl⟩ := hq
          simp only [prim, Option.map_eq_some_iff] at he
          obtain ⟨b, hb, rfl⟩ := he
          have hy := hρ _ _ h1
          have ex : ρ' x = k.nil := by rw [isNilOpd_eval hx]; exact hc _
          rw [ex]
          refine goes_guarded (guard _ _ (.inr ⟨hx, rfl⟩) (fun c d e1 e2 => by cases k <;> simp [NK.nil] at e1)) (goes_eqnil s hk hy hb neg).2
        · cases hq
    split at ht
    · rename_i k hk; exact key false k hk rfl ht
    · rename_i k hk; exact key true k hk rfl ht
    · cases ht
  all_goals
    rename_i hu
    have hagg : (∃ n e, P.underlying t = some (.array n e)) ∨ (∃ fs, P.underlying t = some (.struct fs)) := by
      first | exact .inl ⟨_, _, hu⟩ | exact .inr ⟨_, hu⟩
    have key : ∀ (neg : Bool) (ks : List CK) {x' y' : Opd}, kindsOf P 64 t = some ks → P.eqGuardType P.depth t = false → trOpd x = some x' → trOpd y = some y' → op = (eqOp neg) → ao = .eqc neg true ks x' y' →
        EffGoes P (do eqGuard op t x y (ρ' x) (ρ' y); binOp op t (ρ' x) (ρ' y)) g h w eff := by
      intro neg ks x' y' hk hgt h1 h2 hop hao
      subst hop; subst hao
      simp only [prim] at he
      split at he
      · rename_i as bs ea eb
        simp only [Option.map_eq_some_iff] at he
        obtain ⟨r, hr, rfl⟩ := he
        have hx := hρ _ _ h1
        have hy := hρ _ _ h2
        rw [ea] at hx
        rw [eb] at hy
        have ix := is_agg hagg hx
        have iy := is_agg hagg hy
        have hxa : ∃ c, ρ' x = .agg c := agg_sort hx
        have hya : ∃ c, ρ' y = .agg c := agg_sort hy
        obtain ⟨c, hc1⟩ := hxa
        obtain ⟨d, hd1⟩ := hya
        refine goes_guarded (run_eqGuard_agg (fun _ => hgt) ?_) (goes_eqc (neg := neg) s (by omega) hk ix iy (.inr ⟨c, d, hc1, hd1⟩) hr)
        rintro ⟨e1, e2⟩; rw [hc1] at e1; cases e1
      · cases he
    split at ht
    · rename_i ks x' y' h1 h2 h3 h4; cases ht; exact key false ks h1 h2 h3 h4 rfl rfl
    · rename_i ks x' y' h1 h2 h3 h4; cases ht; exact key true ks h1 h2 h3 h4 rfl rfl
    · cases ht

end Go.Am
