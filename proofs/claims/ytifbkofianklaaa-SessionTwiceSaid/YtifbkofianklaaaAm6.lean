/- Operation by operation, more: comparisons, places, parts, building, slices. -/
import Derived.Test.YtifbkofianklaaaAm5
set_option linter.unusedVariables false
set_option linter.unusedSimpArgs false
namespace Go.Am
variable {P : Program}

theorem goes_un {g : G} {h : Heap} {w : World} (s : Sim g h w) {op : UnOp} {a v : V} {x : Value} (ha : VRel g w a x) (hv : unA op a = some v) : Goes P (Op.unary op x) g h w v h := by
  unfold unA at hv
  split at hv
  · cases ha
    cases op <;> simp at hv
    subst hv
    exact .still s rfl (.bool _)
  · cases ha
    cases op <;> simp only [reduceCtorEq, Option.some.injEq] at hv
    · subst hv
      exact .still s rfl (.int _ _)
    · subst hv
      exact .still s rfl (.int _ _)
  · cases hv

theorem goes_cint {g : G} {h : Heap} {w : World} (s : Sim g h w) {src dst : TypeId} {k k' : IntKind} {n : Int} (hs : ∃ d, P.underlying src = some d) (hd : P.underlying dst = some (.int k)) :
    Goes P (convert src dst (.int k' n)) g h w (.int k (k.wrap n)) h := by
  obtain ⟨d, hd'⟩ := hs
  refine .still s ?_ (.int _ _)
  simp [convert, run_underlying hd', run_underlying hd, Conv.intToInt]

theorem goes_faddr {g : G} {h : Heap} {w : World} (s : Sim g h w) {t : TypeId} {fs : Array Field} {f : Field} {i n : Nat} (hu : P.underlying t = some (.struct fs)) (hf : fs[i]? = some f) (hn : szOf P f.type = some n) (hn0 : n ≠ 0)
    {p : V} {x : Value} (hp : VRel g w p x) {v : V} (hv : (match p with | .ptr o ver off => some (V.ptr o ver (off + f.offset)) | .iptr c off => some (V.iptr c (off + f.offset)) | _ => none) = some v) :
    Goes P (Instr.fieldAt t x i) g h w v h := by
  have run : ∀ b off, (Instr.fieldAt t (.pointer (some (at_ b off))) i).run P w = .ok (.pointer (some (at_ b (off + f.offset)))) w := by
    intro b off
    simp [Instr.fieldAt, run_underlying hu, hf, run_sureAddr, fieldPlace, run_sizeOf' hn, hn0, add_at]
  cases hp <;> simp only [Option.some.injEq, reduceCtorEq] at hv
  case ptr o ver off b base hg =>
    subst hv
    refine .still s (run _ _) ?_
    rw [Nat.add_assoc]
    exact .ptr _ _ _ _ _ hg
  case iptr cs off b base f' hi hc hv' =>
    subst hv
    refine .still s (run _ _) ?_
    rw [Nat.add_assoc]
    exact .iptr _ _ _ _ f' hi hc hv'

theorem indexed_of {n : Nat} {i : V} {j : Nat} (h : indexedI n i = some j) : ∃ k m, i = .int k m ∧ 0 ≤ m ∧ m < n ∧ m.toNat = j := by
  unfold indexedI at h
  split at h
  · rename_i k m
    split at h
    · split at h
      · cases h; exact ⟨k, m, rfl, by assumption, by assumption, rfl⟩
      · cases h
    · cases h
  · cases h

theorem goes_iaddrA {g : G} {h : Heap} {w : World} (s : Sim g h w) {t e : TypeId} {n sz : Nat} (hu : P.underlying t = some (.array n e)) (hz : szOf P e = some sz)
    {p i : V} {x y : Value} (hp : VRel g w p x) (hi : VRel g w i y) {j : Nat} (hj : indexedI n i = some j)
    {v : V} (hv : (match p with | .ptr o ver off => some (V.ptr o ver (off + j * sz)) | .iptr c off => some (V.iptr c (off + j * sz)) | _ => none) = some v) :
    Goes P (Instr.indexAt t x y) g h w v h := by
  obtain ⟨k, m, rfl, h0, h1, rfl⟩ := indexed_of hj
  cases hi
  have run : ∀ b off, (Instr.indexAt t (.pointer (some (at_ b off))) (.int k m)).run P w = .ok (.pointer (some (at_ b (off + m.toNat * sz)))) w := by
    intro b off
    simp [Instr.indexAt, asIntOf, run_underlying hu, run_sureAddr, h0, h1, run_sizeOf' hz, add_at]
  cases hp <;> simp only [Option.some.injEq, reduceCtorEq] at hv
  case ptr o ver off b base hg =>
    subst hv
    refine .still s (run _ _) ?_
    rw [Nat.add_assoc]
    exact .ptr _ _ _ _ _ hg
  case iptr cs off b base f' hi hc hv' =>
    subst hv
    refine .still s (run _ _) ?_
    rw [Nat.add_assoc]
    exact .iptr _ _ _ _ f' hi hc hv'

theorem goes_iaddrS {g : G} {h : Heap} {w : World} (s : Sim g h w) {t e : TypeId} {sz : Nat} (hu : P.underlying t = some (.slice e)) (hz : szOf P e = some sz)
    {p i : V} {x y : Value} (hp : VRel g w p x) (hi : VRel g w i y) {eff : Eff}
    (hv : iaddrSA sz p i = some eff) :
    EffGoes P (Instr.indexAt t x y) g h w eff := by
  have run : ∀ (len c : Nat) b off k (m : Int), 0 ≤ m → m < len → (Instr.indexAt t (.slice (some (at_ b off)) len c) (.int k m)).run P w = .ok (.pointer (some (at_ b (off + m.toNat * sz)))) w := by
    intro len c b off k m h0 h1
    simp [Instr.indexAt, asIntOf, run_underlying hu, h0, h1, run_sizeOf' hz, add_at]
  cases hp <;> simp only [iaddrSA, Option.some.injEq, reduceCtorEq] at hv
  case view o ver off len s' cap b base c n e' hg hl hk hs' hn =>
    split at hv
    · rename_i hs; subst hs
      simp only [Option.map_eq_some_iff] at hv
      obtain ⟨j, hj, rfl⟩ := hv
      obtain ⟨k, m, rfl, h0, h1, rfl⟩ := indexed_of hj
      cases hi
      refine Goes.still s (run _ _ _ _ _ _ h0 h1) ?_
      rw [Nat.add_assoc]
      exact .ptr _ _ _ _ _ hg
    · cases hv
  case sl L s' cap b off c f hi' hl hk hz' hc hv' =>
    split at hv
    · rename_i hs; subst hs
      simp only [Option.bind_eq_some_iff, Option.map_eq_some_iff] at hv
      obtain ⟨j, hj, e', he, rfl⟩ := hv
      obtain ⟨k, m, rfl, h0, h1, rfl⟩ := indexed_of hj
      cases hi
      refine Goes.still s (run _ _ _ _ _ _ h0 h1) ?_
      have hlen := hz' _ _ he
      have hlt : m.toNat < L.length := by omega
      have hmul : (m.toNat + 1) * s' ≤ L.length * s' := Nat.mul_le_mul_right _ hlt
      rw [Nat.add_mul, Nat.one_mul] at hmul
      have := VRel.iptr (g := g) (w := w) e'.cells 0 b (off + m.toNat * s') (fun j => f (m.toNat * s' + j)) (hi' (fun e => by rw [e] at hlt; simp at hlt))
        (fun j hj => by rw [Nat.add_assoc]; exact hc _ (by omega)) (fun j c hj => hv' _ _ _ _ he hj)
      simpa using this
    · cases hv
  case sl0 s' cap a hk =>
    split at hv
    · simp only [Option.bind_eq_some_iff, Option.map_eq_some_iff] at hv
      obtain ⟨j, hj, e', he, rfl⟩ := hv
      simp at he
    · cases hv

/-- A part of a value. -/
theorem goes_part {g : G} {h : Heap} {w : World} (s : Sim g h w) {t : TypeId} {ag : Option Nat} (ht : agOf P t = some ag) {cs : List V} {xs : Array Value} (hx : xs.size = cs.length)
    (hc : ∀ i c, cs[i]? = some c → VRel g w c (xs.getD i undef)) {off : Nat} (hle : off + nAg ag ≤ cs.length) {v : V} (hv : packA ag ((cs.drop off).take (nAg ag)) = some v) :
    Goes P (part t xs off) g h w v h := by
  cases ag with
  | some n =>
    simp only [packA, nAg, Option.some.injEq] at hv hle
    subst hv
    refine .still s (x := .agg (xs.extract off (off + n))) ?_ (.agg _ _ (by simp; omega) (fun i c hi => ?_))
    · simp [part, run_isAgg ht, run_sizeOf_ag ht]
    · have hin : i < n := by rcases Nat.lt_or_ge i n with k | k; exact k; simp [List.getElem?_take, Nat.not_lt.2 k] at hi
      rw [List.getElem?_take_of_lt hin, List.getElem?_drop] at hi
      have := hc _ _ hi
      have e : (xs.extract off (off + n)).getD i undef = xs.getD (off + i) undef := by
        simp only [Array.getD_eq_getD_getElem?, Array.getElem?_extract]
        congr 1
        split
        · rfl
        · omega
      rw [e]
      exact this
  | none =>
    simp only [packA, nAg] at hv hle
    obtain ⟨c, hcc⟩ : ∃ c, cs[off]? = some c := ⟨_, List.getElem?_eq_getElem (by omega)⟩
    have hv' : v = c := by
      rw [List.head?_take, if_neg (by omega), List.head?_drop, hcc] at hv
      cases hv; rfl
    subst hv'
    have := hc _ _ hcc
    refine .still s (x := xs.getD off undef) ?_ this
    have hlt : off < xs.size := by omega
    simp [part, run_isAgg ht, Array.getD_eq_getD_getElem?, hlt]

theorem goes_field {g : G} {h : Heap} {w : World} (s : Sim g h w) {t : TypeId} {fs : Array Field} {f : Field} {i : Nat} (hu : P.underlying t = some (.struct fs)) (hf : fs[i]? = some f)
    {ag : Option Nat} (ht : agOf P f.type = some ag) {cs : List V} {x : Value} (hx : VRel g w (.agg cs) x) (hle : f.offset + nAg ag ≤ cs.length) {v : V} (hv : packA ag ((cs.drop f.offset).take (nAg ag)) = some v) :
    Goes P (Instr.field t x i) g h w v h := by
  cases hx with
  | agg _ xs hx hc =>
    obtain ⟨g', w', y, hr, rest⟩ := goes_part (P := P) s ht hx hc hle hv
    exact ⟨g', w', y, by simp [Instr.field, run_underlying hu, hf, asAgg, hr], rest⟩

theorem goes_indexA {g : G} {h : Heap} {w : World} (s : Sim g h w) {t e : TypeId} {n sz : Nat} (hu : P.underlying t = some (.array n e)) (hz : szOf P e = some sz)
    {ag : Option Nat} (ht : agOf P e = some ag) {cs : List V} {i : V} {x y : Value} (hx : VRel g w (.agg cs) x) (hi : VRel g w i y) {j : Nat} (hj : indexedI n i = some j)
    (hle : j * sz + nAg ag ≤ cs.length) {v : V} (hv : packA ag ((cs.drop (j * sz)).take (nAg ag)) = some v) : Goes P (Instr.index t x y) g h w v h := by
  obtain ⟨k, m, rfl, h0, h1, rfl⟩ := indexed_of hj
  cases hi
  cases hx with
  | agg _ xs hx hc =>
    obtain ⟨g', w', y, hr, rest⟩ := goes_part (P := P) s ht hx hc hle hv
    exact ⟨g', w', y, by simp [Instr.index, asIntOf, run_underlying hu, h0, h1, run_sizeOf' hz, hr], rest⟩

theorem goes_indexStr {g : G} {h : Heap} {w : World} (s : Sim g h w) {t : TypeId} (hu : P.underlying t = some .string) {b : List UInt8} {i : V} {x y : Value} (hx : VRel g w (.str b) x) (hi : VRel g w i y)
    {j : Nat} (hj : indexedI b.length i = some j) {c : UInt8} (hc : b[j]? = some c) : Goes P (Instr.index t x y) g h w (.int .u8 c.toNat) h := by
  obtain ⟨k, m, rfl, h0, h1, rfl⟩ := indexed_of hj
  cases hi
  cases hx
  refine .still s ?_ (.int _ _)
  have : (⟨⟨b⟩⟩ : ByteArray)[m.toNat]? = some c := by
    have hlt : m.toNat < b.length := by omega
    have e : (⟨⟨b⟩⟩ : ByteArray)[m.toNat]? = (⟨b⟩ : Array UInt8)[m.toNat]? := by
      have h1 : m.toNat < (⟨⟨b⟩⟩ : ByteArray).size := hlt
      have h2 : m.toNat < (⟨b⟩ : Array UInt8).size := hlt
      rw [getElem?_pos (⟨⟨b⟩⟩ : ByteArray) m.toNat h1, getElem?_pos (⟨b⟩ : Array UInt8) m.toNat h2]
      rfl
    rw [e]
    simpa using hc
  simp [Instr.index, asIntOf, run_underlying hu, h0, this]

theorem goes_extract {g : G} {h : Heap} {w : World} (s : Sim g h w) {vs : List V} {x : Value} (hx : VRel g w (.tup vs) x) {i : Nat} {v : V} (hv : vs[i]? = some v) : Goes P (Instr.extract x i) g h w v h := by
  cases hx with
  | tup _ xs hx hc =>
    have hlt : i < xs.size := by
      have : i < vs.length := by rcases Nat.lt_or_ge i vs.length with k | k; exact k; simp [List.getElem?_eq_none k] at hv
      omega
    have := hc _ _ hv
    refine .still s (x := xs.getD i undef) ?_ this
    simp [Instr.extract, Array.getD_eq_getD_getElem?, hlt]

theorem lenA_rel {g : G} {w : World} {v : V} {x : Value} (hx : VRel g w v x) {n : Nat} (hn : lenA v = some n) : (∃ a c, x = .slice a n c) ∨ ∃ s : List UInt8, x = .string ⟨⟨s⟩⟩ ∧ v = .str s ∧ s.length = n := by
  cases hx <;> simp [lenA] at hn
  · subst hn; exact .inr ⟨_, rfl, rfl, rfl⟩
  · subst hn; exact .inl ⟨_, _, rfl⟩
  · subst hn; exact .inl ⟨_, _, rfl⟩
  · subst hn; exact .inl ⟨_, _, rfl⟩
  · subst hn; exact .inl ⟨_, _, rfl⟩
  · subst hn; exact .inl ⟨_, _, rfl⟩

theorem goes_lenS {g : G} {h : Heap} {w : World} (s : Sim g h w) {t e : TypeId} {tt : TypeId} (hu : P.underlying t = some (.slice e)) {v : V} {x : Value} (hx : VRel g w v x) (hns : ∀ b, v ≠ .str b) {n : Nat} (hn : lenA v = some n) :
    Goes P (Builtin.len_ #[t] tt #[x]) g h w (.int .i64 n) h := by
  rcases lenA_rel hx hn with ⟨a, c, rfl⟩ | ⟨b, -, rfl, -⟩
  · exact .still s (by simp [Builtin.len_, run_underlying hu, goInt]) (.int _ _)
  · exact absurd rfl (hns b)

theorem goes_lenStr {g : G} {h : Heap} {w : World} (s : Sim g h w) {t : TypeId} {tt : TypeId} (hu : P.underlying t = some .string) {b : List UInt8} {x : Value} (hx : VRel g w (.str b) x) :
    Goes P (Builtin.len_ #[t] tt #[x]) g h w (.int .i64 b.length) h := by
  cases hx
  refine .still s (x := .int .i64 (⟨⟨b⟩⟩ : ByteArray).size) ?_ (.int _ _)
  simp [Builtin.len_, run_underlying hu, goInt]

theorem goes_lenK {g : G} {h : Heap} {w : World} (s : Sim g h w) {t e : TypeId} {tt : TypeId} {n : Nat} (hu : P.underlying t = some (.array n e) ∨ ∃ t', P.underlying t = some (.pointer t') ∧ P.underlying t' = some (.array n e)) (x : Value) :
    Goes P (Builtin.len_ #[t] tt #[x]) g h w (.int .i64 n) h := by
  refine .still s ?_ (.int _ _)
  rcases hu with hu | ⟨t', hu, hu'⟩
  · simp [Builtin.len_, run_underlying hu, goInt]
  · simp [Builtin.len_, run_underlying hu, run_underlying hu', goInt]

end Go.Am
