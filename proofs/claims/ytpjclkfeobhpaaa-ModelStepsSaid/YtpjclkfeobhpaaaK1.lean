import Derived.Test.YtpjclkfeobhpaaaK0
import Derived.LoopNIn
import Derived.Maps.RangeRun
import Derived.OrdersIn
import Derived.Scope
import Derived.Still
import Derived.TacticsIn
set_option linter.unusedVariables false
set_option linter.unusedSimpArgs false
namespace Go.Am
variable {P:Program}
theorem EffPrim.ofSkip {s:Sem Unit} {g:G} {h:Heap} {w:World} {e:Eff} (q:EffGoes P (do s; pure undef) g h w e):EffPrim P (do s; pure .skip) g h w e:=by
 have key:∀ v h',Goes P (do s; pure undef) g h w v h' → PrimGoes P (do s; pure .skip) g h w v h':=by
  rintro v h' ⟨g',w',x,r,rest⟩
  cases hs:s.run P w with
  | ok u w2 =>
   simp only [Sem.run_bind,hs,Result.andThen_ok,Sem.run_pure,Result.ok.injEq] at r
   obtain ⟨rfl,rfl⟩:=r
   exact ⟨g',w2,undef,.skip,by simp [hs],.inr ⟨rfl,rfl⟩,rest⟩
  | halt x w2 => simp [hs,Result.andThen] at r
 cases e with
 | ret v => exact key _ _ q
 | set o x v => exact key _ _ q
theorem mm_tr {g:G} {h:Heap} {w:World} {ρ:Opd → V} {ρ':Operand → Value} (hρ:OpdRel g w ρ ρ') (s:Sim g h w) {fb:Nat} {mx:Bool} {x:Operand} {xs:List Operand} {ats:Array TypeId} {ty:TypeId} {ao:AOp}
  (ht:(trOpds (x :: xs)).map (AOp.minmax mx) = some ao) {eff:Eff} (he:prim fb ρ (fun o => h[o]?) ao = some eff) :
  match eff with | .ret v => Goes P (mmB mx ats ty ((List.toArray (x :: xs)).map ρ')) g h w v h | .set _ _ _ => False:=by
 simp only [Option.map_eq_some_iff] at ht
 obtain ⟨ys,hys,rfl⟩:=ht
 obtain ⟨hl,hr⟩:=trOpds_rel hρ hys
 cases ys with
 | nil => simp at hl
 | cons y ys =>
  simp only [prim,List.map_cons,Option.map_eq_some_iff] at he
  obtain ⟨v,hv,rfl⟩:=he
  obtain ⟨A,hA,ha⟩:=hr 0 (ρ y) (by simp)
  simp at hA
  subst hA
  have:=goes_mm (P:=P) s (ats:=ats) (ty:=ty) (L:=xs.map ρ') ha (by simpa using hl) (fun i c hi => by simpa using hr (i + 1) c (by simpa using hi)) hv
  simpa using this
theorem sim_builtin {g:G} {h:Heap} {w:World} {ρ:Opd → V} {ρ':Operand → Value} (hρ:OpdRel g w ρ ρ') (s:Sim g h w) {fb site:Nat} {b:Builtin} {args:Array Operand} {argTypes:Array TypeId} {ty:TypeId} {cs:Array Bool} {ao:AOp}
  (ht:trBuiltin P site b args.toList argTypes.toList = some ao) {eff:Eff} (he:prim fb ρ (fun o => h[o]?) ao = some eff):EffPrim P (builtin b argTypes ty cs (args.map ρ')) g h w eff:=by
 obtain ⟨args⟩:=args
 obtain ⟨argTypes⟩:=argTypes
 simp only at ht
 unfold trBuiltin at ht
 split at ht
 ·rename_i x t
  have hm:(List.toArray [x]).map ρ' = #[ρ' x]:=by simp
  rw [hm]
  split at ht
  ·rename_i e x' hu hx
   cases ht
   simp only [prim] at he
   have hr:=hρ _ _ hx
   have hns:∀ b,ρ x' ≠ .str b:=fun b hb => by rw [hb] at he; cases he
   have he':(lenA (ρ x')).map (fun n:Nat => Eff.ret (.int .i64 (n:Int))) = some eff:=by
    generalize ρ x' = v at he hns
    cases v <;> first | exact he | exact absurd rfl (hns _)
   simp only [Option.map_eq_some_iff] at he'
   obtain ⟨n,hn,rfl⟩:=he'
   exact EffPrim.of (P:=P) (e:=.ret _) (goes_lenS (tt:=ty) s hu hr hns hn)
  ·rename_i x' hu hx
   cases ht
   simp only [prim] at he
   have hr:=hρ _ _ hx
   split at he
   ·rename_i b hb
    cases he
    rw [hb] at hr
    exact EffPrim.of (P:=P) (e:=.ret _) (goes_lenStr (tt:=ty) s hu hr)
   ·cases he
  ·rename_i n e hu
   cases ht
   simp only [prim,Option.some.injEq] at he
   subst he
   exact EffPrim.of (P:=P) (e:=.ret _) (goes_lenK (tt:=ty) s (.inl hu) _)
  ·rename_i t' hu
   split at ht
   ·rename_i n e hu'
    cases ht
    simp only [prim,Option.some.injEq] at he
    subst he
    exact EffPrim.of (P:=P) (e:=.ret _) (goes_lenK (tt:=ty) s (.inr ⟨_,hu,hu'⟩) _)
   ·cases ht
  ·rename_i kt et x' hu hx
   cases ht
   simp only [prim,Option.map_eq_some_iff] at he
   obtain ⟨v,hv,rfl⟩:=he
   exact EffPrim.of (P:=P) (e:=.ret _) (goes_mlen (tt:=ty) s rfl hu (hρ _ _ hx) hv)
  ·cases ht
 ·rename_i x y t u
  have hm:(List.toArray [x,y]).map ρ' = #[ρ' x,ρ' y]:=by simp
  rw [hm]
  have key:∀ {e:TypeId} {x' y':Opd},P.underlying t = some (.slice e) → ((∃ e',P.underlying u = some (.slice e')) ∨ P.underlying u = some .string) → trOpd x = some x' → trOpd y = some y' →
    (elemInfo P e).map (fun (s,b,_) => AOp.append site s b x' y') = some ao → EffPrim P (builtin .append (List.toArray [t,u]) ty cs #[ρ' x,ρ' y]) g h w eff:=by
   intro e x' y' hu hu' hx hy hq
   simp only [Option.map_eq_some_iff] at hq
   obtain ⟨⟨sz,by',z⟩,hei,rfl⟩:=hq
   obtain ⟨i,zv,ok,-⟩:=elem_ok hu hei
   simp only [prim] at he
   exact EffPrim.of (P:=P) (goes_append (tt:=ty) s ok hu' (hρ _ _ hx) (hρ _ _ hy) he)
  split at ht
  ·rename_i e e' x' y' hu hu' hx hy; exact key hu (.inl ⟨_,hu'⟩) hx hy ht
  ·rename_i e x' y' hu hu' hx hy; exact key hu (.inr hu') hx hy ht
  ·cases ht
 ·rename_i x y t u
  have hm:(List.toArray [x,y]).map ρ' = #[ρ' x,ρ' y]:=by simp
  rw [hm]
  split at ht
  ·rename_i e x' y' hu hx hy
   simp only [Option.map_eq_some_iff] at ht
   obtain ⟨sz,hsz,rfl⟩:=ht
   simp only [prim] at he
   exact EffPrim.of (P:=P) (goes_copy (tt:=ty) s hu hsz (hρ _ _ hx) (hρ _ _ hy) he)
  ·cases ht
 ·rename_i x t
  have hm:(List.toArray [x]).map ρ' = #[ρ' x]:=by simp
  rw [hm]
  split at ht
  ·rename_i e x' hu hx
   split at ht
   case h_2 => cases ht
   rename_i sz by' z hei
   split at ht
   case isFalse => cases ht
   rename_i h1
   cases ht
   obtain ⟨i,zv,ok,hsz,-,hz,hzl,-⟩:=elem_ok hu hei
   simp only [prim] at he
   exact EffPrim.of (P:=P) (goes_clear (tt:=ty) s hu hsz hz hzl h1 (hρ _ _ hx) he)
  ·rename_i kt et x' hu hx
   cases ht
   simp only [prim] at he
   exact EffPrim.of (P:=P) (goes_mclear (tt:=ty) s rfl hu (hρ _ _ hx) he)
  ·cases ht
 ·rename_i m k t ts
  have hm:(List.toArray [m,k]).map ρ' = #[ρ' m,ρ' k]:=by simp
  rw [hm]
  split at ht
  case h_2 => cases ht
  rename_i kt et m' k' hu hm' hk'
  split at ht
  case h_2 => cases ht
  rename_i ag ks ha hks
  cases ht
  simp only [prim] at he
  exact EffPrim.of (P:=P) (goes_mdel (tt:=ty) s rfl hu ha hks (hρ _ _ hm') (hρ _ _ hk') he)
 ·rename_i ats x xs
  have:=mm_tr (P:=P) hρ s (mx:=false) (ats:=argTypes.toArray) (ty:=ty) ht he
  cases eff with
  | ret v => exact EffPrim.of (P:=P) (e:=.ret _) this
  | set _ _ _ => exact this.elim
 ·rename_i ats x xs
  have:=mm_tr (P:=P) hρ s (mx:=true) (ats:=argTypes.toArray) (ty:=ty) ht he
  cases eff with
  | ret v => exact EffPrim.of (P:=P) (e:=.ret _) this
  | set _ _ _ => exact this.elim
 ·cases ht
set_option maxHeartbeats 1600000 in
theorem sim_prim {g:G} {h:Heap} {w:World} {ρ:Opd → V} {ρ':Operand → Value} (hρ:OpdRel g w ρ ρ') (hc:∀ v,ρ' (.const v) = v) (s:Sim g h w) {fb site:Nat} {o:Oper} {ao:AOp}
  (ht:trOp P site o.op = some ao) {eff:Eff} (he:prim fb ρ (fun o => h[o]?) ao = some eff):EffPrim P (execOp ρ' o) g h w eff:=by
 obtain ⟨dst,op,ty,pos,after,guard⟩:=o
 simp only at ht
 cases op <;> simp only [trOp] at ht
 case move x =>
  simp only [Option.map_eq_some_iff] at ht
  obtain ⟨x',hx,rfl⟩:=ht
  simp only [prim,Option.some.injEq] at he
  subst he
  exact ⟨g,w,ρ' x,.value (ρ' x),by simp [execOp],.inl rfl,s,Ext.refl _ _ _,hρ _ _ hx⟩
 case assign x =>
  simp only [Option.map_eq_some_iff] at ht
  obtain ⟨x',hx,rfl⟩:=ht
  simp only [prim,Option.some.injEq] at he
  subst he
  exact ⟨g,w,ρ' x,.value (ρ' x),by simp [execOp],.inl rfl,s,Ext.refl _ _ _,hρ _ _ hx⟩
 case pick c a b =>
  split at ht
  ·rename_i c' a' b' hc' ha hb
   cases ht
   simp only [prim] at he
   split at he
   ·rename_i t hct
    cases he
    have hr:=hρ _ _ hc'
    rw [hct] at hr
    generalize hX:ρ' c = X at hr
    cases hr
    cases t
    ·exact ⟨g,w,ρ' b,.value (ρ' b),by simp [execOp,hX,asBool],.inl rfl,s,Ext.refl _ _ _,hρ _ _ hb⟩
    ·exact ⟨g,w,ρ' a,.value (ρ' a),by simp [execOp,hX,asBool],.inl rfl,s,Ext.refl _ _ _,hρ _ _ ha⟩
   ·cases he
  ·cases ht
 case alloc e =>
  simp only [Option.map_eq_some_iff] at ht
  obtain ⟨z,hz,rfl⟩:=ht
  simp only [prim] at he
  exact EffPrim.of (P:=P) (goes_alloc s hz he)
 case box e x =>
  simp only [Option.map_eq_some_iff] at ht
  obtain ⟨x',hx,rfl⟩:=ht
  simp only [prim] at he
  have hr:=hρ _ _ hx
  have hs:(ρ x').solid = true:=by
   generalize ρ x' = v at he
   cases v <;> first | rfl | simp at he
  have he':mkA (fun o => h[o]?) (fb + site) (.var (ρ x').cells) (fun v => .ptr (fb + site) v 0) = some eff:=by
   generalize ρ x' = v at he hs
   cases v <;> first | exact he | simp [V.solid] at hs
  exact EffPrim.of (P:=P) (goes_box s hr hs he')
 case build t parts =>
  split at ht
  ·rename_i z pl hz hpl
   simp only [Option.map_eq_some_iff] at ht
   obtain ⟨ps,hps,rfl⟩:=ht
   simp only [prim,Option.map_eq_some_iff] at he
   obtain ⟨cs,hf,rfl⟩:=he
   have hp:Parts g w pl (ps.map fun (o,n,x) => (o,n,ρ x)) (parts.map fun (i,x) => (i,ρ' x)).toList:=by
    have:=trParts_rel hρ hps
    simpa using this
   have q:Goes P (Instr.build t (parts.map fun (i,x) => (i,ρ' x))) g h w (.agg cs) h:=goes_build s hz hpl hp hf
   exact EffPrim.of (P:=P) (e:=.ret _) q
  ·cases ht
 case buildSlice t len parts =>
  split at ht
  ·rename_i e hu
   split at ht
   ·rename_i sz by' z hei
    split at ht
    ·rename_i hroom
     split at ht
     ·simp only [Option.map_eq_some_iff] at ht
      obtain ⟨ps,hps,rfl⟩:=ht
      simp only [prim] at he
      split at he
      ·rename_i cs hf
       obtain ⟨i,zv,ok,hsz,hby,hzo,hzl,-⟩:=elem_ok hu hei
       have hp:Parts g w (fun i => some (i * sz,sz)) (ps.map fun (o,n,x) => (o,n,ρ x)) (parts.map fun (i,x) => (i,ρ' x)).toList:=by
        have:=trParts_rel hρ hps
        simpa using this
       have hr2:len * sz ≤ 2 ^ 24:=by omega
       have q:=goes_bnew (m:=parts.map fun (i,x) => (i,ρ' x)) s hu hsz hzo hzl hr2 rfl hp hf he
       exact EffPrim.of (P:=P) q
      ·cases he
     simp only [Option.map_eq_some_iff] at ht
     obtain ⟨ps,hps,rfl⟩:=ht
     simp only [prim] at he
     split at he
     ·rename_i cs hf
      split at he
      ·rename_i h1
       cases he
       obtain ⟨i,zv,ok,hsz,hby,hzo,hzl,-⟩:=elem_ok hu hei
       have hp:Parts g w (fun i => some (i * sz,sz)) (ps.map fun (o,n,x) => (o,n,ρ x)) (parts.map fun (i,x) => (i,ρ' x)).toList:=by
        have:=trParts_rel hρ hps
        simpa using this
       have hr2:len * sz ≤ 2 ^ 24:=by omega
       have q:=goes_bslice (m:=parts.map fun (i,x) => (i,ρ' x)) s hu hsz hzo hzl hr2 rfl hp hf h1
       exact EffPrim.of (P:=P) (e:=.ret _) q
      ·cases he
     ·cases he
    ·cases ht
   ·cases ht
  ·cases ht
 case load t a =>
  split at ht
  ·rename_i ag a' hag ha
   cases ht
   simp only [prim,Option.bind_eq_some_iff,Option.map_eq_some_iff] at he
   obtain ⟨cs,hl,v,hv,rfl⟩:=he
   exact EffPrim.of (P:=P) (e:=.ret _) (goes_load s hag (hρ _ _ ha) hl hv)
  ·cases ht
 case store t a x =>
  split at ht
  ·rename_i n a' x' hn ha hx
   cases ht
   simp only [prim] at he
   split at he
   ·rename_i o ver off hp
    split at he
    ·rename_i hlen
     split at he
     ·rename_i hall
      have hr:=hρ _ _ ha
      rw [hp] at hr
      exact EffPrim.ofSkip (P:=P) (goes_store s hn hr (hρ _ _ hx) hlen hall he)
     ·cases he
    ·cases he
   ·cases he
  ·cases ht
 case nilCheck x =>
  simp only [Option.map_eq_some_iff] at ht
  obtain ⟨x',hx,rfl⟩:=ht
  simp only [prim] at he
  have hr:=hρ _ _ hx
  generalize hX:ρ' x = X at hr
  split at he
  ·rename_i o v f hv
   cases he
   rw [hv] at hr
   have hr':=hr
   cases hr
   exact ⟨g,w,_,.value _,by simp [execOp,hX],.inl rfl,s,Ext.refl _ _ _,hr'⟩
  ·rename_i c f hv
   cases he
   rw [hv] at hr
   have hr':=hr
   cases hr
   exact ⟨g,w,_,.value _,by simp [execOp,hX],.inl rfl,s,Ext.refl _ _ _,hr'⟩
  ·rename_i f a b hv
   cases he
   rw [hv] at hr
   have hr':=hr
   cases hr
   exact ⟨g,w,_,.value _,by simp [execOp,hX],.inl rfl,s,Ext.refl _ _ _,hr'⟩
  ·cases he
 case binOp op t x y yt =>
  exact EffPrim.of (P:=P) (sim_bin hρ hc s ht he)
 case unOp op t x =>
  simp only [Option.map_eq_some_iff] at ht
  obtain ⟨x',hx,rfl⟩:=ht
  simp only [prim,Option.map_eq_some_iff] at he
  obtain ⟨v,hv,rfl⟩:=he
  exact EffPrim.of (P:=P) (e:=.ret _) (goes_un s (hρ _ _ hx) hv)
 case convert src dst x =>
  split at ht
  ·rename_i k0 k x' hs hd hx
   cases ht
   simp only [prim] at he
   split at he
   ·rename_i k1 n hv
    cases he
    have hr:=hρ _ _ hx
    rw [hv] at hr
    generalize hX:ρ' x = X at hr
    cases hr
    have:=EffPrim.of (P:=P) (e:=.ret _) (goes_cint (k':=k1) (n:=n) s ⟨_,hs⟩ hd)
    simpa only [execOp,hX] using this
   ·cases he
  ·rename_i x' hs hd hx
   cases ht
   simp only [prim] at he
   split at he
   ·rename_i l hv
    cases he
    have hr:=hρ _ _ hx
    rw [hv] at hr
    generalize hX:ρ' x = X at hr
    have hr':=hr
    cases hr
    have:Goes P (convert src dst (.string ⟨⟨l⟩⟩)) g h w (.str l) h:=.still s (by simp [convert,run_underlying hs,run_underlying hd]) hr'
    have:=EffPrim.of (P:=P) (e:=.ret _) this
    simpa only [execOp,hX] using this
   ·cases he
  ·rename_i e x' hs hd hx
   split at ht
   case isFalse => cases ht
   rename_i hb
   cases ht
   simp only [prim] at he
   split at he
   ·cases he
   rename_i hns
   simp only [Option.bind_eq_some_iff,Option.map_eq_some_iff] at he
   obtain ⟨n,hn,cs,hf,l,hl,rfl⟩:=he
   have q:=goes_b2s (P:=P) s hs (isByte_spec hb) hd (hρ _ _ hx) hn hf hns hl
   exact EffPrim.of (P:=P) (e:=.ret _) q
  ·rename_i e x' hs hd hx
   split at ht
   case isFalse => cases ht
   rename_i hb
   cases ht
   simp only [prim] at he
   split at he
   ·rename_i b hv
    have hr:=hρ _ _ hx
    rw [hv] at hr
    have q:=goes_s2b (P:=P) s hs hd (isByte_spec hb) hr he
    exact EffPrim.of (P:=P) q
   ·cases he
  ·rename_i e e' x' hs hd hx
   split at ht
   case isFalse => cases ht
   rename_i heq
   subst heq
   split at ht
   case isFalse => cases ht
   rename_i hb
   cases ht
   simp only [prim] at he
   split at he
   ·rename_i o ver off len sz cap hv
    split at he
    ·rename_i all hc
     cases he
     have hr:=hρ _ _ hx
     rw [hv] at hr
     have q:=goes_mark (P:=P) s hs (isByte_spec hb) hr hc
     exact EffPrim.of (P:=P) (e:=.ret _) q
    ·cases he
   ·cases he
  ·cases ht
 case sliceToArrayPointer arr x =>
  split at ht
  case h_2 => cases ht
  rename_i n e x' hu hx
  split at ht
  ·cases ht
  rename_i n
  simp only [Option.map_eq_some_iff] at ht
  obtain ⟨sz,hsz,rfl⟩:=ht
  simp only [prim,Option.map_eq_some_iff] at he
  obtain ⟨v,hv,rfl⟩:=he
  exact EffPrim.of (P:=P) (e:=.ret _) (goes_s2ap s hu (by omega) (hρ _ _ hx) hv)
 case makeMap t r =>
  split at ht
  case h_2 => cases ht
  cases ht
  simp only [prim] at he
  exact EffPrim.of (P:=P) (goes_mkmap s he)
 case lookup t m k ok =>
  split at ht
  case h_2 => cases ht
  rename_i kt et m' k' hu hm hk
  split at ht
  case h_2 => cases ht
  rename_i ag ks z ha hks hz
  cases ht
  simp only [prim,Option.map_eq_some_iff] at he
  obtain ⟨v,hv,rfl⟩:=he
  exact EffPrim.of (P:=P) (e:=.ret _) (goes_mget s hu ha hks hz (hρ _ _ hm) (hρ _ _ hk) hv)
 case mapUpdate t m k x =>
  unfold trPut at ht
  split at ht
  case h_2 => cases ht
  rename_i kt et m' k' x' hu hm hk hx
  split at ht
  case h_2 => cases ht
  rename_i ag ks ha hks
  cases ht
  simp only [prim] at he
  exact EffPrim.ofSkip (P:=P) (goes_mput s hu ha hks (hρ _ _ hm) (hρ _ _ hk) (hρ _ _ hx) he)
 case insert t m k x =>
  unfold trPut at ht
  split at ht
  case h_2 => cases ht
  rename_i kt et m' k' x' hu hm hk hx
  split at ht
  case h_2 => cases ht
  rename_i ag ks ha hks
  cases ht
  simp only [prim] at he
  exact EffPrim.ofSkip (P:=P) (goes_mput s hu ha hks (hρ _ _ hm) (hρ _ _ hk) (hρ _ _ hx) he)
 case makeInterface t x =>
  split at ht
  ·cases ht
  ·rename_i d x' hnd hu hx
   cases ht
   simp only [prim] at he
   have hr:=hρ _ _ hx
   have he':eff = .ret (.iface t (ρ x')):=by
    generalize ρ x' = v at he
    cases v <;> first | (cases he; done) | (simp at he; exact he.symm)
   subst he'
   refine EffPrim.of (P:=P) (e:=.ret _) (.still s ?_ (.iface t _ _ hr))
   cases d <;> first | exact absurd rfl (hnd _) | simp [Instr.makeInterface,run_underlying hu]
  ·cases ht
 case makeFunc fn xs ys =>
  cases fn <;> simp only [reduceCtorEq] at ht
  rename_i f
  split at ht
  ·rename_i xs' ys' hx hy
   cases ht
   simp only [prim,Option.some.injEq] at he
   subst he
   obtain ⟨h1,h2⟩:=trOpds_rel hρ hx
   obtain ⟨h3,h4⟩:=trOpds_rel hρ hy
   refine EffPrim.of (P:=P) (e:=.ret _) (.still s (x:=.func (.func f) (xs.map ρ') (ys.map ρ')) (by simp [Instr.makeFunc]) ?_)
   obtain ⟨k1,k2⟩:=VRel_list (g:=g) (w:=w) (xs:=xs.map ρ') (cs:=xs'.map ρ) (by simp; simpa using h1) (fun i c hi => by simpa using h2 i c hi)
   obtain ⟨k3,k4⟩:=VRel_list (g:=g) (w:=w) (xs:=ys.map ρ') (cs:=ys'.map ρ) (by simp; simpa using h3) (fun i c hi => by simpa using h4 i c hi)
   exact .func f _ _ _ _ k1 k3 k2 k4
  ·cases ht
 case makeSlice t l c =>
  split at ht
  ·rename_i e l' c' hu hl hc'
   simp only [Option.map_eq_some_iff] at ht
   obtain ⟨⟨sz,by',z⟩,hei,rfl⟩:=ht
   obtain ⟨i,zv,ok,hsz,hby,hzo,hzl,-⟩:=elem_ok hu hei
   simp only [prim] at he
   have hrl:=hρ _ _ hl
   have hrc:=hρ _ _ hc'
   split at he
   ·rename_i kl ln kc cn e1 e2
    rw [e1] at hrl
    rw [e2] at hrc
    generalize hXl:ρ' l = Xl at hrl
    generalize hXc:ρ' c = Xc at hrc
    cases hrl
    cases hrc
    split at he
    case isFalse => cases he
    rename_i a1
    split at he
    case isFalse => cases he
    rename_i a2
    split at he
    case isFalse => cases he
    rename_i a3
    split at he
    case isFalse => cases he
    rename_i a4
    have:=EffPrim.of (P:=P) (goes_mkslice (kl:=kl) (kc:=kc) s hu hsz hby hzo hzl a1 a2 a3 a4 he)
    simpa only [execOp,hXl,hXc] using this
   ·cases he
  ·cases ht
 case slice t x lo hi mx =>
  split at ht
  ·rename_i n e x' lo' hi' mx' hu hx hlo hhi hmx
   simp only [Option.map_eq_some_iff] at ht
   obtain ⟨sz,hsz,rfl⟩:=ht
   simp only [prim] at he
   split at he
   ·rename_i o ver off hv
    split at he
    ·rename_i cs hcs
     simp only [Option.map_eq_some_iff] at he
     obtain ⟨⟨l,k,m⟩,hb,rfl⟩:=he
     have hr:=hρ _ _ hx
     rw [hv] at hr
     exact EffPrim.of (P:=P) (e:=.ret _) (goes_slA s hu hsz hr ⟨cs,hcs⟩ (trOpt_rel hρ hlo) (trOpt_rel hρ hhi) (trOpt_rel hρ hmx) hb)
    ·cases he
   ·rename_i cs off hv
    simp only [Option.bind_eq_some_iff] at he
    obtain ⟨⟨l,k,m⟩,hb,he⟩:=he
    simp only at he
    split at he
    case isFalse => cases he
    rename_i hle
    split at he
    case isFalse => cases he
    rename_i hone
    cases he
    have hr:=hρ _ _ hx
    rw [hv] at hr
    exact EffPrim.of (P:=P) (e:=.ret _) (goes_slAi s hu hsz hr (trOpt_rel hρ hlo) (trOpt_rel hρ hhi) (trOpt_rel hρ hmx) hb hle hone)
   ·cases he
  ·rename_i e x' lo' hi' mx' hu hx hlo hhi hmx
   simp only [Option.map_eq_some_iff] at ht
   obtain ⟨⟨sz,by',z⟩,hei,rfl⟩:=ht
   obtain ⟨i,zv,ok,hsz,hby,hzo,hzl,hpos⟩:=elem_ok hu hei
   simp only [prim,Option.map_eq_some_iff] at he
   obtain ⟨v,hv,rfl⟩:=he
   exact EffPrim.of (P:=P) (e:=.ret _) (goes_slS s hu hsz hpos (hρ _ _ hx) (trOpt_rel hρ hlo) (trOpt_rel hρ hhi) (trOpt_rel hρ hmx) hv)
  ·rename_i x' lo' hi' hu hx hlo hhi hmx
   cases ht
   simp only [prim] at he
   split at he
   ·rename_i b hv
    simp only [Option.map_eq_some_iff] at he
    obtain ⟨⟨l,k,m⟩,hb,rfl⟩:=he
    have hr:=hρ _ _ hx
    rw [hv] at hr
    have hmn:mx = none:=by
     cases mx with
     | none => rfl
     | some v => simp [trOpt] at hmx
    subst hmn
    exact EffPrim.of (P:=P) (e:=.ret _) (goes_slStr s hu hr (trOpt_rel hρ hlo) (trOpt_rel hρ hhi) hb)
   ·cases he
  ·cases ht
 case fieldAddr t x i =>
  split at ht
  ·rename_i fs x' hu hx
   split at ht
   ·rename_i f hf
    split at ht
    ·rename_i n hn
     split at ht
     ·cases ht
     rename_i hn0
     cases ht
     simp only [prim] at he
     have hr:=hρ _ _ hx
     generalize ρ x' = v at he hr
     cases v <;> simp only [reduceCtorEq,Option.some.injEq] at he
     ·subst he; exact EffPrim.of (P:=P) (e:=.ret _) (goes_faddr s hu hf hn hn0 hr rfl)
     ·subst he; exact EffPrim.of (P:=P) (e:=.ret _) (goes_faddr s hu hf hn hn0 hr rfl)
    ·cases ht
   ·cases ht
  ·cases ht
 case field t x i =>
  split at ht
  ·rename_i fs x' hu hx
   split at ht
   ·rename_i f hf
    simp only [Option.map_eq_some_iff] at ht
    obtain ⟨ag,hag,rfl⟩:=ht
    simp only [prim] at he
    split at he
    ·rename_i cs hv
     split at he
     ·rename_i hle
      simp only [Option.map_eq_some_iff] at he
      obtain ⟨v,hv',rfl⟩:=he
      have hr:=hρ _ _ hx
      rw [hv] at hr
      exact EffPrim.of (P:=P) (e:=.ret _) (goes_field s hu hf hag hr hle hv')
     ·cases he
    ·cases he
   ·cases ht
  ·cases ht
 case indexAddr t x i =>
  split at ht
  ·rename_i n e x' i' hu hx hi
   simp only [Option.map_eq_some_iff] at ht
   obtain ⟨sz,hsz,rfl⟩:=ht
   simp only [prim,Option.bind_eq_some_iff] at he
   obtain ⟨j,hj,he⟩:=he
   have hr:=hρ _ _ hx
   generalize ρ x' = v at he hr
   cases v <;> simp only [reduceCtorEq,Option.some.injEq] at he
   ·subst he; exact EffPrim.of (P:=P) (e:=.ret _) (goes_iaddrA s hu hsz hr (hρ _ _ hi) hj rfl)
   ·subst he; exact EffPrim.of (P:=P) (e:=.ret _) (goes_iaddrA s hu hsz hr (hρ _ _ hi) hj rfl)
  ·rename_i e x' i' hu hx hi
   simp only [Option.map_eq_some_iff] at ht
   obtain ⟨sz,hsz,rfl⟩:=ht
   simp only [prim] at he
   exact EffPrim.of (P:=P) (goes_iaddrS s hu hsz (hρ _ _ hx) (hρ _ _ hi) he)
  ·cases ht
 case index t x i =>
  split at ht
  ·rename_i n e x' i' hu hx hi
   split at ht
   ·rename_i sz ag hsz hag
    cases ht
    simp only [prim,Option.bind_eq_some_iff] at he
    obtain ⟨j,hj,he⟩:=he
    split at he
    ·rename_i cs hv
     split at he
     ·rename_i hle
      simp only [Option.map_eq_some_iff] at he
      obtain ⟨v,hv',rfl⟩:=he
      have hr:=hρ _ _ hx
      rw [hv] at hr
      exact EffPrim.of (P:=P) (e:=.ret _) (goes_indexA s hu hsz hag hr (hρ _ _ hi) hj hle hv')
     ·cases he
    ·cases he
   ·cases ht
  ·rename_i x' i' hu hx hi
   cases ht
   simp only [prim] at he
   split at he
   ·rename_i b hv
    simp only [Option.bind_eq_some_iff,Option.map_eq_some_iff] at he
    obtain ⟨j,hj,c,hcc,rfl⟩:=he
    have hr:=hρ _ _ hx
    rw [hv] at hr
    exact EffPrim.of (P:=P) (e:=.ret _) (goes_indexStr s hu hr (hρ _ _ hi) hj hcc)
   ·cases he
  ·cases ht
 case extract x i =>
  simp only [Option.map_eq_some_iff] at ht
  obtain ⟨x',hx,rfl⟩:=ht
  simp only [prim] at he
  split at he
  ·rename_i vs hv
   simp only [Option.map_eq_some_iff] at he
   obtain ⟨v,hv',rfl⟩:=he
   have hr:=hρ _ _ hx
   rw [hv] at hr
   exact EffPrim.of (P:=P) (e:=.ret _) (goes_extract s hr hv')
  ·cases he
 case call c =>
  obtain ⟨callee,args,argTypes⟩:=c
  cases callee with
  | builtin b =>
   simp only at ht
   exact sim_builtin (ty:=ty) (cs:=_) hρ s ht he
  | value f =>
   cases f <;> simp only at ht
   case func f =>
    simp only [Option.map_eq_some_iff] at ht
    obtain ⟨l,-,rfl⟩:=ht
    simp [prim] at he
   all_goals
    split at ht
    ·cases ht
     simp [prim] at he
    ·cases ht
  | invoke r m => simp at ht
 all_goals cases ht
end Go.Am


set_option linter.unusedVariables false
set_option linter.unusedSimpArgs false
namespace Go.Am
mutual
def V.ren (σ:Nat → Nat):(v:V) → V
 | .junk => .junk
 | .bool b => .bool b
 | .int k n => .int k n
 | .str s => .str s
 | .nilp => .nilp
 | .ptr o v f => .ptr (σ o) v f
 | .iptr cs f => .iptr (V.renL σ cs) f
 | .nils => .nils
 | .view o v f l s c => .view (σ o) v f l s c
 | .vend o v s => .vend (σ o) v s
 | .sl L s c => .sl (V.renL σ L) s c
 | .nilm => .nilm
 | .map o v => .map (σ o) v
 | .nilf => .nilf
 | .func f x y => .func f (V.renL σ x) (V.renL σ y)
 | .yld o v => .yld (σ o) v
 | .nili => .nili
 | .iface t v => .iface t (V.ren σ v)
 | .agg cs => .agg (V.renL σ cs)
 | .tup cs => .tup (V.renL σ cs)
 termination_by structural v => v
def V.renL (σ:Nat → Nat):(l:List V) → List V
 | [] => []
 | v :: l => V.ren σ v :: V.renL σ l
 termination_by structural l => l
end
theorem renL_map (σ:Nat → Nat):∀ l:List V,V.renL σ l = l.map (V.ren σ)
 | [] => rfl
 | v :: l => by rw [V.renL,renL_map σ l]; rfl
theorem cells_ren (σ:Nat → Nat) (v:V):(v.ren σ).cells = v.cells.map (V.ren σ):=by
 cases v <;> simp [V.ren,V.cells,renL_map]
theorem ren_get {σ:Nat → Nat} {l:List V} {i:Nat} {c:V} (h:(V.renL σ l)[i]? = some c):∃ d,l[i]? = some d ∧ c = d.ren σ:=by
 rw [renL_map,List.getElem?_map,Option.map_eq_some_iff] at h
 obtain ⟨d,h1,h2⟩:=h
 exact ⟨d,h1,h2.symm⟩
theorem VRel.ren {g g2:G} {w:World} {σ:Nat → Nat} (hi:∀ b,g.imm b → g2.imm b) (hl:∀ o t b,g.loc o t = some b → g2.loc (σ o) t = some b) {v:V} {x:Value} (h:VRel g w v x):VRel g2 w (v.ren σ) x:=by
 induction h with
 | junk x => exact .junk x
 | bool b => exact .bool b
 | int k n => exact .int k n
 | str s => exact .str s
 | nilp => exact .nilp
 | ptr o t off b base h => exact .ptr _ t off b base (hl _ _ _ h)
 | iptr cs off b base f hm hc hv ih =>
  simp only [V.ren]
  refine .iptr _ off b base f (hi _ hm) (fun j hj => hc j (by rw [renL_map,List.length_map] at hj; exact hj)) (fun j c hj => ?_)
  obtain ⟨d,h1,rfl⟩:=ren_get hj
  exact ih j d h1
 | nils => exact .nils
 | view o t off len s cap b base c n e h hlen hk hs hn => exact .view _ t off len s cap b base c n e (hl _ _ _ h) hlen hk hs hn
 | vend o t s b base x c n e h hs hn => exact .vend _ t s b base x c n e (hl _ _ _ h) hs hn
 | sl L s cap b off c f hm hlen hk hz hc hv ih =>
  simp only [V.ren]
  have e:(V.renL σ L).length = L.length:=by rw [renL_map,List.length_map]
  rw [← e]
  refine .sl _ s cap b off c f (fun hne => hi _ (hm (fun e0 => hne (by rw [e0]; rfl)))) (by rw [e]; exact hlen) hk (fun i d hd => ?_) (fun j hj => hc j (by rw [e] at hj; exact hj)) (fun i d j y hd hy => ?_)
  ·obtain ⟨d0,h1,rfl⟩:=ren_get hd
   rw [cells_ren,List.length_map]
   exact hz i d0 h1
  ·obtain ⟨d0,h1,rfl⟩:=ren_get hd
   rw [cells_ren,List.getElem?_map,Option.map_eq_some_iff] at hy
   obtain ⟨y0,h2,rfl⟩:=hy
   exact ih i d0 j y0 h1 h2
 | sl0 s cap a hk => exact .sl0 s cap a hk
 | nilm => exact .nilm
 | map o t b h => exact .map _ t b (hl _ _ _ h)
 | nilf => exact .nilf
 | func f xs ys xs' ys' hx hy h1 h2 i1 i2 =>
  simp only [V.ren]
  refine .func f _ _ xs' ys' (by rw [renL_map,List.length_map]; exact hx) (by rw [renL_map,List.length_map]; exact hy) (fun i c hc => ?_) (fun i c hc => ?_)
  ·obtain ⟨d,q1,rfl⟩:=ren_get hc
   exact i1 i d q1
  ·obtain ⟨d,q1,rfl⟩:=ren_get hc
   exact i2 i d q1
 | yld o t b h => exact .yld _ t b (hl _ _ _ h)
 | nili => exact .nili
 | iface t v x h ih => exact .iface t _ x ih
 | agg cs xs hx h ih =>
  simp only [V.ren]
  refine .agg _ xs (by rw [renL_map,List.length_map]; exact hx) (fun i c hc => ?_)
  obtain ⟨d,q1,rfl⟩:=ren_get hc
  exact ih i d q1
 | tup cs xs hx h ih =>
  simp only [V.ren]
  refine .tup _ xs (by rw [renL_map,List.length_map]; exact hx) (fun i c hc => ?_)
  obtain ⟨d,q1,rfl⟩:=ren_get hc
  exact ih i d q1
structure Ren (σ τ:Nat → Nat) (lo n:Nat):Prop where
 st:∀ o,o < n → τ (σ o) = o
 ts:∀ o,o < n → σ (τ o) = o
 sn:∀ o,o < n → σ o < n
 tn:∀ o,o < n → τ o < n
 low:∀ o,o < lo → σ o = o
 le:lo ≤ n
theorem Ren.id (lo n:Nat) (h:lo ≤ n):Ren (fun o => o) (fun o => o) lo n:=⟨fun _ _ => rfl,fun _ _ => rfl,fun _ h => h,fun _ h => h,fun _ _ => rfl,h⟩
theorem Ren.lowt {σ τ:Nat → Nat} {lo n:Nat} (R:Ren σ τ lo n) {o:Nat} (h:o < lo):τ o = o:=by
 have:=R.st o (Nat.lt_of_lt_of_le h R.le)
 rwa [R.low o h] at this
def BdEq (σ:Nat → Nat):Bd → Bd → Prop
 | .var a,.var b => b = a.map (V.ren σ)
 | .arr a,.arr b => b = a.map (V.ren σ)
 | .map a,.map b => (∀ e ∈ a,e.1.ren σ = e.1) ∧ b.Perm (a.map fun e => (e.1,e.2.ren σ))
 | .loop st p t fb f k,.loop st' p' t' fb' f' k' => st' = st ∧ p' = p ∧ f' = f ∧ k' = k ∧ t' = t.map (V.ren σ)
 | _,_ => False
structure HeapEq (σ τ:Nat → Nat) (h h2:Heap):Prop where
 len:h2.length = h.length
 ob:∀ (o:Nat) (y:Ob),h2[o]? = some y → ∃ x,h[τ o]? = some x ∧ x.ver = y.ver ∧ (y.bd.lives = true → BdEq σ x.bd y.bd)
theorem BdEq.lives {σ:Nat → Nat} {a b:Bd} (h:BdEq σ a b):a.lives = true:=by
 cases a <;> cases b <;> first | rfl | exact h.elim
def G.ren (g:G) (τ:Nat → Nat) (n:Nat):G:=⟨fun o t => if o < n then g.loc (τ o) t else none,g.imm,g.code⟩
theorem ren_loc {g:G} {h:Heap} {w:World} (s:Sim g h w) {σ τ:Nat → Nat} {lo n:Nat} (R:Ren σ τ lo n) (hn:h.length = n):∀ o t b,g.loc o t = some b → (g.ren τ n).loc (σ o) t = some b:=by
 intro o t b hg
 obtain ⟨x,hx,-⟩:=s.loclt o t b hg
 have ho:o < n:=by rw [← hn]; exact (List.getElem?_eq_some_iff.1 hx).1
 simp only [G.ren,R.sn o ho,if_true,R.st o ho]
 exact hg
theorem keysApart_perm {a b:List (V × V)} (h:KeysApart a) (p:b.Perm a):KeysApart b:=by
 unfold KeysApart at *
 exact (List.Perm.pairwise_iff (fun {x y} hxy => Ne.symm hxy) p).2 h
theorem keysApart_map {a:List (V × V)} (h:KeysApart a) (f:V → V):KeysApart (a.map fun e => (e.1,f e.2)):=by
 unfold KeysApart at *
 exact List.pairwise_map.2 h
theorem BdRel.ren {g g2:G} {w:World} {σ:Nat → Nat} (hc:g2.code = g.code) (hi:∀ b,g.imm b → g2.imm b) (hl:∀ o t b,g.loc o t = some b → g2.loc (σ o) t = some b) {b base:Nat} {x y:Bd} (e:BdEq σ x y) (h:BdRel g w b base x):BdRel g2 w b base y:=by
 have lies:∀ {cs:List V},Lies g w b base cs → Lies g2 w b base (cs.map (V.ren σ)):=by
  intro cs hL i c hci
  rw [List.getElem?_map,Option.map_eq_some_iff] at hci
  obtain ⟨d,h1,rfl⟩:=hci
  obtain ⟨z,h2,h3⟩:=hL i d h1
  exact ⟨z,h2,h3.ren hi hl⟩
 cases x <;> cases y <;> first | exact e.elim | skip
 ·simp only [BdEq] at e
  subst e
  obtain ⟨h1,h2,h3⟩:=h
  exact ⟨h1,h2,lies h3⟩
 ·simp only [BdEq] at e
  subst e
  obtain ⟨h1,h2,h3⟩:=h
  exact ⟨h1,h2,lies h3⟩
 ·obtain ⟨e1,e2⟩:=e
  obtain ⟨h1,h2,p,es',clock,h3,h4,h5,h6⟩:=h
  refine ⟨h1,keysApart_perm (keysApart_map h2 _) e2,p.map (fun e => (e.1,e.2.ren σ)),es',clock,(h3.map _).trans e2.symm,h4,⟨by rw [List.length_map]; exact h5.1,fun i z u hz hu => ?_⟩,h6⟩
  rw [List.getElem?_map,Option.map_eq_some_iff] at hz
  obtain ⟨d,q1,rfl⟩:=hz
  obtain ⟨q2,q3⟩:=h5.2 i d u q1 hu
  refine ⟨?_,q3.ren hi hl⟩
  have:=q2.ren hi hl
  rwa [e1 d (h3.mem_iff.1 (List.mem_of_getElem? q1))] at this
 ·obtain ⟨rfl,rfl,rfl,rfl,rfl⟩:=e
  obtain ⟨h1,rec,h2,h3,h4,h5,h6,h7⟩:=h
  refine ⟨h1,rec,h2,h3,h4,by rw [hc]; exact h5,by rw [List.length_map]; exact h6,fun i v hv => ?_⟩
  rw [List.getElem?_map,Option.map_eq_some_iff] at hv
  obtain ⟨d,q1,rfl⟩:=hv
  exact (h7 i d q1).ren hi hl
theorem ren_blk {g:G} {h h2:Heap} {σ τ:Nat → Nat} {n:Nat} (hn:h.length = n) (H:HeapEq σ τ h h2) {o b:Nat} (hb:blk (g.ren τ n) h2 o = some b):o < n ∧ blk g h (τ o) = some b:=by
 unfold blk at hb
 split at hb
 case h_2 => cases hb
 rename_i y hy
 split at hb
 case isFalse => cases hb
 rename_i hl
 obtain ⟨x,hx,hv,he⟩:=H.ob o y hy
 have ho:o < n:=by rw [← hn,← H.len]; exact (List.getElem?_eq_some_iff.1 hy).1
 refine ⟨ho,?_⟩
 simp only [G.ren,ho,if_true] at hb
 unfold blk
 rw [hx]
 simp only [(he hl).lives,if_true,hv]
 exact hb
theorem Sim.ren {g:G} {h h2:Heap} {w:World} (s:Sim g h w) {σ τ:Nat → Nat} {lo n:Nat} (R:Ren σ τ lo n) (hn:h.length = n) (H:HeapEq σ τ h h2):Sim (g.ren τ n) h2 w:=by
 refine ⟨fun o y hy hl => ?_,fun o o' b h1 h3 => ?_,fun o b hb => s.imm (τ o) b (ren_blk hn H hb).2,s.immlt,fun o t b hg => ?_⟩
 ·obtain ⟨x,hx,hv,he⟩:=H.ob o y hy
  have ho:o < n:=by rw [← hn,← H.len]; exact (List.getElem?_eq_some_iff.1 hy).1
  obtain ⟨b,base,q1,q2,q3⟩:=s.obs (τ o) x hx (he hl).lives
  exact ⟨b,base,by simp only [G.ren,ho,if_true,← hv]; exact q1,q2,BdRel.ren (g:=g) (g2:=g.ren τ n) rfl (fun _ h => h) (ren_loc s R hn) (he hl) q3⟩
 ·obtain ⟨q1,q2⟩:=ren_blk hn H h1
  obtain ⟨q3,q4⟩:=ren_blk hn H h3
  have:=s.inj _ _ _ q2 q4
  rw [← R.ts o q1,← R.ts o' q3,this]
 ·simp only [G.ren] at hg
  split at hg
  ·rename_i ho
   obtain ⟨x,hx,ht⟩:=s.loclt _ _ _ hg
   have ho2:o < h2.length:=by rw [H.len,hn]; exact ho
   refine ⟨_,List.getElem?_eq_getElem ho2,?_⟩
   obtain ⟨z,hz,hv,-⟩:=H.ob o _ (List.getElem?_eq_getElem ho2)
   rw [hx] at hz
   cases hz
   rw [← hv]
   exact ht
  ·cases hg
theorem Ext.ren {g0 g:G} {h0 h h2:Heap} {w0 w:World} (s0:Sim g0 h0 w0) (s:Sim g h w) (e:Ext g0 h0 w0 g h w) {σ τ:Nat → Nat} {lo n:Nat} (R:Ren σ τ lo n) (hn:h.length = n) (hlo:h0.length ≤ lo) (H:HeapEq σ τ h h2):Ext g0 h0 w0 (g.ren τ n) h2 w where
 code:=e.code
 loc o t b hg:=by
  obtain ⟨x,hx,-⟩:=s0.loclt o t b hg
  have ho:o < lo:=Nat.lt_of_lt_of_le (List.getElem?_eq_some_iff.1 hx).1 hlo
  simp only [G.ren,Nat.lt_of_lt_of_le ho R.le,if_true,R.lowt ho]
  exact e.loc _ _ _ hg
 imm:=e.imm
 imm':=e.imm'
 size:=e.size
 shape:=e.shape
 frame:=e.frame
 own o b hb hlt:=e.own (τ o) b (ren_blk hn H hb).2 hlt
 os:=e.os
 tape:=e.tape
 output:=e.output
end Go.Am


set_option linter.unusedVariables false
set_option linter.unusedSimpArgs false
namespace Go.Am
structure AOper where
 dst:Option Nat
 op:AOp
 guard:Option (Nat × Bool)
 deriving Inhabited
inductive ACode where
 | skip
 | region (ops:List AOper)
 | draw (ops:List (AOper × List Nat))
 | seq (a b:ACode)
 | cond (c:Opd) (thn els:ACode)
 | block (id:Nat) (body:ACode)
 | loop (clr kill:List Nat) (body:ACode)
 | exit (id:Nat)
 | ret
 | clr (l:List Nat)
 | rangeF (f:Opd) (ps:List Nat) (asn body:ACode) (fid k site:Nat)
 | fresh (n:Nat) (body:ACode)
 | rangeM (m:Opd) (it nx ok en site:Nat) (clr kill:List Nat) (body:ACode)
 deriving Inhabited
abbrev YLD:Nat:=1000000007
inductive Ex where
 | norm | exit (id:Nat) | ret
inductive ARes where
 | tmp (t:Nat)
 | cell (t:Nat) (ag:Option Nat)
 deriving Inhabited
inductive FMode where
 | pure | auto | keep | look
 deriving Inhabited,DecidableEq
structure AFunc where
 nargs:Nat
 nt:Nat
 sites:Nat
 mode:FMode
 body:ACode
 res:List ARes
 deriving Inhabited
def ev (t:List V):Opd → V
 | .tmp i => t.getD i .junk
 | .cst v => v
def put (t:List V) (dst:Option Nat) (v:V):List V :=
 match dst with
 | some d => t.set d v
 | none => t
def wanted (o:AOper) (t:List V):Option Bool :=
 match o.guard with
 | none => some true
 | some (g,want) =>
  match t.getD g .junk with
  | .bool b => some (match want with | true => b | false => !b)
  | .tup [] => some false
  | _ => none
abbrev Caller:=FuncId → List V → Heap → Option (V × Heap)
def doOp (call:Caller) (fb:Nat) (op:AOp) (ρ:Opd → V) (h:Heap):Option (V × Heap) :=
 match op with
 | .call f args => if f = YLD then none else call f (args.map ρ) h
 | .callv f args =>
  match ρ f with
  | .func g xs ys => if g = YLD then none else call g (xs ++ args.map ρ ++ ys) h
  | .yld o ver => call YLD (.yld o ver :: args.map ρ) h
  | _ => none
 | op =>
  match prim fb ρ (fun o => h[o]?) op with
  | some (.ret v) => some (v,h)
  | some (.set o x v) => some (v,h.set o x)
  | none => none
def stepOp (call:Caller) (fb:Nat) (o:AOper) (t:List V) (h:Heap):Option (List V × Heap) :=
 match wanted o t with
 | none => none
 | some false => some (put t o.dst (.tup []),h)
 | some true =>
  match doOp call fb o.op (ev t) h with
  | some (v,h') => some (put t o.dst v,h')
  | none => none
def runOps (call:Caller) (fb:Nat):List AOper → List V → Heap → Option (List V × Heap)
 | [],t,h => some (t,h)
 | o :: os,t,h =>
  match stepOp call fb o t h with
  | some (t',h') => runOps call fb os t' h'
  | none => none
mutual
def V.objs:(v:V) → List Nat
 | .ptr o _ _ | .view o _ _ _ _ _ | .vend o _ _ | .map o _ | .yld o _ => [o]
 | .iptr cs _ => V.objsL cs
 | .sl L _ _ => V.objsL L
 | .func _ xs ys => V.objsL xs ++ V.objsL ys
 | .iface _ v => V.objs v
 | .agg cs => V.objsL cs
 | .tup cs => V.objsL cs
 | _ => []
 termination_by structural v => v
def V.objsL:(l:List V) → List Nat
 | [] => []
 | v :: l => V.objs v ++ V.objsL l
 termination_by structural l => l
end
def Bd.objs:Bd → List Nat
 | .dead => []
 | .var cs | .arr cs => V.objsL cs
 | .map es => es.flatMap fun x => x.1.objs ++ x.2.objs
 | .loop _ _ t _ _ _ => V.objsL t
def keepOnly (R:List Nat) (h:Heap):Heap:=h.mapIdx fun o x => if R.contains o then x else ⟨0,.dead⟩
def inside (R:List Nat) (n o:Nat):Bool:=R.contains o || decide (n ≤ o)
def mergeH (R:List Nat) (h h1:Heap):Heap:=h1.mapIdx fun o x => if inside R h.length o then x else h.getD o x
def closedIn (R:List Nat) (n:Nat) (h1:Heap):Bool:=h1.zipIdx.all fun (x,o) => !inside R n o || x.bd.objs.all (inside R n)
def namedBy (h:Heap) (o:Nat):List Nat:=match h[o]? with | some x => x.bd.objs | none => []
def addNew (l:List Nat):List Nat → List Nat
 | [] => l
 | o :: r => match l.contains o with | true => addNew l r | false => addNew (l ++ [o]) r
def reachN (h:Heap):Nat → List Nat → List Nat
 | 0,l => l
 | k + 1,l => reachN h k (addNew l (l.flatMap (namedBy h)))
def reachC (h:Heap) (l:List Nat):List Nat:=match l with | [] => [] | l => reachN h 6 l
def shutIn (R:List Nat) (h:Heap):Bool:=R.all fun o => (namedBy h o).all R.contains
def frameC (pureF:FuncId → FMode) (call:Caller):Caller:=fun f args h =>
 if f = YLD then (match call f args h with | some (v,k) => if h.length ≤ k.length then some (v,k) else none | none => none) else
 match pureF f with
 | .pure => call f args h
 | .look => if shutIn (reachC h (V.objsL args)) h then call f args h else none
 | _ =>
 match closedIn (reachC h (V.objsL args)) h.length (keepOnly (reachC h (V.objsL args)) h),call f args (keepOnly (reachC h (V.objsL args)) h) with
 | true,some (v,h1) => if h.length ≤ h1.length && v.objs.all (inside (reachC h (V.objsL args)) h.length) && closedIn (reachC h (V.objsL args)) h.length h1 then some (v,mergeH (reachC h (V.objsL args)) h h1) else none
 | _,_ => none
inductive Fp where
 | io (r w:List Nat)
 | call (r:List Nat)
 | bar
def fpV:V → List Nat
 | .ptr o _ _ => [o]
 | .view o _ _ _ _ _ => [o]
 | .vend o _ _ => [o]
 | .map o _ => [o]
 | _ => []
def fpCall (m:FMode) (R:List Nat):Fp :=
 match m with
 | .pure => .io [] []
 | .look => .io R []
 | _ => .call R
def fpOf (pureF:FuncId → FMode) (fb:Nat) (ρ:Opd → V) (h:Heap):AOp → Fp
 | .allocz s _ | .box s _ | .mkslice s _ _ _ _ _ | .s2b s _ | .bnew s _ _ _ _ | .mkmap s => .io [] [fb + s]
 | .mget _ _ _ _ m _ | .mlen m => .io (fpV (ρ m)) []
 | .mput _ _ m _ _ | .mdel _ _ m _ | .mclear m => .io [] (fpV (ρ m))
 | .load _ a => .io (fpV (ρ a)) []
 | .store _ a _ => .io [] (fpV (ρ a))
 | .clearS _ _ x => .io [] (fpV (ρ x))
 | .b2s x | .mark x => .io (fpV (ρ x)) []
 | .slA _ _ x _ _ _ | .slS _ x _ _ _ => .io (fpV (ρ x)) []
 | .append s _ _ x y => .io (fpV (ρ y)) ((fb + s) :: fpV (ρ x))
 | .copy _ x y => .io (fpV (ρ y)) (fpV (ρ x))
 | .call f args => fpCall (pureF f) (reachC h (V.objsL (args.map ρ)))
 | .callv f args => match ρ f with | .func g xs ys => fpCall (pureF g) (reachC h (V.objsL (xs ++ args.map ρ ++ ys))) | _ => .bar
 | _ => .io [] []
def disj (a b:List Nat):Bool:=a.all fun x => !b.contains x
def Fp.ok (n:Nat):Fp → Fp → Bool
 | .io r w,.io r' w' => disj w (r' ++ w') && disj w' r
 | .io r w,.call R => disj R (r ++ w) && (r ++ w).all fun o => decide (o < n)
 | .call R,.io r w => disj R (r ++ w) && (r ++ w).all fun o => decide (o < n)
 | .io [] [],.bar => true
 | .bar,.io [] [] => true
 | _,_ => false
mutual
def V.same:V → V → Bool
 | .junk,b => match b with | .junk => true | _ => false
 | .bool x,b => match b with | .bool y => x == y | _ => false
 | .int k x,b => match b with | .int k' y => decide (k = k') && decide (x = y) | _ => false
 | .str x,b => match b with | .str y => x == y | _ => false
 | .nilp,b => match b with | .nilp => true | _ => false
 | .ptr o v f,b => match b with | .ptr o' v' f' => o == o' && (v == v' && f == f') | _ => false
 | .iptr cs f,b => match b with | .iptr cs' f' => V.sameL cs cs' && f == f' | _ => false
 | .nils,b => match b with | .nils => true | _ => false
 | .view o v f l s c,b => match b with | .view o' v' f' l' s' c' => o == o' && (v == v' && (f == f' && (l == l' && (s == s' && c == c')))) | _ => false
 | .vend o v s,b => match b with | .vend o' v' s' => o == o' && (v == v' && s == s') | _ => false
 | .sl L s c,b => match b with | .sl L' s' c' => V.sameL L L' && (s == s' && c == c') | _ => false
 | .nilm,b => match b with | .nilm => true | _ => false
 | .map o v,b => match b with | .map o' v' => o == o' && v == v' | _ => false
 | .nilf,b => match b with | .nilf => true | _ => false
 | .func f x y,b => match b with | .func f' x' y' => f == f' && (V.sameL x x' && V.sameL y y') | _ => false
 | .yld o v,b => match b with | .yld o' v' => o == o' && v == v' | _ => false
 | .nili,b => match b with | .nili => true | _ => false
 | .iface t v,b => match b with | .iface t' v' => t == t' && V.same v v' | _ => false
 | .agg cs,b => match b with | .agg cs' => V.sameL cs cs' | _ => false
 | .tup cs,b => match b with | .tup cs' => V.sameL cs cs' | _ => false
 termination_by structural v => v
def V.sameL:List V → List V → Bool
 | [],b => match b with | [] => true | _ => false
 | x :: l,b => match b with | y :: m => V.same x y && V.sameL l m | _ => false
 termination_by structural l => l
end
mutual
theorem V.same_eq:∀ (a b:V),V.same a b = true → a = b
 | .junk,b,h => by cases b <;> simp [V.same] at h; rfl
 | .bool x,b,h => by cases b <;> simp [V.same] at h; rw [h]
 | .int k x,b,h => by cases b <;> simp [V.same] at h; rw [h.1,h.2]
 | .str x,b,h => by cases b <;> simp [V.same] at h; rw [h]
 | .nilp,b,h => by cases b <;> simp [V.same] at h; rfl
 | .ptr o v f,b,h => by cases b <;> simp [V.same] at h; rw [h.1,h.2.1,h.2.2]
 | .iptr cs f,b,h => by cases b <;> simp [V.same] at h; rw [V.sameL_eq _ _ h.1,h.2]
 | .nils,b,h => by cases b <;> simp [V.same] at h; rfl
 | .view o v f l s c,b,h => by cases b <;> simp [V.same] at h; rw [h.1,h.2.1,h.2.2.1,h.2.2.2.1,h.2.2.2.2.1,h.2.2.2.2.2]
 | .vend o v s,b,h => by cases b <;> simp [V.same] at h; rw [h.1,h.2.1,h.2.2]
 | .sl L s c,b,h => by cases b <;> simp [V.same] at h; rw [V.sameL_eq _ _ h.1,h.2.1,h.2.2]
 | .nilm,b,h => by cases b <;> simp [V.same] at h; rfl
 | .map o v,b,h => by cases b <;> simp [V.same] at h; rw [h.1,h.2]
 | .nilf,b,h => by cases b <;> simp [V.same] at h; rfl
 | .func f x y,b,h => by cases b <;> simp [V.same] at h; rw [h.1,V.sameL_eq _ _ h.2.1,V.sameL_eq _ _ h.2.2]
 | .yld o v,b,h => by cases b <;> simp [V.same] at h; rw [h.1,h.2]
 | .nili,b,h => by cases b <;> simp [V.same] at h; rfl
 | .iface t v,b,h => by cases b <;> simp [V.same] at h; rw [h.1,V.same_eq _ _ h.2]
 | .agg cs,b,h => by cases b <;> simp [V.same] at h; rw [V.sameL_eq _ _ h]
 | .tup cs,b,h => by cases b <;> simp [V.same] at h; rw [V.sameL_eq _ _ h]
theorem V.sameL_eq:∀ (a b:List V),V.sameL a b = true → a = b
 | [],b,h => by cases b <;> simp [V.sameL] at h; rfl
 | x :: l,b,h => by cases b <;> simp [V.sameL] at h; rw [V.same_eq _ _ h.1,V.sameL_eq _ _ h.2]
end
mutual
theorem V.same_self:∀ (a:V),V.same a a = true
 | .junk | .bool _ | .int _ _ | .str _ | .nilp | .ptr _ _ _ | .nils | .view _ _ _ _ _ _ | .vend _ _ _ | .nilm | .map _ _ | .nilf | .yld _ _ | .nili => by simp [V.same]
 | .iptr cs f => by simp [V.same,V.sameL_self cs]
 | .sl L s c => by simp [V.same,V.sameL_self L]
 | .func f x y => by simp [V.same,V.sameL_self x,V.sameL_self y]
 | .iface t v => by simp [V.same,V.same_self v]
 | .agg cs => by simp [V.same,V.sameL_self cs]
 | .tup cs => by simp [V.same,V.sameL_self cs]
theorem V.sameL_self:∀ (a:List V),V.sameL a a = true
 | [] => rfl
 | x :: l => by simp [V.sameL,V.same_self x,V.sameL_self l]
end
def sameO (a b:Option Ob):Bool :=
 match a with
 | none => match b with | none => true | some _ => false
 | some ⟨v,.dead⟩ => match b with | some ⟨v',.dead⟩ => v == v' | _ => false
 | some ⟨v,.var cs⟩ => match b with | some ⟨v',.var cs'⟩ => v == v' && V.sameL cs cs' | _ => false
 | some ⟨v,.arr cs⟩ => match b with | some ⟨v',.arr cs'⟩ => v == v' && V.sameL cs cs' | _ => false
 | _ => false
theorem sameO_eq {a b:Option Ob} (h:sameO a b = true):a = b:=by
 unfold sameO at h
 split at h
 ·split at h
  ·rfl
  ·cases h
 ·split at h
  ·simp only [beq_iff_eq] at h; rw [h]
  ·cases h
 ·split at h
  ·simp only [Bool.and_eq_true,beq_iff_eq] at h; rw [h.1,V.sameL_eq _ _ h.2]
  ·cases h
 ·split at h
  ·simp only [Bool.and_eq_true,beq_iff_eq] at h; rw [h.1,V.sameL_eq _ _ h.2]
  ·cases h
 ·cases h
def sameR (R:List Nat) (h h':Heap):Bool:=R.all fun o => sameO h[o]? h'[o]?
inductive FpT where
 | rd (r:List Nat)
 | rc (R:List Nat)
 | of (f:Fp)
def FpT.bar:FpT:=.of .bar
def FpT.ok (n:Nat):FpT → Fp → Bool
 | .of f,g => f.ok n g
 | .rd r,.io _ w => disj w r
 | .rd r,.call R => disj R r
 | .rd r,.bar => r.isEmpty
 | .rc R,.io r w => disj R w && (r ++ w).all fun o => decide (o < n)
 | .rc _,_ => false
def tagF (b:Bool) (f:Fp):FpT :=
 match b with
 | false => .of f
 | true => match f with | .io r _ => .rd r | .call R => .of (.call R) | .bar => .of .bar
def tagP (b:Bool) (f:Fp) (h h':Heap):FpT :=
 match f with
 | .call R => match sameR R h h' with | true => .rc R | false => .of (.call R)
 | .io r w => tagF b (.io r w)
 | .bar => tagF b .bar
def AOp.rds (ρ:Opd → V):AOp → Bool
 | .load _ _ => true
 | .b2s x => match ρ x with | .vend _ _ _ => false | _ => true
 | _ => false
def fpAt (pureF:FuncId → FMode) (fb:Nat) (o:AOper) (t:List V) (h:Heap):Fp :=
 match wanted o t with
 | some true => fpOf pureF fb (ev t) h o.op
 | _ => .io [] []
def runDraw (pureF:FuncId → FMode) (call:Caller) (fb n:Nat):List (AOper × List Nat) → List FpT → List V → Heap → Option (List V × Heap)
 | [],_,t,h => some (t,h)
 | (o,ps) :: os,fps,t,h =>
  if ps.all (fun k => (fps.getD k .bar).ok n (fpAt pureF fb o t h)) then
   match stepOp call fb o t h with
   | some (t',h') => runDraw pureF call fb n os (fps ++ [tagP (o.op.rds (ev t)) (fpAt pureF fb o t h) h h']) t' h'
   | none => none
  else none
def clear (clr:List Nat) (t:List V):List V:=clr.foldl (fun t i => t.set i .junk) t
def killA (fb:Nat) (kill:List Nat) (h:Heap):Heap:=kill.foldl (fun h k => match h[fb + k]? with | some x => h.set (fb + k) ⟨x.ver,.dead⟩ | none => h) h
def loopN (f:List V → Heap → Option (Ex × List V × Heap)) (pre:List V → Heap → List V × Heap):Nat → List V → Heap → Option (Ex × List V × Heap)
 | 0,_,_ => none
 | n + 1,t,h =>
  match f (pre t h).1 (pre t h).2 with
  | some (.norm,t',h') => loopN f pre n t' h'
  | r => r
def setPs (ps:List Nat) (xs:List V) (t:List V):List V:=(ps.zip xs).foldl (fun t p => t.set p.1 p.2) t
def jumpE:Option (Option Nat) → Ex
 | none => .norm
 | some none => .ret
 | some (some i) => .exit i
def deads (n:Nat):Heap:=List.replicate n ⟨0,.dead⟩
def mapOf (h:Heap):V → Option (Option (Nat × Nat) × List (V × V))
 | .nilm => some (none,[])
 | .map o ver => match mapAt (fun o => h[o]?) o ver with | some es => some (some (o,ver),es) | none => none
 | _ => none
def hideM (om:Option (Nat × Nat)) (h:Heap):Heap:=match om with | some (o,ver) => h.set o ⟨ver,.dead⟩ | none => h
def showM (om:Option (Nat × Nat)) (es:List (V × V)) (r:Ex × List V × Heap):Option (Ex × List V × Heap) :=
 match om with
 | none => some r
 | some (o,ver) => match r.2.2[o]? with | some ⟨v,.dead⟩ => if v = ver then some (r.1,r.2.1,r.2.2.set o ⟨ver,.map es⟩) else none | _ => none
def roundM (nx ok en:Nat) (e:V × V) (t:List V):List V:=((t.set nx (.tup [.bool true,e.1,e.2])).set ok (.bool true)).set en (.tup [e.1,e.2])
def overM (nx ok:Nat) (t:List V):List V:=(t.set nx (.tup [.bool false])).set ok (.bool false)
def rdyM (it nx ok:Nat) (itv:V) (t:List V):Bool:=V.same (t.getD it .junk) itv && (decide (nx < t.length) && decide (ok < t.length))
def roundsM (f:List V → Heap → Option (Ex × List V × Heap)) (it nx ok en:Nat) (itv:V):List (V × V) → List V → Heap → Option (Ex × List V × Heap)
 | [],t,h => match rdyM it nx ok itv t with | true => some (.norm,overM nx ok t,h) | false => none
 | e :: es,t,h =>
  match rdyM it nx ok itv t with
  | true =>
   match f (roundM nx ok en e t) h with
   | some (.norm,t',h') => roundsM f it nx ok en itv es t' h'
   | r => r
  | false => none
def leaveM (clr kill:List Nat) (fb:Nat) (r:Ex × List V × Heap):Ex × List V × Heap:=(r.1,clear clr r.2.1,killA fb kill r.2.2)
def Alike (lo:Nat) (a b:Ex × List V × Heap):Prop:=b.1 = a.1 ∧ ∃ σ τ,Ren σ τ lo a.2.2.length ∧ b.2.1 = a.2.1.map (V.ren σ) ∧ HeapEq σ τ a.2.2 b.2.2
def AnyOrder (f:List V → Heap → Option (Ex × List V × Heap)) (it nx ok en:Nat) (itv:V) (clr kill:List Nat) (fb:Nat) (es:List (V × V)) (t:List V) (h:Heap) (r:Ex × List V × Heap):Prop :=
 ∀ π:List (V × V),π.Perm es → ∃ r',roundsM f it nx ok en itv π t h = some r' ∧ Alike h.length (leaveM clr kill fb r') (leaveM clr kill fb r)
def Clo (h:Heap) (t:List V):Prop:=(∀ (o:Nat) (x:Ob),h[o]? = some x → x.bd.lives = true → ∀ i ∈ x.bd.objs,i < h.length) ∧ ∀ v ∈ t,∀ i ∈ v.objs,i < h.length
open Classical in
noncomputable def rangeC (f:List V → Heap → Option (Ex × List V × Heap)) (it nx ok en so:Nat) (clr kill:List Nat) (fb:Nat) (ver:Nat) (om:Option (Nat × Nat)) (es:List (V × V)) (t:List V) (h:Heap):Option (Ex × List V × Heap) :=
 match roundsM f it nx ok en (.ptr so (ver + 1) 0) es (t.set it (.ptr so (ver + 1) 0)) ((hideM om h).set so ⟨ver + 1,.dead⟩) with
 | some r => if (Clo h t → AnyOrder f it nx ok en (.ptr so (ver + 1) 0) clr kill fb es (t.set it (.ptr so (ver + 1) 0)) ((hideM om h).set so ⟨ver + 1,.dead⟩) r) then showM om es (leaveM clr kill fb r) else none
 | none => none
noncomputable def exec (pureF:FuncId → FMode) (call:Caller) (N fb:Nat):ACode → List V → Heap → Option (Ex × List V × Heap)
 | .skip,t,h => some (.norm,t,h)
 | .region ops,t,h => match runOps call fb ops t h with | some (t',h') => some (.norm,t',h') | none => none
 | .draw ops,t,h => match runDraw pureF (frameC pureF call) fb h.length ops [] t h with | some (t',h') => some (.norm,t',h') | none => none
 | .seq a b,t,h => match exec pureF call N fb a t h with | some (.norm,t',h') => exec pureF call N fb b t' h' | r => r
 | .cond c a b,t,h => match ev t c with | .bool true => exec pureF call N fb a t h | .bool false => exec pureF call N fb b t h | _ => none
 | .block id b,t,h => match exec pureF call N fb b t h with | some (.exit i,t',h') => if i = id then some (.norm,t',h') else some (.exit i,t',h') | r => r
 | .loop clr kill b,t,h => loopN (exec pureF call N fb b) (fun t h => (clear clr t,killA fb kill h)) N t h
 | .exit id,t,h => some (.exit id,t,h)
 | .ret,t,h => some (.ret,t,h)
 | .clr l,t,h => some (.norm,clear l t,h)
 | .fresh n b,t,h => exec pureF call N h.length b t (h ++ deads n)
 | .rangeM m it nx ok en site clr kill b,t,h =>
  match h[fb + site]?,mapOf h (ev t m) with
  | some x,some (om,es) => rangeC (exec pureF call N fb b) it nx ok en (fb + site) clr kill fb x.ver om es t h
  | _,_ => none
 | .rangeF f _ _ _ fid k site,t,h =>
  match h[fb + site]? with
  | some x =>
   match ev t f with
   | .func g xs ys =>
    if g = YLD then none else
    match call g (xs ++ [.yld (fb + site) (x.ver + 1)] ++ ys) (h.set (fb + site) ⟨x.ver + 1,.loop 0 none t fb fid k⟩) with
    | some (_,h2) =>
     match h2[fb + site]? with
     | some ⟨v,.loop st pend _ _ _ _⟩ => if v = x.ver + 1 then if st = 1 then none else some (jumpE pend,t,h2.set (fb + site) ⟨v,.dead⟩) else none
     | _ => none
    | none => none
   | _ => none
  | none => none
def rangesA:ACode → List (List Nat × ACode × ACode)
 | .seq a b => rangesA a ++ rangesA b
 | .cond _ a b => rangesA a ++ rangesA b
 | .block _ b | .loop _ _ b | .fresh _ b | .rangeM _ _ _ _ _ _ _ _ b => rangesA b
 | .rangeF _ ps a b _ _ _ => (ps,a,b) :: (rangesA a ++ rangesA b)
 | _ => []
def Agree (l:List Nat) (get get':Nat → Option Ob):Prop:=∀ o ∈ l,get o = get' o
theorem addNew_sub:∀ (r l:List Nat),∀ o ∈ l,o ∈ addNew l r
 | [],l,o,h => h
 | x :: r,l,o,h => by
  simp only [addNew]
  split
  ·exact addNew_sub r l o h
  ·exact addNew_sub r (l ++ [x]) o (by simp [h])
theorem reachN_sub (h:Heap):∀ (k:Nat) (l:List Nat),∀ o ∈ l,o ∈ reachN h k l
 | 0,l,o,ho => ho
 | k + 1,l,o,ho => reachN_sub h k _ o (addNew_sub _ _ o ho)
theorem reachC_sub (h:Heap) (l:List Nat):∀ o ∈ l,o ∈ reachC h l:=by
 intro o ho
 cases l with
 | nil => cases ho
 | cons x l => exact reachN_sub h 6 (x :: l) o ho
theorem namedBy_congr {h h':Heap} {o:Nat} (e:h[o]? = h'[o]?):namedBy h o = namedBy h' o:=by unfold namedBy; rw [e]
theorem flatMap_congr' {f g:Nat → List Nat}:∀ {l:List Nat},(∀ o ∈ l,f o = g o) → l.flatMap f = l.flatMap g
 | [],_ => rfl
 | x :: l,h => by rw [List.flatMap_cons,List.flatMap_cons,h x (by simp),flatMap_congr' (fun o ho => h o (by simp [ho]))]
theorem reachN_local {h h':Heap}:∀ (k:Nat) (l:List Nat),Agree (reachN h k l) (fun o => h[o]?) (fun o => h'[o]?) → reachN h' k l = reachN h k l
 | 0,l,_ => rfl
 | k + 1,l,ha => by
  have e:l.flatMap (namedBy h') = l.flatMap (namedBy h):=flatMap_congr' fun o ho => (namedBy_congr (ha o (reachN_sub h (k + 1) l o ho))).symm
  simp only [reachN,e]
  exact reachN_local k _ ha
theorem reachC_local {h h':Heap} {l:List Nat} (ha:Agree (reachC h l) (fun o => h[o]?) (fun o => h'[o]?)):reachC h' l = reachC h l:=by
 cases l with
 | nil => rfl
 | cons x l => exact reachN_local 6 _ ha
theorem shutIn_local {R:List Nat} {h h':Heap} (ha:Agree R (fun o => h[o]?) (fun o => h'[o]?)):shutIn R h' = shutIn R h:=by
 unfold shutIn
 rw [Bool.eq_iff_iff,List.all_eq_true,List.all_eq_true]
 constructor <;> intro H o ho
 ·rw [namedBy_congr (ha o ho)]; exact H o ho
 ·rw [← namedBy_congr (ha o ho)]; exact H o ho
theorem addNew_nil (l:List Nat):addNew l [] = l:=rfl
theorem reachN_flat (h:Heap) (l:List Nat) (hf:∀ o ∈ l,namedBy h o = []):∀ k,reachN h k l = l
 | 0 => rfl
 | k + 1 => by
  have:l.flatMap (namedBy h) = []:=by rw [List.flatMap_eq_nil_iff]; exact hf
  simp only [reachN,this,addNew_nil]
  exact reachN_flat h l hf k
theorem reachC_flat {h:Heap} {l:List Nat} (hf:∀ o ∈ l,namedBy h o = []):reachC h l = l:=by
 cases l with
 | nil => rfl
 | cons x l => exact reachN_flat h _ hf 6
theorem addNew_in:∀ (r l:List Nat),(∀ o ∈ r,o ∈ l) → addNew l r = l
 | [],l,_ => rfl
 | x :: r,l,h => by
  have:l.contains x = true:=by simpa using h x (by simp)
  simp only [addNew,this]
  exact addNew_in r l (fun o ho => h o (by simp [ho]))
theorem reachN_closed (h:Heap) (l:List Nat) (hf:∀ o ∈ l,∀ i ∈ namedBy h o,i ∈ l):∀ k,reachN h k l = l
 | 0 => rfl
 | k + 1 => by
  have:addNew l (l.flatMap (namedBy h)) = l:=addNew_in _ _ fun i hi => by
   obtain ⟨o,ho,hi⟩:=List.mem_flatMap.1 hi
   exact hf o ho i hi
  simp only [reachN,this]
  exact reachN_closed h l hf k
theorem reachC_closed {h:Heap} {l:List Nat} (hf:∀ o ∈ l,∀ i ∈ namedBy h o,i ∈ l):reachC h l = l:=by
 cases l with
 | nil => rfl
 | cons x l => exact reachN_closed h _ hf 6
theorem reachC_nil (h:Heap):reachC h [] = []:=rfl
theorem cellsAt_local {get get':Nat → Option Ob} {o ver:Nat} (h:get o = get' o):cellsAt get o ver = cellsAt get' o ver:=by
 unfold cellsAt; rw [h]
theorem loadA_local {get get':Nat → Option Ob} {n:Nat} {p:V} (h:Agree (fpV p) get get'):loadA get n p = loadA get' n p:=by
 cases p <;> simp only [loadA]
 rw [cellsAt_local (h _ (by simp [fpV]))]
theorem firstA_local {get get':Nat → Option Ob} {s n:Nat} {p:V} (h:Agree (fpV p) get get'):firstA get s n p = firstA get' s n p:=by
 cases p <;> simp only [firstA]
 rw [loadA_local (p:=.ptr _ _ _) (by simpa [fpV] using h)]
theorem storeA_local {get get':Nat → Option Ob} {o ver off:Nat} {new:List V} {v:V} (h:get o = get' o):storeA get o ver off new v = storeA get' o ver off new v:=by
 unfold storeA; rw [cellsAt_local h,h]
theorem mkA_local {get get':Nat → Option Ob} {o:Nat} {bd:Bd} {v:Nat → V} (h:get o = get' o):mkA get o bd v = mkA get' o bd v:=by
 unfold mkA; rw [h]
theorem sliceA_local {get get':Nat → Option Ob} {s:Nat} {x:V} {lo hi mx:Option V} (h:Agree (fpV x) get get'):sliceA get s x lo hi mx = sliceA get' s x lo hi mx:=by
 cases x with
 | view o ver off len s' cap =>
  cases cap <;> simp only [sliceA]
  rw [cellsAt_local (h _ (by simp [fpV]))]
 | sl L s' cap => cases cap <;> rfl
 | _ => rfl
theorem appendA_local {get get':Nat → Option Ob} {o s b:Nat} {x y:V} (h1:Agree (fpV y) get get') (h2:Agree (o :: fpV x) get get'):appendA get o s b x y = appendA get' o s b x y:=by
 have ho:=h2 o (by simp)
 unfold appendA
 cases lenA y with
 | none => rfl
 | some n =>
  simp only
  rw [firstA_local h1]
  cases firstA get' s n y with
  | none => rfl
  | some new =>
   simp only
   split
   ·cases x with
    | nils => simp only [mkA_local ho]
    | sl L s' cap => cases cap <;> simp only [mkA_local ho]
    | vend o' ver s' => simp only [cellsAt_local (h2 o' (by simp [fpV]))]
    | view o' ver off len s' cap =>
     have ho':=h2 o' (by simp [fpV])
     simp only [cellsAt_local ho',storeA_local ho',mkA_local ho]
    | _ => rfl
   ·rfl
theorem copyA_local {get get':Nat → Option Ob} {s:Nat} {x y:V} (h1:Agree (fpV y) get get') (h2:Agree (fpV x) get get'):copyA get s x y = copyA get' s x y:=by
 unfold copyA
 cases lenA x with
 | none => rfl
 | some dl =>
  cases lenA y with
  | none => rfl
  | some sl =>
   simp only
   rw [firstA_local h1]
   cases firstA get' s (Nat.min sl dl) y with
   | none => rfl
   | some new =>
    simp only
    split
    ·cases x with
     | view o ver off len s' cap => simp only [storeA_local (h2 o (by simp [fpV]))]
     | _ => rfl
    ·rfl
theorem storeA_set {get:Nat → Option Ob} {o ver off:Nat} {new:List V} {v:V} {o':Nat} {x:Ob} {v':V} (h:storeA get o ver off new v = some (.set o' x v')):o' = o:=by
 unfold storeA at h
 split at h
 ·split at h <;> cases h; rfl
 ·cases h
theorem clearA_local {get get':Nat → Option Ob} {s:Nat} {zero:List V} {x:V} (h:Agree (fpV x) get get'):clearA get s zero x = clearA get' s zero x:=by
 cases x with
 | view o ver off len s' cap => simp only [clearA,storeA_local (h o (by simp [fpV]))]
 | sl L s' cap => cases L <;> rfl
 | _ => rfl
theorem clearA_set {get:Nat → Option Ob} {s:Nat} {zero:List V} {x:V} {o':Nat} {z:Ob} {v':V} (h:clearA get s zero x = some (.set o' z v')):o' ∈ fpV x:=by
 unfold clearA at h
 split at h
 ·cases h
 ·cases h
 ·cases h
 ·split at h
  ·cases h
  ·split at h
   ·rw [storeA_set h]; simp [fpV]
   ·cases h
 ·cases h
theorem mapAt_local {get get':Nat → Option Ob} {o ver:Nat} (h:get o = get' o):mapAt get o ver = mapAt get' o ver:=by
 unfold mapAt; rw [h]
theorem mgetA_local {get get':Nat → Option Ob} {ag:Bool} {ks:List CK} {z:V} {ok:Bool} {m k:V} (h:Agree (fpV m) get get'):mgetA get ag ks z ok m k = mgetA get' ag ks z ok m k:=by
 unfold mgetA
 cases m <;> try rfl
 rename_i o ver
 have e:∀ ver,mapAt get o ver = mapAt get' o ver:=fun ver => mapAt_local (h o (by simp [fpV]))
 simp only [e]
theorem mlenA_local {get get':Nat → Option Ob} {m:V} (h:Agree (fpV m) get get'):mlenA get m = mlenA get' m:=by
 unfold mlenA
 cases m <;> try rfl
 rename_i o ver
 have e:∀ ver,mapAt get o ver = mapAt get' o ver:=fun ver => mapAt_local (h o (by simp [fpV]))
 simp only [e]
theorem mputA_local {get get':Nat → Option Ob} {ag:Bool} {ks:List CK} {m k v:V} (h:Agree (fpV m) get get'):mputA get ag ks m k v = mputA get' ag ks m k v:=by
 unfold mputA
 cases m <;> try rfl
 rename_i o ver
 have e:∀ ver,mapAt get o ver = mapAt get' o ver:=fun ver => mapAt_local (h o (by simp [fpV]))
 simp only [e]
theorem mdelA_local {get get':Nat → Option Ob} {ag:Bool} {ks:List CK} {m k:V} (h:Agree (fpV m) get get'):mdelA get ag ks m k = mdelA get' ag ks m k:=by
 unfold mdelA
 cases m <;> try rfl
 rename_i o ver
 have e:∀ ver,mapAt get o ver = mapAt get' o ver:=fun ver => mapAt_local (h o (by simp [fpV]))
 simp only [e]
theorem mclearA_local {get get':Nat → Option Ob} {m:V} (h:Agree (fpV m) get get'):mclearA get m = mclearA get' m:=by
 unfold mclearA
 cases m <;> try rfl
 rename_i o ver
 have e:∀ ver,mapAt get o ver = mapAt get' o ver:=fun ver => mapAt_local (h o (by simp [fpV]))
 simp only [e]
theorem mputA_set {get:Nat → Option Ob} {ag:Bool} {ks:List CK} {m k v:V} {o:Nat} {x:Ob} {v':V} (h:mputA get ag ks m k v = some (.set o x v')):o ∈ fpV m:=by
 unfold mputA at h
 split at h
 ·cases h
 ·split at h
  ·split at h
   ·cases h
   ·split at h
    ·cases h; simp [fpV]
    ·cases h
  ·cases h
theorem mdelA_set {get:Nat → Option Ob} {ag:Bool} {ks:List CK} {m k:V} {o:Nat} {x:Ob} {v':V} (h:mdelA get ag ks m k = some (.set o x v')):o ∈ fpV m:=by
 unfold mdelA at h
 split at h
 ·cases h
 ·split at h
  ·split at h <;> cases h
  ·split at h
   ·cases h
   ·split at h
    ·cases h; simp [fpV]
    ·cases h
  ·cases h
theorem mclearA_set {get:Nat → Option Ob} {m:V} {o:Nat} {x:Ob} {v':V} (h:mclearA get m = some (.set o x v')):o ∈ fpV m:=by
 unfold mclearA at h
 split at h
 ·cases h
 ·split at h
  ·cases h
  ·cases h; simp [fpV]
 ·cases h
theorem prim_local {pureF:FuncId → FMode} {fb:Nat} {ρ:Opd → V} {h0:Heap} {op:AOp} {r w:List Nat} (hf:fpOf pureF fb ρ h0 op = .io r w) {get get':Nat → Option Ob} (h1:Agree r get get') (h2:Agree w get get') :
  prim fb ρ get op = prim fb ρ get' op:=by
 cases op <;> simp only [fpOf,Fp.io.injEq,reduceCtorEq] at hf
 case allocz s z => obtain ⟨rfl,rfl⟩:=hf; simp only [prim]; exact mkA_local (h2 _ (by simp))
 case mkmap s => obtain ⟨rfl,rfl⟩:=hf; simp only [prim]; exact mkA_local (h2 _ (by simp))
 case mget => obtain ⟨rfl,rfl⟩:=hf; simp only [prim,mgetA_local h1]
 case mlen => obtain ⟨rfl,rfl⟩:=hf; simp only [prim,mlenA_local h1]
 case mput => obtain ⟨rfl,rfl⟩:=hf; simp only [prim]; exact mputA_local h2
 case mdel => obtain ⟨rfl,rfl⟩:=hf; simp only [prim]; exact mdelA_local h2
 case mclear => obtain ⟨rfl,rfl⟩:=hf; simp only [prim]; exact mclearA_local h2
 case box s x =>
  obtain ⟨rfl,rfl⟩:=hf; simp only [prim]
  cases ρ x <;> first | rfl | exact mkA_local (h2 _ (by simp))
 case mkslice s z a b l c =>
  obtain ⟨rfl,rfl⟩:=hf; simp only [prim]
  simp only [mkA_local (h2 (fb + s) (by simp))]
 case s2b s x =>
  obtain ⟨rfl,rfl⟩:=hf; simp only [prim]
  cases ρ x <;> simp only
  simp only [mkA_local (h2 (fb + s) (by simp))]
 case bnew site row len s parts =>
  obtain ⟨rfl,rfl⟩:=hf; simp only [prim]
  simp only [mkA_local (h2 (fb + site) (by simp))]
 case clearS s zero x =>
  obtain ⟨rfl,rfl⟩:=hf; simp only [prim]
  exact clearA_local h2
 case mark x =>
  obtain ⟨rfl,rfl⟩:=hf; simp only [prim]
  cases hA:ρ x <;> simp only
  rw [cellsAt_local (h1 _ (by simp [hA,fpV]))]
 case load ag a => obtain ⟨rfl,rfl⟩:=hf; simp only [prim,loadA_local h1]
 case store n a x =>
  obtain ⟨rfl,rfl⟩:=hf; simp only [prim]
  cases hA:ρ a <;> simp only
  rw [storeA_local (h2 _ (by simp [hA,fpV]))]
 case b2s x =>
  obtain ⟨rfl,rfl⟩:=hf; simp only [prim]
  cases hA:ρ x <;> simp only <;> first | rfl | (rw [hA] at h1; simp only [firstA_local h1])
 case slA n s x lo hi mx =>
  obtain ⟨rfl,rfl⟩:=hf; simp only [prim]
  cases hA:ρ x <;> simp only
  rw [cellsAt_local (h1 _ (by simp [hA,fpV]))]
 case slS s x lo hi mx => obtain ⟨rfl,rfl⟩:=hf; simp only [prim,sliceA_local h1]
 case append s a b x y => obtain ⟨rfl,rfl⟩:=hf; simp only [prim,appendA_local h1 h2]
 case copy s x y => obtain ⟨rfl,rfl⟩:=hf; simp only [prim,copyA_local h1 h2]
 case eqc neg ag ks x y => cases ag <;> rfl
 all_goals rfl
theorem mkA_set {get:Nat → Option Ob} {o:Nat} {bd:Bd} {v:Nat → V} {o':Nat} {x:Ob} {v':V} (h:mkA get o bd v = some (.set o' x v')):o' = o:=by
 unfold mkA at h
 split at h <;> cases h; rfl
theorem appendA_set {get:Nat → Option Ob} {o s b:Nat} {x y:V} {o':Nat} {z:Ob} {v':V} (h:appendA get o s b x y = some (.set o' z v')):o' ∈ o :: fpV x:=by
 unfold appendA at h
 split at h
 ·cases h
 split at h
 ·cases h
 split at h
 case isFalse => cases h
 split at h
 ·split at h
  ·cases h
  ·split at h
   ·rw [mkA_set h]; simp
   ·cases h
 ·split at h
  ·split at h
   ·cases h
   ·split at h
    ·split at h
     ·rw [mkA_set h]; simp
     ·cases h
    ·cases h
  ·cases h
 ·split at h
  ·split at h
   ·cases h
   ·split at h
    ·cases h
    ·split at h
     ·cases h; simp [fpV]
     ·cases h
  ·cases h
 ·split at h
  ·split at h
   ·cases h
   ·split at h
    ·cases h
    ·split at h
     ·split at h
      ·split at h
       ·rw [storeA_set h]; simp [fpV]
       ·split at h
        ·rw [mkA_set h]; simp
        ·cases h
      ·split at h
       ·split at h
        ·cases h; simp [fpV]
        ·cases h
       ·rw [storeA_set h]; simp [fpV]
     ·cases h
  ·cases h
 ·cases h
theorem copyA_set {get:Nat → Option Ob} {s:Nat} {x y:V} {o':Nat} {z:Ob} {v':V} (h:copyA get s x y = some (.set o' z v')):o' ∈ fpV x:=by
 unfold copyA at h
 split at h
 case h_2 => cases h
 simp only at h
 split at h
 ·cases h
 split at h
 case isFalse => cases h
 split at h
 ·cases h
 ·cases h
 ·split at h
  ·split at h
   ·cases h
   ·rw [storeA_set h]; simp [fpV]
  ·cases h
 ·cases h
theorem prim_set {pureF:FuncId → FMode} {fb:Nat} {ρ:Opd → V} {h0:Heap} {op:AOp} {r w:List Nat} (hf:fpOf pureF fb ρ h0 op = .io r w) {get:Nat → Option Ob} {o:Nat} {x:Ob} {v:V}
  (h:prim fb ρ get op = some (.set o x v)):o ∈ w:=by
 have map_ret:∀ {α:Type} (m:Option α) (f:α → V),(m.map fun a => Eff.ret (f a)) = some (.set o x v) → False:=by
  intro α m f hm
  cases m <;> simp at hm
 cases op <;> simp only [fpOf,Fp.io.injEq,reduceCtorEq] at hf <;> (try (obtain ⟨rfl,rfl⟩:=hf)) <;> simp only [prim] at h
 case allocz s z => rw [mkA_set h]; simp
 case mkmap s => rw [mkA_set h]; simp
 case mget => exact (map_ret _ (fun v => v) h).elim
 case mlen => exact (map_ret _ (fun v => v) h).elim
 case s2ap => exact (map_ret _ (fun v => v) h).elim
 case mput => exact mputA_set h
 case mdel => exact mdelA_set h
 case mclear => exact mclearA_set h
 case box s y =>
  split at h
  ·cases h
  ·rw [mkA_set h]; simp
 case mkslice s z a b l c =>
  split at h
  ·split at h
   ·split at h
    ·split at h
     ·split at h
      ·rw [mkA_set h]; simp
      ·cases h
     ·cases h
    ·cases h
   ·cases h
  ·cases h
 case s2b s y =>
  split at h
  ·rw [mkA_set h]; simp
  ·cases h
 case bnew s row len sz parts =>
  split at h
  ·rw [mkA_set h]; simp
  ·cases h
 case clearS s zero y => exact clearA_set h
 case slA n s y lo hi mx =>
  split at h
  ·split at h
   ·exact (map_ret _ _ h).elim
   ·cases h
  ·simp only [Option.bind_eq_some_iff] at h
   obtain ⟨a,-,h⟩:=h
   split at h
   ·split at h <;> cases h
   ·cases h
  ·cases h
 case minmax mx xs =>
  split at h
  ·exact (map_ret _ (fun v => v) h).elim
  ·cases h
 case mark y =>
  split at h
  ·split at h
   ·cases h
   ·cases h
  ·cases h
 case b2s y =>
  split at h
  ·cases h
  ·simp only [Option.bind_eq_some_iff] at h
   obtain ⟨n,-,cs,-,h⟩:=h
   exact (map_ret _ _ h).elim
 case store n a y =>
  split at h
  ·rename_i o' ver off hA
   split at h
   ·split at h
    ·rw [storeA_set h,hA]; simp [fpV]
    ·cases h
   ·cases h
  ·cases h
 case append s a b y z => exact appendA_set h
 case copy s y z => exact copyA_set h
 case eqc neg ag ks y z =>
  cases ag <;> simp only [prim] at h
  ·exact (map_ret _ _ h).elim
  ·split at h
   ·exact (map_ret _ _ h).elim
   ·cases h
 case iaddrA n s y i =>
  simp only [Option.bind_eq_some_iff] at h
  obtain ⟨j,-,h⟩:=h
  split at h <;> simp at h
 case iaddrS s y i =>
  unfold iaddrSA at h
  split at h
  ·split at h
   ·exact (map_ret _ _ h).elim
   ·cases h
  ·split at h
   ·simp only [Option.bind_eq_some_iff] at h
    obtain ⟨j,-,h⟩:=h
    exact (map_ret _ _ h).elim
   ·cases h
  ·cases h
 case indexA n s ag y i =>
  simp only [Option.bind_eq_some_iff] at h
  obtain ⟨j,-,h⟩:=h
  split at h
  ·split at h
   ·exact (map_ret _ (fun v => v) h).elim
   ·cases h
  ·cases h
 case lenS y =>
  split at h
  ·cases h
  ·exact (map_ret _ _ h).elim
 case indexStr y i =>
  split at h
  ·simp only [Option.bind_eq_some_iff] at h
   obtain ⟨j,-,h⟩:=h
   exact (map_ret _ _ h).elim
  ·cases h
 all_goals
  exfalso
  first
  | (simp at h; done)
  | (simp only [Option.bind_eq_some_iff,Option.map_eq_some_iff,reduceCtorEq,and_false,exists_false,exists_const] at h; done)
  | ((repeat' split at h) <;> first | (cases h; done) | (simp at h; done))
  | skip
end Go.Am


set_option linter.unusedVariables false
set_option linter.unusedSimpArgs false
namespace Go.Am
def AOp.opds:AOp → List Opd
 | .move x | .box _ x | .nilck x | .eqnil _ _ x | .un _ x | .cint _ x | .cstr x | .b2s x | .s2b _ x | .mkiface _ x | .faddr _ x | .field _ _ x | .extract x _ | .lenS x | .lenStr x | .load _ x | .clearS _ _ x | .mark x | .s2ap _ _ x | .mclear x | .mlen x => [x]
 | .pick a b c | .mput _ _ a b c => [a,b,c]
 | .allocz .. | .lenK _ | .mkmap _ | .stuck => []
 | .mget _ _ _ _ a x | .mdel _ _ a x => [a,x]
 | .build _ ps | .bslice _ _ _ ps | .bnew _ _ _ _ ps => ps.map (·.2.2)
 | .store _ a x | .bin _ a x | .eqc _ _ _ a x | .iaddrA _ _ a x | .iaddrS _ a x | .indexA _ _ _ a x | .indexStr a x | .append _ _ _ a x | .copy _ a x | .mkslice _ _ _ _ a x => [a,x]
 | .mkfunc _ xs ys => xs ++ ys
 | .slA _ _ x a b c | .slS _ x a b c => x :: (a.toList ++ b.toList ++ c.toList)
 | .slStr x a b => x :: (a.toList ++ b.toList)
 | .call _ xs | .minmax _ xs => xs
 | .callv f xs => f :: xs
def tmpsOf (xs:List Opd):List Nat:=xs.filterMap fun | .tmp t => some t | .cst _ => none
def AOper.looks (o:AOper):List Nat:=tmpsOf o.op.opds ++ (match o.guard with | some (g,_) => [g] | none => [])
def apartA (x y:AOper):Bool :=
 (match x.dst with | some d => !y.looks.contains d && y.dst != some d | none => true) && (match y.dst with | some d => !x.looks.contains d | none => true)
theorem map_opt {a:Option Opd} {ρ ρ':Opd → V} (h:∀ x ∈ a.toList,ρ x = ρ' x):a.map ρ = a.map ρ':=by
 cases a with
 | none => rfl
 | some x => simp [h x (by simp)]
theorem map_parts {ps:List (Nat × Nat × Opd)} {ρ ρ':Opd → V} (h:∀ x ∈ ps.map (·.2.2),ρ x = ρ' x):(ps.map fun (o,n,x) => (o,n,ρ x)) = ps.map fun (o,n,x) => (o,n,ρ' x) :=
 List.map_congr_left fun p hp => by
  obtain ⟨a,b,c⟩:=p
  simp only [h c (List.mem_map.2 ⟨_,hp,rfl⟩)]
theorem prim_congr {fb:Nat} {ρ ρ':Opd → V} {get:Nat → Option Ob} {op:AOp} (h:∀ x ∈ op.opds,ρ x = ρ' x):prim fb ρ get op = prim fb ρ' get op:=by
 cases op <;> simp only [AOp.opds,List.mem_cons,List.not_mem_nil,or_false,forall_eq_or_imp,forall_eq] at h
 case eqc neg ag ks x y => cases ag <;> simp only [prim,h]
 case build z ps => simp only [prim,map_parts h]
 case bslice z l s ps => simp only [prim,map_parts h]
 case bnew o z l s ps => simp only [prim,map_parts h]
 case minmax mx xs =>
  simp only [prim]
  rw [List.map_congr_left fun x hx => h x hx]
 case mkfunc f xs ys =>
  simp only [prim]
  rw [List.map_congr_left fun x hx => h x (by simp [hx]),List.map_congr_left fun x hx => h x (by simp [hx])]
 case slA n s x lo hi mx =>
  simp only [prim]
  rw [h.1,map_opt (a:=lo) fun x hx => h.2 x (by simp [hx]),map_opt (a:=hi) fun x hx => h.2 x (by simp [hx]),map_opt (a:=mx) fun x hx => h.2 x (by simp [hx])]
 case slS s x lo hi mx =>
  simp only [prim]
  rw [h.1,map_opt (a:=lo) fun x hx => h.2 x (by simp [hx]),map_opt (a:=hi) fun x hx => h.2 x (by simp [hx]),map_opt (a:=mx) fun x hx => h.2 x (by simp [hx])]
 case slStr x lo hi =>
  simp only [prim]
  rw [h.1,map_opt (a:=lo) fun x hx => h.2 x (by simp [hx]),map_opt (a:=hi) fun x hx => h.2 x (by simp [hx])]
 all_goals simp only [prim,h]
theorem doOp_congr {call:Caller} {fb:Nat} {ρ ρ':Opd → V} {h:Heap} {op:AOp} (hx:∀ x ∈ op.opds,ρ x = ρ' x):doOp call fb op ρ h = doOp call fb op ρ' h:=by
 cases op with
 | call f args =>
  have:args.map ρ = args.map ρ':=List.map_congr_left fun x hx' => hx x hx'
  simp only [doOp,this]
 | callv f args =>
  have e1:=hx f (by simp [AOp.opds])
  have e2:args.map ρ = args.map ρ':=List.map_congr_left fun x hx' => hx x (by simp [AOp.opds,hx'])
  simp only [doOp,e1,e2]
 | _ => simp only [doOp,prim_congr hx]
theorem fpOf_congr {pureF:FuncId → FMode} {fb:Nat} {ρ ρ':Opd → V} {h0:Heap} {op:AOp} (h:∀ x ∈ op.opds,ρ x = ρ' x):fpOf pureF fb ρ h0 op = fpOf pureF fb ρ' h0 op:=by
 cases op
 case call f args =>
  have:args.map ρ = args.map ρ':=List.map_congr_left fun x hx' => h x hx'
  simp only [fpOf,this]
 case callv f args =>
  have h1:ρ f = ρ' f:=h f (by simp [AOp.opds])
  have h2:args.map ρ = args.map ρ':=List.map_congr_left fun x hx' => h x (by simp [AOp.opds,hx'])
  simp only [fpOf,h1,h2]
 all_goals simp only [AOp.opds,List.mem_cons,List.not_mem_nil,or_false,forall_eq_or_imp,forall_eq] at h <;> simp only [fpOf,h]
theorem ev_put {t:List V} {dst:Option Nat} {v:V} {x:Opd} (h:∀ d,dst = some d → x ≠ .tmp d):ev (put t dst v) x = ev t x:=by
 cases dst with
 | none => rfl
 | some d =>
  cases x with
  | cst c => rfl
  | tmp i =>
   have:d ≠ i:=fun e => h d rfl (by rw [e])
   simp only [ev,put,List.getD_eq_getElem?_getD,List.getElem?_set_ne this]
theorem wanted_put' {t:List V} {dst:Option Nat} {v:V} {o:AOper} (h:∀ d,dst = some d → d ∉ o.looks):wanted o (put t dst v) = wanted o t:=by
 unfold wanted
 cases hg:o.guard with
 | none => rfl
 | some gw =>
  obtain ⟨g,want⟩:=gw
  simp only
  cases dst with
  | none => rfl
  | some d =>
   have:d ≠ g:=fun e => h d rfl (by simp [AOper.looks,hg,e])
   simp only [put,List.getD_eq_getElem?_getD,List.getElem?_set_ne this]
theorem opds_put {t:List V} {dst:Option Nat} {v:V} {o:AOper} (h:∀ d,dst = some d → d ∉ o.looks):∀ x ∈ o.op.opds,ev (put t dst v) x = ev t x:=by
 intro x hx
 refine ev_put fun d hd e => h d hd ?_
 simp only [AOper.looks,tmpsOf,List.mem_append,List.mem_filterMap]
 exact .inl ⟨x,hx,by rw [e]⟩
def resOp (call:Caller) (fb:Nat) (o:AOper) (t:List V) (h:Heap):Option (V × Heap) :=
 match wanted o t with
 | none => none
 | some false => some (.tup [],h)
 | some true => doOp call fb o.op (ev t) h
theorem stepOp_eq (call:Caller) (fb:Nat) (o:AOper) (t:List V) (h:Heap):stepOp call fb o t h = (resOp call fb o t h).map fun p => (put t o.dst p.1,p.2):=by
 unfold stepOp resOp
 cases wanted o t with
 | none => rfl
 | some b =>
  cases b
  ·rfl
  ·simp only
   cases doOp call fb o.op (ev t) h with
   | none => rfl
   | some p => rfl
theorem resOp_put {call:Caller} {fb:Nat} {o:AOper} {t:List V} {h:Heap} {dst:Option Nat} {v:V} (hd:∀ d,dst = some d → d ∉ o.looks):resOp call fb o (put t dst v) h = resOp call fb o t h:=by
 unfold resOp
 rw [wanted_put' hd]
 cases wanted o t with
 | none => rfl
 | some b =>
  cases b
  ·rfl
  ·exact doOp_congr (opds_put hd)
theorem fpAt_put {pureF:FuncId → FMode} {fb:Nat} {o:AOper} {t:List V} {dst:Option Nat} {v:V} {h0:Heap} (hd:∀ d,dst = some d → d ∉ o.looks):fpAt pureF fb o (put t dst v) h0 = fpAt pureF fb o t h0:=by
 unfold fpAt
 rw [wanted_put' hd]
 cases wanted o t with
 | none => rfl
 | some b =>
  cases b
  ·rfl
  ·exact fpOf_congr (opds_put hd)
structure PureOk (pureF:FuncId → FMode) (call:Caller):Prop where
 pure:∀ f args h v h1,f ≠ YLD → pureF f = .pure → call f args h = some (v,h1) → h1 = h ∧ ∀ h',call f args h' = some (v,h')
 look:∀ f args h v h1,f ≠ YLD → pureF f = .look → call f args h = some (v,h1) → h1 = h ∧ (shutIn (reachC h (V.objsL args)) h = true → ∀ h',Agree (reachC h (V.objsL args)) (fun o => h[o]?) (fun o => h'[o]?) → call f args h' = some (v,h'))
def LookOk (pureF:FuncId → FMode) (call:Caller):Prop:=∀ f args h v h1,f ≠ YLD → pureF f = .look → call f args h = some (v,h1) → ∀ h',Agree (reachC h (V.objsL args)) (fun o => h[o]?) (fun o => h'[o]?) → call f args h' = some (v,h')
theorem fpAt_io {pureF:FuncId → FMode} {fb:Nat} {o:AOper} {t:List V} {h h':Heap} {r w:List Nat} (hf:fpAt pureF fb o t h = .io r w) (ha:Agree (r ++ w) (fun o => h[o]?) (fun o => h'[o]?)):fpAt pureF fb o t h' = .io r w:=by
 unfold fpAt at hf ⊢
 cases hw:wanted o t with
 | none => rw [hw] at hf; exact hf
 | some b =>
  cases b with
  | false => rw [hw] at hf; exact hf
  | true =>
   simp only [hw] at hf ⊢
   have calls:∀ f l,fpCall (pureF f) (reachC h l) = .io r w → fpCall (pureF f) (reachC h' l) = .io r w:=by
    intro f l hf
    cases hm:pureF f with
    | pure => rw [hm] at hf; simp only [fpCall] at hf ⊢; exact hf
    | look =>
     rw [hm] at hf
     simp only [fpCall,Fp.io.injEq] at hf ⊢
     obtain ⟨rfl,rfl⟩:=hf
     exact ⟨reachC_local (fun o ho => ha o (by simp [ho])),rfl⟩
    | keep => rw [hm] at hf; cases hf
    | auto => rw [hm] at hf; cases hf
   cases hop:o.op with
   | call f args => rw [hop] at hf; simp only [fpOf] at hf ⊢; exact calls _ _ hf
   | callv f args =>
    rw [hop] at hf
    simp only [fpOf] at hf ⊢
    cases hv:ev t f <;> simp only [hv] at hf ⊢ <;> first | (cases hf; done) | exact calls _ _ hf
   | _ => rw [hop] at hf; simp only [fpOf] at hf ⊢; exact hf
theorem fpAt_call {pureF:FuncId → FMode} {fb:Nat} {o:AOper} {t:List V} {h h':Heap} {R:List Nat} (hf:fpAt pureF fb o t h = .call R) (ha:Agree R (fun o => h[o]?) (fun o => h'[o]?)):fpAt pureF fb o t h' = .call R:=by
 unfold fpAt at hf ⊢
 cases hw:wanted o t with
 | none => rw [hw] at hf; exact hf
 | some b =>
  cases b with
  | false => rw [hw] at hf; exact hf
  | true =>
   simp only [hw] at hf ⊢
   have calls:∀ f l,fpCall (pureF f) (reachC h l) = .call R → fpCall (pureF f) (reachC h' l) = .call R:=by
    intro f l hf
    cases hm:pureF f with
    | pure => rw [hm] at hf; cases hf
    | look => rw [hm] at hf; cases hf
    | keep =>
     rw [hm] at hf
     simp only [fpCall,Fp.call.injEq] at hf ⊢
     subst hf
     exact reachC_local ha
    | auto =>
     rw [hm] at hf
     simp only [fpCall,Fp.call.injEq] at hf ⊢
     subst hf
     exact reachC_local ha
   cases hop:o.op with
   | call f args => rw [hop] at hf; simp only [fpOf] at hf ⊢; exact calls _ _ hf
   | callv f args =>
    rw [hop] at hf
    simp only [fpOf] at hf ⊢
    cases hv:ev t f <;> simp only [hv] at hf ⊢ <;> first | (cases hf; done) | exact calls _ _ hf
   | _ => rw [hop] at hf; simp only [fpOf,reduceCtorEq] at hf
theorem resOp_local {pureF:FuncId → FMode} {call:Caller} (hp:PureOk pureF call) (hk:LookOk pureF call) {fb:Nat} {o:AOper} {t:List V} {h:Heap} {v:V} {h1:Heap} {r w:List Nat} (hf:fpAt pureF fb o t h = .io r w) (hr:resOp call fb o t h = some (v,h1)) :
  (h1 = h ∧ ∀ h',Agree (r ++ w) (fun o => h[o]?) (fun o => h'[o]?) → resOp call fb o t h' = some (v,h')) ∨
  (∃ i x,i ∈ w ∧ h1 = h.set i x ∧ ∀ h',Agree (r ++ w) (fun o => h[o]?) (fun o => h'[o]?) → resOp call fb o t h' = some (v,h'.set i x)):=by
 unfold resOp at hr ⊢
 unfold fpAt at hf
 cases hw:wanted o t with
 | none => simp [hw] at hr
 | some b =>
  cases b with
  | false =>
   simp only [hw,Option.some.injEq,Prod.mk.injEq] at hr
   obtain ⟨rfl,rfl⟩:=hr
   exact .inl ⟨rfl,fun h' _ => rfl⟩
  | true =>
   simp only [hw] at hr hf ⊢
   have plain:∀ (op:AOp),(∀ h,doOp call fb op (ev t) h = match prim fb (ev t) (fun o => h[o]?) op with | some (.ret v) => some (v,h) | some (.set o x v) => some (v,h.set o x) | none => none) → fpOf pureF fb (ev t) h op = .io r w → doOp call fb op (ev t) h = some (v,h1) →
     (h1 = h ∧ ∀ h':Heap,Agree (r ++ w) (fun o => h[o]?) (fun o => h'[o]?) → doOp call fb op (ev t) h' = some (v,h')) ∨
     (∃ i x,i ∈ w ∧ h1 = h.set i x ∧ ∀ h':Heap,Agree (r ++ w) (fun o => h[o]?) (fun o => h'[o]?) → doOp call fb op (ev t) h' = some (v,h'.set i x)):=by
    intro op hd hf hr
    rw [hd] at hr
    have loc:∀ h':Heap,Agree (r ++ w) (fun o => h[o]?) (fun o => h'[o]?) → prim fb (ev t) (fun o => h[o]?) op = prim fb (ev t) (fun o => h'[o]?) op:=fun h' ha =>
     prim_local hf (fun o ho => ha o (by simp [ho])) (fun o ho => ha o (by simp [ho]))
    cases hq:prim fb (ev t) (fun o => h[o]?) op with
    | none => simp [hq] at hr
    | some e =>
     cases e with
     | ret u =>
      simp only [hq,Option.some.injEq,Prod.mk.injEq] at hr
      obtain ⟨rfl,rfl⟩:=hr
      exact .inl ⟨rfl,fun h' ha => by rw [hd,← loc h' ha,hq]⟩
     | set i x u =>
      simp only [hq,Option.some.injEq,Prod.mk.injEq] at hr
      obtain ⟨rfl,rfl⟩:=hr
      exact .inr ⟨i,x,prim_set hf hq,rfl,fun h' ha => by rw [hd,← loc h' ha,hq]⟩
   have calls:∀ f args,f ≠ YLD → fpCall (pureF f) (reachC h (V.objsL args)) = .io r w → call f args h = some (v,h1) →
     (h1 = h ∧ ∀ h':Heap,Agree (r ++ w) (fun o => h[o]?) (fun o => h'[o]?) → call f args h' = some (v,h')):=by
    intro f args hny hf hr
    unfold fpCall at hf
    split at hf
    ·rename_i hm
     obtain ⟨e1,e2⟩:=hp.pure f _ _ _ _ hny hm hr
     exact ⟨e1,fun h' _ => e2 h'⟩
    ·rename_i hm
     cases hf
     exact ⟨(hp.look f _ _ _ _ hny hm hr).1,fun h' ha => hk f _ _ _ _ hny hm hr h' (fun o ho => ha o (by simp [ho]))⟩
    ·cases hf
   cases hop:o.op with
   | call f args =>
    simp only [hop,fpOf] at hf
    simp only [hop,doOp] at hr ⊢
    by_cases hny:f = YLD
    ·rw [if_pos hny] at hr; cases hr
    ·rw [if_neg hny] at hr
     simp only [if_neg hny]
     exact .inl (calls f _ hny hf hr)
   | callv f args =>
    simp only [hop,fpOf] at hf
    simp only [hop,doOp] at hr ⊢
    cases hv:ev t f <;> simp only [hv] at hf hr ⊢ <;> first | (cases hf; done) | skip
    rename_i g xs ys
    by_cases hny:g = YLD
    ·rw [if_pos hny] at hr; cases hr
    ·rw [if_neg hny] at hr
     simp only [if_neg hny]
     exact .inl (calls _ _ hny hf hr)
   | _ =>
    rw [hop] at hf hr
    exact plain _ (fun h => rfl) hf hr
theorem disj_spec {a b:List Nat} (h:disj a b = true):∀ o ∈ a,o ∉ b:=by
 intro o ho hb
 have:=List.all_eq_true.1 h o ho
 simp [hb] at this
theorem apartA_spec {x y:AOper} (h:apartA x y = true):(∀ d,x.dst = some d → d ∉ y.looks) ∧ (∀ d,x.dst = some d → y.dst ≠ some d) ∧ (∀ d,y.dst = some d → d ∉ x.looks):=by
 refine ⟨fun d hd => ?_,fun d hd => ?_,fun d hd => ?_⟩ <;> simp [apartA,hd] at h
 ·exact h.1.1
 ·exact h.1.2
 ·exact h.2
theorem put_comm {t:List V} {a b:Option Nat} {u v:V} (h:∀ d,a = some d → b ≠ some d):put (put t a u) b v = put (put t b v) a u:=by
 cases a with
 | none => rfl
 | some d =>
  cases b with
  | none => rfl
  | some e =>
   have:d ≠ e:=fun q => h d rfl (by rw [q])
   simp only [put]
   rw [List.set_comm _ _ this]
theorem agree_set {l:List Nat} {h:Heap} {o:Nat} {x:Ob} (ho:o ∉ l):Agree l (fun i => h[i]?) (fun i => (h.set o x)[i]?):=by
 intro i hi
 have:o ≠ i:=fun e => ho (e ▸ hi)
 simp only [List.getElem?_set_ne this]
theorem agree_set' {l:List Nat} {h:Heap} {o:Nat} {x:Ob} (ho:o ∉ l):Agree l (fun i => (h.set o x)[i]?) (fun i => h[i]?):=fun i hi => (agree_set ho i hi).symm
theorem keepOnly_get (R:List Nat) (h:Heap) (o:Nat):(keepOnly R h)[o]? = (h[o]?).map fun x => if R.contains o then x else ⟨0,.dead⟩:=by
 simp [keepOnly,List.getElem?_mapIdx]
theorem keepOnly_length (R:List Nat) (h:Heap):(keepOnly R h).length = h.length:=by simp [keepOnly]
theorem mergeH_get (R:List Nat) (h h1:Heap) (o:Nat):(mergeH R h h1)[o]? = (h1[o]?).map fun x => if inside R h.length o then x else h.getD o x:=by
 simp [mergeH,List.getElem?_mapIdx]
theorem mergeH_length (R:List Nat) (h h1:Heap):(mergeH R h h1).length = h1.length:=by simp [mergeH]
theorem keepOnly_set {R:List Nat} {h:Heap} {i:Nat} {z:Ob} (hi:i ∉ R):keepOnly R (h.set i z) = keepOnly R h:=by
 apply List.ext_getElem?
 intro o
 rw [keepOnly_get,keepOnly_get]
 by_cases ho:i = o
 ·subst ho
  have hc:R.contains i = false:=by simpa using hi
  rcases Nat.lt_or_ge i h.length with hl | hl
  ·rw [List.getElem?_set_self hl,List.getElem?_eq_getElem hl]
   simp [hi]
  ·rw [List.getElem?_eq_none (by simpa using hl),List.getElem?_eq_none hl]
 ·rw [List.getElem?_set_ne ho]
theorem mergeH_set {R:List Nat} {h h1:Heap} {i:Nat} {z:Ob} (hi:i ∉ R) (hl:i < h.length) (hle:h.length ≤ h1.length):mergeH R (h.set i z) h1 = (mergeH R h h1).set i z:=by
 apply List.ext_getElem?
 intro o
 rw [mergeH_get,List.length_set]
 by_cases ho:i = o
 ·subst ho
  have hc:inside R h.length i = false:=by simp [inside,hi,hl]
  rw [List.getElem?_set_self (by rw [mergeH_length]; omega),List.getElem?_eq_getElem (by omega)]
  simp [hc,List.getD_eq_getElem?_getD,hl]
 ·rw [List.getElem?_set_ne ho,mergeH_get]
  simp only [List.getD_eq_getElem?_getD,List.getElem?_set_ne ho]
theorem mergeH_agree {R l:List Nat} {h h1:Heap} {n:Nat} (hd:∀ o ∈ l,o ∉ R) (hn:∀ o ∈ l,o < n) (hnl:n ≤ h.length) (hle:h.length ≤ h1.length):Agree l (fun o => (mergeH R h h1)[o]?) (fun o => h[o]?):=by
 intro o ho
 have h1':=hd o ho
 have h2':=hn o ho
 have hc:inside R h.length o = false:=by simp [inside,h1']; omega
 simp only
 rw [mergeH_get,List.getElem?_eq_getElem (by omega),List.getElem?_eq_getElem (show o < h.length by omega)]
 simp [hc,List.getD_eq_getElem?_getD,show o < h.length by omega]
def FrameOk (pureF:FuncId → FMode) (call:Caller):Prop:=∀ f args h v k,f ≠ YLD → pureF f ≠ .pure → pureF f ≠ .look → call f args h = some (v,k) → ∃ h1,k = mergeH (reachC h (V.objsL args)) h h1 ∧ h.length ≤ h1.length ∧
 ∀ h',h'.length = h.length → keepOnly (reachC h (V.objsL args)) h' = keepOnly (reachC h (V.objsL args)) h → call f args h' = some (v,mergeH (reachC h (V.objsL args)) h' h1)
theorem keepOnly_agree {R:List Nat} {h h':Heap} (hk:keepOnly R h' = keepOnly R h):Agree R (fun o => h[o]?) (fun o => h'[o]?):=by
 intro o ho
 have e:=congrArg (fun l => l[o]?) hk
 simp only [keepOnly_get] at e
 have hc:R.contains o = true:=by simpa using ho
 simp only [hc,if_true] at e
 cases h1:h[o]? <;> cases h2:h'[o]? <;> simp [h1,h2] at e ⊢
 exact e.symm
theorem frameC_frame {pureF:FuncId → FMode} {call:Caller}:FrameOk pureF (frameC pureF call):=by
 intro f args h v k hny n1 n2 hc
 have e:∀ h,frameC pureF call f args h = match closedIn (reachC h (V.objsL args)) h.length (keepOnly (reachC h (V.objsL args)) h),call f args (keepOnly (reachC h (V.objsL args)) h) with
   | true,some (v,h1) => if h.length ≤ h1.length && v.objs.all (inside (reachC h (V.objsL args)) h.length) && closedIn (reachC h (V.objsL args)) h.length h1 then some (v,mergeH (reachC h (V.objsL args)) h h1) else none
   | _,_ => none:=by
  intro h
  unfold frameC
  rw [if_neg hny]
  cases hm:pureF f with
  | pure => exact absurd hm n1
  | look => exact absurd hm n2
  | _ => rfl
 rw [e] at hc
 split at hc
 case h_2 => cases hc
 rename_i v1 h1 e1 e2
 split at hc
 case isFalse => cases hc
 rename_i hok
 cases hc
 have hle:h.length ≤ h1.length:=by
  simp only [Bool.and_eq_true,decide_eq_true_eq] at hok
  exact hok.1.1
 refine ⟨h1,rfl,hle,fun h' hl hk => ?_⟩
 have hag:Agree (reachC h (V.objsL args)) (fun o => h[o]?) (fun o => h'[o]?):=keepOnly_agree hk
 rw [e,reachC_local hag]
 simp only [hk,hl,e1,e2,hok,if_true]
theorem frameC_look {pureF:FuncId → FMode} {call:Caller} (hp:PureOk pureF call):LookOk pureF (frameC pureF call):=by
 intro f args h v k hny hf hc h' ha
 have e:∀ h,frameC pureF call f args h = if shutIn (reachC h (V.objsL args)) h then call f args h else none:=by
  intro h
  unfold frameC
  rw [if_neg hny,hf]
 rw [e] at hc ⊢
 split at hc
 case isFalse => cases hc
 rename_i hfl
 have hfl':shutIn (reachC h' (V.objsL args)) h' = true:=by
  rw [reachC_local ha,shutIn_local ha]
  exact hfl
 rw [if_pos hfl']
 exact (hp.look f _ _ _ _ hny hf hc).2 hfl h' ha
theorem frameC_pure {pureF:FuncId → FMode} {call:Caller} (hp:PureOk pureF call):PureOk pureF (frameC pureF call):=by
 constructor
 ·intro f args h v k hny hf hc
  have e:∀ h,frameC pureF call f args h = call f args h:=by
   intro h; unfold frameC; rw [if_neg hny,hf]
  rw [e] at hc
  obtain ⟨h1,h2⟩:=hp.pure f _ _ _ _ hny hf hc
  exact ⟨h1,fun h' => by rw [e]; exact h2 h'⟩
 ·intro f args h v k hny hf hc
  refine ⟨?_,fun _ h' ha => frameC_look hp f args h v k hny hf hc h' ha⟩
  unfold frameC at hc
  rw [if_neg hny,hf] at hc
  simp only at hc
  split at hc
  ·exact (hp.look f _ _ _ _ hny hf hc).1
  ·cases hc
def GrowY (call:Caller):Prop:=∀ args h v k,call YLD args h = some (v,k) → h.length ≤ k.length
theorem frameC_grow {pureF:FuncId → FMode} {call:Caller}:GrowY (frameC pureF call):=by
 intro args h v k hc
 unfold frameC at hc
 rw [if_pos rfl] at hc
 split at hc
 ·split at hc
  ·rename_i hle
   cases hc
   exact hle
  ·cases hc
 ·cases hc
theorem resOp_call {pureF:FuncId → FMode} {call:Caller} (hc:FrameOk pureF call) {fb:Nat} {o:AOper} {t:List V} {h:Heap} {v:V} {k:Heap} {R:List Nat} (hf:fpAt pureF fb o t h = .call R) (hr:resOp call fb o t h = some (v,k)) :
  ∃ h1,k = mergeH R h h1 ∧ h.length ≤ h1.length ∧ ∀ h',h'.length = h.length → keepOnly R h' = keepOnly R h → resOp call fb o t h' = some (v,mergeH R h' h1):=by
 have calls:∀ f args,f ≠ YLD → fpCall (pureF f) (reachC h (V.objsL args)) = .call R → call f args h = some (v,k) → ∃ h1,k = mergeH R h h1 ∧ h.length ≤ h1.length ∧ ∀ h',h'.length = h.length → keepOnly R h' = keepOnly R h → call f args h' = some (v,mergeH R h' h1):=by
  intro f args hny hf hr
  unfold fpCall at hf
  split at hf
  ·cases hf
  ·cases hf
  ·rename_i n1 n2
   cases hf
   exact hc f args h v k hny n1 n2 hr
 unfold resOp at hr ⊢
 unfold fpAt at hf
 cases hw:wanted o t with
 | none => simp [hw] at hr
 | some b =>
  cases b with
  | false => simp [hw] at hf
  | true =>
   simp only [hw] at hr hf ⊢
   cases hop:o.op with
   | call f args =>
    simp only [hop,fpOf] at hf
    simp only [hop,doOp] at hr ⊢
    by_cases hny:f = YLD
    ·rw [if_pos hny] at hr; cases hr
    ·rw [if_neg hny] at hr
     simp only [if_neg hny]
     exact calls _ _ hny hf hr
   | callv f args =>
    simp only [hop,fpOf] at hf
    simp only [hop,doOp] at hr ⊢
    cases hv:ev t f <;> simp only [hv] at hf hr ⊢ <;> first | (cases hf; done) | skip
    rename_i g xs ys
    by_cases hny:g = YLD
    ·rw [if_pos hny] at hr; cases hr
    ·rw [if_neg hny] at hr
     simp only [if_neg hny]
     exact calls _ _ hny hf hr
   | _ => simp [hop,fpOf] at hf
theorem cellsAt_there {h:Heap} {o ver:Nat} {cs:List V} (hc:cellsAt (fun o => h[o]?) o ver = some cs):o < h.length:=by
 rcases Nat.lt_or_ge o h.length with h' | h'
 ·exact h'
 ·simp [cellsAt,List.getElem?_eq_none h'] at hc
theorem loadA_there {h:Heap} {n:Nat} {a:V} {cs:List V} (hc:loadA (fun o => h[o]?) n a = some cs):∀ i ∈ fpV a,i < h.length:=by
 intro i hi
 cases a <;> simp only [fpV,List.mem_cons,List.not_mem_nil,or_false] at hi <;> subst hi <;> simp only [loadA,reduceCtorEq] at hc
 split at hc
 ·rename_i hx; exact cellsAt_there hx
 ·cases hc
theorem rds_fp {pureF:FuncId → FMode} {fb:Nat} {o:AOper} {t:List V} {h:Heap} (hr:o.op.rds (ev t) = true):∃ r,fpAt pureF fb o t h = .io r []:=by
 unfold fpAt
 split
 ·cases hop:o.op <;> simp only [hop,AOp.rds,Bool.false_eq_true,fpOf] at hr ⊢
  ·exact ⟨_,rfl⟩
  ·exact ⟨_,rfl⟩
 ·exact ⟨_,rfl⟩
theorem rds_there {pureF:FuncId → FMode} {call:Caller} {fb:Nat} {o:AOper} {t:List V} {h h1:Heap} {v:V} {r w:List Nat} (hr:o.op.rds (ev t) = true) (hf:fpAt pureF fb o t h = .io r w) (hq:resOp call fb o t h = some (v,h1)):∀ i ∈ r,i < h.length:=by
 unfold fpAt at hf
 unfold resOp at hq
 cases hw:wanted o t with
 | none => simp [hw] at hq
 | some b =>
  cases b with
  | false =>
   simp only [hw,Fp.io.injEq] at hf
   obtain ⟨rfl,rfl⟩:=hf
   intro i hi
   cases hi
  | true =>
   simp only [hw] at hf hq
   cases hop:o.op <;> simp only [hop,AOp.rds,Bool.false_eq_true,fpOf,Fp.io.injEq,doOp,prim] at hr hf hq
   case load ag a =>
    obtain ⟨rfl,rfl⟩:=hf
    cases hl:loadA (fun o => h[o]?) (nAg ag) (ev t a) with
    | none => simp [hl] at hq
    | some cs => exact loadA_there hl
   case b2s x =>
    obtain ⟨rfl,rfl⟩:=hf
    cases hx:ev t x <;> simp only [hx,fpV,lenA,Option.bind_some,Option.bind_none,Bool.false_eq_true,reduceCtorEq] at hr hq ⊢ <;> first | (intro i hi; cases hi; done) | (cases hq; done) | skip
    rename_i o' ver off len s cap
    intro i hi
    simp only [List.mem_cons,List.not_mem_nil,or_false] at hi
    subst hi
    simp only [firstA] at hq
    by_cases hs:s = 1
    ·subst hs
     simp only [↓reduceIte,Nat.le_refl] at hq
     rw [Nat.mul_one] at hq
     cases hl:loadA (fun o => h[o]?) len (.ptr i ver off) with
     | none => simp [hl] at hq
     | some cs => exact loadA_there hl i (by simp [fpV])
    ·simp [hs] at hq
theorem rds_put {o:AOper} {t:List V} {dst:Option Nat} {v:V} (hd:∀ d,dst = some d → d ∉ o.looks):o.op.rds (ev (put t dst v)) = o.op.rds (ev t):=by
 have:=opds_put (t:=t) (v:=v) hd
 cases hop:o.op <;> simp only [AOp.rds]
 rename_i x
 rw [this x (by rw [hop]; simp [AOp.opds])]
theorem tag_ok' {pureF:FuncId → FMode} {fb n:Nat} {x:AOper} {t:List V} {h:Heap} {g:Fp} (hok:(tagF (x.op.rds (ev t)) (fpAt pureF fb x t h)).ok n g = true) :
  (fpAt pureF fb x t h).ok n g = true ∨ (x.op.rds (ev t) = true ∧ ∃ r R,fpAt pureF fb x t h = .io r [] ∧ g = .call R ∧ disj R r = true):=by
 cases hr:x.op.rds (ev t) with
 | false => rw [hr] at hok; exact .inl hok
 | true =>
  obtain ⟨r,hf⟩:=rds_fp (pureF:=pureF) (fb:=fb) (h:=h) hr
  rw [hr,hf] at hok
  rw [hf]
  cases g with
  | io r' w' =>
   left
   have e:(Fp.io r []).ok n (.io r' w') = (disj [] (r' ++ w') && disj w' r):=by cases r <;> rfl
   rw [e]
   simpa [tagF,FpT.ok,disj] using hok
  | call R => exact .inr ⟨rfl,r,R,rfl,rfl,hok⟩
  | bar =>
   left
   simp only [tagF,FpT.ok,List.isEmpty_iff] at hok
   subst hok
   rfl
theorem sameR_eq {R:List Nat} {h k:Heap} (hs:sameR R h k = true):∀ o ∈ R,h[o]? = k[o]?:=fun o ho => sameO_eq (List.all_eq_true.1 hs o ho)
theorem sameR_set {R:List Nat} {h k:Heap} {i:Nat} {z:Ob} (hi:i ∉ R):sameR R (h.set i z) (k.set i z) = sameR R h k:=by
 unfold sameR
 rw [Bool.eq_iff_iff,List.all_eq_true,List.all_eq_true]
 constructor <;> intro H o ho
 ·have:=H o ho
  have hne:i ≠ o:=fun e => hi (e ▸ ho)
  rwa [List.getElem?_set_ne hne,List.getElem?_set_ne hne] at this
 ·have hne:i ≠ o:=fun e => hi (e ▸ ho)
  rw [List.getElem?_set_ne hne,List.getElem?_set_ne hne]
  exact H o ho
theorem tag_ok {pureF:FuncId → FMode} {fb n:Nat} {x:AOper} {t:List V} {h k:Heap} {g:Fp} (hok:(tagP (x.op.rds (ev t)) (fpAt pureF fb x t h) h k).ok n g = true) :
  (fpAt pureF fb x t h).ok n g = true ∨ (x.op.rds (ev t) = true ∧ ∃ r R,fpAt pureF fb x t h = .io r [] ∧ g = .call R ∧ disj R r = true) ∨
   ∃ R r w,fpAt pureF fb x t h = .call R ∧ g = .io r w ∧ sameR R h k = true ∧ disj R w = true ∧ ∀ o ∈ r ++ w,o < n:=by
 cases hf:fpAt pureF fb x t h with
 | io r w =>
  rw [hf] at hok
  have hok':(tagF (x.op.rds (ev t)) (fpAt pureF fb x t h)).ok n g = true:=by rw [hf]; exact hok
  rcases tag_ok' hok' with h1 | h1
  ·rw [hf] at h1; exact .inl h1
  ·rw [hf] at h1; exact .inr (.inl h1)
 | bar =>
  rw [hf] at hok
  left
  cases hb:x.op.rds (ev t) <;> rw [hb] at hok <;> exact hok
 | call R =>
  rw [hf] at hok
  cases hs:sameR R h k with
  | false =>
   left
   simp only [tagP,hs] at hok
   exact hok
  | true =>
   simp only [tagP,hs] at hok
   cases g with
   | io r w =>
    right; right
    simp only [FpT.ok,Bool.and_eq_true] at hok
    exact ⟨R,r,w,rfl,rfl,hs,hok.1,fun o ho => by simpa using List.all_eq_true.1 hok.2 o ho⟩
   | call R' => simp [FpT.ok] at hok
   | bar => simp [FpT.ok] at hok
theorem diamond {pureF:FuncId → FMode} {call:Caller} (hp:PureOk pureF call) (hk:LookOk pureF call) (hc:FrameOk pureF call) {n:Nat} {fb:Nat} {x y:AOper} (hap:apartA x y = true) {t:List V} {h:Heap} (hn:n ≤ h.length) {s1 s12:List V × Heap} (h1:stepOp call fb x t h = some s1) (h2:stepOp call fb y s1.1 s1.2 = some s12)
  (hok:(tagP (x.op.rds (ev t)) (fpAt pureF fb x t h) h s1.2).ok n (fpAt pureF fb y s1.1 s1.2) = true):∃ s2,stepOp call fb y t h = some s2 ∧ stepOp call fb x s2.1 s2.2 = some s12 ∧ fpAt pureF fb x s2.1 s2.2 = fpAt pureF fb x t h ∧ fpAt pureF fb y t h = fpAt pureF fb y s1.1 s1.2 ∧ tagP (x.op.rds (ev s2.1)) (fpAt pureF fb x s2.1 s2.2) s2.2 s12.2 = tagP (x.op.rds (ev t)) (fpAt pureF fb x t h) h s1.2:=by
 obtain ⟨a1,a2,a3⟩:=apartA_spec hap
 rw [stepOp_eq] at h1 h2
 simp only [Option.map_eq_some_iff] at h1 h2
 obtain ⟨⟨v1,k1⟩,r1,rfl⟩:=h1
 obtain ⟨⟨v2,k12⟩,r2,rfl⟩:=h2
 simp only at r2 hok ⊢
 rw [resOp_put a1] at r2
 rw [fpAt_put a1] at hok ⊢
 have fin:∀ k2,resOp call fb y t h = some (v2,k2) → resOp call fb x t k2 = some (v1,k12) → fpAt pureF fb x t k2 = fpAt pureF fb x t h → fpAt pureF fb y t h = fpAt pureF fb y t k1 → (∀ R,fpAt pureF fb x t h = .call R → sameR R k2 k12 = sameR R h k1) →
   ∃ s2,stepOp call fb y t h = some s2 ∧ stepOp call fb x s2.1 s2.2 = some (put (put t x.dst v1) y.dst v2,k12) ∧ fpAt pureF fb x s2.1 s2.2 = fpAt pureF fb x t h ∧ fpAt pureF fb y t h = fpAt pureF fb y t k1 ∧ tagP (x.op.rds (ev s2.1)) (fpAt pureF fb x s2.1 s2.2) s2.2 k12 = tagP (x.op.rds (ev t)) (fpAt pureF fb x t h) h k1:=by
  intro k2 q1 q2 q3 q4 q5
  refine ⟨(put t y.dst v2,k2),by rw [stepOp_eq,q1]; rfl,?_,(fpAt_put a3).trans q3,q4,?_⟩
  rotate_left
  ·rw [rds_put a3,(fpAt_put a3).trans q3]
   cases hf:fpAt pureF fb x t h with
   | io r w => rfl
   | bar => rfl
   | call R => simp only [tagP,q5 R hf]
  rw [stepOp_eq]
  simp only
  rw [resOp_put a3,q2,Option.map_some]
  simp only
  rw [put_comm a2]
 suffices hh:∃ k2,resOp call fb y t h = some (v2,k2) ∧ resOp call fb x t k2 = some (v1,k12) ∧ fpAt pureF fb x t k2 = fpAt pureF fb x t h ∧ fpAt pureF fb y t h = fpAt pureF fb y t k1 ∧ (∀ R,fpAt pureF fb x t h = .call R → sameR R k2 k12 = sameR R h k1) by
  obtain ⟨k2,q1,q2,q3,q4,q5⟩:=hh
  exact fin k2 q1 q2 q3 q4 q5
 clear fin
 rcases tag_ok hok with hok | ⟨hrd,r,R,hfx,hfy,hdj⟩ | ⟨R,r,w,hfx,hfy,hsm,hdj,hlt⟩
 case inr.inl =>
  have hth:=rds_there hrd hfx r1
  have d:∀ o ∈ r ++ [],o ∉ R:=fun o ho hR => disj_spec hdj o hR (by simpa using ho)
  rcases resOp_local hp hk hfx r1 with ⟨rfl,hl⟩ | ⟨i,z,hi,-⟩
  ·obtain ⟨h1,rfl,hle,hcall⟩:=resOp_call hc hfy r2
   have ha:=mergeH_agree (h1:=h1) (n:=k1.length) d (fun o ho => hth o (by simpa using ho)) (Nat.le_refl _) hle
   exact ⟨_,r2,hl _ fun o ho => (ha o ho).symm,(fpAt_io hfx fun o ho => (ha o ho).symm).trans hfx.symm,rfl,fun R' e => by rw [hfx] at e; cases e⟩
  ·cases hi
 case inr.inr =>
  have d:∀ o ∈ w,o ∉ R:=fun o ho hR => disj_spec hdj o hR ho
  obtain ⟨h1,rfl,hle,hcall⟩:=resOp_call hc hfx r1
  have hsm':=sameR_eq hsm
  have ha:Agree (r ++ w) (fun o => (mergeH R h h1)[o]?) (fun o => h[o]?):=by
   intro o ho
   by_cases hR:o ∈ R
   ·exact (hsm' o hR).symm
   ·exact mergeH_agree (l:=[o]) (n:=n) (by simpa using hR) (by simpa using hlt o ho) hn hle o (by simp)
  have fy:fpAt pureF fb y t h = .io r w:=fpAt_io hfy ha
  rcases resOp_local hp hk hfy r2 with ⟨rfl,hl⟩ | ⟨i,z,hi,rfl,hl⟩
  ·exact ⟨h,hl h ha,r1,rfl,fy.trans hfy.symm,fun R' e => rfl⟩
  ·refine ⟨h.set i z,hl h ha,?_,?_,fy.trans hfy.symm,fun R' e => ?_⟩
   ·rw [hcall _ (by simp) (keepOnly_set (d i hi)),mergeH_set (d i hi) (Nat.lt_of_lt_of_le (hlt i (by simp [hi])) hn) hle]
   ·rw [hfx]; exact fpAt_call hfx (agree_set (d i hi))
   ·rw [hfx] at e
    cases e
    exact sameR_set (d i hi)
 cases hfx:fpAt pureF fb x t h with
 | bar =>
  rw [hfx] at hok
  cases hfy:fpAt pureF fb y t k1 with
  | bar => rw [hfy] at hok; simp [Fp.ok] at hok
  | call R => rw [hfy] at hok; simp [Fp.ok] at hok
  | io r w =>
   rw [hfy] at hok
   cases r <;> cases w <;> simp [Fp.ok] at hok
   have fy:fpAt pureF fb y t h = .io [] []:=fpAt_io hfy (fun o ho => by simp at ho)
   rcases resOp_local hp hk hfy r2 with ⟨rfl,hl⟩ | ⟨i,z,hi,-⟩
   ·have q:=hl h (fun o ho => by simp at ho)
    exact ⟨h,q,r1,hfx,fy,fun R' e => by cases e⟩
   ·simp at hi
 | call R =>
  rw [hfx] at hok
  cases hfy:fpAt pureF fb y t k1 with
  | bar => rw [hfy] at hok; simp [Fp.ok] at hok
  | call R' => rw [hfy] at hok; simp [Fp.ok] at hok
  | io r w =>
   rw [hfy] at hok
   have hok':disj R (r ++ w) = true ∧ ∀ o ∈ r ++ w,o < n:=by
    have:((Fp.call R).ok n (.io r w)) = (disj R (r ++ w) && (r ++ w).all fun o => decide (o < n)):=by
     cases r <;> cases w <;> rfl
    rw [this] at hok
    simp only [Bool.and_eq_true] at hok
    exact ⟨hok.1,fun o ho => by simpa using List.all_eq_true.1 hok.2 o ho⟩
   have d:∀ o ∈ r ++ w,o ∉ R:=fun o ho hR => disj_spec hok'.1 o hR ho
   obtain ⟨h1,rfl,hle,hcall⟩:=resOp_call hc hfx r1
   have ha:=mergeH_agree (h1:=h1) d hok'.2 hn hle
   have fy:fpAt pureF fb y t h = .io r w:=fpAt_io hfy ha
   rcases resOp_local hp hk hfy r2 with ⟨rfl,hl⟩ | ⟨i,z,hi,rfl,hl⟩
   ·exact ⟨h,hl h ha,r1,hfx,fy,fun R' e => rfl⟩
   ·have hi':i ∈ r ++ w:=by simp [hi]
    refine ⟨h.set i z,hl h ha,?_,?_,fy,fun R' e => by cases e; exact sameR_set (d i hi')⟩
    ·rw [hcall _ (by simp) (keepOnly_set (d i hi')),mergeH_set (d i hi') (Nat.lt_of_lt_of_le (hok'.2 i hi') hn) hle]
    ·exact fpAt_call hfx (agree_set (d i hi'))
 | io r w =>
  rw [hfx] at hok
  cases hfy:fpAt pureF fb y t k1 with
  | call R =>
   rw [hfy] at hok
   have hok':disj R (r ++ w) = true ∧ ∀ o ∈ r ++ w,o < n:=by
    have:((Fp.io r w).ok n (.call R)) = (disj R (r ++ w) && (r ++ w).all fun o => decide (o < n)):=by
     cases r <;> cases w <;> rfl
    rw [this] at hok
    simp only [Bool.and_eq_true] at hok
    exact ⟨hok.1,fun o ho => by simpa using List.all_eq_true.1 hok.2 o ho⟩
   have d:∀ o ∈ r ++ w,o ∉ R:=fun o ho hR => disj_spec hok'.1 o hR ho
   rcases resOp_local hp hk hfx r1 with ⟨rfl,hl⟩ | ⟨i,z,hi,rfl,hl⟩
   ·obtain ⟨h1,rfl,hle,hcall⟩:=resOp_call hc hfy r2
    have ha:=mergeH_agree (h1:=h1) d hok'.2 hn hle
    exact ⟨_,r2,hl _ fun o ho => (ha o ho).symm,fpAt_io hfx fun o ho => (ha o ho).symm,hfy,fun R' e => by cases e⟩
   ·have hi':i ∈ r ++ w:=by simp [hi]
    obtain ⟨h1,rfl,hle,hcall⟩:=resOp_call hc hfy r2
    rw [List.length_set] at hle
    have ha:=mergeH_agree (h1:=h1) d hok'.2 hn hle
    have q:=hcall h (by simp) (keepOnly_set (d i hi')).symm
    refine ⟨_,q,?_,fpAt_io hfx fun o ho => (ha o ho).symm,fpAt_call hfy (agree_set' (d i hi')),fun R' e => by cases e⟩
    rw [hl _ fun o ho => (ha o ho).symm,mergeH_set (d i hi') (Nat.lt_of_lt_of_le (hok'.2 i hi') hn) hle]
  | bar =>
   rw [hfy] at hok
   cases r <;> cases w <;> simp [Fp.ok] at hok
   rcases resOp_local hp hk hfx r1 with ⟨rfl,hl⟩ | ⟨i,z,hi,-⟩
   ·exact ⟨k12,r2,hl k12 (fun o ho => by simp at ho),fpAt_io hfx (fun o ho => by simp at ho),hfy,fun R' e => by cases e⟩
   ·simp at hi
  | io r' w' =>
   rw [hfy] at hok
   have hok':disj w (r' ++ w') = true ∧ disj w' r = true:=by
    have:((Fp.io r w).ok n (.io r' w')) = (disj w (r' ++ w') && disj w' r):=by
     cases r <;> cases w <;> rfl
    rw [this] at hok
    simpa using hok
   have d1:=disj_spec hok'.1
   have d2:=disj_spec hok'.2
   have jr:∀ j ∈ w',j ∉ r ++ w:=by
    intro j hj hm
    rcases List.mem_append.1 hm with hm | hm
    ·exact d2 j hj hm
    ·exact d1 j hm (by simp [hj])
   rcases resOp_local hp hk hfx r1 with ⟨rfl,hl1⟩ | ⟨i,z,hi,rfl,hl1⟩
   ·rcases resOp_local hp hk hfy r2 with ⟨rfl,hl2⟩ | ⟨j,z',hj,rfl,hl2⟩
    ·exact ⟨_,r2,hl1 _ (fun o _ => rfl),hfx,hfy,fun R' e => by cases e⟩
    ·exact ⟨_,r2,hl1 _ (agree_set (jr j hj)),fpAt_io hfx (agree_set (jr j hj)),hfy,fun R' e => by cases e⟩
   ·have hi':i ∉ r' ++ w':=d1 i hi
    rcases resOp_local hp hk hfy r2 with ⟨rfl,hl2⟩ | ⟨j,z',hj,rfl,hl2⟩
    ·exact ⟨h,hl2 h (agree_set' hi'),hl1 h (fun o _ => rfl),hfx,fpAt_io hfy (agree_set' hi'),fun R' e => by cases e⟩
    ·have hij:i ≠ j:=fun e => hi' (by simp [e,hj])
     refine ⟨h.set j z',hl2 h (agree_set' hi'),?_,fpAt_io hfx (agree_set (jr j hj)),fpAt_io hfy (agree_set' hi'),fun R' e => by cases e⟩
     rw [hl1 _ (agree_set (jr j hj)),List.set_comm _ _ hij]
theorem resOp_grows {pureF:FuncId → FMode} {call:Caller} (hp:PureOk pureF call) (hk:LookOk pureF call) (hc:FrameOk pureF call) (hg:GrowY call) {fb:Nat} {o:AOper} {t:List V} {h:Heap} {v:V} {k:Heap} (hr:resOp call fb o t h = some (v,k)):h.length ≤ k.length:=by
 cases hf:fpAt pureF fb o t h with
 | io r w =>
  rcases resOp_local hp hk hf hr with ⟨rfl,-⟩ | ⟨i,z,-,rfl,-⟩ <;> simp
 | call R =>
  obtain ⟨h1,rfl,hle,-⟩:=resOp_call hc hf hr
  rw [mergeH_length]; exact hle
 | bar =>
  unfold fpAt at hf
  unfold resOp at hr
  cases hw:wanted o t with
  | none => simp [hw] at hr
  | some b =>
   cases b with
   | false => simp [hw] at hf
   | true =>
    simp only [hw] at hr hf
    have nb:∀ m R,fpCall m R ≠ .bar:=fun m R => by cases m <;> simp [fpCall]
    cases hop:o.op with
    | callv f args =>
     simp only [hop,fpOf] at hf
     simp only [hop,doOp] at hr
     cases hv:ev t f <;> simp only [hv] at hf hr <;> first | (cases hr; done) | skip
     ·exact absurd hf (nb _ _)
     ·exact hg _ _ _ _ hr
    | call f args =>
     simp only [hop,fpOf] at hf
     exact absurd hf (nb _ _)
    | _ => simp [hop,fpOf] at hf
theorem stepOp_grows {pureF:FuncId → FMode} {call:Caller} (hp:PureOk pureF call) (hk:LookOk pureF call) (hc:FrameOk pureF call) (hg:GrowY call) {fb:Nat} {o:AOper} {t:List V} {h:Heap} {s:List V × Heap} (hr:stepOp call fb o t h = some s):h.length ≤ s.2.length:=by
 rw [stepOp_eq,Option.map_eq_some_iff] at hr
 obtain ⟨⟨v,k⟩,hr,rfl⟩:=hr
 exact resOp_grows hp hk hc hg hr
end Go.Am


set_option linter.unusedVariables false
set_option linter.unusedSimpArgs false
namespace Go.Am
def AnyA (call:Caller) (fb:Nat) (ops:Array Oper) (as:List AOper) (fin:List V × Heap → Prop) (C:Nat → List V × Heap → Prop):Nat → Array Bool → List V × Heap → Prop
 | 0,listed,s => Region.ready .any ops listed = [] ∧ fin s
 | fuel + 1,listed,s => (Region.ready .any ops listed = [] → fin s) ∧
  ∀ i ∈ Region.ready .any ops listed,C i s ∧ ∃ ao s',as[i]? = some ao ∧ stepOp call fb ao s.1 s.2 = some s' ∧ AnyA call fb ops as fin C fuel (listed.setIfInBounds i true) s'
variable {call:Caller} {fb:Nat} {ops:Array Oper} {as:List AOper} {fin:List V × Heap → Prop}
theorem AnyA.mono {C C':Nat → List V × Heap → Prop} (h:∀ i t,C' i t → C i t):∀ (fuel:Nat) (listed:Array Bool) (s:List V × Heap),AnyA call fb ops as fin C' fuel listed s → AnyA call fb ops as fin C fuel listed s
 | 0,_,_,H => H
 | fuel + 1,listed,s,H => ⟨H.1,fun i hi => let ⟨h1,ao,s',h2,h3,h4⟩:=H.2 i hi; ⟨h _ _ h1,ao,s',h2,h3,AnyA.mono h fuel _ _ h4⟩⟩
def edge1 (o:Oper) (k:Nat):Bool:=o.after.any fun e => Region.binds .any e && e.on == k
def along (e:Edge):Bool:=Region.binds .any e && (e.ground == .chain || e.ground == .data)
def chainTo (ops:Array Oper):Nat → Nat → Nat → Bool
 | 0,_,_ => false
 | f + 1,j,k => match ops[j]? with | some o => o.after.any fun e => along e && (e.on == k || (decide (k < e.on) && chainTo ops f e.on k)) | none => false
def edge (ops:Array Oper) (j k:Nat):Bool:=match ops[j]? with | some o => edge1 o k || chainTo ops ops.size j k | none => false
def ClosedL (ops:Array Oper) (listed:Array Bool):Prop:=∀ (i:Nat) (o:Oper),listed.getD i false = true → ops[i]? = some o → ∀ e ∈ o.after,Region.binds .any e = true → listed.getD e.on false = true
theorem chain_listed {listed:Array Bool} (hc:ClosedL ops listed):∀ (f j k:Nat),chainTo ops f j k = true → (∀ o,ops[j]? = some o → ∀ e ∈ o.after,Region.binds .any e = true → listed.getD e.on false = true) → listed.getD k false = true
 | 0,j,k,h,_ => by simp [chainTo] at h
 | f + 1,j,k,h,hj => by
  simp only [chainTo] at h
  split at h
  case h_2 => cases h
  rename_i o ho
  rw [Array.any_eq_true'] at h
  obtain ⟨e,hem,he⟩:=h
  simp only [along,Bool.and_eq_true,Bool.or_eq_true,beq_iff_eq] at he
  have hl:=hj o ho e hem he.1.1
  rcases he.2 with h1 | h1
  ·rwa [h1] at hl
  ·exact chain_listed hc f e.on k h1.2 (fun o' ho' e' he' hb' => hc e.on o' hl ho' e' he' hb')
theorem edge_listed {listed:Array Bool} (hc:ClosedL ops listed) {j k:Nat} (h:edge ops j k = true) (hj:∀ o,ops[j]? = some o → ∀ e ∈ o.after,Region.binds .any e = true → listed.getD e.on false = true):listed.getD k false = true:=by
 unfold edge at h
 split at h
 case h_2 => cases h
 rename_i o ho
 rw [Bool.or_eq_true] at h
 rcases h with h | h
 ·unfold edge1 at h
  rw [Array.any_eq_true'] at h
  obtain ⟨e,hem,he⟩:=h
  simp only [Bool.and_eq_true,beq_iff_eq] at he
  have:=hj o ho e hem he.1
  rwa [he.2] at this
 ·exact chain_listed hc _ _ _ h hj
theorem ClosedL.set {listed:Array Bool} (hc:ClosedL ops listed) {j:Nat} (hr:j ∈ Region.ready .any ops listed):ClosedL ops (listed.setIfInBounds j true):=by
 intro i o hi ho e he hb
 obtain ⟨h0,oj,hoj,hall⟩:=mem_ready.1 hr
 by_cases hij:j = i
 ·subst hij
  rw [hoj] at ho
  cases ho
  exact getD_set_true (hall e he hb)
 ·rw [getD_set_ne false hij] at hi
  exact getD_set_true (hc i o hi ho e he hb)
theorem anyA_first {pureF:FuncId → FMode} (hp:PureOk pureF call) (hlk:LookOk pureF call) (hcf:FrameOk pureF call) (hgy:GrowY call) {n:Nat} {k:Nat} {ak:AOper} (hk:as[k]? = some ak) {C C':Nat → List V × Heap → Prop} {fpk:FpT}
  (keep:∀ (i:Nat) (ai:AOper) (s s':List V × Heap),as[i]? = some ai → fpAt pureF fb ai s.1 s.2 = fpAt pureF fb ai s'.1 s'.2 → C i s → C i s')
  (hC:∀ (j:Nat) (aj:AOper) (oj:Oper) (t:List V × Heap),as[j]? = some aj → ops[j]? = some oj → edge ops j k = false → j ≠ k → C' j t → C j t ∧ fpk.ok n (fpAt pureF fb aj t.1 t.2) = true) (hC':∀ i t,C' i t → C i t) :
  ∀ (fuel:Nat) (listed:Array Bool) (s s1:List V × Heap),
   (∀ (j:Nat) (aj:AOper) (oj:Oper),as[j]? = some aj → ops[j]? = some oj → j ≠ k → listed.getD j true = false → edge ops j k = false → apartA ak aj = true) →
   n ≤ s.2.length → ClosedL ops listed → k ∈ Region.ready .any ops listed → C k s → tagP (ak.op.rds (ev s.1)) (fpAt pureF fb ak s.1 s.2) s.2 s1.2 = fpk → stepOp call fb ak s.1 s.2 = some s1 → AnyA call fb ops as fin C' fuel (listed.setIfInBounds k true) s1 → AnyA call fb ops as fin C (fuel + 1) listed s:=by
 intro fuel
 induction fuel with
 | zero =>
  intro listed s s1 hfree hn hcl hr hc hf hs H
  refine ⟨fun h => (by rw [h] at hr; cases hr),fun j hj => ?_⟩
  by_cases hjk:j = k
  ·subst hjk
   exact ⟨hc,ak,s1,hk,hs,H⟩
  ·have:=ready_mono hj hjk
   rw [H.1] at this
   cases this
 | succ fuel ih =>
  intro listed s s1 hfree hn hcl hr hc hf hs H
  refine ⟨fun h => (by rw [h] at hr; cases hr),fun j hj => ?_⟩
  by_cases hjk:j = k
  ·subst hjk
   exact ⟨hc,ak,s1,hk,hs,AnyA.mono hC' _ _ _ H⟩
  ·obtain ⟨c1,aj,s12,haj,hsj,H'⟩:=H.2 j (ready_mono hj hjk)
   obtain ⟨hjun,oj,hoj,hall⟩:=mem_ready.1 hj
   have hnot:edge ops j k = false:=by
    rw [Bool.eq_false_iff]
    intro he
    have h1:=edge_listed hcl he (fun o ho e hem hb => by rw [hoj] at ho; cases ho; exact hall e hem hb)
    have h0:=(mem_ready.1 hr).1
    rcases Nat.lt_or_ge k listed.size with h' | h'
    ·simp [h'] at h0 h1; rw [h0] at h1; cases h1
    ·simp [Array.getElem?_eq_none h'] at h1
   have hap:=hfree j aj oj haj hoj hjk hjun hnot
   obtain ⟨a1,a2,a3⟩:=apartA_spec hap
   obtain ⟨c2,c3⟩:=hC j aj oj _ haj hoj hnot hjk c1
   obtain ⟨s2,d1,d2,d3,d4,d5⟩:=diamond hp hlk hcf hap hn hs hsj (by rw [hf]; exact c3)
   have hs1:∃ v h1,s1 = (put s.1 ak.dst v,h1):=by
    rw [stepOp_eq] at hs
    simp only [Option.map_eq_some_iff] at hs
    obtain ⟨p,-,rfl⟩:=hs
    exact ⟨_,_,rfl⟩
   have hs2:∃ v h2,s2 = (put s.1 aj.dst v,h2):=by
    rw [stepOp_eq] at d1
    simp only [Option.map_eq_some_iff] at d1
    obtain ⟨p,-,rfl⟩:=d1
    exact ⟨_,_,rfl⟩
   obtain ⟨v1,h1,rfl⟩:=hs1
   obtain ⟨v2,h2,rfl⟩:=hs2
   refine ⟨keep j aj _ _ haj d4.symm c2,aj,_,haj,d1,?_⟩
   have hfree':∀ (i:Nat) (ai:AOper) (oi:Oper),as[i]? = some ai → ops[i]? = some oi → i ≠ k → (listed.setIfInBounds j true).getD i true = false → edge ops i k = false → apartA ak ai = true:=fun i ai oi hi hoi hik hun hno => by
    refine hfree i ai oi hi hoi hik ?_ hno
    by_cases hji:j = i
    ·subst hji; exact hjun
    ·rw [getD_set_ne true hji] at hun; exact hun
   refine ih (listed.setIfInBounds j true) _ s12 hfree' (Nat.le_trans hn (stepOp_grows hp hlk hcf hgy d1)) (hcl.set hj) (ready_mono hr (Ne.symm hjk)) (keep k ak _ _ hk d3.symm hc) (d5.trans hf) d2 ?_
   rw [Array.setIfInBounds_comm _ _ hjk]
   exact H'
def AOp.cls (pureF:FuncId → FMode):AOp → Nat
 | .allocz .. | .box .. | .mkslice .. | .s2b .. | .bnew .. | .mkmap .. | .mput .. | .mdel .. | .mclear .. | .clearS .. | .store .. | .append .. | .copy .. | .callv .. => 2
 | .call f _ => match pureF f with | .pure => 0 | .look => 1 | _ => 2
 | .load .. | .b2s _ | .mark _ | .slA .. | .slS .. | .mget .. | .mlen _ => 1
 | _ => 0
theorem cls_fp {pureF:FuncId → FMode} {o:AOper} (t:List V) (h:Heap):(o.op.cls pureF = 0 → fpAt pureF fb o t h = .io [] []) ∧ (o.op.cls pureF = 1 → ∃ r,fpAt pureF fb o t h = .io r []):=by
 unfold fpAt
 cases wanted o t with
 | none => exact ⟨fun _ => rfl,fun _ => ⟨[],rfl⟩⟩
 | some b =>
  cases b with
  | false => exact ⟨fun _ => rfl,fun _ => ⟨[],rfl⟩⟩
  | true =>
   cases hop:o.op <;> first
    | (simp [AOp.cls,fpOf]; done)
    | (simp only [AOp.cls,fpOf,fpCall]; split <;> simp; done)
    | (simp only [AOp.cls,fpOf,fpCall]; cases hm:pureF _ <;> simp [hm]; done)
    | (simp only [AOp.cls,fpOf,fpCall]; split <;> rename_i hm <;> simp [hm])
    | (simp [AOp.cls]; done)
def statOk (pureF:FuncId → FMode) (x y:AOper):Bool:=x.op.cls pureF == 0 || y.op.cls pureF == 0 || (x.op.cls pureF == 1 && y.op.cls pureF == 1)
theorem disj_nil (a:List Nat):disj a [] = true:=by simp [disj]
theorem io_ok (n:Nat) (r w r' w':List Nat):(Fp.io r w).ok n (.io r' w') = (disj w (r' ++ w') && disj w' r):=by
 cases r <;> cases w <;> rfl
theorem tag_weak' {n:Nat} {b:Bool} {f g:Fp} (hb:b = true → ∃ r,f = .io r []) (h:f.ok n g = true):(tagF b f).ok n g = true:=by
 cases b with
 | false => exact h
 | true =>
  obtain ⟨r,rfl⟩:=hb rfl
  cases g with
  | io r' w' =>
   rw [io_ok] at h
   simp only [Bool.and_eq_true] at h
   exact h.2
  | call R =>
   have e:(Fp.io r []).ok n (.call R) = (disj R (r ++ []) && (r ++ []).all fun o => decide (o < n)):=by cases r <;> rfl
   rw [e,List.append_nil,Bool.and_eq_true] at h
   exact h.1
  | bar => cases r with
   | nil => rfl
   | cons a r => simp [Fp.ok] at h
theorem tag_weak {n:Nat} {b:Bool} {f g:Fp} (k k':Heap) (hb:b = true → ∃ r,f = .io r []) (h:f.ok n g = true):(tagP b f k k').ok n g = true:=by
 cases f with
 | io r w => exact tag_weak' hb h
 | bar => exact tag_weak' hb h
 | call R =>
  cases hs:sameR R k k' with
  | false => simp only [tagP,hs]; exact h
  | true =>
   simp only [tagP,hs]
   cases g with
   | io r w =>
    have e:(Fp.call R).ok n (.io r w) = (disj R (r ++ w) && (r ++ w).all fun o => decide (o < n)):=by cases r <;> cases w <;> rfl
    rw [e,Bool.and_eq_true] at h
    have hd:disj R w = true:=by
     unfold disj at h ⊢
     rw [List.all_eq_true] at h ⊢
     intro o ho
     have:=h.1 o ho
     simp only [Bool.not_eq_true',List.contains_eq_mem,List.mem_append,decide_eq_false_iff_not,not_or] at this ⊢
     exact this.2
    show (disj R w && (r ++ w).all fun o => decide (o < n)) = true
    rw [hd,h.2]; rfl
   | call R' => simp [Fp.ok] at h
   | bar => simp [Fp.ok] at h
theorem statOk_ok {pureF:FuncId → FMode} {n:Nat} {x y:AOper} (h:statOk pureF x y = true) (t t':List V) (k k' k2:Heap):(tagP (x.op.rds (ev t)) (fpAt pureF fb x t k) k k2).ok n (fpAt pureF fb y t' k') = true:=by
 refine tag_weak _ _ (fun hb => rds_fp hb) ?_
 simp only [statOk,Bool.or_eq_true,Bool.and_eq_true,beq_iff_eq] at h
 rcases h with (h | h) | ⟨h1,h2⟩
 ·rw [(cls_fp t k).1 h]
  cases fpAt pureF fb y t' k' with
  | bar => rfl
  | call R => simp [Fp.ok,disj]
  | io r w => rw [io_ok,disj_nil]; rfl
 ·rw [(cls_fp t' k').1 h]
  cases fpAt pureF fb x t k with
  | bar => rfl
  | call R => simp [Fp.ok,disj]
  | io r w => rw [io_ok]; simp [disj_nil,disj]
 ·obtain ⟨r,hr⟩:=(cls_fp (fb:=fb) t k).2 h1
  obtain ⟨r',hr'⟩:=(cls_fp (fb:=fb) t' k').2 h2
  rw [hr,hr',io_ok]
  rfl
def drawOk (pureF:FuncId → FMode) (ops:Array Oper) (as:List (AOper × List Nat)):Bool :=
 as.length == ops.size &&
 (List.range ops.size).all fun m =>
  match ops[m]?,as[m]? with
  | some om,some (am,ps) =>
   om.after.all (fun e => !Region.binds .any e || e.on < m) &&
   (List.range m).all fun q =>
    match as[q]? with
    | some (aq,_) => edge ops m q || (apartA aq am && (ps.contains q || statOk pureF aq am))
    | none => false
  | _,_ => false
def firstB (n m:Nat):Array Bool:=((List.range n).map fun i => decide (i < m)).toArray
theorem firstB_get (n m i:Nat):(firstB n m).getD i true = if i < n then decide (i < m) else true:=by
 simp only [firstB,Array.getD_eq_getD_getElem?,List.getElem?_toArray,List.getElem?_map]
 by_cases h:i < n
 ·rw [List.getElem?_range h]; simp [h]
 ·rw [List.getElem?_eq_none (by simpa using h)]; simp [h]
theorem firstB_get' (n m i:Nat):(firstB n m).getD i false = if i < n then decide (i < m) else false:=by
 simp only [firstB,Array.getD_eq_getD_getElem?,List.getElem?_toArray,List.getElem?_map]
 by_cases h:i < n
 ·rw [List.getElem?_range h]; simp [h]
 ·rw [List.getElem?_eq_none (by simpa using h)]; simp [h]
theorem firstB_set (n m:Nat) (h:m < n):(firstB n m).setIfInBounds m true = firstB n (m + 1):=by
 apply Array.ext'
 simp only [firstB,Array.toList_setIfInBounds,List.toList_toArray]
 apply List.ext_getElem?
 intro i
 by_cases hi:i = m
 ·subst hi
  rw [List.getElem?_set_self (by simpa using h),List.getElem?_map,List.getElem?_range h]
  simp
 ·rw [List.getElem?_set_ne (Ne.symm hi),List.getElem?_map,List.getElem?_map]
  rcases Nat.lt_or_ge i n with hlt | hge
  ·rw [List.getElem?_range hlt]; simp; omega
  ·rw [List.getElem?_eq_none (by simpa using hge)]; rfl
def CAt (pureF:FuncId → FMode) (fb:Nat) (ops:Array Oper) (as:List AOper) (m:Nat) (n:Nat) (fps:List FpT) (i:Nat) (t:List V × Heap):Prop :=
 m ≤ i ∧ ∀ (q:Nat) (ai:AOper) (oi:Oper),q < m → as[i]? = some ai → ops[i]? = some oi → edge ops i q = false → (fps.getD q .bar).ok n (fpAt pureF fb ai t.1 t.2) = true
theorem drawA {pureF:FuncId → FMode} (hp:PureOk pureF call) (hlk:LookOk pureF call) (hcf:FrameOk pureF call) (hgy:GrowY call) {n:Nat} {ps:List (AOper × List Nat)} (hok:drawOk pureF ops ps = true) {s':List V × Heap} :
  ∀ (rest:List (AOper × List Nat)) (m:Nat) (fps:List FpT) (s:List V × Heap),ps.drop m = rest → m ≤ ops.size → fps.length = m → (∀ q aq pq,q < m → ps[q]? = some (aq,pq) → ∃ tq hq hq',fps.getD q .bar = tagP (aq.op.rds (ev tq)) (fpAt pureF fb aq tq hq) hq hq') →
   n ≤ s.2.length → runDraw pureF call fb n rest fps s.1 s.2 = some s' → AnyA call fb ops (ps.map (·.1)) (· = s') (CAt pureF fb ops (ps.map (·.1)) m n fps) (ops.size - m) (firstB ops.size m) s:=by
 have hlen:ps.length = ops.size:=by
  simp only [drawOk,Bool.and_eq_true,beq_iff_eq] at hok
  exact hok.1
 have look:∀ (m:Nat) (hm:m < ops.size) (am:AOper) (pm:List Nat),ps[m]? = some (am,pm) → (∀ e ∈ (ops[m]).after,Region.binds .any e = true → e.on < m) ∧
   ∀ q aq pq,q < m → ps[q]? = some (aq,pq) → edge ops m q = true ∨ (apartA aq am = true ∧ (pm.contains q = true ∨ statOk pureF aq am = true)):=by
  intro m hm am pm hpm
  have hall:=hok
  simp only [drawOk,Bool.and_eq_true] at hall
  have hm1:=List.all_eq_true.1 hall.2 m (by simpa using hm)
  have hom:ops[m]? = some ops[m]:=by simp [hm]
  simp only [hom,hpm,Bool.and_eq_true] at hm1
  refine ⟨fun e he hb => ?_,fun q aq pq hq hpq => ?_⟩
  ·have:=Array.all_eq_true'.1 hm1.1 e he
   simpa [hb] using this
  ·have:=List.all_eq_true.1 hm1.2 q (by simpa using hq)
   simp only [hpq,Bool.or_eq_true,Bool.and_eq_true] at this
   exact this
 intro rest
 induction rest with
 | nil =>
  intro m fps s hd hm hf hfp hn hr
  have hmn:m = ops.size:=by
   have:=congrArg List.length hd
   simp at this
   omega
  subst hmn
  rw [Nat.sub_self]
  simp only [runDraw,Option.some.injEq] at hr
  refine ⟨?_,hr⟩
  cases hrd:Region.ready .any ops (firstB ops.size ops.size) with
  | nil => rfl
  | cons x xs =>
   have hx:x ∈ Region.ready .any ops (firstB ops.size ops.size):=by rw [hrd]; simp
   obtain ⟨h1,o,ho,-⟩:=mem_ready.1 hx
   have hlt:x < ops.size:=by rcases Nat.lt_or_ge x ops.size with h | h; exact h; simp [Array.getElem?_eq_none h] at ho
   rw [firstB_get,if_pos hlt] at h1
   simp [hlt] at h1
 | cons p rest ih =>
  intro m fps s hd hm hf hfp hn hr
  obtain ⟨am,pm⟩:=p
  have hmlt:m < ps.length:=by
   rcases Nat.lt_or_ge m ps.length with h | h
   ·exact h
   ·rw [List.drop_eq_nil_of_le h] at hd; cases hd
  have hpm:ps[m]? = some (am,pm):=by
   have:(ps.drop m)[0]? = some (am,pm):=by rw [hd]; rfl
   rwa [List.getElem?_drop] at this
  have hmn:m < ops.size:=by omega
  have hdr:ps.drop (m + 1) = rest:=by rw [← List.drop_drop,hd]; rfl
  obtain ⟨hedge,hq⟩:=look m hmn am pm hpm
  have hom:ops[m]? = some ops[m]:=by simp [hmn]
  simp only [runDraw] at hr
  split at hr
  case isFalse => cases hr
  rename_i hcheck
  split at hr
  case h_2 => cases hr
  rename_i t' h' hst
  have gl:∀ q,q < m → (fps ++ [tagP (am.op.rds (ev s.1)) (fpAt pureF fb am s.1 s.2) s.2 h']).getD q .bar = fps.getD q .bar:=fun q hq => by
   simp only [List.getD_eq_getElem?_getD,List.getElem?_append_left (show q < fps.length by omega)]
  have ge:(fps ++ [tagP (am.op.rds (ev s.1)) (fpAt pureF fb am s.1 s.2) s.2 h']).getD m .bar = tagP (am.op.rds (ev s.1)) (fpAt pureF fb am s.1 s.2) s.2 h':=by
   rw [List.getD_eq_getElem?_getD,List.getElem?_append_right (by omega),hf,Nat.sub_self]; rfl
  have IH:=ih (m + 1) (fps ++ [tagP (am.op.rds (ev s.1)) (fpAt pureF fb am s.1 s.2) s.2 h']) (t',h') hdr (by omega) (by simp [hf]) (fun q aq pq hq hpq => by
   rcases Nat.lt_or_ge q m with h1 | h1
   ·rw [gl q h1]; exact hfp q aq pq h1 hpq
   ·have:q = m:=by omega
    subst this
    rw [hpm] at hpq
    cases hpq
    exact ⟨s.1,s.2,h',ge⟩) (Nat.le_trans hn (stepOp_grows hp hlk hcf hgy hst)) hr
  have hsz:ops.size - m = (ops.size - (m + 1)) + 1:=by omega
  rw [hsz]
  have has:(ps.map (·.1))[m]? = some am:=by rw [List.getElem?_map,hpm]; rfl
  have weaken:∀ i t,CAt pureF fb ops (ps.map (·.1)) (m + 1) n (fps ++ [tagP (am.op.rds (ev s.1)) (fpAt pureF fb am s.1 s.2) s.2 h']) i t → CAt pureF fb ops (ps.map (·.1)) m n fps i t:=fun i t H =>
   ⟨by have:=H.1; omega,fun q ai oi h1 h2 h3 h4 => by have:=H.2 q ai oi (by omega) h2 h3 h4; rwa [gl q h1] at this⟩
  refine anyA_first hp hlk hcf hgy (n:=n) (fpk:=tagP (am.op.rds (ev s.1)) (fpAt pureF fb am s.1 s.2) s.2 h') has ?_ ?_ weaken _ _ _ (t',h') ?_ hn ?_ ?_ ?_ rfl hst (by rw [firstB_set _ _ hmn]; exact IH)
  ·intro i ai s1 s2 hi he H
   refine ⟨H.1,fun q ai' oi h1 h2 h3 h4 => ?_⟩
   have:=H.2 q ai' oi h1 h2 h3 h4
   rw [hi] at h2
   cases h2
   rwa [he] at this
  ·intro j aj oj t haj hoj hne hjm H
   refine ⟨weaken j t H,?_⟩
   have:=H.2 m aj oj (by omega) haj hoj hne
   rwa [ge] at this
  ·intro j aj oj haj hoj hjm hun hne
   have hjn:j < ops.size:=by rcases Nat.lt_or_ge j ops.size with h | h; exact h; simp [Array.getElem?_eq_none h] at hoj
   rw [firstB_get,if_pos hjn] at hun
   simp at hun
   have hoj':ops[j] = oj:=by
    rw [Array.getElem?_eq_getElem hjn] at hoj
    exact Option.some.inj hoj
   obtain ⟨pj,hpj⟩:∃ pj,ps[j]? = some (aj,pj):=by
    rw [List.getElem?_map] at haj
    simp only [Option.map_eq_some_iff] at haj
    obtain ⟨⟨a,b⟩,h1,h2⟩:=haj
    simp only at h2
    exact ⟨b,by rw [h1,h2]⟩
   rcases (look j hjn aj pj hpj).2 m am pm (by omega) hpm with h | h
   ·rw [hne] at h; cases h
   ·exact h.1
  ·intro i o hi ho e he hb
   have hin:i < ops.size:=by rcases Nat.lt_or_ge i ops.size with h | h; exact h; simp [Array.getElem?_eq_none h] at ho
   rw [firstB_get',if_pos hin] at hi
   have him:i < m:=by simpa using hi
   obtain ⟨⟨aq,pq⟩,hpq⟩:∃ x,ps[i]? = some x:=⟨_,List.getElem?_eq_getElem (by omega)⟩
   have ho':ops[i] = o:=by
    rw [Array.getElem?_eq_getElem hin] at ho
    exact Option.some.inj ho
   have:=(look i hin aq pq hpq).1 e (by rw [ho']; exact he) hb
   rw [firstB_get',if_pos (by omega)]
   simp; omega
  ·rw [mem_ready]
   refine ⟨by rw [firstB_get,if_pos hmn]; simp,ops[m],hom,fun e he hb => ?_⟩
   have:=hedge e he hb
   rw [firstB_get',if_pos (by omega)]
   simpa using this
  ·refine ⟨Nat.le_refl _,fun q ai oi h1 h2 h3 h4 => ?_⟩
   rw [has] at h2
   cases h2
   rw [hom] at h3
   cases h3
   obtain ⟨⟨aq,pq⟩,hpq⟩:∃ x,ps[q]? = some x:=⟨_,List.getElem?_eq_getElem (by omega)⟩
   rcases hq q aq pq h1 hpq with h | h
   ·rw [h] at h4; cases h4
   ·rcases h.2 with h | h
    ·exact List.all_eq_true.1 hcheck q (by simpa using h)
    ·obtain ⟨tq,kq,kq',htq⟩:=hfp q aq pq h1 hpq
     rw [htq]
     exact statOk_ok h _ _ _ _ _
end Go.Am


set_option linter.unusedVariables false
set_option linter.unusedSimpArgs false
namespace Go.Am
variable {P:Program}
def TRel (g:G) (w:World) (t:List V) (tmps:Array Value):Prop:=tmps.size = t.length ∧ ∀ (i:Nat) (v:V),t[i]? = some v → VRel g w v (tmps.getD i undef)
theorem TRel.ext {g g':G} {h h':Heap} {w w':World} (e:Ext g h w g' h' w') (s:Sim g h w) {t:List V} {tmps:Array Value} (r:TRel g w t tmps):TRel g' w' t tmps :=
 ⟨r.1,fun i v hi => (r.2 i v hi).ext e s⟩
theorem TRel.opd {g:G} {w:World} {t:List V} {a:Act} (r:TRel g w t a.tmps):OpdRel g w (ev t) a.eval:=by
 intro x x' hx
 cases x' with
 | tmp i =>
  simp only [trOpd,Option.some.injEq] at hx
  subst hx
  simp only [ev,Act.eval]
  rcases Nat.lt_or_ge i t.length with h | h
  ·rw [List.getD_eq_getElem?_getD,List.getElem?_eq_getElem h]
   exact r.2 i _ (List.getElem?_eq_getElem h)
  ·rw [List.getD_eq_getElem?_getD,List.getElem?_eq_none h]
   exact .junk _
 | const v =>
  simp only [trOpd,Option.map_eq_some_iff] at hx
  obtain ⟨c,hc,rfl⟩:=hx
  exact cst_rel g w hc
 | func f =>
  simp only [trOpd,Option.some.injEq] at hx
  subst hx
  exact .func f [] [] #[] #[] rfl rfl (by simp) (by simp)
 | global k => simp [trOpd] at hx
theorem TRel.put {g:G} {w:World} {t:List V} {a:Act} (r:TRel g w t a.tmps) {v:V} {x:Value} (hv:VRel g w v x) (dst:Option Nat):TRel g w (put t dst v) (a.put dst x).tmps:=by
 cases dst with
 | none => exact r
 | some d =>
  refine ⟨by simp [Am.put,Act.put,r.1],fun i u hi => ?_⟩
  simp only [Am.put] at hi
  simp only [Act.put]
  by_cases hid:d = i
  ·subst hid
   rcases Nat.lt_or_ge d t.length with h | h
   ·rw [List.getElem?_set_self h] at hi
    cases hi
    have:d < a.tmps.size:=by rw [r.1]; exact h
    simp only [Array.getD_eq_getD_getElem?,Array.getElem?_setIfInBounds,this,if_true,Option.getD_some]
    simpa using hv
   ·rw [List.getElem?_eq_none (by simpa using h)] at hi
    cases hi
  ·rw [List.getElem?_set_ne hid] at hi
   have:=r.2 i u hi
   simp only [Array.getD_eq_getD_getElem?,Array.getElem?_setIfInBounds_ne hid] at this ⊢
   exact this
def trGuard (ops:Array Oper):Option (Nat × Bool) → Option (Option (Nat × Bool))
 | none => some none
 | some (j,want) => match (ops[j]?).bind (·.dst) with | some d => some (some (d,want)) | none => none
def trOpS (P:Program) (site:Nat) (op:Op):Option AOp:=match trOp P site op with | some a => some a | none => some .stuck
def trOper (P:Program) (al:List Nat) (ops:Array Oper) (o:Oper):Option AOper :=
 match trOpS P (al.idxOf (o.dst.getD 0)) o.op,trGuard ops o.guard with
 | some op,some gd => some { dst:=o.dst,op:=op,guard:=gd }
 | _,_ => none
theorem wanted_rel {g:G} {w:World} {t:List V} {a:Act} (r:TRel g w t a.tmps) {al:List Nat} {ops:Array Oper} {o:Oper} {ao:AOper} (ht:trOper P al ops o = some ao) {b:Bool} (hw:wanted ao t = some b) :
  Region.wanted o (yielded ops a.tmps) = b:=by
 unfold trOper at ht
 split at ht
 case h_2 => cases ht
 rename_i op gd h1 h2
 cases ht
 unfold wanted at hw
 simp only at hw
 unfold trGuard at h2
 split at h2
 ·rename_i hg
  cases h2
  simp only [Option.some.injEq] at hw
  subst hw
  unfold Region.wanted
  rw [hg]
 ·rename_i j want hg
  split at h2
  case h_2 => cases h2
  rename_i d hd
  cases h2
  simp only at hw
  unfold Region.wanted
  rw [hg]
  simp only
  have hy:yielded ops a.tmps j = match a.tmps[d]? with | some (.bool b) => some b | _ => none:=by
   unfold yielded
   rw [hd]
   rfl
  rw [hy]
  have hlt:d < t.length:=by
   rcases Nat.lt_or_ge d t.length with h | h
   ·exact h
   ·rw [List.getD_eq_getElem?_getD,List.getElem?_eq_none h] at hw; simp at hw
  have hr:=r.2 d _ (List.getElem?_eq_getElem hlt)
  rw [List.getD_eq_getElem?_getD,List.getElem?_eq_getElem hlt] at hw
  simp only [Option.getD_some] at hw
  have hs:d < a.tmps.size:=by rw [r.1]; exact hlt
  rw [Array.getD_eq_getD_getElem?,Array.getElem?_eq_getElem hs,Option.getD_some] at hr
  rw [Array.getElem?_eq_getElem hs]
  generalize a.tmps[d] = X at hr ⊢
  generalize t[d] = v at hr hw
  split at hw
  ·rename_i c
   cases hr
   revert hw
   cases want <;> cases c <;> intro hw <;> simp at hw <;> subst hw <;> rfl
  ·cases hr
   simp only [Option.some.injEq] at hw
   subst hw
   cases want <;> rfl
  ·cases hw
def FR (rd:Option Nat):Fence:={ Fence.wide with round:=rd }
theorem callsIn_FR {rd:Option Nat} {n:Nat} {f:FuncId} {args:Array Value} {w:World} {R:Ending → World → Prop} (h:Calls P f args w R):CallsIn (FR rd) n P f args w R :=
 (callsIn_wide (n:=n)).2 h
theorem trOp_defer {site:Nat} {op:Op} {ao:AOp} (h:trOp P site op = some ao):∀ c,op ≠ .defer c:=by
 rintro c rfl
 simp [trOp] at h
structure CallOk (P:Program) (call:Caller):Prop where
 fn:∀ f args h v h',f ≠ YLD → call f args h = some (v,h') →
  (∃ fn, P.funcs[f]? = some fn ∧ fn.body.isSome ∧ (fn.name == "runtime.NumGoroutine") = false) ∧
  ∀ g w (xs:Array Value),g.code = codesOf P → Sim g h w → xs.size = args.length → (∀ i c,args[i]? = some c → VRel g w c (xs.getD i undef)) →
   Calls P f xs w fun e w' => ∃ x g',e = .returned x ∧ Sim g' h' w' ∧ Ext g h w g' h' w' ∧ VRel g' w' v x
 yld:∀ o ver args h v h',call YLD (.yld o ver :: args) h = some (v,h') →
  ∀ g w (xs:Array Value) b rd n,g.code = codesOf P → Sim g h w → g.loc o ver = some (b,0) → xs.size = args.length → (∀ i c,args[i]? = some c → VRel g w c (xs.getD i undef)) →
   ∃ fn tmps asn body,(Instr.yield b xs).run P w = .ok (.round b fn tmps asn body) w ∧
    RoundIn (FR rd) n P b fn tmps asn body w fun e w' => ∃ x g',e = .returned x ∧ Sim g' h' w' ∧ Ext g h w g' h' w' ∧ VRel g' w' v x
theorem run_callFunc {f : FuncId} {fn : Func} (hf : P.funcs[f]? = some fn) (hb : fn.body.isSome) (hn : (fn.name == "runtime.NumGoroutine") = false) (args : Array Value) (w : World) : (callFunc f args).run P w = .ok (.enter f args) w := by
 have h1:fn.body ≠ none:=fun e => by rw [e] at hb; cases hb
 have h2 : fn.name ≠ "runtime.NumGoroutine" := fun e => by rw [e] at hn; simp at hn
 simp [callFunc,hf,h1,h2]
theorem opds_list {g:G} {w:World} {t:List V} {a:Act} (r:TRel g w t a.tmps) {xs:Array Operand} {ys:List Opd} (h:trOpds xs.toList = some ys) :
  (xs.map a.eval).size = (ys.map (ev t)).length ∧ ∀ i c,(ys.map (ev t))[i]? = some c → VRel g w c ((xs.map a.eval).getD i undef):=by
 obtain ⟨h1,h2⟩:=trOpds_rel r.opd h
 exact VRel_list (by simp; simpa using h1) (fun i c hi => by simpa using h2 i c hi)
def AOp.isCall:AOp → Bool
 | .call .. | .callv .. => true
 | _ => false
theorem trBin_call {op:BinOp} {t:TypeId} {x y:Operand} {ao:AOp} (h:trBin P op t x y = some ao):ao.isCall = false:=by
 unfold trBin at h
 (repeat' split at h) <;> first
  | (cases h; done)
  | (cases h; rfl)
  | (simp only [Option.map_eq_some_iff] at h; obtain ⟨_,-,rfl⟩:=h; rfl)
theorem trBuiltin_call {site:Nat} {b:Builtin} {args:List Operand} {ts:List TypeId} {ao:AOp} (h:trBuiltin P site b args ts = some ao):ao.isCall = false:=by
 unfold trBuiltin at h
 (repeat' split at h) <;> first
  | (cases h; done)
  | (cases h; rfl)
  | (simp only [Option.map_eq_some_iff] at h; obtain ⟨_,-,rfl⟩:=h; rfl)
theorem trOp_call {site:Nat} {op:Op} {ao:AOp} (h:trOp P site op = some ao) (hc:ao.isCall = true):∃ callee xs ts,op = .call { callee:=.value callee,args:=xs,argTypes:=ts } ∧
  ((∃ f args,callee = .func f ∧ ao = .call f args ∧ trOpds xs.toList = some args) ∨ (∃ f args,ao = .callv f args ∧ trOpd callee = some f ∧ trOpds xs.toList = some args)):=by
 cases op with
 | call c =>
  obtain ⟨callee,args,ts⟩:=c
  cases callee with
  | builtin b =>
   simp only [trOp] at h
   rw [trBuiltin_call h] at hc
   cases hc
  | invoke r m => simp [trOp] at h
  | value f =>
   refine ⟨f,args,ts,rfl,?_⟩
   cases f <;> simp only [trOp] at h
   case func f =>
    simp only [Option.map_eq_some_iff] at h
    obtain ⟨l,hl,rfl⟩:=h
    exact .inl ⟨f,l,rfl,rfl,hl⟩
   all_goals
    split at h
    ·rename_i f' l h1 h2
     cases h
     exact .inr ⟨f',l,rfl,h1,h2⟩
    ·cases h
 | binOp op t x y yt =>
  simp only [trOp] at h
  rw [trBin_call h] at hc
  cases hc
 | makeFunc fn xs ys =>
  exfalso
  cases fn <;> simp only [trOp,reduceCtorEq] at h
  split at h
  ·cases h; cases hc
  ·cases h
 | _ =>
  exfalso
  simp only [trOp] at h
  (repeat' split at h) <;> first
   | (cases h; done)
   | (cases h; cases hc; done)
   | (simp only [Option.map_eq_some_iff] at h; obtain ⟨_,-,rfl⟩:=h; cases hc)
   | (unfold trPut at h; (repeat' split at h) <;> first | (cases h; done) | (cases h; cases hc; done))
theorem sim_step {call:Caller} (hcall:CallOk P call) {fb:Nat} {g:G} {h:Heap} {w:World} (hgc:g.code = codesOf P) (s:Sim g h w) {t:List V} {a:Act} (r:TRel g w t a.tmps) {al:List Nat} {ops:Array Oper} {o:Oper} {ao:AOper} (ht:trOper P al ops o = some ao)
  {s':List V × Heap} (hst:stepOp call fb ao t h = some s') {rd:Option Nat} {n:Nat} {K:Act → World → Prop} {Q:Exit → Act → World → Prop}
  (hK:∀ g' w' a',Sim g' s'.2 w' → Ext g h w g' s'.2 w' → TRel g' w' s'.1 a'.tmps → a'.defers = a.defers → K a' w') :
  if Region.wanted o (yielded ops a.tmps) then o.wpIn (FR rd) n P a w K Q else (∀ f,o.about P w a.eval = some f → (FR rd).fn f) ∧ K (a.put o.dst undef) w:=by
 have hdst:ao.dst = o.dst:=by
  unfold trOper at ht
  split at ht <;> cases ht
  rfl
 have defers:∀ x,(a.put o.dst x).defers = a.defers:=fun x => by cases o.dst <;> rfl
 unfold stepOp at hst
 cases hw:wanted ao t with
 | none => simp [hw] at hst
 | some b =>
  rw [wanted_rel r ht hw]
  cases b with
  | false =>
   simp only [hw,Option.some.injEq] at hst
   subst hst
   simp only [Bool.false_eq_true,if_false]
   refine ⟨fun _ _ => trivial,hK g w _ s (Ext.refl _ _ _) ?_ (defers _)⟩
   rw [hdst]
   exact r.put (.tup [] #[] rfl (by simp)) _
  | true =>
   simp only [hw] at hst
   simp only [if_true]
   have hns:ao.op ≠ .stuck:=by
    intro e
    rw [e] at hst
    simp [doOp,prim] at hst
   have hop:trOp P (al.idxOf (o.dst.getD 0)) o.op = some ao.op:=by
    unfold trOper at ht
    split at ht
    ·rename_i op gd h1 h2
     cases ht
     unfold trOpS at h1
     split at h1
     ·rename_i a ha; cases h1; exact ha
     ·cases h1; exact absurd rfl hns
    ·cases ht
   have hsem:o.semAt (FR rd).round a.eval = execOp a.eval o:=Oper.semAt_eq _ _ _ (trOp_defer hop)
   -- a call
   have calls:∀ (f:FuncId) (args:List V) (xs:Array Value) (v:V) (h1:Heap),f ≠ YLD → call f args h = some (v,h1) → s' = (put t ao.dst v,h1) → xs.size = args.length → (∀ i c,args[i]? = some c → VRel g w c (xs.getD i undef)) →
     (execOp a.eval o).run P w = .ok (.enter f xs) w → o.wpIn (FR rd) n P a w K Q:=by
    intro f args xs v h1 hny hc hs' hl hx hr
    subst hs'
    obtain ⟨-,hcl⟩:=hcall.fn f args h v h1 hny hc
    unfold Oper.wpIn
    rw [hsem,hr]
    refine ⟨fun _ _ => trivial,?_⟩
    rw [Oper.uponIn_enter]
    refine ⟨fun h => by simp [FR,Fence.wide] at h,callsIn_FR ((hcl g w xs hgc s hl hx).mono ?_)⟩
    rintro e w' ⟨x,g',rfl,q1,q2,q3⟩
    refine hK g' w' _ q1 q2 ?_ (defers _)
    rw [hdst]
    exact (r.ext q2 s).put q3 _
   cases hao:ao.op with
   | call f args =>
    rw [hao] at hop hst
    simp only [doOp] at hst
    by_cases hny:f = YLD
    ·simp [hny] at hst
    simp only [if_neg hny] at hst
    cases hc:call f (args.map (ev t)) h with
    | none => simp [hc] at hst
    | some p =>
     obtain ⟨v,h1⟩:=p
     simp only [hc,Option.some.injEq] at hst
     obtain ⟨⟨fn,hf,hb,hn⟩,-⟩:=hcall.fn _ _ _ _ _ hny hc
     obtain ⟨callee,xs,ts,ho,hh⟩:=trOp_call hop rfl
     rcases hh with ⟨f',args',rfl,he,hxs⟩ | ⟨f',args',he,-⟩
     ·cases he
      obtain ⟨l1,l2⟩:=opds_list r hxs
      refine calls f _ (xs.map a.eval) v h1 hny hc hst.symm l1 l2 ?_
      simp [execOp,ho,resolve,Deferred.ofValue,Act.eval,invoke,run_callFunc hf hb hn]
     ·cases he
   | callv f args =>
    rw [hao] at hop hst
    simp only [doOp] at hst
    obtain ⟨callee,xs,ts,ho,hh⟩:=trOp_call hop rfl
    rcases hh with ⟨f',args',-,he,-⟩ | ⟨f',args',he,hcf,hxs⟩
    ·cases he
    ·cases he
     have hr:=r.opd _ _ hcf
     obtain ⟨l1,l2⟩:=opds_list r hxs
     split at hst
     case h_2 => cases hst
     rename_i v h1 hq
     simp only [Option.some.injEq] at hst
     split at hq
     case h_3 => cases hq
     case h_2 =>
      rename_i oo vv hfv
      rw [hfv] at hr
      generalize hX:a.eval callee = X at hr
      cases hr with
      | yld _ _ b hg =>
       obtain ⟨fn,tm,asn,bd,hrun,hround⟩:=hcall.yld oo vv _ h v h1 hq g w (xs.map a.eval) b rd (n - 1) hgc s hg l1 l2
       subst hst
       unfold Oper.wpIn
       have hr2:(execOp a.eval o).run P w = .ok (.round b fn tm asn bd) w:=by
        rw [← hrun]
        simp [execOp,ho,resolve,Deferred.ofValue,hX,invoke]
       rw [hsem,hr2]
       refine ⟨fun _ _ => trivial,?_⟩
       rw [Oper.uponIn_round]
       refine ⟨fun h => by simp [FR,Fence.wide] at h,hround.mono ?_⟩
       rintro e w' ⟨x,g',rfl,q1,q2,q3⟩
       refine hK g' w' _ q1 q2 ?_ (defers _)
       rw [hdst]
       exact (r.ext q2 s).put q3 _
     rename_i fid us vs hfv
     split at hq
     case isTrue => cases hq
     rename_i hny
     rw [hfv] at hr
     generalize hX:a.eval callee = X at hr
     cases hr with
     | func _ _ _ us' vs' k1 k2 k3 k4 =>
      obtain ⟨⟨fn,hf,hb,hn⟩,-⟩:=hcall.fn _ _ _ _ _ hny hq
      refine calls fid _ (us' ++ xs.map a.eval ++ vs') v h1 hny hq hst.symm (by simp only [Array.size_append,List.length_append,k1,k2,l1]) ?_ ?_
      ·intro i c hi
       have e1:us'.toList.length = us.length:=by simpa using k1
       have key:∀ (l:List V) (zs:Array Value),zs.size = l.length → (∀ i c,l[i]? = some c → VRel g w c (zs.getD i undef)) → ∀ (i:Nat) (c:V),l[i]? = some c → ∃ x,zs[i]? = some x ∧ VRel g w c x:=by
        intro l zs hz hr i c hi
        have hlt:i < zs.size:=by rcases Nat.lt_or_ge i l.length with h | h; omega; simp [List.getElem?_eq_none h] at hi
        have:=hr i c hi
        rw [Array.getD_eq_getD_getElem?,Array.getElem?_eq_getElem hlt,Option.getD_some] at this
        exact ⟨zs[i],by simp [hlt],this⟩
       have app:∀ (l l':List V) (zs zs':Array Value),zs.size = l.length → (∀ (i:Nat) (c:V),l[i]? = some c → ∃ x,zs[i]? = some x ∧ VRel g w c x) → (∀ (i:Nat) (c:V),l'[i]? = some c → ∃ x,zs'[i]? = some x ∧ VRel g w c x) →
         ∀ (i:Nat) (c:V),(l ++ l')[i]? = some c → ∃ x,(zs ++ zs')[i]? = some x ∧ VRel g w c x:=by
        intro l l' zs zs' hz h1 h2 i c hi
        rcases Nat.lt_or_ge i l.length with hlt | hge
        ·rw [List.getElem?_append_left hlt] at hi
         obtain ⟨x,hx,hr⟩:=h1 i c hi
         exact ⟨x,by rw [Array.getElem?_append_left (by omega)]; exact hx,hr⟩
        ·rw [List.getElem?_append_right hge] at hi
         obtain ⟨x,hx,hr⟩:=h2 _ c hi
         exact ⟨x,by rw [Array.getElem?_append_right (by omega),hz]; exact hx,hr⟩
       obtain ⟨x,hx,hr⟩:=app _ _ _ _ (by simp only [Array.size_append,List.length_append,k1,l1]) (app _ _ _ _ k1 (key _ _ k1 k3) (key _ _ l1 l2)) (key _ _ k2 k4) i c hi
       rw [Array.getD_eq_getD_getElem?,hx,Option.getD_some]
       exact hr
      ·simp [execOp,ho,resolve,Deferred.ofValue,hX,invoke,run_callFunc hf hb hn]
   | _ =>
    rw [hao] at hop hst
    simp only [doOp] at hst
    split at hst
    case h_2 => cases hst
    rename_i v h1 hq
    simp only [Option.some.injEq] at hst
    subst hst
    have fin:PrimGoes P (execOp a.eval o) g h w v h1 → o.wpIn (FR rd) n P a w K Q:=by
     rintro ⟨g',w',x,n,hrun,hn,q1,q2,q3⟩
     unfold Oper.wpIn
     rw [hsem,hrun]
     refine ⟨fun _ _ => trivial,?_⟩
     rcases hn with rfl | ⟨rfl,rfl⟩
     ·refine hK g' w' _ q1 q2 ?_ (defers _)
      rw [hdst]
      exact (r.ext q2 s).put q3 _
     ·refine hK g' w' _ q1 q2 ?_ (defers _)
      rw [hdst]
      exact (r.ext q2 s).put q3 _
    split at hq
    ·rename_i u he
     cases hq
     exact fin (sim_prim (P:=P) r.opd (fun _ => rfl) s hop he)
    ·rename_i i z u he
     cases hq
     exact fin (sim_prim (P:=P) r.opd (fun _ => rfl) s hop he)
    ·cases hq
theorem objsL_get:∀ {l:List V} {i:Nat} {c:V},l[i]? = some c → ∀ o ∈ c.objs,o ∈ V.objsL l
 | [],i,c,h,o,ho => by simp at h
 | v :: l,i,c,h,o,ho => by
  simp only [V.objsL,List.mem_append]
  cases i with
  | zero => simp at h; subst h; exact .inl ho
  | succ i => simp at h; exact .inr (objsL_get h o ho)
theorem objs_cells {e:V} {j:Nat} {x:V} (h:e.cells[j]? = some x):∀ o ∈ x.objs,o ∈ e.objs:=by
 intro o ho
 have one:[e][j]? = some x → o ∈ e.objs:=fun h => by
  cases j with
  | zero => simp at h; subst h; exact ho
  | succ j => simp at h
 cases e with
 | agg cs => exact objsL_get (l:=cs) (by simpa [V.cells] using h) o ho
 | _ => exact one h
theorem VRel.dom {g g':G} {w:World} (hi:∀ b,g.imm b → g'.imm b) {v:V} {x:Value} (h:VRel g w v x):(∀ o ∈ v.objs,∀ t b,g.loc o t = some b → g'.loc o t = some b) → VRel g' w v x:=by
 induction h with
 | junk x => exact fun _ => .junk x
 | bool b => exact fun _ => .bool b
 | int k n => exact fun _ => .int k n
 | str s => exact fun _ => .str s
 | nilp => exact fun _ => .nilp
 | ptr o t off b base h => exact fun hd => .ptr o t off b base (hd o (by simp [V.objs]) _ _ h)
 | iptr cs off b base f h1 hc hv ih => exact fun hd => .iptr cs off b base f (hi _ h1) hc (fun j c hj => ih j c hj (fun o ho => hd o (by simp only [V.objs]; exact objsL_get hj o ho)))
 | nils => exact fun _ => .nils
 | view o t off len s cap b base c n e h hl hk hs hn => exact fun hd => .view o t off len s cap b base c n e (hd o (by simp [V.objs]) _ _ h) hl hk hs hn
 | vend o t s b base x c n e h hs hn => exact fun hd => .vend o t s b base x c n e (hd o (by simp [V.objs]) _ _ h) hs hn
 | sl L s cap b off c f h1 hl hk hz hc hv ih =>
  exact fun hd => .sl L s cap b off c f (fun h => hi _ (h1 h)) hl hk hz hc (fun i e j x he hx => ih i e j x he hx (fun o ho => hd o (by simp only [V.objs]; exact objsL_get he o (objs_cells hx o ho))))
 | sl0 s cap a hk => exact fun _ => .sl0 s cap a hk
 | nilm => exact fun _ => .nilm
 | map o t b h => exact fun hd => .map o t b (hd o (by simp [V.objs]) _ _ h)
 | nilf => exact fun _ => .nilf
 | func f xs ys xs' ys' hx hy h1 h2 i1 i2 =>
  exact fun hd => .func f xs ys xs' ys' hx hy (fun i x hi => i1 i x hi (fun o ho => hd o (by simp only [V.objs,List.mem_append]; exact .inl (objsL_get hi o ho))))
   (fun i x hi => i2 i x hi (fun o ho => hd o (by simp only [V.objs,List.mem_append]; exact .inr (objsL_get hi o ho))))
 | yld o t b h => exact fun hd => .yld o t b (hd o (by simp [V.objs]) _ _ h)
 | nili => exact fun _ => .nili
 | iface t v x h ih => exact fun hd => .iface t v x (ih (fun o ho => hd o (by simpa [V.objs] using ho)))
 | agg cs xs hx h ih => exact fun hd => .agg cs xs hx (fun i c hc => ih i c hc (fun o ho => hd o (by simp only [V.objs]; exact objsL_get hc o ho)))
 | tup cs xs hx h ih => exact fun hd => .tup cs xs hx (fun i c hc => ih i c hc (fun o ho => hd o (by simp only [V.objs]; exact objsL_get hc o ho)))
theorem Lies.dom {g g':G} {w:World} (hi:∀ b,g.imm b → g'.imm b) {b base:Nat} {cs:List V} (h:Lies g w b base cs) (hd:∀ o ∈ V.objsL cs,∀ t b,g.loc o t = some b → g'.loc o t = some b):Lies g' w b base cs:=by
 intro i c hc
 obtain ⟨x,h1,h2⟩:=h i c hc
 exact ⟨x,h1,h2.dom hi (fun o ho => hd o (objsL_get hc o ho))⟩
theorem BdRel.dom {g g':G} {w:World} (hc:g'.code = g.code) (hi:∀ b,g.imm b → g'.imm b) {b base:Nat} {x:Bd} (h:BdRel g w b base x) (hd:∀ o ∈ x.objs,∀ t b,g.loc o t = some b → g'.loc o t = some b):BdRel g' w b base x:=by
 cases x with
 | dead => trivial
 | var cs => exact ⟨h.1,h.2.1,h.2.2.dom hi hd⟩
 | arr cs => exact ⟨h.1,h.2.1,h.2.2.dom hi hd⟩
 | loop st pend t fb f k =>
  obtain ⟨h0,rec,h1,h2,h3,h4,h5,h6⟩:=h
  exact ⟨h0,rec,h1,h2,h3,by rw [hc]; exact h4,h5,fun i v hv => (h6 i v hv).dom hi (fun o ho => hd o (objsL_get hv o ho))⟩
 | map es =>
  obtain ⟨h0,ha,p,es',clock,h1,h2,h3,h4⟩:=h
  refine ⟨h0,ha,p,es',clock,h1,h2,⟨h3.1,fun i x e hk he => ?_⟩,h4⟩
  obtain ⟨q1,q2⟩:=h3.2 i x e hk he
  have hm:x ∈ es:=h1.mem_iff.1 (List.mem_of_getElem? hk)
  exact ⟨q1.dom hi (fun o ho => hd o (List.mem_flatMap.2 ⟨_,hm,by simp [ho]⟩)),q2.dom hi (fun o ho => hd o (List.mem_flatMap.2 ⟨_,hm,by simp [ho]⟩))⟩
theorem closedIn_spec {R:List Nat} {n:Nat} {h1:Heap} (hc:closedIn R n h1 = true) {o:Nat} {x:Ob} (hx:h1[o]? = some x) (ho:inside R n o = true):∀ i ∈ x.bd.objs,inside R n i = true:=by
 have hm:(x,o) ∈ h1.zipIdx:=by
  rw [List.mem_iff_getElem?]
  refine ⟨o,?_⟩
  simp [List.getElem?_zipIdx,hx]
 have:=List.all_eq_true.1 hc (x,o) hm
 simp only [ho,Bool.not_true,Bool.false_or] at this
 exact fun i hi => List.all_eq_true.1 this i hi
theorem frameC_ok {pureF:FuncId → FMode} {call:Caller} (hcall:CallOk P call):CallOk P (frameC pureF call):=by
 refine ⟨?_,fun o ver args h v k hc => ?_⟩
 case refine_2 =>
  refine hcall.yld o ver args h v k ?_
  unfold frameC at hc
  rw [if_pos rfl] at hc
  split at hc
  ·split at hc
   ·rename_i e _; cases hc; exact e
   ·cases hc
  ·cases hc
 intro f args h v k hny hc
 have hc':(match closedIn (reachC h (V.objsL args)) h.length (keepOnly (reachC h (V.objsL args)) h),call f args (keepOnly (reachC h (V.objsL args)) h) with
   | true,some (v,h1) => if h.length ≤ h1.length && v.objs.all (inside (reachC h (V.objsL args)) h.length) && closedIn (reachC h (V.objsL args)) h.length h1 then some (v,mergeH (reachC h (V.objsL args)) h h1) else none
   | _,_ => none) = some (v,k) ∨ call f args h = some (v,k):=by
  unfold frameC at hc
  rw [if_neg hny] at hc
  cases hm:pureF f <;> simp only [hm] at hc
  ·exact .inr hc
  ·exact .inl hc
  ·exact .inl hc
  ·split at hc
   ·exact .inr hc
   ·cases hc
 clear hc
 rcases hc' with hc | hc
 case inr => exact hcall.fn f args h v k hny hc
 split at hc
 case h_2 => cases hc
 rename_i v1 h1 e1 e2
 split at hc
 case isFalse => cases hc
 rename_i hok
 cases hc
 simp only [Bool.and_eq_true,decide_eq_true_eq] at hok
 obtain ⟨⟨hle,hv⟩,hcl⟩:=hok
 obtain ⟨q1,q2⟩:=hcall.fn f args _ v h1 hny e2
 refine ⟨q1,fun g w xs hgc s hl hx => ?_⟩
 generalize hRdef:reachC h (V.objsL args) = R at *
 have kget:∀ (o:Nat) (x:Ob),(keepOnly R h)[o]? = some x → x.bd.lives = true → o ∈ R ∧ h[o]? = some x:=by
  intro o x hx hlv
  rw [keepOnly_get] at hx
  simp only [Option.map_eq_some_iff] at hx
  obtain ⟨y,hy,hx⟩:=hx
  by_cases hR:o ∈ R
  ·simp [hR] at hx; subst hx; exact ⟨hR,hy⟩
  ·simp [hR] at hx; subst hx; cases hlv
 have kget':∀ (o:Nat),o ∈ R → (keepOnly R h)[o]? = h[o]?:=by
  intro o hR
  rw [keepOnly_get]
  cases h[o]? <;> simp [hR]
 let g1:G:=⟨fun o t => if o ∈ R then g.loc o t else none,g.imm,g.code⟩
 have g1loc:∀ o t b,g1.loc o t = some b → o ∈ R ∧ g.loc o t = some b:=by
  intro o t b hb
  simp only [g1] at hb
  split at hb
  ·rename_i hR; exact ⟨hR,hb⟩
  ·cases hb
 have g1of:∀ o,o ∈ R → ∀ t b,g.loc o t = some b → g1.loc o t = some b:=by
  intro o hR t b hb
  simp only [g1,if_pos hR]; exact hb
 have insR:∀ o,inside R h.length o = true → o < h.length → o ∈ R:=by
  intro o ho hlt
  simp only [inside,Bool.or_eq_true,List.contains_iff_mem,decide_eq_true_eq] at ho
  rcases ho with ho | ho
  ·exact ho
  ·omega
 have blk1:∀ o b,blk g1 (keepOnly R h) o = some b → o ∈ R ∧ blk g h o = some b:=by
  intro o b hb
  obtain ⟨x,base,hx,hlv,hg⟩:=blk_some hb
  obtain ⟨hR,hx'⟩:=kget o x hx hlv
  exact ⟨hR,blk_of hx' hlv (g1loc _ _ _ hg).2⟩
 have s1:Sim g1 (keepOnly R h) w:=by
  refine ⟨fun o x hx hlv => ?_,fun o o' b h1 h2 => s.inj o o' b (blk1 _ _ h1).2 (blk1 _ _ h2).2,fun o b hb => s.imm o b (blk1 _ _ hb).2,s.immlt,fun o t b hg => ?_⟩
  ·obtain ⟨hR,hx'⟩:=kget o x hx hlv
   obtain ⟨b,base,r1,r2,r3⟩:=s.obs o x hx' hlv
   refine ⟨b,base,g1of o hR _ _ r1,r2,BdRel.dom (g:=g) (g':=g1) rfl (fun _ h => h) r3 (fun i hi t b hb => ?_)⟩
   have hin:=closedIn_spec e1 hx (by simp [inside,hR]) i hi
   rcases Nat.lt_or_ge i h.length with hlt | hge
   ·exact g1of i (insR i hin hlt) _ _ hb
   ·obtain ⟨y,hy,-⟩:=s.loclt i t b hb
    rw [List.getElem?_eq_none hge] at hy
    cases hy
  ·obtain ⟨hR,hg'⟩:=g1loc _ _ _ hg
   obtain ⟨x,hx,ht⟩:=s.loclt o t b hg'
   exact ⟨x,by rw [kget' o hR]; exact hx,ht⟩
 have hx1:∀ i c,args[i]? = some c → VRel g1 w c (xs.getD i undef):=fun i c hi => VRel.dom (g:=g) (g':=g1) (fun _ h => h) (hx i c hi) (fun o ho => g1of o (hRdef ▸ reachC_sub h _ o (objsL_get hi o ho)))
 refine (q2 g1 w xs hgc s1 hl hx1).mono ?_
 rintro e w1 ⟨x,g2,rfl,s2,x2,r2⟩
 let g3:G:=⟨fun o t => if inside R h.length o then g2.loc o t else g.loc o t,g2.imm,g.code⟩
 have g3in:∀ o,inside R h.length o = true → ∀ t b,g2.loc o t = some b → g3.loc o t = some b:=by
  intro o ho t b hb
  simp only [g3,if_pos ho]; exact hb
 have hmono:∀ o t b,g.loc o t = some b → g3.loc o t = some b:=by
  intro o t b hb
  by_cases ho:inside R h.length o = true
  ·rcases Nat.lt_or_ge o h.length with hlt | hge
   ·exact g3in o ho _ _ (x2.loc _ _ _ (g1of o (insR o ho hlt) _ _ hb))
   ·obtain ⟨y,hy,-⟩:=s.loclt o t b hb
    rw [List.getElem?_eq_none hge] at hy
    cases hy
  ·simp only [g3,if_neg ho]; exact hb
 have hL:Later g w g3 w1:=⟨rfl,hmono,fun b hb => x2.imm b hb,fun b hb => x2.frame b (s.immlt b hb) (fun o ho => s.imm o b (blk1 _ _ ho).2 hb),x2.shape⟩
 have mget:∀ (o:Nat) (x:Ob),(mergeH R h h1)[o]? = some x → (inside R h.length o = true ∧ h1[o]? = some x) ∨ (inside R h.length o = false ∧ h[o]? = some x):=by
  intro o x hx
  rw [mergeH_get] at hx
  simp only [Option.map_eq_some_iff] at hx
  obtain ⟨y,hy,hx⟩:=hx
  cases ho:inside R h.length o with
  | true => simp [ho] at hx; subst hx; exact .inl ⟨rfl,hy⟩
  | false =>
   simp [ho] at hx
   have hlt:o < h.length:=by
    simp only [inside,Bool.or_eq_false_iff,decide_eq_false_iff_not] at ho
    omega
   rw [List.getElem?_eq_getElem hlt] at hx ⊢
   exact .inr ⟨rfl,by simpa using hx⟩
 have mblk:∀ o b,blk g3 (mergeH R h h1) o = some b → (inside R h.length o = true ∧ blk g2 h1 o = some b) ∨ (inside R h.length o = false ∧ blk g h o = some b):=by
  intro o b hb
  obtain ⟨x,base,hx,hlv,hg⟩:=blk_some hb
  rcases mget o x hx with ⟨ho,hx'⟩ | ⟨ho,hx'⟩
  ·simp only [g3,if_pos ho] at hg
   exact .inl ⟨ho,blk_of hx' hlv hg⟩
  ·simp only [g3,ho] at hg
   exact .inr ⟨ho,blk_of hx' hlv hg⟩
 have blt:∀ o b,blk g h o = some b → b < w.heap.size:=by
  intro o b hb
  obtain ⟨x,base,hx,hlv,hg⟩:=blk_some hb
  obtain ⟨b',base',hg',hlt,-⟩:=s.obs o x hx hlv
  rw [hg] at hg'
  cases hg'
  exact hlt
 have clash:∀ o o' b,inside R h.length o = false → blk g h o = some b → blk g2 h1 o' = some b → False:=by
  intro o o' b ho hb hb'
  obtain ⟨o2,h2⟩:=x2.own o' b hb' (blt o b hb)
  obtain ⟨hR,hb2⟩:=blk1 _ _ h2
  have:=s.inj o o2 b hb hb2
  subst this
  simp [inside,hR] at ho
 have s3:Sim g3 (mergeH R h h1) w1:=by
  refine ⟨fun o x hx hlv => ?_,fun o o' b hb hb' => ?_,fun o b hb hi => ?_,s2.immlt,fun o t b hg => ?_⟩
  ·rcases mget o x hx with ⟨ho,hx'⟩ | ⟨ho,hx'⟩
   ·obtain ⟨b,base,p1,p2,p3⟩:=s2.obs o x hx' hlv
    exact ⟨b,base,g3in o ho _ _ p1,p2,BdRel.dom (g:=g2) (g':=g3) x2.code.symm (fun _ h => h) p3 (fun i hi t b hb => g3in i (closedIn_spec hcl hx' ho i hi) t b hb)⟩
   ·obtain ⟨b,base,p1,p2,p3⟩:=s.obs o x hx' hlv
    refine ⟨b,base,hmono _ _ _ p1,Nat.lt_of_lt_of_le p2 x2.size,p3.later hL (x2.frame b p2 (fun o' ho' => ?_))⟩
    obtain ⟨hR,hb'⟩:=blk1 _ _ ho'
    have:=s.inj o o' b (blk_of hx' hlv p1) hb'
    subst this
    simp [inside,hR] at ho
  ·rcases mblk o b hb with ⟨ho,hb1⟩ | ⟨ho,hb1⟩ <;> rcases mblk o' b hb' with ⟨ho',hb2⟩ | ⟨ho',hb2⟩
   ·exact s2.inj _ _ _ hb1 hb2
   ·exact (clash o' o b ho' hb2 hb1).elim
   ·exact (clash o o' b ho hb1 hb2).elim
   ·exact s.inj _ _ _ hb1 hb2
  ·rcases mblk o b hb with ⟨ho,hb1⟩ | ⟨ho,hb1⟩
   ·exact s2.imm o b hb1 hi
   ·rcases x2.imm' b hi with h' | h'
    ·exact s.imm o b hb1 h'
    ·have:=blt o b hb1; omega
  ·by_cases ho:inside R h.length o = true
   ·simp only [g3,if_pos ho] at hg
    obtain ⟨x,hx,ht⟩:=s2.loclt o t b hg
    exact ⟨x,by rw [mergeH_get,hx]; simp [ho],ht⟩
   ·simp only [g3,if_neg ho] at hg
    obtain ⟨x,hx,ht⟩:=s.loclt o t b hg
    have hlt:o < h.length:=by
     rcases Nat.lt_or_ge o h.length with h' | h'
     ·exact h'
     ·rw [List.getElem?_eq_none h'] at hx; cases hx
    refine ⟨x,?_,ht⟩
    rw [mergeH_get,List.getElem?_eq_getElem (show o < h1.length by omega)]
    simp [ho,List.getD_eq_getElem?_getD,hx]
 refine ⟨x,g3,rfl,s3,⟨rfl,hmono,fun b hb => x2.imm b hb,x2.imm',x2.size,x2.shape,fun b hb hno => x2.frame b hb (fun o ho => hno o (blk1 _ _ ho).2),fun o b hb hlt => ?_,x2.os,x2.tape,x2.output⟩,
  VRel.dom (g:=g2) (g':=g3) (fun _ h => h) r2 (fun o ho t b hb => g3in o (List.all_eq_true.1 hv o ho) t b hb)⟩
 rcases mblk o b hb with ⟨ho,hb1⟩ | ⟨ho,hb1⟩
 ·obtain ⟨o2,h2⟩:=x2.own o b hb1 hlt
  exact ⟨o2,(blk1 _ _ h2).2⟩
 ·exact ⟨o,hb1⟩
end Go.Am


set_option linter.unusedVariables false
set_option linter.unusedSimpArgs false
namespace Go.Am
variable {call:Caller} {fb:Nat} {ops:Array Oper} {as:List AOper} {fin:List V × Heap → Prop}
def noLook (pureF:FuncId → FMode):FuncId → FMode:=fun f => match pureF f with | .look => .keep | m => m
theorem noLook_pure {pureF:FuncId → FMode} {f:FuncId} (h:noLook pureF f = .pure):pureF f = .pure:=by
 unfold noLook at h
 split at h
 ·cases h
 ·exact h
theorem noLook_look {pureF:FuncId → FMode} {f:FuncId}:noLook pureF f ≠ .look:=by
 unfold noLook
 split
 ·decide
 ·assumption
theorem noLook_ok {pureF:FuncId → FMode} (hp:PureOk pureF call):PureOk (noLook pureF) call :=
 ⟨fun f args h v h1 hy hm hc => hp.pure f args h v h1 hy (noLook_pure hm) hc,fun f args h v h1 hy hm => absurd hm noLook_look⟩
theorem noLook_lk {pureF:FuncId → FMode}:LookOk (noLook pureF) call:=fun f args h v h1 hy hm => absurd hm noLook_look
theorem resOp_zero {pureF:FuncId → FMode} (hp:PureOk pureF call) {o:AOper} {t:List V} {h:Heap} {v:V} {h1:Heap} (h0:o.op.cls pureF = 0) (hr:resOp call fb o t h = some (v,h1)):h1 = h ∧ ∀ h',resOp call fb o t h' = some (v,h'):=by
 have h0':o.op.cls (noLook pureF) = 0:=by
  by_cases hc:∃ f args,o.op = .call f args
  ·obtain ⟨f,args,hop⟩:=hc
   rw [hop] at h0 ⊢
   have hm:pureF f = .pure:=by cases hm:pureF f <;> simp [AOp.cls,hm] at h0 <;> rfl
   simp [AOp.cls,noLook,hm]
  ·cases hop:o.op <;> rw [hop] at h0 <;> first | exact h0 | skip
   exact absurd ⟨_,_,hop⟩ hc
 have hf:=(cls_fp (fb:=fb) (pureF:=noLook pureF) t h).1 h0'
 rcases resOp_local (noLook_ok hp) noLook_lk hf hr with ⟨e,hl⟩ | ⟨i,x,hi,-⟩
 ·exact ⟨e,fun h' => hl h' (fun o ho => by simp at ho)⟩
 ·simp at hi
theorem resOp_one {pureF:FuncId → FMode} (hp:PureOk pureF call) {o:AOper} {t:List V} {h:Heap} {v:V} {h1:Heap} (h0:o.op.cls pureF = 1) (hr:resOp call fb o t h = some (v,h1)):h1 = h:=by
 by_cases hc:∃ f args,o.op = .call f args
 ·obtain ⟨f,args,hop⟩:=hc
  rw [hop] at h0
  simp only [AOp.cls] at h0
  have hm:pureF f = .look:=by cases hm:pureF f <;> simp [hm] at h0 <;> rfl
  unfold resOp at hr
  cases hw:wanted o t with
  | none => simp [hw] at hr
  | some b =>
   cases b with
   | false => simp only [hw,Option.some.injEq,Prod.mk.injEq] at hr; exact hr.2.symm
   | true =>
    simp only [hw,hop,doOp] at hr
    by_cases hny:f = YLD
    ·rw [if_pos hny] at hr; cases hr
    ·rw [if_neg hny] at hr
     exact (hp.look f _ _ _ _ hny hm hr).1
 ·have h0':o.op.cls (noLook pureF) = 1:=by
   cases hop:o.op <;> rw [hop] at h0 <;> first | exact h0 | skip
   exact absurd ⟨_,_,hop⟩ hc
  obtain ⟨r,hf⟩:=(cls_fp (fb:=fb) (pureF:=noLook pureF) t h).2 h0'
  rcases resOp_local (noLook_ok hp) noLook_lk hf hr with ⟨e,hl⟩ | ⟨i,x,hi,-⟩
  ·exact e
  ·simp at hi
theorem diamondP {pureF:FuncId → FMode} (hp:PureOk pureF call) {x y:AOper} (hap:apartA x y = true) (hst:statOk pureF x y = true) {t:List V} {h:Heap} {s1 s12:List V × Heap} (h1:stepOp call fb x t h = some s1) (h2:stepOp call fb y s1.1 s1.2 = some s12) :
  ∃ s2,stepOp call fb y t h = some s2 ∧ stepOp call fb x s2.1 s2.2 = some s12:=by
 obtain ⟨a1,a2,a3⟩:=apartA_spec hap
 rw [stepOp_eq] at h1 h2
 simp only [Option.map_eq_some_iff] at h1 h2
 obtain ⟨⟨v1,k1⟩,r1,rfl⟩:=h1
 obtain ⟨⟨v2,k12⟩,r2,rfl⟩:=h2
 simp only at r2 ⊢
 rw [resOp_put a1] at r2
 suffices hh:∃ k2,resOp call fb y t h = some (v2,k2) ∧ resOp call fb x t k2 = some (v1,k12) by
  obtain ⟨k2,q1,q2⟩:=hh
  refine ⟨(put t y.dst v2,k2),by rw [stepOp_eq,q1]; rfl,?_⟩
  rw [stepOp_eq]
  simp only
  rw [resOp_put a3,q2,Option.map_some]
  simp only
  rw [put_comm a2]
 simp only [statOk,Bool.or_eq_true,Bool.and_eq_true,beq_iff_eq] at hst
 rcases hst with (hst | hst) | ⟨hs1,hs2⟩
 ·obtain ⟨rfl,hl⟩:=resOp_zero hp hst r1
  exact ⟨k12,r2,hl k12⟩
 ·obtain ⟨rfl,hl⟩:=resOp_zero hp hst r2
  exact ⟨h,hl h,r1⟩
 ·have e1:=resOp_one hp hs1 r1
  subst e1
  have e2:=resOp_one hp hs2 r2
  subst e2
  exact ⟨_,r2,r1⟩
theorem anyA_firstP {pureF:FuncId → FMode} (hp:PureOk pureF call) {k:Nat} {ak:AOper} (hk:as[k]? = some ak) :
  ∀ (fuel:Nat) (listed:Array Bool) (s s1:List V × Heap),
   (∀ (j:Nat) (aj:AOper) (oj:Oper),as[j]? = some aj → ops[j]? = some oj → j ≠ k → listed.getD j true = false → edge ops j k = false → apartA ak aj = true ∧ statOk pureF ak aj = true) →
   ClosedL ops listed → k ∈ Region.ready .any ops listed → stepOp call fb ak s.1 s.2 = some s1 → AnyA call fb ops as fin (fun _ _ => True) fuel (listed.setIfInBounds k true) s1 → AnyA call fb ops as fin (fun _ _ => True) (fuel + 1) listed s:=by
 intro fuel
 induction fuel with
 | zero =>
  intro listed s s1 hfree hcl hr hs H
  refine ⟨fun h => (by rw [h] at hr; cases hr),fun j hj => ?_⟩
  by_cases hjk:j = k
  ·subst hjk
   exact ⟨trivial,ak,s1,hk,hs,H⟩
  ·have:=ready_mono hj hjk
   rw [H.1] at this
   cases this
 | succ fuel ih =>
  intro listed s s1 hfree hcl hr hs H
  refine ⟨fun h => (by rw [h] at hr; cases hr),fun j hj => ?_⟩
  by_cases hjk:j = k
  ·subst hjk
   exact ⟨trivial,ak,s1,hk,hs,H⟩
  ·obtain ⟨c1,aj,s12,haj,hsj,H'⟩:=H.2 j (ready_mono hj hjk)
   obtain ⟨hjun,oj,hoj,hall⟩:=mem_ready.1 hj
   have hnot:edge ops j k = false:=by
    rw [Bool.eq_false_iff]
    intro he
    have h1:=edge_listed hcl he (fun o ho e hem hb => by rw [hoj] at ho; cases ho; exact hall e hem hb)
    have h0:=(mem_ready.1 hr).1
    rcases Nat.lt_or_ge k listed.size with h' | h'
    ·simp [h'] at h0 h1; rw [h0] at h1; cases h1
    ·simp [Array.getElem?_eq_none h'] at h1
   obtain ⟨hap,hst⟩:=hfree j aj oj haj hoj hjk hjun hnot
   obtain ⟨s2,d1,d2⟩:=diamondP hp hap hst hs hsj
   refine ⟨trivial,aj,_,haj,d1,?_⟩
   have hfree':∀ (i:Nat) (ai:AOper) (oi:Oper),as[i]? = some ai → ops[i]? = some oi → i ≠ k → (listed.setIfInBounds j true).getD i true = false → edge ops i k = false → apartA ak ai = true ∧ statOk pureF ak ai = true:=fun i ai oi hi hoi hik hun hno => by
    refine hfree i ai oi hi hoi hik ?_ hno
    by_cases hji:j = i
    ·subst hji; exact hjun
    ·rw [getD_set_ne true hji] at hun; exact hun
   refine ih (listed.setIfInBounds j true) _ s12 hfree' (hcl.set hj) (ready_mono hr (Ne.symm hjk)) d2 ?_
   rw [Array.setIfInBounds_comm _ _ hjk]
   exact H'
def noPairs (ops:List (AOper × List Nat)):Bool:=ops.all fun x => x.2.isEmpty
theorem drawP {pureF:FuncId → FMode} (hp:PureOk pureF call) {ps:List (AOper × List Nat)} (hok:drawOk pureF ops ps = true) (hnp:noPairs ps = true) {s':List V × Heap} :
  ∀ (rest:List (AOper × List Nat)) (m:Nat) (s:List V × Heap),ps.drop m = rest → m ≤ ops.size →
   runOps call fb (rest.map (·.1)) s.1 s.2 = some s' → AnyA call fb ops (ps.map (·.1)) (· = s') (fun _ _ => True) (ops.size - m) (firstB ops.size m) s:=by
 have hlen:ps.length = ops.size:=by
  simp only [drawOk,Bool.and_eq_true,beq_iff_eq] at hok
  exact hok.1
 have look:∀ (m:Nat) (hm:m < ops.size) (am:AOper) (pm:List Nat),ps[m]? = some (am,pm) → (∀ e ∈ (ops[m]).after,Region.binds .any e = true → e.on < m) ∧
   ∀ q aq pq,q < m → ps[q]? = some (aq,pq) → edge ops m q = true ∨ (apartA aq am = true ∧ statOk pureF aq am = true):=by
  intro m hm am pm hpm
  have hall:=hok
  simp only [drawOk,Bool.and_eq_true] at hall
  have hm1:=List.all_eq_true.1 hall.2 m (by simpa using hm)
  have hom:ops[m]? = some ops[m]:=by simp [hm]
  simp only [hom,hpm,Bool.and_eq_true] at hm1
  have hpe:pm = []:=by
   have:=List.all_eq_true.1 hnp _ (List.mem_of_getElem? hpm)
   simpa using this
  refine ⟨fun e he hb => ?_,fun q aq pq hq hpq => ?_⟩
  ·have:=Array.all_eq_true'.1 hm1.1 e he
   simpa [hb] using this
  ·have:=List.all_eq_true.1 hm1.2 q (by simpa using hq)
   simp only [hpq,Bool.or_eq_true,Bool.and_eq_true] at this
   rcases this with h | ⟨h1,h2⟩
   ·exact .inl h
   ·rw [hpe] at h2
    refine .inr ⟨h1,?_⟩
    simpa using h2
 intro rest
 induction rest with
 | nil =>
  intro m s hd hm hr
  have hmn:m = ops.size:=by
   have:=congrArg List.length hd
   simp at this
   omega
  subst hmn
  rw [Nat.sub_self]
  simp only [List.map_nil,runOps,Option.some.injEq] at hr
  refine ⟨?_,hr⟩
  cases hrd:Region.ready .any ops (firstB ops.size ops.size) with
  | nil => rfl
  | cons x xs =>
   have hx:x ∈ Region.ready .any ops (firstB ops.size ops.size):=by rw [hrd]; simp
   obtain ⟨h1,o,ho,-⟩:=mem_ready.1 hx
   have hlt:x < ops.size:=by rcases Nat.lt_or_ge x ops.size with h | h; exact h; simp [Array.getElem?_eq_none h] at ho
   rw [firstB_get,if_pos hlt] at h1
   simp [hlt] at h1
 | cons p rest ih =>
  intro m s hd hm hr
  obtain ⟨am,pm⟩:=p
  have hmlt:m < ps.length:=by
   rcases Nat.lt_or_ge m ps.length with h | h
   ·exact h
   ·rw [List.drop_eq_nil_of_le h] at hd; cases hd
  have hpm:ps[m]? = some (am,pm):=by
   have:(ps.drop m)[0]? = some (am,pm):=by rw [hd]; rfl
   rwa [List.getElem?_drop] at this
  have hmn:m < ops.size:=by omega
  have hdr:ps.drop (m + 1) = rest:=by rw [← List.drop_drop,hd]; rfl
  obtain ⟨hedge,hq⟩:=look m hmn am pm hpm
  have hom:ops[m]? = some ops[m]:=by simp [hmn]
  simp only [List.map_cons,runOps] at hr
  split at hr
  case h_2 => cases hr
  rename_i t' h' hst
  have IH:=ih (m + 1) (t',h') hdr (by omega) hr
  have hsz:ops.size - m = (ops.size - (m + 1)) + 1:=by omega
  rw [hsz]
  have has:(ps.map (·.1))[m]? = some am:=by rw [List.getElem?_map,hpm]; rfl
  refine anyA_firstP hp has _ _ _ (t',h') ?_ ?_ ?_ hst (by rw [firstB_set _ _ hmn]; exact IH)
  ·intro j aj oj haj hoj hjm hun hne
   have hjn:j < ops.size:=by rcases Nat.lt_or_ge j ops.size with h | h; exact h; simp [Array.getElem?_eq_none h] at hoj
   rw [firstB_get,if_pos hjn] at hun
   simp at hun
   obtain ⟨pj,hpj⟩:∃ pj,ps[j]? = some (aj,pj):=by
    rw [List.getElem?_map] at haj
    simp only [Option.map_eq_some_iff] at haj
    obtain ⟨⟨a,b⟩,h1,h2⟩:=haj
    simp only at h2
    exact ⟨b,by rw [h1,h2]⟩
   rcases (look j hjn aj pj hpj).2 m am pm (by omega) hpm with h | h
   ·rw [hne] at h; cases h
   ·exact h
  ·intro i o hi ho e he hb
   have hin:i < ops.size:=by rcases Nat.lt_or_ge i ops.size with h | h; exact h; simp [Array.getElem?_eq_none h] at ho
   rw [firstB_get',if_pos hin] at hi
   have him:i < m:=by simpa using hi
   obtain ⟨⟨aq,pq⟩,hpq⟩:∃ x,ps[i]? = some x:=⟨_,List.getElem?_eq_getElem (by omega)⟩
   have ho':ops[i] = o:=by
    rw [Array.getElem?_eq_getElem hin] at ho
    exact Option.some.inj ho
   have:=(look i hin aq pq hpq).1 e (by rw [ho']; exact he) hb
   rw [firstB_get',if_pos (by omega)]
   simp; omega
  ·rw [mem_ready]
   refine ⟨by rw [firstB_get,if_pos hmn]; simp,ops[m],hom,fun e he hb => ?_⟩
   have:=hedge e he hb
   rw [firstB_get',if_pos (by omega)]
   simpa using this
end Go.Am


set_option linter.unusedVariables false
set_option linter.unusedSimpArgs false
namespace Go.Am
variable {P:Program}
theorem sim_grow {g:G} {h:Heap} {w:World} (s:Sim g h w) (n:Nat):Sim g (h ++ deads n) w ∧ Ext g h w g (h ++ deads n) w:=by
 have hget:∀ (o:Nat) (x:Ob),(h ++ deads n)[o]? = some x → x.bd.lives = true → h[o]? = some x:=fun o x hx hl => by
  rcases Nat.lt_or_ge o h.length with hlt | hge
  ·rwa [List.getElem?_append_left hlt] at hx
  ·rw [List.getElem?_append_right hge] at hx
   simp only [deads,List.getElem?_replicate] at hx
   split at hx
   ·cases hx; cases hl
   ·cases hx
 have hblk:∀ o b,blk g (h ++ deads n) o = some b → blk g h o = some b:=fun o b hb => by
  obtain ⟨x,base,hx,hl,hg⟩:=blk_some hb
  exact blk_of (hget o x hx hl) hl hg
 refine ⟨⟨fun o x hx hl => s.obs o x (hget o x hx hl) hl,fun o o' b h1 h2 => s.inj o o' b (hblk _ _ h1) (hblk _ _ h2),fun o b hb => s.imm o b (hblk _ _ hb),s.immlt,fun o t b hg => ?_⟩,
  ⟨rfl,fun _ _ _ h => h,fun _ h => h,fun _ h => .inl h,Nat.le_refl _,fun _ _ h => h,fun _ _ _ => rfl,fun o b hb _ => ⟨o,hblk _ _ hb⟩,rfl,rfl,rfl⟩⟩
 obtain ⟨x,hx,ht⟩:=s.loclt o t b hg
 have hlt:o < h.length:=by
  rcases Nat.lt_or_ge o h.length with h1 | h1
  ·exact h1
  ·simp [List.getElem?_eq_none h1] at hx
 exact ⟨x,by rw [List.getElem?_append_left hlt]; exact hx,ht⟩
end Go.Am


set_option linter.unusedVariables false
set_option linter.unusedSimpArgs false
namespace Go.Am
variable {P:Program}
def trOps (P:Program) (al:List Nat) (ops:Array Oper):List Oper → Option (List AOper)
 | [] => some []
 | o :: os => match trOper P al ops o,trOps P al ops os with | some a,some as => some (a :: as) | _,_ => none
theorem trOps_get {al:List Nat} {ops:Array Oper}:∀ {l:List Oper} {as:List AOper},trOps P al ops l = some as → as.length = l.length ∧ ∀ (i:Nat) (a:AOper),as[i]? = some a → ∃ o,l[i]? = some o ∧ trOper P al ops o = some a
 | [],as,h => by simp [trOps] at h; subst h; simp
 | o :: l,as,h => by
  simp only [trOps] at h
  split at h
  ·rename_i a as' h1 h2
   cases h
   obtain ⟨e1,e2⟩:=trOps_get h2
   refine ⟨by simp [e1],fun i b hi => ?_⟩
   cases i with
   | zero => simp at hi; subst hi; exact ⟨o,rfl,h1⟩
   | succ i => simp at hi ⊢; exact e2 i b hi
  ·cases h
theorem sim_ops_app {call:Caller} (hcall:CallOk P call) {fb:Nat} {al:List Nat} {ops:Array Oper} {rd:Option Nat} {nn:Nat} {Q:Exit → Act → World → Prop} {d0:List Deferred} {l2:List Oper}:∀ (l:List Oper) (as:List AOper) (g:G) (h:Heap) (w:World) (t:List V) (a:Act) (t':List V) (h':Heap),
  trOps P al ops l = some as → runOps call fb as t h = some (t',h') → g.code = codesOf P → Sim g h w → TRel g w t a.tmps → a.defers = d0 →
  (∀ g' w' a',Sim g' h' w' → Ext g h w g' h' w' → TRel g' w' t' a'.tmps → a'.defers = d0 → wpListIn (FR rd) nn P ops Q l2 a' w') → wpListIn (FR rd) nn P ops Q (l ++ l2) a w
 | [],as,g,h,w,t,a,t',h',ht,hr,hgc,s,r,hd,hQ => by
  simp [trOps] at ht
  subst ht
  simp only [runOps,Option.some.injEq,Prod.mk.injEq] at hr
  obtain ⟨rfl,rfl⟩:=hr
  exact hQ g w a s (Ext.refl _ _ _) r hd
 | o :: l,as,g,h,w,t,a,t',h',ht,hr,hgc,s,r,hd,hQ => by
  simp only [trOps] at ht
  split at ht
  case h_2 => cases ht
  rename_i ao as' h1 h2
  cases ht
  simp only [runOps] at hr
  split at hr
  case h_2 => cases hr
  rename_i t1 k1 hst
  have:=sim_step hcall (fb:=fb) hgc s r h1 hst (rd:=rd) (n:=nn) (K:=wpListIn (FR rd) nn P ops Q (l ++ l2)) (Q:=Q) (fun g' w' a' q1 q2 q3 q4 =>
   sim_ops_app hcall l as' g' k1 w' t1 a' t' h' h2 hr (q2.code.trans hgc) q1 q3 (q4.trans hd) (fun g2 w2 a2 p1 p2 p3 p4 => hQ g2 w2 a2 p1 (q2.trans p2) p3 p4))
  simp only [List.cons_append,wpListIn]
  exact this
theorem sim_ops {call:Caller} (hcall:CallOk P call) {fb:Nat} {al:List Nat} {ops:Array Oper} {rd:Option Nat} {nn:Nat} {Q:Exit → Act → World → Prop} {d0:List Deferred} (l:List Oper) (as:List AOper) (g:G) (h:Heap) (w:World) (t:List V) (a:Act) (t':List V) (h':Heap)
  (ht:trOps P al ops l = some as) (hr:runOps call fb as t h = some (t',h')) (hgc:g.code = codesOf P) (s:Sim g h w) (r:TRel g w t a.tmps) (hd:a.defers = d0)
  (hQ:∀ g' w' a',Sim g' h' w' → Ext g h w g' h' w' → TRel g' w' t' a'.tmps → a'.defers = d0 → Q .normal a' w'):wpListIn (FR rd) nn P ops Q l a w:=by
 have:=sim_ops_app hcall (rd:=rd) (nn:=nn) (l2:=[]) l as g h w t a t' h' ht hr hgc s r hd hQ
 rwa [List.append_nil] at this
theorem TRel.clear {g:G} {w:World}:∀ (clr:List Nat) {t:List V} {tmps:Array Value},TRel g w t tmps → TRel g w (clear clr t) tmps
 | [],t,tmps,r => r
 | c :: clr,t,tmps,r => by
  have:TRel g w (t.set c .junk) tmps:=⟨by simp [r.1],fun i v hi => by
   by_cases h:c = i
   ·subst h
    rcases Nat.lt_or_ge c t.length with hlt | hge
    ·rw [List.getElem?_set_self hlt] at hi
     cases hi
     exact .junk _
    ·rw [List.getElem?_eq_none (by simpa using hge)] at hi
     cases hi
   ·rw [List.getElem?_set_ne h] at hi
    exact r.2 i v hi⟩
  exact TRel.clear clr this
theorem sim_kill1 {g:G} {h:Heap} {w:World} (s:Sim g h w) {o:Nat} {x:Ob} (hx:h[o]? = some x):Sim g (h.set o ⟨x.ver,.dead⟩) w ∧ Ext g h w g (h.set o ⟨x.ver,.dead⟩) w:=by
 have hlt:o < h.length:=by
  rcases Nat.lt_or_ge o h.length with h1 | h1
  ·exact h1
  ·simp [List.getElem?_eq_none h1] at hx
 have hself:(h.set o ⟨x.ver,.dead⟩)[o]? = some ⟨x.ver,.dead⟩:=by simp [hlt]
 have hother:∀ i,i ≠ o → (h.set o ⟨x.ver,.dead⟩)[i]? = h[i]?:=fun i hi => List.getElem?_set_ne (Ne.symm hi)
 have hblk:∀ i b,blk g (h.set o ⟨x.ver,.dead⟩) i = some b → blk g h i = some b:=by
  intro i b hb
  by_cases hi:i = o
  ·subst hi
   simp [blk,hself,Bd.lives] at hb
  ·simpa [blk,hother i hi] using hb
 refine ⟨⟨fun i y hy hl => ?_,fun i j b h1 h2 => s.inj i j b (hblk _ _ h1) (hblk _ _ h2),fun i b hb => s.imm i b (hblk _ _ hb),s.immlt,fun i t b hg => ?_⟩,
  ⟨rfl,fun _ _ _ h => h,fun _ h => h,fun _ h => .inl h,Nat.le_refl _,fun _ _ h => h,fun _ _ _ => rfl,fun i b hb _ => ⟨i,hblk _ _ hb⟩,rfl,rfl,rfl⟩⟩
 ·by_cases hi:i = o
  ·subst hi
   rw [hself] at hy
   cases hy
   cases hl
  ·rw [hother i hi] at hy
   exact s.obs i y hy hl
 ·obtain ⟨y,hy,ht⟩:=s.loclt i t b hg
  by_cases hi:i = o
  ·subst hi
   rw [hx] at hy
   cases hy
   exact ⟨_,hself,ht⟩
  ·exact ⟨y,by rw [hother i hi]; exact hy,ht⟩
theorem sim_kill {g:G} {w:World} (fb:Nat):∀ (kill:List Nat) {h:Heap},Sim g h w → Sim g (killA fb kill h) w ∧ Ext g h w g (killA fb kill h) w
 | [],h,s => ⟨s,Ext.refl _ _ _⟩
 | k :: kill,h,s => by
  have step:Sim g (match h[fb + k]? with | some x => h.set (fb + k) ⟨x.ver,.dead⟩ | none => h) w ∧ Ext g h w g (match h[fb + k]? with | some x => h.set (fb + k) ⟨x.ver,.dead⟩ | none => h) w:=by
   cases hx:h[fb + k]? with
   | none => exact ⟨s,Ext.refl _ _ _⟩
   | some x => exact sim_kill1 s hx
  obtain ⟨h1,h2⟩:=sim_kill fb kill step.1
  exact ⟨h1,step.2.trans h2⟩
def Ex.to:Ex → Exit
 | .norm => .normal
 | .exit id => .exit id
 | .ret => .ret
def Mk (m:Nat) (g:G) (h:Heap) (w:World) (ds:List Deferred):Prop:=m ≤ w.heap.size ∧ ∃ L:List Nat,ds = L.map (fun r => ({ target:=.collected r,args:=#[] }:Deferred)) ∧ L.Nodup ∧
 ∀ r ∈ L,m ≤ r ∧ r < w.heap.size ∧ w.heap[r]? = some (.deferred (some [])) ∧ (∀ o,blk g h o ≠ some r) ∧ ¬ g.imm r
theorem Mk.ext {m:Nat} {g g':G} {h h':Heap} {w w':World} {ds:List Deferred} (k:Mk m g h w ds) (e:Ext g h w g' h' w'):Mk m g' h' w' ds:=by
 obtain ⟨k0,L,rfl,hn,hL⟩:=k
 refine ⟨Nat.le_trans k0 e.size,L,rfl,hn,fun r hr => ?_⟩
 obtain ⟨h1,h2,h3,h4,h5⟩:=hL r hr
 refine ⟨h1,Nat.lt_of_lt_of_le h2 e.size,by rw [e.frame r h2 h4]; exact h3,fun o ho => ?_,fun hi => ?_⟩
 ·obtain ⟨o',ho'⟩:=e.own o r ho h2
  exact h4 o' ho'
 ·rcases e.imm' r hi with h | h
  ·exact h5 h
  ·omega
theorem Mk.nil {m:Nat} {g:G} {h:Heap} {w:World} (hm:m ≤ w.heap.size):Mk m g h w []:=⟨hm,[],rfl,.nil,fun r hr => by cases hr⟩
end Go.Am


set_option linter.unusedVariables false
set_option linter.unusedSimpArgs false
namespace Go.Am
variable {P:Program}
theorem wpIn_value {o:Oper} {a:Act} {w w':World} {v:Value} {rd:Option Nat} {nn:Nat} {K:Act → World → Prop} {Q:Exit → Act → World → Prop} (hnd:∀ c,o.op ≠ .defer c)
  (hr:(execOp a.eval o).run P w = .ok (.value v) w') (hK:K (a.put o.dst v) w'):o.wpIn (FR rd) nn P a w K Q:=by
 unfold Oper.wpIn
 rw [Oper.semAt_eq _ _ _ hnd,hr]
 exact ⟨fun _ _ => trivial,hK⟩
theorem wanted_none {o:Oper} (h:o.guard = none) (y:Nat → Option Bool):Region.wanted o y = true:=by
 unfold Region.wanted
 rw [h]
theorem put_defers (a:Act) (d:Option Nat) (v:Value):(a.put d v).defers = a.defers:=by cases d <;> rfl
theorem put_eval_same {a:Act} {i:Nat} {v:Value} (h:i < a.tmps.size):(a.put (some i) v).eval (.tmp i) = v:=by
 simp [Act.put,Act.eval,Array.getD_eq_getD_getElem?,Array.getElem?_setIfInBounds,h]
theorem put_eval_other {a:Act} {i j:Nat} {v:Value} (h:j ≠ i):(a.put (some i) v).eval (.tmp j) = a.eval (.tmp j):=by
 simp only [Act.put,Act.eval,Array.getD_eq_getD_getElem?,Array.getElem?_setIfInBounds_ne (Ne.symm h)]
theorem put_size {a:Act} {i:Nat} {v:Value}:(a.put (some i) v).tmps.size = a.tmps.size:=by simp [Act.put]
theorem sim_block {g:G} {h:Heap} {w:World} (s:Sim g h w) {r:Nat} (hu:∀ o,blk g h o ≠ some r) (hi:¬ g.imm r) (hs:∀ y,w.shape? r ≠ some y) (x:Obj) :
  Sim g h (ChangeMaps.setBlock w r x) ∧ Later g w g (ChangeMaps.setBlock w r x):=by
 have hsz:(ChangeMaps.setBlock w r x).heap.size = w.heap.size:=by simp [ChangeMaps.setBlock]
 have hget:∀ k,k ≠ r → (ChangeMaps.setBlock w r x).heap[k]? = w.heap[k]?:=fun k hk => by
  simp [ChangeMaps.setBlock,Array.getElem?_setIfInBounds_ne (Ne.symm hk)]
 have hshape:∀ k y,w.shape? k = some y → (ChangeMaps.setBlock w r x).shape? k = some y:=by
  intro k y hk
  by_cases e:k = r
  ·subst e; exact absurd hk (hs y)
  ·unfold World.shape? at hk ⊢
   rw [hget k e]
   exact hk
 have hL:Later g w g (ChangeMaps.setBlock w r x):=⟨rfl,fun _ _ _ h => h,fun _ h => h,fun k hk => hget k (fun e => hi (e ▸ hk)),hshape⟩
 refine ⟨⟨fun o y hy hl => ?_,s.inj,s.imm,fun b hb => by rw [hsz]; exact s.immlt b hb,s.loclt⟩,hL⟩
 obtain ⟨b,base,h1,h2,h3⟩:=s.obs o y hy hl
 have hb:b ≠ r:=fun e => hu o (by rw [← e]; exact blk_of hy hl h1)
 exact ⟨b,base,h1,by rw [hsz]; exact h2,h3.later hL (hget b hb)⟩
theorem ext_block {g0 g:G} {h0 h:Heap} {w0 w:World} (e:Ext g0 h0 w0 g h w) {r:Nat} (hr:w0.heap.size ≤ r) (hs:∀ y,w.shape? r ≠ some y) (x:Obj):Ext g0 h0 w0 g h (ChangeMaps.setBlock w r x) where
 code:=e.code
 loc:=e.loc
 imm:=e.imm
 imm':=e.imm'
 size:=by simp only [ChangeMaps.setBlock,Array.size_setIfInBounds]; exact e.size
 shape k y hk:=by
  have:=e.shape k y hk
  by_cases ek:k = r
  ·subst ek; exact absurd this (hs y)
  ·unfold World.shape? at this ⊢
   rw [show (ChangeMaps.setBlock w r x).heap[k]? = w.heap[k]? by simp [ChangeMaps.setBlock,Array.getElem?_setIfInBounds_ne (Ne.symm ek)]]
   exact this
 frame b hb hn:=by
  rw [show (ChangeMaps.setBlock w r x).heap[b]? = w.heap[b]? by simp [ChangeMaps.setBlock,Array.getElem?_setIfInBounds_ne (show r ≠ b by omega)]]
  exact e.frame b hb hn
 own:=e.own
 os:=e.os
 tape:=e.tape
 output:=e.output
theorem Mk.block {m:Nat} {g:G} {h:Heap} {w:World} {ds:List Deferred} (k:Mk m g h w ds) {r:Nat} (hr:w.heap[r]? ≠ some (.deferred (some []))) (x:Obj):Mk m g h (ChangeMaps.setBlock w r x) ds:=by
 obtain ⟨k0,L,rfl,hn,hL⟩:=k
 have hsz:(ChangeMaps.setBlock w r x).heap.size = w.heap.size:=by simp [ChangeMaps.setBlock]
 refine ⟨by rw [hsz]; exact k0,L,rfl,hn,fun q hq => ?_⟩
 obtain ⟨h1,h2,h3,h4,h5⟩:=hL q hq
 have hne:r ≠ q:=fun e => hr (by rw [e]; exact h3)
 exact ⟨h1,by rw [hsz]; exact h2,by simp only [ChangeMaps.setBlock,Array.getElem?_setIfInBounds_ne hne]; exact h3,h4,h5⟩
theorem sim_bump {g:G} {h:Heap} {w:World} (s:Sim g h w) {o v:Nat} (hx:h[o]? = some ⟨v,.dead⟩) (b:Nat):Sim (g.put o (v + 1) (b,0)) (h.set o ⟨v + 1,.dead⟩) w ∧ Ext g h w (g.put o (v + 1) (b,0)) (h.set o ⟨v + 1,.dead⟩) w ∧ ∀ i c,blk (g.put o (v + 1) (b,0)) (h.set o ⟨v + 1,.dead⟩) i = some c → blk g h i = some c:=by
 have hlt:o < h.length:=(List.getElem?_eq_some_iff.1 hx).1
 have hself:(h.set o ⟨v + 1,.dead⟩)[o]? = some ⟨v + 1,.dead⟩:=by simp [hlt]
 have hother:∀ i,i ≠ o → (h.set o ⟨v + 1,.dead⟩)[i]? = h[i]?:=fun i hi => List.getElem?_set_ne (Ne.symm hi)
 have hfresh:g.loc o (v + 1) = none:=by
  cases hq:g.loc o (v + 1) with
  | none => rfl
  | some bb =>
   obtain ⟨y,hy,hty⟩:=s.loclt _ _ _ hq
   rw [hx] at hy
   cases hy
   simp only at hty
   omega
 have hloc:∀ o' t bb,g.loc o' t = some bb → (g.put o (v + 1) (b,0)).loc o' t = some bb:=by
  intro o' t bb hg
  simp only [G.put]
  split
  ·rename_i he
   obtain ⟨rfl,rfl⟩:=he
   rw [hfresh] at hg
   cases hg
  ·exact hg
 have hblk:∀ i c,blk (g.put o (v + 1) (b,0)) (h.set o ⟨v + 1,.dead⟩) i = some c → blk g h i = some c:=by
  intro i c hb
  by_cases hi:i = o
  ·subst hi
   simp [blk,hself,Bd.lives] at hb
  ·unfold blk at hb ⊢
   rw [hother i hi] at hb
   revert hb
   cases h[i]? with
   | none => exact fun h => h
   | some y =>
    simp only [G.put,hi,false_and,if_false]
    exact fun h => h
 have hL:Later g w (g.put o (v + 1) (b,0)) w:=⟨rfl,hloc,fun _ h => h,fun _ _ => rfl,fun _ _ h => h⟩
 refine ⟨⟨fun i y hy hl => ?_,fun i j c h1 h2 => s.inj i j c (hblk _ _ h1) (hblk _ _ h2),fun i c hb => s.imm i c (hblk _ _ hb),s.immlt,fun i t c hg => ?_⟩,
  ⟨rfl,hloc,fun _ h => h,fun _ h => .inl h,Nat.le_refl _,fun _ _ h => h,fun _ _ _ => rfl,fun i c hb _ => ⟨i,hblk _ _ hb⟩,rfl,rfl,rfl⟩,hblk⟩
 ·by_cases hi:i = o
  ·subst hi
   rw [hself] at hy
   cases hy
   cases hl
  ·rw [hother i hi] at hy
   obtain ⟨c,base,h1,h2,h3⟩:=s.obs i y hy hl
   exact ⟨c,base,hloc _ _ _ h1,h2,h3.later hL rfl⟩
 ·by_cases hi:i = o
  ·subst hi
   refine ⟨_,hself,?_⟩
   simp only [G.put] at hg
   split at hg
   ·rename_i he; simp only; omega
   ·obtain ⟨y,hy,ht⟩:=s.loclt i t c hg
    rw [hx] at hy
    cases hy
    simp only at ht ⊢
    omega
  ·simp only [G.put,hi,false_and,if_false] at hg
   obtain ⟨y,hy,ht⟩:=s.loclt i t c hg
   exact ⟨y,by rw [hother i hi]; exact hy,ht⟩
theorem same_self {v:V}:V.same v v = true:=V.same_self v
theorem perm_range {n:Nat} {I:List Nat} (hn:I.Nodup) (hl:∀ i ∈ I,i < n):∃ rest,(I ++ rest).Perm (List.range n) ∧ rest = (List.range n).filter (fun i => !I.contains i):=by
 refine ⟨_,?_,rfl⟩
 rw [List.perm_ext_iff_of_nodup _ List.nodup_range]
 ·intro i
  simp only [List.mem_append,List.mem_filter,List.mem_range,Bool.not_eq_true',List.contains_eq_mem,decide_eq_false_iff_not]
  constructor
  ·rintro (h | h)
   ·exact hl i h
   ·exact h.1
  ·intro h
   by_cases hi:i ∈ I
   ·exact .inl hi
   ·exact .inr ⟨h,hi⟩
 ·rw [List.nodup_append]
  refine ⟨hn,?_,?_⟩
  ·exact List.pairwise_filter.2 (List.nodup_range.imp (fun h _ _ => h))
  ·intro a ha b hb e
   subst e
   simp [ha] at hb
def endE:Ex → Nat → Exit
 | .norm,id => .exit id
 | e,_ => e.to
theorem sim_loopM {pureF:FuncId → FMode} {call:Caller} {N m:Nat} {rd:Option Nat} {nn fb:Nat} {B:Code} {Bx:ACode} {o2 o3 o4:Oper} {ops2:Array Oper} {r2 id it nx ok en so ver:Nat}
  (q2:o2.dst = some nx ∧ o2.op = .next (.tmp it) false ∧ o2.guard = none) (q3:o3.dst = some ok ∧ o3.op = .extract (.tmp nx) 0 ∧ o3.guard = none) (q4:o4.op = .entry (.tmp it)) (hops:ops2.toList = [o2,o3]) (hd1:it ≠ nx) (hd2:it ≠ ok)
  (hB:∀ (g:G) (h:Heap) (w:World) (t:List V) (a a0:Act) (v:Value) (x:Ex) (t':List V) (h':Heap) (Q:Exit → Act → World → Prop),(execOp a0.eval o4).run P w = .ok (.value v) w → a = a0.put (some en) v →
   exec pureF call N fb Bx t h = some (x,t',h') → g.code = codesOf P → Sim g h w → TRel g w t a.tmps → Mk m g h w a.defers →
   (∀ g' w' a',Sim g' h' w' → Ext g h w g' h' w' → TRel g' w' t' a'.tmps → Mk m g' h' w' a'.defers → Q x.to a' w') → B.wpIn (FR rd) nn P Q a0 w)
  {gb:G} {hb:Heap} {wb:World} (sb:Sim gb hb wb) (hgc:gb.code = codesOf P) {bm r clock:Nat} {es':Array MapEntry} {p:List (V × V)} (hbm:wb.heap[bm]? = some (.map es' clock)) (hbl:bm < wb.heap.size) (hbu:∀ o,blk gb hb o ≠ some bm) (hr:wb.heap.size ≤ r)
  (hmr:MRel gb wb p es'.toList) (hbo:Borns es'.toList clock) {t0:List V} {h0:Heap} {Qx:Exit → Act → World → Prop}
  (hfin:∀ π:List (V × V),π.Perm p → ∃ z,roundsM (exec pureF call N fb Bx) it nx ok en (.ptr so (ver + 1) 0) π t0 h0 = some z)
  (hQ:∀ (π:List (V × V)) (z:Ex × List V × Heap),π.Perm p → roundsM (exec pureF call N fb Bx) it nx ok en (.ptr so (ver + 1) 0) π t0 h0 = some z → ∀ g' w' a',Sim g' z.2.2 w' → Ext gb hb wb g' z.2.2 w' → TRel g' w' z.2.1 a'.tmps → Mk m g' z.2.2 w' a'.defers → Qx (endE z.1 id) a' w') :
  ∀ (k:Nat) (I:List Nat) (g1:G) (h1:Heap) (w1:World) (t1:List V) (a1:Act) (seen:Array Nat),I.Nodup → (∀ i ∈ I,i < es'.size) → es'.size ≤ I.length + k →
   (∀ rest,roundsM (exec pureF call N fb Bx) it nx ok en (.ptr so (ver + 1) 0) (I.map (fun i => p.getD i (.junk,.junk)) ++ rest) t0 h0 = roundsM (exec pureF call N fb Bx) it nx ok en (.ptr so (ver + 1) 0) rest t1 h1) →
   Sim g1 h1 w1 → Ext gb hb wb g1 h1 w1 → TRel g1 w1 t1 a1.tmps → Mk m g1 h1 w1 a1.defers → g1.loc so (ver + 1) = some (r,0) → (∀ o,blk g1 h1 o ≠ some r) → ¬ g1.imm r → r < w1.heap.size →
   w1.heap[r]? = some (.mapIter (some bm) clock seen clock) → seen.toList = I.map (fun i => (es'.getD i default).born) →
   Code.roundsIn (FR rd) nn P (.seq (.region r2 ops2 false) (.seq (.cond (.tmp ok) .skip (.exit id)) B)) Qx (k + 1) a1 w1:=by
 intro k
 induction k using Nat.strongRecOn with
 | ind k ih =>
 intro I g1 h1 w1 t1 a1 seen hI hIl hk pre s1 e1 r1 d1 hloc hru hri hrl hrb hseen
 rw [roundsIn_succ]
 have hbm1:w1.heap[bm]? = some (.map es' clock):=by rw [e1.frame bm hbl hbu]; exact hbm
 have hpl:p.length = es'.size:=by have:=hmr.1; rw [← this]; simp
 obtain ⟨rest,hperm,hrest⟩:=perm_range hI hIl
 have hpr:(List.range es'.size).map (fun i => p.getD i (.junk,.junk)) = p:=by
  apply List.ext_getElem?
  intro i
  rw [List.getElem?_map]
  rcases Nat.lt_or_ge i es'.size with h | h
  ·rw [List.getElem?_range h,Option.map_some,List.getD_eq_getElem?_getD,List.getElem?_eq_getElem (by omega)]
   rfl
  ·rw [List.getElem?_eq_none (by simpa using h),List.getElem?_eq_none (by omega)]
   rfl
 have hπ:(I.map (fun i => p.getD i (.junk,.junk)) ++ rest.map (fun i => p.getD i (.junk,.junk))).Perm p:=by
  rw [← List.map_append]
  have:=hperm.map (fun i => p.getD i (.junk,.junk))
  rwa [hpr] at this
 obtain ⟨z,hz⟩:=hfin _ hπ
 have hz0:=hz
 rw [pre] at hz
 have hrdy:rdyM it nx ok (.ptr so (ver + 1) 0) t1 = true:=by
  cases hq:rdyM it nx ok (.ptr so (ver + 1) 0) t1 with
  | true => rfl
  | false =>
   revert hz
   cases rest.map (fun i => p.getD i (.junk,.junk)) <;> (intro hz; simp only [roundsM,hq] at hz; cases hz)
 have hrdy0:=hrdy
 unfold rdyM at hrdy
 simp only [Bool.and_eq_true,decide_eq_true_eq] at hrdy
 obtain ⟨hit,hnx,hok⟩:=hrdy
 have hitv:=V.same_eq _ _ hit
 have hsz:a1.tmps.size = t1.length:=r1.1
 have hev:a1.eval (.tmp it) = .pointer (some ⟨r,0,none⟩):=by
  have hh:=r1.opd (.tmp it) (.tmp it) rfl
  simp only [ev,hitv] at hh
  generalize a1.eval (.tmp it) = X at hh ⊢
  cases hh with
  | ptr _ _ _ b base hg =>
   rw [hloc] at hg
   cases hg
   rfl
 have hinj:∀ i j,i < es'.size → j < es'.size → (es'.getD i default).born = (es'.getD j default).born → i = j:=by
  intro i j hi hj hij
  have hn:=hbo.2
  rw [List.nodup_iff_pairwise_ne,List.pairwise_iff_getElem] at hn
  have hb:∀ i (h:i < es'.size),(es'.getD i default).born = (es'.toList.map (·.born))[i]'(by simpa using h):=fun i h => by simp [Array.getD_eq_getD_getElem?,h]
  rw [hb i hi,hb j hj] at hij
  rcases Nat.lt_trichotomy i j with h | h | h
  ·exact absurd hij (hn i j _ _ h)
  ·exact h
  ·exact absurd hij.symm (hn j i _ _ h)
 have hnot:∀ i,i < es'.size → (seen.contains (es'.getD i default).born = true ↔ i ∈ I):=by
  intro i hi
  rw [Array.contains_iff_mem,← Array.mem_toList_iff,hseen,List.mem_map]
  constructor
  ·rintro ⟨j,hj,hb⟩
   rw [hinj i j hi (hIl j hj) hb.symm]
   exact hj
  ·exact fun h => ⟨i,h,rfl⟩
 have hnx':nx < a1.tmps.size:=by rw [hsz]; exact hnx
 have hok':ok < a1.tmps.size:=by rw [hsz]; exact hok
 refine wpIn_seq (wpIn_region_list ?_)
 rw [hops]
 simp only [wpListIn,wanted_none q2.2.2,wanted_none q3.2.2,if_true]
 rcases run_next_at (P:=P) w1 o2.type r bm clock clock seen es' clock hrb hbm1 hbo.1 (Nat.le_refl _) with ⟨hl0,hrun⟩ | ⟨e,hel,w2,hw2,hrun⟩
 ·have hx2:(execOp a1.eval o2).run P w1 = .ok (.value (.tuple #[.bool false])) w1:=by simp [execOp,q2.2.1,hev,hrun]
  refine wpIn_value (by simp [q2.2.1]) hx2 ?_
  rw [q2.1]
  have hx3:(execOp (a1.put (some nx) (.tuple #[.bool false])).eval o3).run P w1 = .ok (.value (.bool false)) w1:=by
   simp [execOp,q3.2.1,put_eval_same hnx',Instr.extract]
  refine wpIn_value (by simp [q3.2.1]) hx3 ?_
  rw [q3.1]
  refine wpIn_seq (wpIn_cond_false (put_eval_same (by rw [put_size]; exact hok')) (wpIn_exit ?_))
  have hre:rest = []:=by
   rw [hrest,List.filter_eq_nil_iff]
   intro i hi
   rw [List.mem_range] at hi
   simp only [Bool.not_eq_true',List.contains_eq_mem,decide_eq_false_iff_not,Classical.not_not]
   rw [← hnot i hi]
   cases hc:seen.contains (es'.getD i default).born with
   | true => rfl
   | false =>
    have:(es'.getD i default) ∈ leftOf es' seen:=by
     unfold leftOf
     rw [Array.mem_filter]
     refine ⟨?_,by simp only [hc,Bool.not_false]⟩
     rw [Array.getD_eq_getD_getElem?,Array.getElem?_eq_getElem hi]
     exact Array.getElem_mem hi
    rw [Array.eq_empty_of_size_eq_zero hl0] at this
    simp at this
  subst hre
  simp only [List.map_nil,roundsM,hrdy0,Option.some.injEq] at hz
  subst hz
  refine hQ _ _ hπ hz0 g1 w1 _ s1 e1 ?_ (by rw [put_defers,put_defers]; exact d1)
  exact (r1.put (v:=.tup [.bool false]) (x:=.tuple #[.bool false]) (.tup _ _ rfl (fun i c hc => by cases i with | zero => simp at hc; subst hc; exact .bool _ | succ i => simp at hc)) (some nx)).put (.bool false) (some ok)
 ·have hel':=hel
  unfold leftOf at hel'
  rw [Array.mem_toList_iff,Array.mem_filter] at hel'
  obtain ⟨hme,hns⟩:=hel'
  obtain ⟨i,hi,hei⟩:=Array.getElem_of_mem hme
  have hgi:es'.getD i default = e:=by rw [Array.getD_eq_getD_getElem?,Array.getElem?_eq_getElem hi]; exact hei
  have hiI:i ∉ I:=fun h => by
   have:=(hnot i hi).2 h
   rw [hgi] at this
   rw [this] at hns
   cases hns
  have hpi:p[i]? = some (p.getD i (.junk,.junk)):=by rw [List.getD_eq_getElem?_getD,List.getElem?_eq_getElem (by omega)]; rfl
  obtain ⟨k1,k2⟩:=hmr.2 i _ e hpi (by simp [hi,hei])
  have hw2s:w2.heap = w1.heap:=by rcases hw2 with rfl | rfl <;> rfl
  have s2:Sim g1 h1 w2:=by
   rcases hw2 with rfl | rfl
   ·exact s1
   ·exact s1.drew _
  have e2:Ext gb hb wb g1 h1 w2:=by
   rcases hw2 with rfl | rfl
   ·exact e1
   ·exact e1.trans (Ext.drew _ _ _ _)
  have L2:Later g1 w1 g1 w2:=by
   rcases hw2 with rfl | rfl
   ·exact (Ext.refl g1 h1 _).later s1
   ·exact (Ext.drew g1 h1 w1 _).later s1
  have d2:Mk m g1 h1 w2 a1.defers:=by
   rcases hw2 with rfl | rfl
   ·exact d1
   ·exact d1.ext (Ext.drew _ _ _ _)
  have hshape:∀ y,w2.shape? r ≠ some y:=by
   intro y
   unfold World.shape?
   rw [hw2s,hrb]
   simp
  obtain ⟨s3,L3⟩:=sim_block s2 hru hri hshape (.mapIter (some bm) clock (seen.push e.born) clock)
  have e3:=ext_block e2 hr hshape (.mapIter (some bm) clock (seen.push e.born) clock)
  have d3:=d2.block (r:=r) (by rw [hw2s,hrb]; simp) (.mapIter (some bm) clock (seen.push e.born) clock)
  have hne:bm ≠ r:=fun h => by rw [h,hrb] at hbm1; cases hbm1
  have hr3:(ChangeMaps.setBlock w2 r (.mapIter (some bm) clock (seen.push e.born) clock)).heap[r]? = some (.mapIter (some bm) clock (seen.push e.born) clock):=by
   simp [ChangeMaps.setBlock,hw2s,hrl]
  have hb3:(ChangeMaps.setBlock w2 r (.mapIter (some bm) clock (seen.push e.born) clock)).heap[bm]? = some (.map es' clock):=by
   simp only [ChangeMaps.setBlock,Array.getElem?_setIfInBounds_ne (Ne.symm hne),hw2s]
   exact hbm1
  have hrl3:r < (ChangeMaps.setBlock w2 r (.mapIter (some bm) clock (seen.push e.born) clock)).heap.size:=by
   simp only [ChangeMaps.setBlock,Array.size_setIfInBounds,hw2s]
   exact hrl
  generalize ChangeMaps.setBlock w2 r (.mapIter (some bm) clock (seen.push e.born) clock) = w3 at *
  have r3:TRel g1 w3 t1 a1.tmps:=⟨r1.1,fun j v hj => ((r1.2 j v hj).later L2).later L3⟩
  have K1:VRel g1 w3 (p.getD i (.junk,.junk)).1 e.key:=k1.ext e3 sb
  have K2:VRel g1 w3 (p.getD i (.junk,.junk)).2 e.val:=k2.ext e3 sb
  have hx2:(execOp a1.eval o2).run P w1 = .ok (.value (.tuple #[.bool true,e.key,e.val])) w3:=by simp [execOp,q2.2.1,hev,hrun]
  refine wpIn_value (by simp [q2.2.1]) hx2 ?_
  rw [q2.1]
  have hx3:(execOp (a1.put (some nx) (.tuple #[.bool true,e.key,e.val])).eval o3).run P w3 = .ok (.value (.bool true)) w3:=by
   simp [execOp,q3.2.1,put_eval_same hnx',Instr.extract]
  refine wpIn_value (by simp [q3.2.1]) hx3 ?_
  rw [q3.1]
  refine wpIn_seq (wpIn_cond_true (put_eval_same (by rw [put_size]; exact hok')) (wpIn_skip ?_))
  have hx4:(execOp ((a1.put (some nx) (.tuple #[.bool true,e.key,e.val])).put (some ok) (.bool true)).eval o4).run P w3 = .ok (.value (.tuple #[e.key,e.val])) w3:=by
   have:((a1.put (some nx) (.tuple #[.bool true,e.key,e.val])).put (some ok) (.bool true)).eval (.tmp it) = .pointer (some ⟨r,0,none⟩):=by
    rw [put_eval_other hd2,put_eval_other hd1,hev]
   simp [execOp,q4,this,run_entry_at w3 r bm clock seen es' clock e hr3 hb3 (by rw [Array.mem_toList_iff]; exact hme) hbo.2]
  have hI2:(I ++ [i]).Nodup:=by
   rw [List.nodup_append]
   exact ⟨hI,by simp,fun a ha b hb' e' => by simp at hb'; subst hb'; subst e'; exact hiI ha⟩
  have hIl2:∀ j ∈ I ++ [i],j < es'.size:=by
   intro j hj
   rcases List.mem_append.1 hj with h | h
   ·exact hIl j h
   ·simp at h; subst h; exact hi
  obtain ⟨rest2,hperm2,-⟩:=perm_range hI2 hIl2
  have hπ2:(I.map (fun i => p.getD i (.junk,.junk)) ++ (p.getD i (.junk,.junk) :: rest2.map (fun i => p.getD i (.junk,.junk)))).Perm p:=by
   have:=hperm2.map (fun i => p.getD i (.junk,.junk))
   rw [hpr,List.map_append,List.map_append,List.append_assoc] at this
   exact this
  have hlen:=hperm2.length_eq
  rw [List.length_range,List.length_append,List.length_append,List.length_singleton] at hlen
  obtain ⟨z2,hz2⟩:=hfin _ hπ2
  have hz20:=hz2
  rw [pre] at hz2
  simp only [roundsM,hrdy0] at hz2
  have r4:TRel g1 w3 (roundM nx ok en (p.getD i (.junk,.junk)) t1) (((a1.put (some nx) (.tuple #[.bool true,e.key,e.val])).put (some ok) (.bool true)).put (some en) (.tuple #[e.key,e.val])).tmps:=by
   unfold roundM
   refine ((r3.put (v:=.tup [.bool true,_,_]) (x:=.tuple #[.bool true,e.key,e.val]) (.tup _ _ rfl (fun j c hc => ?_)) (some nx)).put (.bool true) (some ok)).put (v:=.tup [_,_]) (x:=.tuple #[e.key,e.val]) (.tup _ _ rfl (fun j c hc => ?_)) (some en)
   ·match j,hc with
    | 0,hc => simp at hc; subst hc; exact .bool _
    | 1,hc => simp only [List.getElem?_cons_succ,List.getElem?_cons_zero,Option.some.injEq] at hc; subst hc; exact K1
    | 2,hc => simp only [List.getElem?_cons_succ,List.getElem?_cons_zero,Option.some.injEq] at hc; subst hc; exact K2
    | j + 3,hc => simp at hc
   ·match j,hc with
    | 0,hc => simp only [List.getElem?_cons_zero,Option.some.injEq] at hc; subst hc; exact K1
    | 1,hc => simp only [List.getElem?_cons_succ,List.getElem?_cons_zero,Option.some.injEq] at hc; subst hc; exact K2
    | j + 2,hc => simp at hc
  cases hF:exec pureF call N fb Bx (roundM nx ok en (p.getD i (.junk,.junk)) t1) h1 with
  | none => rw [hF] at hz2; cases hz2
  | some q =>
   obtain ⟨x,t2,h2⟩:=q
   rw [hF] at hz2
   refine hB g1 h1 w3 _ _ _ _ x t2 h2 _ hx4 rfl hF (e3.code.trans hgc) s3 r4 (by rw [put_defers,put_defers,put_defers]; exact d3) (fun g' w' a' p1 p2 p3 p4 => ?_)
   cases x with
   | norm =>
    obtain ⟨k',rfl⟩:∃ k',k = k' + 1:=⟨k - 1,by omega⟩
    refine ih k' (by omega) (I ++ [i]) g' h2 w' t2 a' (seen.push e.born) hI2 hIl2 (by rw [List.length_append,List.length_singleton]; omega) (fun rst => ?_) p1 (e3.trans p2) p3 p4 (p2.loc _ _ _ hloc)
     (fun o ho => ?_) (fun hi' => ?_) (Nat.lt_of_lt_of_le hrl3 p2.size) (by rw [p2.frame r hrl3 hru]; exact hr3) ?_
    ·rw [List.map_append,List.append_assoc,pre]
     simp only [List.map_cons,List.map_nil,List.cons_append,List.nil_append,roundsM,hrdy0,hF]
    ·obtain ⟨o',ho'⟩:=p2.own o r ho hrl3
     exact hru o' ho'
    ·rcases p2.imm' r hi' with h | h
     ·exact hri h
     ·omega
    ·rw [Array.toList_push,hseen,List.map_append,List.map_cons,List.map_nil,hgi]
   | exit j =>
    cases hz2
    exact hQ _ _ hπ2 hz20 g' w' a' p1 (e3.trans p2) p3 p4
   | ret =>
    cases hz2
    exact hQ _ _ hπ2 hz20 g' w' a' p1 (e3.trans p2) p3 p4
end Go.Am


set_option linter.unusedVariables false
set_option linter.unusedSimpArgs false
namespace Go.Am
variable {P:Program}
theorem objsL_has:∀ {l:List V} {o:Nat},o ∈ V.objsL l → ∃ (i:Nat) (c:V),l[i]? = some c ∧ o ∈ c.objs
 | [],o,h => by simp [V.objsL] at h
 | c :: l,o,h => by
  simp only [V.objsL,List.mem_append] at h
  rcases h with h | h
  ·exact ⟨0,c,rfl,h⟩
  ·obtain ⟨i,d,h1,h2⟩:=objsL_has h
   exact ⟨i + 1,d,by simpa using h1,h2⟩
theorem objs_of_cells {e:V} {o:Nat} (h:o ∈ e.objs):∃ (j:Nat) (x:V),e.cells[j]? = some x ∧ o ∈ x.objs:=by
 cases e with
 | agg cs => exact objsL_has h
 | _ => exact ⟨0,_,rfl,h⟩
theorem VRel.objs_in {g:G} {w:World} {v:V} {x:Value} (h:VRel g w v x):∀ o ∈ v.objs,∃ t b,g.loc o t = some b:=by
 induction h with
 | junk x => intro o ho; simp [V.objs] at ho
 | bool b => intro o ho; simp [V.objs] at ho
 | int k n => intro o ho; simp [V.objs] at ho
 | str s => intro o ho; simp [V.objs] at ho
 | nilp => intro o ho; simp [V.objs] at ho
 | ptr o t off b base h => intro i hi; simp [V.objs] at hi; subst hi; exact ⟨_,_,h⟩
 | iptr cs off b base f h1 hc hv ih =>
  intro o ho
  obtain ⟨j,c,hj,hc'⟩:=objsL_has (l:=cs) (by simpa only [V.objs] using ho)
  exact ih j c hj o hc'
 | nils => intro o ho; simp [V.objs] at ho
 | view o t off len s cap b base c n e h hl hk hs hn => intro i hi; simp [V.objs] at hi; subst hi; exact ⟨_,_,h⟩
 | vend o t s b base x c n e h hs hn => intro i hi; simp [V.objs] at hi; subst hi; exact ⟨_,_,h⟩
 | sl L s cap b off c f h1 hl hk hz hc hv ih =>
  intro o ho
  obtain ⟨i,e,hi,he⟩:=objsL_has (l:=L) (by simpa only [V.objs] using ho)
  obtain ⟨j,x,hj,hx⟩:=objs_of_cells he
  exact ih i e j x hi hj o hx
 | sl0 s cap a hk => intro o ho; simp [V.objs,V.objsL] at ho
 | nilm => intro o ho; simp [V.objs] at ho
 | map o t b h => intro i hi; simp [V.objs] at hi; subst hi; exact ⟨_,_,h⟩
 | nilf => intro o ho; simp [V.objs] at ho
 | func f xs ys xs' ys' hx hy h1 h2 i1 i2 =>
  intro o ho
  simp only [V.objs,List.mem_append] at ho
  rcases ho with ho | ho
  ·obtain ⟨i,e,hi,he⟩:=objsL_has ho
   exact i1 i e hi o he
  ·obtain ⟨i,e,hi,he⟩:=objsL_has ho
   exact i2 i e hi o he
 | yld o t b h => intro i hi; simp [V.objs] at hi; subst hi; exact ⟨_,_,h⟩
 | nili => intro o ho; simp [V.objs] at ho
 | iface t v x h ih => intro o ho; exact ih o (by simpa [V.objs] using ho)
 | agg cs xs hx h ih =>
  intro o ho
  obtain ⟨i,e,hi,he⟩:=objsL_has (l:=cs) (by simpa only [V.objs] using ho)
  exact ih i e hi o he
 | tup cs xs hx h ih =>
  intro o ho
  obtain ⟨i,e,hi,he⟩:=objsL_has (l:=cs) (by simpa only [V.objs] using ho)
  exact ih i e hi o he
theorem Lies.objs_in {g:G} {w:World} {b base:Nat} {cs:List V} (h:Lies g w b base cs):∀ o ∈ V.objsL cs,∃ t b,g.loc o t = some b:=by
 intro o ho
 obtain ⟨i,c,hi,hc⟩:=objsL_has ho
 obtain ⟨x,-,h2⟩:=h i c hi
 exact h2.objs_in o hc
theorem BdRel.objs_in {g:G} {w:World} {b base:Nat} {x:Bd} (h:BdRel g w b base x) (hl:x.lives = true):∀ o ∈ x.objs,∃ t b,g.loc o t = some b:=by
 cases x with
 | dead => cases hl
 | var cs => exact h.2.2.objs_in
 | arr cs => exact h.2.2.objs_in
 | loop st pend t fb f k =>
  obtain ⟨h0,rec,h1,h2,h3,h4,h5,h6⟩:=h
  intro o ho
  obtain ⟨i,c,hi,hc⟩:=objsL_has (l:=t) (by simpa only [Bd.objs] using ho)
  exact (h6 i c hi).objs_in o hc
 | map es =>
  obtain ⟨h0,ha,p,es',clock,h1,h2,h3,h4⟩:=h
  intro o ho
  simp only [Bd.objs] at ho
  obtain ⟨e,he,hoe⟩:=List.mem_flatMap.1 ho
  have hep:e ∈ p:=h1.mem_iff.2 he
  obtain ⟨i,hi⟩:=List.getElem?_of_mem hep
  have hlt:i < es'.toList.length:=by rw [h3.1]; exact (List.getElem?_eq_some_iff.1 hi).1
  obtain ⟨q1,q2⟩:=h3.2 i e _ hi (List.getElem?_eq_getElem hlt)
  rcases List.mem_append.1 hoe with hoe | hoe
  ·exact q1.objs_in o hoe
  ·exact q2.objs_in o hoe
theorem clo_of {g:G} {h:Heap} {w:World} {t:List V} {tmps:Array Value} (s:Sim g h w) (r:TRel g w t tmps):Clo h t:=by
 have key:∀ i,(∃ t b,g.loc i t = some b) → i < h.length:=by
  rintro i ⟨t,b,hg⟩
  obtain ⟨y,hy,-⟩:=s.loclt i t b hg
  exact (List.getElem?_eq_some_iff.1 hy).1
 refine ⟨fun o x hx hl i hi => ?_,fun v hv i hi => ?_⟩
 ·obtain ⟨b,base,-,-,hb⟩:=s.obs o x hx hl
  exact key i (hb.objs_in hl i hi)
 ·obtain ⟨j,hj⟩:=List.getElem?_of_mem hv
  exact key i ((r.2 j v hj).objs_in i hi)
theorem blk_set_dead {g:G} {h:Heap} {o v:Nat} {i c:Nat} (hb:blk g (h.set o ⟨v,.dead⟩) i = some c):i ≠ o ∧ blk g h i = some c:=by
 by_cases e:i = o
 ·subst e
  unfold blk at hb
  rcases Nat.lt_or_ge i h.length with hl | hl
  ·rw [List.getElem?_set_self hl] at hb
   simp [Bd.lives] at hb
  ·rw [List.getElem?_eq_none (by simpa using hl)] at hb
   cases hb
 ·unfold blk at hb ⊢
  rw [List.getElem?_set_ne (Ne.symm e)] at hb
  exact ⟨e,hb⟩
theorem blk_lt {g:G} {h:Heap} {w:World} (s:Sim g h w) {i c:Nat} (hb:blk g h i = some c):c < w.heap.size:=by
 obtain ⟨x,base,hx,hl,hg⟩:=blk_some hb
 obtain ⟨b,base',h1,h2,-⟩:=s.obs i x hx hl
 rw [hg] at h1
 cases h1
 exact h2
theorem sim_show {g g2:G} {h h2:Heap} {w w':World} (s:Sim g h w) {o ver:Nat} {es:List (V × V)} (hm:mapAt (fun o => h[o]?) o ver = some es) (s2:Sim g2 h2 w') (e:Ext g (h.set o ⟨ver,.dead⟩) w g2 h2 w') (hx2:h2[o]? = some ⟨ver,.dead⟩) :
  Sim g2 (h2.set o ⟨ver,.map es⟩) w' ∧ Ext g h w g2 (h2.set o ⟨ver,.map es⟩) w' ∧ ∀ i c,blk g2 (h2.set o ⟨ver,.map es⟩) i = some c → blk g2 h2 i = some c ∨ ∃ es' clock,w'.heap[c]? = some (.map es' clock):=by
 obtain ⟨b,p,es',clock,hx,hg,hb,hlt,ka,hp,hw,hr,hbo⟩:=sim_map s hm
 obtain ⟨sd,ed⟩:=sim_kill1 s hx
 simp only at sd ed
 have hbu:∀ i,blk g (h.set o ⟨ver,.dead⟩) i ≠ some b:=fun i hi => by
  obtain ⟨h1,h3⟩:=blk_set_dead hi
  exact h1 (s.inj _ _ _ h3 hb)
 have hL:=e.later sd
 have hg2:=e.loc _ _ _ hg
 have hw2:w'.heap[b]? = some (.map es' clock):=by rw [e.frame b hlt hbu]; exact hw
 have hl2:o < h2.length:=(List.getElem?_eq_some_iff.1 hx2).1
 have hself:(h2.set o ⟨ver,.map es⟩)[o]? = some ⟨ver,.map es⟩:=by simp [hl2]
 have hother:∀ i,i ≠ o → (h2.set o ⟨ver,.map es⟩)[i]? = h2[i]?:=fun i hi => List.getElem?_set_ne (Ne.symm hi)
 have hbo':blk g2 (h2.set o ⟨ver,.map es⟩) o = some b:=by simp [blk,hself,Bd.lives,hg2]
 have hbi:∀ i c,i ≠ o → blk g2 (h2.set o ⟨ver,.map es⟩) i = some c → blk g2 h2 i = some c ∧ c ≠ b:=by
  intro i c hi hc
  have hc':blk g2 h2 i = some c:=by
   unfold blk at hc ⊢
   rwa [hother i hi] at hc
  refine ⟨hc',fun e' => ?_⟩
  subst e'
  obtain ⟨o',ho'⟩:=e.own i c hc' hlt
  exact hbu o' ho'
 refine ⟨⟨fun i y hy hl => ?_,fun i j c h1 h3 => ?_,fun i c hc => ?_,s2.immlt,fun i t c hc => ?_⟩,⟨e.code,e.loc,e.imm,e.imm',e.size,e.shape,fun c hc hn => ?_,fun i c hc hlc => ?_,e.os,e.tape,e.output⟩,fun i c hc => ?_⟩
 ·by_cases hi:i = o
  ·subst hi
   rw [hself] at hy
   cases hy
   exact ⟨b,0,hg2,Nat.lt_of_lt_of_le hlt e.size,rfl,ka,p,es',clock,hp,hw2,hr.later hL,hbo⟩
  ·rw [hother i hi] at hy
   exact s2.obs i y hy hl
 ·by_cases hi:i = o
  ·subst hi
   rw [hbo'] at h1
   cases h1
   by_cases hj:j = i
   ·exact hj.symm
   ·exact absurd rfl (hbi j _ hj h3).2
  ·by_cases hj:j = o
   ·subst hj
    rw [hbo'] at h3
    cases h3
    exact absurd rfl (hbi i _ hi h1).2
   ·exact s2.inj i j c (hbi i c hi h1).1 (hbi j c hj h3).1
 ·by_cases hi:i = o
  ·subst hi
   rw [hbo'] at hc
   cases hc
   intro him
   rcases e.imm' _ him with h4 | h4
   ·exact s.imm _ _ hb h4
   ·omega
  ·exact s2.imm i c (hbi i c hi hc).1
 ·obtain ⟨y,hy,ht⟩:=s2.loclt i t c hc
  by_cases hi:i = o
  ·subst hi
   rw [hx2] at hy
   cases hy
   exact ⟨_,hself,ht⟩
  ·exact ⟨y,by rw [hother i hi]; exact hy,ht⟩
 ·exact e.frame c hc (fun i hi => hn i (blk_set_dead hi).2)
 ·by_cases hi:i = o
  ·subst hi
   rw [hbo'] at hc
   cases hc
   exact ⟨i,hb⟩
  ·obtain ⟨o',ho'⟩:=e.own i c (hbi i c hi hc).1 hlc
   exact ⟨o',(blk_set_dead ho').2⟩
 ·by_cases hi:i = o
  ·subst hi
   rw [hbo'] at hc
   cases hc
   exact .inr ⟨_,_,hw2⟩
  ·exact .inl (hbi i c hi hc).1
theorem sim_leave {g g1:G} {h h':Heap} {w w':World} {om:Option (Nat × Nat)} {es:List (V × V)} {t':List V} {x:Ex} {clr kill:List Nat} {fb:Nat} {z r0:Ex × List V × Heap} {lo:Nat} (s:Sim g h w)
  (hom:∀ o ver,om = some (o,ver) → mapAt (fun o => h[o]?) o ver = some es) (hlo:lo = h.length) (hsh:showM om es (leaveM clr kill fb r0) = some (x,t',h')) (ha:Alike lo (leaveM clr kill fb z) (leaveM clr kill fb r0))
  (s1:Sim g1 z.2.2 w') (e1:Ext g (hideM om h) w g1 z.2.2 w') (sd:Sim g (hideM om h) w) {tmps:Array Value} (r1:TRel g1 w' z.2.1 tmps):x = z.1 ∧ ∃ g',Sim g' h' w' ∧ Ext g h w g' h' w' ∧ TRel g' w' t' tmps ∧ ∀ mm ds,Mk mm g1 z.2.2 w' ds → Mk mm g' h' w' ds:=by
 obtain ⟨a1,σ,τ,R,a2,a3⟩:=ha
 obtain ⟨s2,e2⟩:=sim_kill (g:=g1) (w:=w') fb kill s1
 have e12:=e1.trans e2
 have r2:=r1.clear clr
 simp only [leaveM] at R a1 a2 a3 hsh
 have hlen:(hideM om h).length ≤ lo:=by
  subst hlo
  unfold hideM
  split <;> simp
 have s3:=s2.ren R rfl a3
 have e3:=e12.ren sd s2 R rfl hlen a3
 have r3:TRel (g1.ren τ (killA fb kill z.2.2).length) w' (clear clr r0.2.1) tmps:=by
  rw [a2]
  refine ⟨by rw [List.length_map]; exact r2.1,fun i v hi => ?_⟩
  rw [List.getElem?_map,Option.map_eq_some_iff] at hi
  obtain ⟨d,q1,rfl⟩:=hi
  exact VRel.ren (g:=g1) (g2:=g1.ren τ (killA fb kill z.2.2).length) (fun _ h => h) (ren_loc s2 R rfl) (r2.2 i d q1)
 have d3:∀ mm ds,Mk mm g1 z.2.2 w' ds → Mk mm (g1.ren τ (killA fb kill z.2.2).length) (killA fb kill r0.2.2) w' ds:=by
  intro mm ds hd
  obtain ⟨k0,L,rfl,hn,hL⟩:=hd.ext e2
  exact ⟨k0,L,rfl,hn,fun q hq => by
   obtain ⟨h1,h2,h3,h4,h5⟩:=hL q hq
   exact ⟨h1,h2,h3,fun o ho => h4 (τ o) (ren_blk rfl a3 ho).2,h5⟩⟩
 unfold showM at hsh
 split at hsh
 ·cases hsh
  exact ⟨a1,_,s3,e3,r3,d3⟩
 ·rename_i o ver
  split at hsh
  ·rename_i v hv
   split at hsh
   ·rename_i hver
    subst hver
    cases hsh
    obtain ⟨s4,e4,b4⟩:=sim_show s (hom _ _ rfl) s3 e3 hv
    refine ⟨a1,_,s4,e4,r3,fun mm ds hd => ?_⟩
    obtain ⟨k0,L,rfl,hn,hL⟩:=d3 mm ds hd
    refine ⟨k0,L,rfl,hn,fun q hq => ?_⟩
    obtain ⟨h1,h2,h3,h4,h5⟩:=hL q hq
    refine ⟨h1,h2,h3,fun o ho => ?_,h5⟩
    rcases b4 o q ho with h | ⟨_,_,h⟩
    ·exact h4 o h
    ·rw [h3] at h; cases h
   ·cases hsh
  ·cases hsh
theorem sim_mapRange {pureF:FuncId → FMode} {call:Caller} {N mm:Nat} {rd:Option Nat} {nn fb:Nat} {B:Code} {Bx:ACode} {o1 o2 o3 o4:Oper} {ops2:Array Oper} {r2 id it nx ok en site:Nat} {clr kill:List Nat} {mt kt et:TypeId} {mo:Operand} {m:Opd}
  (q1:o1.dst = some it ∧ o1.op = .range mt mo) (hmo:trOpd mo = some m) (hmt:P.underlying mt = some (.map kt et))
  (q2:o2.dst = some nx ∧ o2.op = .next (.tmp it) false ∧ o2.guard = none) (q3:o3.dst = some ok ∧ o3.op = .extract (.tmp nx) 0 ∧ o3.guard = none) (q4:o4.op = .entry (.tmp it)) (hops:ops2.toList = [o2,o3]) (hd1:it ≠ nx) (hd2:it ≠ ok)
  (hB:∀ (g:G) (h:Heap) (w:World) (t:List V) (a a0:Act) (v:Value) (x:Ex) (t':List V) (h':Heap) (Q:Exit → Act → World → Prop),(execOp a0.eval o4).run P w = .ok (.value v) w → a = a0.put (some en) v →
   exec pureF call N fb Bx t h = some (x,t',h') → g.code = codesOf P → Sim g h w → TRel g w t a.tmps → Mk mm g h w a.defers →
   (∀ g' w' a',Sim g' h' w' → Ext g h w g' h' w' → TRel g' w' t' a'.tmps → Mk mm g' h' w' a'.defers → Q x.to a' w') → B.wpIn (FR rd) nn P Q a0 w)
  {g:G} {h:Heap} {w:World} {t:List V} {a:Act} {x:Ex} {t':List V} {h':Heap} {Q Q0:Exit → Act → World → Prop}
  (he:exec pureF call N fb (.rangeM m it nx ok en site clr kill Bx) t h = some (x,t',h')) (hgc:g.code = codesOf P) (s:Sim g h w) (r:TRel g w t a.tmps) (hd:Mk mm g h w a.defers)
  (hQ:∀ g' w' a',Sim g' h' w' → Ext g h w g' h' w' → TRel g' w' t' a'.tmps → Mk mm g' h' w' a'.defers → Exit.inBlock id Q (endE x id) a' w') :
  o1.wpIn (FR rd) nn P a w (fun a1 w1 => (Code.block id (.loop (.seq (.region r2 ops2 false) (.seq (.cond (.tmp ok) .skip (.exit id)) B)))).wpIn (FR rd) nn P Q a1 w1) Q0:=by
 simp only [exec] at he
 split at he
 case h_2 => cases he
 rename_i x0 om es hx0 hmap
 unfold rangeC at he
 split at he
 case h_2 => cases he
 rename_i r0 hr0
 split at he
 case isFalse => cases he
 rename_i hany
 replace hany:=hany (clo_of s r)
 -- the site
 have site0:∃ v,(hideM om h)[fb + site]? = some v ∧ v.ver = x0.ver:=by
  unfold hideM
  split
  ·rename_i o ver
   by_cases e:o = fb + site
   ·subst e
    refine ⟨⟨ver,.dead⟩,List.getElem?_set_self (List.getElem?_eq_some_iff.1 hx0).1,?_⟩
    unfold mapOf at hmap
    split at hmap
    ·cases hmap
    ·split at hmap
     ·rename_i hm
      cases hmap
      obtain ⟨b,p,es',clock,hx,-⟩:=sim_map s hm
      rw [hx0] at hx
      cases hx
      rfl
     ·cases hmap
    ·cases hmap
   ·exact ⟨x0,by rw [List.getElem?_set_ne e]; exact hx0,rfl⟩
  ·exact ⟨x0,hx0,rfl⟩
 obtain ⟨x1,hx1,hv1⟩:=site0
 have hlen0:((hideM om h).set (fb + site) ⟨x0.ver + 1,.dead⟩).length = h.length:=by
  unfold hideM
  split <;> simp
 have hmo':=r.opd _ _ hmo
 -- from the memory without the map to the rounds
 have start:∀ (iter:Obj),Sim g (hideM om h) w → ∃ g3,Sim g3 ((hideM om h).set (fb + site) ⟨x0.ver + 1,.dead⟩) (w.alloc iter) ∧ Ext g (hideM om h) w g3 ((hideM om h).set (fb + site) ⟨x0.ver + 1,.dead⟩) (w.alloc iter) ∧
   g3.loc (fb + site) (x0.ver + 1) = some (w.heap.size,0) ∧ (∀ i,blk g3 ((hideM om h).set (fb + site) ⟨x0.ver + 1,.dead⟩) i ≠ some w.heap.size) ∧ ¬ g3.imm w.heap.size:=by
  intro iter sd
  obtain ⟨s1,e1⟩:=sim_lay sd iter
  obtain ⟨s2,e2⟩:=sim_kill1 s1 hx1
  rw [hv1] at s2 e2
  have hx2:((hideM om h).set (fb + site) ⟨x0.ver,.dead⟩)[fb + site]? = some ⟨x0.ver,.dead⟩:=List.getElem?_set_self (List.getElem?_eq_some_iff.1 hx1).1
  obtain ⟨s3,e3,hb3⟩:=sim_bump s2 hx2 w.heap.size
  rw [List.set_set] at s3 e3 hb3
  refine ⟨_,s3,(e1.trans e2).trans e3,by simp [G.put],fun i hi => ?_,fun hi => ?_⟩
  ·have:=blk_lt sd (blk_set_dead (hb3 _ _ hi)).2
   omega
  ·have:=sd.immlt _ hi
   omega
 cases om with
 | none =>
  have hm:ev t m = .nilm ∧ es = []:=by
   unfold mapOf at hmap
   split at hmap
   ·rename_i hm; cases hmap; exact ⟨hm,rfl⟩
   ·split at hmap <;> cases hmap
   ·cases hmap
  obtain ⟨hm,rfl⟩:=hm
  rw [hm] at hmo'
  have hev:a.eval mo = .map none:=by
   generalize a.eval mo = X at hmo' ⊢
   cases hmo'
   rfl
  obtain ⟨g3,s3,e3,hloc,hu,hni⟩:=start (.mapIter none 0 #[] 0) s
  have hx1:(execOp a.eval o1).run P w = .ok (.value (.pointer (some ⟨w.heap.size,0,none⟩))) (w.alloc (.mapIter none 0 #[] 0)):=by
   simp [execOp,q1.2,hev,run_range_nilMap w mt kt et hmt]
  refine wpIn_value (by simp [q1.2]) hx1 ?_
  rw [q1.1]
  have r3:TRel g3 (w.alloc (.mapIter none 0 #[] 0)) (t.set it (.ptr (fb + site) (x0.ver + 1) 0)) (a.put (some it) (.pointer (some ⟨w.heap.size,0,none⟩))).tmps:=(r.ext e3 s).put (.ptr _ _ 0 _ 0 hloc) (some it)
  have d3:Mk mm g3 ((hideM none h).set (fb + site) ⟨x0.ver + 1,.dead⟩) (w.alloc (.mapIter none 0 #[] 0)) (a.put (some it) (.pointer (some ⟨w.heap.size,0,none⟩))).defers:=by rw [put_defers]; exact hd.ext e3
  simp only [roundsM] at hr0
  split at hr0
  case h_2 => cases hr0
  rename_i hrdy
  cases hr0
  unfold rdyM at hrdy
  simp only [Bool.and_eq_true,decide_eq_true_eq] at hrdy
  obtain ⟨hit,hnx,hok⟩:=hrdy
  have hsz:=r3.1
  have hev2:(a.put (some it) (.pointer (some ⟨w.heap.size,0,none⟩))).eval (.tmp it) = .pointer (some ⟨w.heap.size,0,none⟩):=by
   have hh:=r3.opd (.tmp it) (.tmp it) rfl
   simp only [ev,V.same_eq _ _ hit] at hh
   generalize (a.put (some it) (.pointer (some ⟨w.heap.size,0,none⟩))).eval (.tmp it) = X at hh ⊢
   cases hh with
   | ptr _ _ _ b base hg =>
    rw [hloc] at hg
    cases hg
    rfl
  generalize a.put (some it) (.pointer (some ⟨w.heap.size,0,none⟩)) = a1 at *
  refine wpIn_block (wpIn_loop_rounds 1 ?_)
  rw [roundsIn_succ]
  refine wpIn_seq (wpIn_region_list ?_)
  rw [hops]
  simp only [wpListIn,wanted_none q2.2.2,wanted_none q3.2.2,if_true]
  have hnx':nx < a1.tmps.size:=by rw [hsz]; exact hnx
  have hok':ok < a1.tmps.size:=by rw [hsz]; exact hok
  have hx2:(execOp a1.eval o2).run P (w.alloc (.mapIter none 0 #[] 0)) = .ok (.value (.tuple #[.bool false])) (w.alloc (.mapIter none 0 #[] 0)):=by
   simp [execOp,q2.2.1,hev2,run_next_nilMap]
  refine wpIn_value (by simp [q2.2.1]) hx2 ?_
  rw [q2.1]
  have hx3:(execOp (a1.put (some nx) (.tuple #[.bool false])).eval o3).run P (w.alloc (.mapIter none 0 #[] 0)) = .ok (.value (.bool false)) (w.alloc (.mapIter none 0 #[] 0)):=by
   simp [execOp,q3.2.1,put_eval_same hnx',Instr.extract]
  refine wpIn_value (by simp [q3.2.1]) hx3 ?_
  rw [q3.1]
  refine wpIn_seq (wpIn_cond_false (put_eval_same (by rw [put_size]; exact hok')) (wpIn_exit ?_))
  have r4:TRel g3 (w.alloc (.mapIter none 0 #[] 0)) (overM nx ok (t.set it (.ptr (fb + site) (x0.ver + 1) 0))) ((a1.put (some nx) (.tuple #[.bool false])).put (some ok) (.bool false)).tmps :=
   (r3.put (v:=.tup [.bool false]) (x:=.tuple #[.bool false]) (.tup _ _ rfl (fun i c hc => by cases i with | zero => simp at hc; subst hc; exact .bool _ | succ i => simp at hc)) (some nx)).put (.bool false) (some ok)
  obtain ⟨r',hr',hal⟩:=hany [] (.refl _)
  simp only [roundsM] at hr'
  split at hr'
  case h_2 => cases hr'
  cases hr'
  obtain ⟨hx,g4,s4,e4,r5,d5⟩:=sim_leave s (fun o ver h => by cases h) hlen0 he hal s3 e3 s r4
  subst hx
  exact hQ g4 _ _ s4 e4 r5 (d5 _ _ (by rw [put_defers,put_defers]; exact d3))
 | some ov =>
  obtain ⟨o,ver⟩:=ov
  have hm:ev t m = .map o ver ∧ mapAt (fun o => h[o]?) o ver = some es:=by
   unfold mapOf at hmap
   split at hmap
   ·cases hmap
   ·rename_i o' ver' hm
    split at hmap
    ·rename_i hq; cases hmap; exact ⟨hm,hq⟩
    ·cases hmap
   ·cases hmap
  obtain ⟨hm,hat⟩:=hm
  rw [hm] at hmo'
  obtain ⟨b,p,es',clock,hx,hg,hb,hlt,ka,hp,hw,hr,hbo⟩:=sim_map s hat
  have hev:a.eval mo = .map (some b):=by
   generalize a.eval mo = X at hmo' ⊢
   cases hmo' with
   | map _ _ b' hg' =>
    rw [hg] at hg'
    cases hg'
    rfl
  obtain ⟨sd,ed⟩:=sim_kill1 s hx
  have hbu:∀ i,blk g (h.set o ⟨ver,.dead⟩) i ≠ some b:=fun i hi => by
   obtain ⟨h1,h3⟩:=blk_set_dead hi
   exact h1 (s.inj _ _ _ h3 hb)
  obtain ⟨g3,s3,e3,hloc,hu,hni⟩:=start (.mapIter (some b) clock #[] clock) sd
  have hx1:(execOp a.eval o1).run P w = .ok (.value (.pointer (some ⟨w.heap.size,0,none⟩))) (w.alloc (.mapIter (some b) clock #[] clock)):=by
   simp [execOp,q1.2,hev,run_range_map w mt kt et b es' clock hmt hw]
  refine wpIn_value (by simp [q1.2]) hx1 ?_
  rw [q1.1]
  have r3:TRel g3 (w.alloc (.mapIter (some b) clock #[] clock)) (t.set it (.ptr (fb + site) (x0.ver + 1) 0)) (a.put (some it) (.pointer (some ⟨w.heap.size,0,none⟩))).tmps:=(r.ext (ed.trans e3) s).put (.ptr _ _ 0 _ 0 hloc) (some it)
  have d3:Mk mm g3 ((hideM (some (o,ver)) h).set (fb + site) ⟨x0.ver + 1,.dead⟩) (w.alloc (.mapIter (some b) clock #[] clock)) (a.put (some it) (.pointer (some ⟨w.heap.size,0,none⟩))).defers:=by rw [put_defers]; exact hd.ext (ed.trans e3)
  refine wpIn_block (wpIn_loop_rounds (es'.size + 1) ?_)
  refine sim_loopM q2 q3 q4 hops hd1 hd2 hB sd hgc hw hlt hbu (Nat.le_refl _) hr hbo (fun π hπ => ?_) (fun π z hπ hz g1 w1 a1 p1 p2 p3 p4 => ?_) es'.size [] g3 _ _ _ _ #[] .nil (fun i hi => by cases hi) (by simp) (fun rest => rfl) s3 e3 r3 d3 hloc hu hni (by rw [World.size_alloc]; omega) (World.alloc_heap_new w _) rfl
  ·obtain ⟨z,hz,-⟩:=hany π (hπ.trans hp)
   exact ⟨z,hz⟩
  ·obtain ⟨z',hz',hal⟩:=hany π (hπ.trans hp)
   rw [hz] at hz'
   cases hz'
   obtain ⟨hx,g4,s4,e4,r5,d5⟩:=sim_leave s (fun o' ver' h => by cases h; exact hat) hlen0 he hal p1 p2 sd p3
   subst hx
   exact hQ g4 _ _ s4 e4 r5 (d5 _ _ p4)
end Go.Am


set_option linter.unusedVariables false
set_option linter.unusedSimpArgs false
namespace Go.Am
variable {P:Program}
theorem cellsAt_hide {h:Heap} {o ver:Nat} {es:List (V × V)} (hx:h[o]? = some ⟨ver,.map es⟩) (i v:Nat):cellsAt (fun i => (h.set o ⟨ver,.dead⟩)[i]?) i v = cellsAt (fun i => h[i]?) i v:=by
 unfold cellsAt
 by_cases e:i = o
 ·subst e
  have hl:i < h.length:=(List.getElem?_eq_some_iff.1 hx).1
  simp only [List.getElem?_set_self hl,hx]
 ·simp only [List.getElem?_set_ne (Ne.symm e)]
theorem mkA_hide {h:Heap} {o ver:Nat} {es:List (V × V)} (hx:h[o]? = some ⟨ver,.map es⟩) (i:Nat) (bd:Bd) (f:Nat → V):mkA (fun i => (h.set o ⟨ver,.dead⟩)[i]?) i bd f = mkA (fun i => h[i]?) i bd f:=by
 unfold mkA
 by_cases e:i = o
 ·subst e
  have hl:i < h.length:=(List.getElem?_eq_some_iff.1 hx).1
  simp only [List.getElem?_set_self hl,hx]
 ·simp only [List.getElem?_set_ne (Ne.symm e)]
theorem storeA_hide {h:Heap} {o ver:Nat} {es:List (V × V)} (hx:h[o]? = some ⟨ver,.map es⟩) (i v off:Nat) (new:List V) (u:V):storeA (fun i => (h.set o ⟨ver,.dead⟩)[i]?) i v off new u = storeA (fun i => h[i]?) i v off new u:=by
 unfold storeA
 rw [cellsAt_hide hx]
 by_cases e:i = o
 ·subst e
  have:cellsAt (fun i => h[i]?) i v = none:=by unfold cellsAt; simp only [hx]
  simp only [this]
 ·simp only [List.getElem?_set_ne (Ne.symm e)]
theorem firstA_hide {h:Heap} {o ver:Nat} {es:List (V × V)} (hx:h[o]? = some ⟨ver,.map es⟩) (s n:Nat) (y:V):firstA (fun i => (h.set o ⟨ver,.dead⟩)[i]?) s n y = firstA (fun i => h[i]?) s n y:=by
 cases y <;> simp only [firstA,loadA,cellsAt_hide hx]
theorem appendA_hide {h:Heap} {o ver:Nat} {es:List (V × V)} (hx:h[o]? = some ⟨ver,.map es⟩) (i s b:Nat) (x y:V):appendA (fun i => (h.set o ⟨ver,.dead⟩)[i]?) i s b x y = appendA (fun i => h[i]?) i s b x y:=by
 unfold appendA
 simp only [firstA_hide hx,cellsAt_hide hx,mkA_hide hx,storeA_hide hx]
theorem mkA_bd {get:Nat → Option Ob} {o:Nat} {cs:List V} {v:Nat → V} {o':Nat} {x:Ob} {v':V} (h:mkA get o (.arr cs) v = some (.set o' x v')):∀ es,x.bd ≠ .map es:=by
 unfold mkA at h
 split at h <;> cases h
 intro es e; cases e
theorem storeA_bd {get:Nat → Option Ob} {o ver off:Nat} {new:List V} {v:V} {o':Nat} {x:Ob} {v':V} (h:storeA get o ver off new v = some (.set o' x v')):∀ es,x.bd ≠ .map es:=by
 unfold storeA at h
 split at h
 ·rename_i cs y h1 h2
  split at h
  ·cases h
   intro es e
   unfold cellsAt at h1
   rw [h2] at h1
   obtain ⟨yv,yb⟩:=y
   cases yb <;> simp [Ob.with] at h1 e
  ·cases h
 ·cases h
theorem appendA_bd {get:Nat → Option Ob} {o s b:Nat} {x y:V} {o':Nat} {z:Ob} {v':V} (h:appendA get o s b x y = some (.set o' z v')):∀ es,z.bd ≠ .map es:=by
 unfold appendA at h
 split at h
 ·cases h
 split at h
 ·cases h
 split at h
 case isFalse => cases h
 split at h
 ·split at h
  ·cases h
  ·split at h
   ·exact mkA_bd h
   ·cases h
 ·split at h
  ·split at h
   ·cases h
   ·split at h
    ·split at h
     ·exact mkA_bd h
     ·cases h
    ·cases h
  ·cases h
 ·split at h
  ·split at h
   ·cases h
   ·split at h
    ·cases h
    ·split at h
     ·cases h; intro es e; cases e
     ·cases h
  ·cases h
 ·split at h
  ·split at h
   ·cases h
   ·split at h
    ·cases h
    ·split at h
     ·split at h
      ·split at h
       ·exact storeA_bd h
       ·split at h
        ·exact mkA_bd h
        ·cases h
      ·split at h
       ·split at h
        ·cases h; intro es e; cases e
        ·cases h
       ·exact storeA_bd h
     ·cases h
  ·cases h
 ·cases h
theorem hit_own {ag:Bool} {ks:List CK} {cs:List V} {k v:V} (hk:keyC ag k = some cs) (h:eqCells ks cs cs = some true):mhitB ag ks cs (k,v) = true:=by
 simp [mhitB,mhit,hk,h]
theorem mput_any {ag:Bool} {ks:List CK} {cs:List V} {k v:V} {es:List (V × V)} (hk:keyC ag k = some cs) (h:eqCells ks cs cs = some true):(mputL ag ks cs k v es).any (mhitB ag ks cs) = true:=by
 unfold mputL
 cases ha:es.any (mhitB ag ks cs) with
 | true =>
  obtain ⟨x,hx,hb⟩:=List.any_eq_true.1 ha
  exact List.any_eq_true.2 ⟨(k,v),List.mem_map.2 ⟨x,hx,by simp only [hb]⟩,hit_own hk h⟩
 | false => exact List.any_eq_true.2 ⟨(k,v),by simp,hit_own hk h⟩
theorem mput_mput {ag:Bool} {ks:List CK} {cs:List V} {k v v0:V} {es:List (V × V)} (hk:keyC ag k = some cs) (h:eqCells ks cs cs = some true):mputL ag ks cs k v (mputL ag ks cs k v0 es) = mputL ag ks cs k v es:=by
 have h1:=mput_any (v:=v0) (es:=es) hk h
 have h2:=hit_own (ag:=ag) (v:=v0) hk h
 have e1:∀ l:List (V × V),l.any (mhitB ag ks cs) = true → mputL ag ks cs k v l = l.map fun e => match mhitB ag ks cs e with | true => (k,v) | false => e:=fun l hl => by
  unfold mputL
  rw [hl]
  rfl
 rw [e1 _ h1]
 unfold mputL
 cases ha:es.any (mhitB ag ks cs) with
 | true =>
  simp only [List.map_map]
  apply List.map_congr_left
  intro e he
  simp only [Function.comp]
  cases hb:mhitB ag ks cs e with
  | true => simp only [h2]
  | false => simp only [hb]
 | false =>
  simp only [List.map_append,List.map_cons,List.map_nil,h2]
  congr 1
  conv => rhs; rw [← List.map_id es]
  apply List.map_congr_left
  intro e he
  have:mhitB ag ks cs e = false:=by
   have:=List.any_eq_false.1 ha e he
   simpa using this
  simp only [this,id]
theorem mapOk_put {ag:Bool} {ks:List CK} {cs:List V} {k v:V} {es:List (V × V)} (hk:keyC ag k = some cs) (hok:mapOk ag ks cs es = true):mapOk ag ks cs (mputL ag ks cs k v es) = true:=by
 obtain ⟨o1,o2,o3⟩:=mapOk_spec hok
 unfold mapOk
 simp only [Bool.and_eq_true,List.all_eq_true]
 refine ⟨by rw [o1]; rfl,fun e he => ?_⟩
 have own:(mhit ag ks cs (k,v)).isSome = true:=by simp [mhit,hk,o1]
 unfold mputL at he
 split at he
 ·obtain ⟨x,hx,rfl⟩:=List.mem_map.1 he
  cases hb:mhitB ag ks cs x with
  | true => exact own
  | false => exact o3 x hx
 ·rcases List.mem_append.1 he with he | he
  ·exact o3 e he
  ·obtain rfl:=List.mem_singleton.1 he; exact own
theorem find_born {l:List MapEntry} (hn:(l.map (·.born)).Nodup) {j:Nat} {e0:MapEntry} (h:l[j]? = some e0):l.findIdx? (fun e => ((e.born:Nat):Int) == ((e0.born:Nat):Int)) = some j:=by
 induction l generalizing j with
 | nil => simp at h
 | cons a r ih =>
  simp only [List.map_cons,List.nodup_cons] at hn
  cases j with
  | zero =>
   simp only [List.getElem?_cons_zero,Option.some.injEq] at h
   subst h
   simp [List.findIdx?_cons]
  | succ j =>
   simp only [List.getElem?_cons_succ] at h
   have hne:a.born ≠ e0.born:=fun e1 => hn.1 (List.mem_map.2 ⟨e0,List.mem_of_getElem? h,e1.symm⟩)
   have hb:(((a.born:Nat):Int) == ((e0.born:Nat):Int)) = false:=by
    simp only [beq_eq_false_iff_ne,ne_eq,Int.natCast_inj]
    exact hne
   rw [List.findIdx?_cons,hb]
   simp [ih hn.2 h]
theorem find_arr (xs:Array MapEntry) (p:MapEntry → Bool):xs.findIdx? p = xs.toList.findIdx? p:=by
 cases xs
 simp
theorem modify_same {es:Array MapEntry} {j:Nat} {e:MapEntry} {f f':MapEntry → MapEntry} (he:es.toList[j]? = some e) (h:f e = f' e):es.modify j f = es.modify j f':=by
 apply Array.ext'
 rw [Array.toList_modify,Array.toList_modify]
 apply List.ext_getElem?
 intro i
 rw [List.getElem?_modify,List.getElem?_modify]
 by_cases hij:j = i
 ·subst hij; rw [he]; simp [h]
 ·simp [hij]
theorem put_get {w:World} {b:Nat} {x:Obj} (h:b < w.heap.size):(w.putObj b x).heap[b]? = some x:=by
 simp [World.putObj,h]
theorem entry_run {g:G} {h:Heap} {w:World} (s:Sim g h w) {mt kt et:TypeId} (hu:P.underlying mt = some (.map kt et)) {ag:Bool} (ha:agKey P kt = some ag) {ks:List CK} (hk:kindsOf P 2 kt = some ks) {z:V} (hz:zeroVal P et = some z)
  {o ver:Nat} {k v0:V} {M K:Value} (hm:VRel g w (.map o ver) M) (hK:VRel g w k K) (hv:mgetA (fun o => h[o]?) ag ks z false (.map o ver) k = some v0) :
  ∃ (cs:List V) (es:List (V × V)) (V0:Value) (g1:G) (w1:World) (b:Nat) (es1:Array MapEntry) (clock1 j:Nat) (e0:MapEntry),keyC ag k = some cs ∧ mapAt (fun o => h[o]?) o ver = some es ∧ mapOk ag ks cs es = true ∧ (Instr.mapEntry mt M K).run P w = .ok (.tuple #[V0,goInt e0.born]) w1 ∧ VRel g1 w1 v0 V0 ∧
   Sim g1 (h.set o ⟨ver,.map (mputL ag ks cs k v0 es)⟩) w1 ∧ Ext g h w g1 (h.set o ⟨ver,.map (mputL ag ks cs k v0 es)⟩) w1 ∧ M = .map (some b) ∧ g1.loc o ver = some (b,0) ∧ w1.heap[b]? = some (.map es1 clock1) ∧ es1.toList[j]? = some e0 ∧ e0.key = K:=by
 have hv':=hv
 unfold mgetA at hv
 split at hv
 case h_1 => cases hv
 rename_i cs hcs
 simp only at hv
 split at hv
 ·cases hv
 rename_i es hes
 split at hv
 case h_2 => cases hv
 rename_i hok
 have hi:=key_is ha hK hcs
 have hkc:=keyC_cells hcs
 obtain ⟨o1,o2,o3⟩:=mapOk_spec hok
 obtain ⟨Z,hZ,hZr⟩:=zeroVal_rel hz g w
 obtain ⟨b,p,es',clock,q1,q2,q3,q4,ka,q5,q6,q7,q8⟩:=sim_map s hes
 have hck:=run_checkKey' ha hk hi o2 false 9998 w
 have hf:=run_findKey' ha hk hi w q7 (fun x hx => o3 x (q5.mem_iff.1 hx))
 have hp:∀ v,mputA (fun o => h[o]?) ag ks (.map o ver) k v = some (.set o ⟨ver,.map (mputL ag ks cs k v es)⟩ (.tup [])):=fun v => by
  unfold mputA
  simp only [hcs,hes,hok]
 have hmm:=hm
 cases hm with
 | map _ _ b' hl =>
  rw [q2] at hl
  cases hl
  cases hh:hitAt ag ks cs p es'.toList 0 with
  | none =>
   rw [hh] at hf
   have hn:=hitAt_none q7.1 hh
   have:es.find? (mhitB ag ks cs) = none:=List.find?_eq_none.2 fun x hx => by rw [hn x (q5.mem_iff.2 hx)]; decide
   rw [this] at hv
   cases hv
   obtain ⟨g1,w1,x,r1,r2,r3,-⟩:=goes_mput s hu ha hk hmm hK hZr (hp z)
   have hrun:(Instr.mapUpdate mt (.map (some b)) K Z).run P w = .ok () (w.putObj b (.map (es'.push { key:=K,val:=Z,born:=clock }) (clock + 1))):=by
    simp [Instr.mapUpdate,run_underlying hu,run_getMap q6,hck,hf,run_setMap _ q6]
   simp only [Sem.run_bind,hrun,Result.andThen_ok,Sem.run_pure] at r1
   cases r1
   refine ⟨cs,es,Z,g1,_,b,_,_,es'.size,⟨K,Z,clock⟩,hcs,hes,hok,?_,hZr.ext r3 s,r2,r3,rfl,r3.loc _ _ _ q2,put_get q4,?_,rfl⟩
   ·simp [Instr.mapEntry,run_underlying hu,run_getMap q6,hck,hf,hZ,run_setMap _ q6]
   ·simp
  | some r =>
   obtain ⟨j,V'⟩:=r
   rw [hh] at hf
   obtain ⟨i,x,e,hj,hpp,hl,rfl,hb⟩:=hitAt_some hh
   have hj:j = i:=by omega
   subst hj
   have hxm:x ∈ es:=q5.mem_iff.1 (List.mem_of_getElem? hpp)
   obtain ⟨y,hy⟩:∃ y,es.find? (mhitB ag ks cs) = some y:=by
    cases hfd:es.find? (mhitB ag ks cs) with
    | some y => exact ⟨y,rfl⟩
    | none => have:=List.find?_eq_none.1 hfd x hxm; rw [hb] at this; exact absurd rfl this
   have hyb:=List.find?_some hy
   have hym:=List.mem_of_find?_eq_some hy
   obtain rfl:=hit_hit ka hxm hym hb hyb
   rw [hy] at hv
   cases hv
   obtain ⟨r1,r2⟩:=q7.2 _ x e hpp hl
   have hxk:∃ ce,keyC ag x.1 = some ce:=by
    unfold mhitB mhit at hb
    cases hc:keyC ag x.1 with
    | none => simp [hc] at hb
    | some ce => exact ⟨ce,rfl⟩
   obtain ⟨ce,hce⟩:=hxk
   have hce':ce = cs:=by rw [← keyC_cells hce]; exact (mhit_cells hb).1
   subst hce'
   have hie:=key_is ha r1 hce
   obtain ⟨same,bits⟩:=key_same ha o1 hie hi
   have hel:es'[j]? = some e:=by simpa using hl
   have b1:Instr.sameBits 10000 K K = true:=by have:=bits 9999; rw [same] at this; exact this
   have hst:(Instr.keyThatStays e.key K).run P w = .ok K w:=by
    simp only [same,Instr.keyThatStays,b1,if_true,Sem.run_pure]
   have hmod:es'.modify j (fun e => { e with key:=K }) = es'.modify j (fun e' => { e' with key:=K,val:=e.val }):=modify_same hl rfl
   obtain ⟨g1,w1,xx,u1,u2,u3,-⟩:=goes_mput s hu ha hk hmm hK r2 (hp x.2)
   have hrun:(Instr.mapUpdate mt (.map (some b)) K e.val).run P w = .ok () (w.putObj b (.map (es'.modify j (fun e' => { e' with key:=K,val:=e.val })) clock)):=by
    simp [Instr.mapUpdate,run_underlying hu,run_getMap q6,hck,hf,hel,hst,run_setMap _ q6]
   simp only [Sem.run_bind,hrun,Result.andThen_ok,Sem.run_pure] at u1
   cases u1
   refine ⟨ce,es,e.val,g1,_,b,_,_,j,{ e with key:=K },hcs,hes,hok,?_,r2.ext u3 s,u2,u3,rfl,u3.loc _ _ _ q2,put_get q4,?_,rfl⟩
   ·rw [← hmod]
    simp [Instr.mapEntry,run_underlying hu,run_getMap q6,hck,hf,hel,hst,run_setMap _ q6]
   ·rw [← hmod,Array.toList_modify,List.getElem?_modify,hl]
    simp
theorem store_run {g:G} {h:Heap} {w:World} (s:Sim g h w) {mt kt et:TypeId} (hu:P.underlying mt = some (.map kt et)) {ag:Bool} (ha:agKey P kt = some ag) {ks:List CK} (hk:kindsOf P 2 kt = some ks)
  {o ver:Nat} {k v:V} {M K X:Value} (hm:VRel g w (.map o ver) M) (hK:VRel g w k K) (hX:VRel g w v X) {cs:List V} (hcs:keyC ag k = some cs) {es:List (V × V)} (hes:mapAt (fun o => h[o]?) o ver = some es) (hok:mapOk ag ks cs es = true)
  {b:Nat} {es1:Array MapEntry} {clock1:Nat} (hl:g.loc o ver = some (b,0)) (hw:w.heap[b]? = some (.map es1 clock1)) {j:Nat} {e0:MapEntry} (hj:es1.toList[j]? = some e0) (hkey:e0.key = K) :
  EffGoes P (do Instr.entryStore mt M (goInt e0.born) X; pure undef) g h w (.set o ⟨ver,.map (mputL ag ks cs k v es)⟩ (.tup [])):=by
 have hp:mputA (fun o => h[o]?) ag ks (.map o ver) k v = some (.set o ⟨ver,.map (mputL ag ks cs k v es)⟩ (.tup [])):=by
  unfold mputA
  simp only [hcs,hes,hok]
 have q:=goes_mput s hu ha hk hm hK hX hp
 have hi:=key_is ha hK hcs
 obtain ⟨o1,o2,o3⟩:=mapOk_spec hok
 obtain ⟨b',p,es',clock,q1,q2,q3,q4,ka,q5,q6,q7,q8⟩:=sim_map s hes
 rw [hl] at q2
 cases q2
 rw [hw] at q6
 cases q6
 have hck:=run_checkKey' ha hk hi o2 false 9998 w
 have hf:=run_findKey' ha hk hi w q7 (fun x hx => o3 x (q5.mem_iff.1 hx))
 -- the entry is the key's
 have hlt:j < p.length:=by rw [← q7.1]; exact (List.getElem?_eq_some_iff.1 hj).1
 have hy:p[j]? = some p[j]:=List.getElem?_eq_getElem hlt
 generalize p[j] = y at hy
 obtain ⟨r1,r2⟩:=q7.2 j y e0 hy hj
 have hym:y ∈ es:=q5.mem_iff.1 (List.mem_of_getElem? hy)
 have hyh:mhitB ag ks cs y = true:=by
  have h0:=o3 y hym
  obtain ⟨r,hr⟩:=Option.isSome_iff_exists.1 h0
  have hr':=hr
  unfold mhit at hr
  split at hr
  case h_2 => cases hr
  rename_i ce hce
  have hie:=key_is ha r1 hce
  have e1:=eq_rel P g w 9998 2 kt ks cs ce K e0.key r hk hi hie hr w
  have e2:=eq_rel P g w 9998 2 kt ks cs cs K K true hk hi hi o1 w
  rw [hkey,e2] at e1
  cases e1
  simp [mhitB,hr']
 have hhit:hitAt ag ks cs p es1.toList 0 = some (j,e0.val):=by
  cases hh:hitAt ag ks cs p es1.toList 0 with
  | none => have:=hitAt_none q7.1 hh y (List.mem_of_getElem? hy); rw [hyh] at this; cases this
  | some r =>
   obtain ⟨j',V'⟩:=r
   obtain ⟨i,x,e,hj',hpp,hl',rfl,hb⟩:=hitAt_some hh
   have:j' = i:=by omega
   subst this
   have:j' = j:=(ka.perm q5).idx hpp hy ((mhit_cells hb).1.trans (mhit_cells hyh).1.symm)
   subst this
   rw [hj] at hl'
   cases hl'
   rfl
 rw [hhit] at hf
 cases hm with
 | map _ _ b' hl' =>
  rw [hl] at hl'
  cases hl'
  have b1:∀ n,Instr.sameBits (n + 1) K K = true:=(key_same ha o1 hi hi).2
  have b2:=b1 9999
  have hel:es1[j]? = some e0:=by simpa using hj
  have hst:(Instr.keyThatStays e0.key K).run P w = .ok K w:=by
   simp only [hkey,Instr.keyThatStays,b2,if_true,Sem.run_pure]
  have hidx:es1.findIdx? (fun e => ((e.born:Nat):Int) == ((e0.born:Nat):Int)) = some j:=by
   rw [find_arr]
   exact find_born q8.2 hj
  have hmod:es1.modify j (fun e => { e with val:=X }) = es1.modify j (fun e => { e with key:=K,val:=X }):=modify_same hj (by rw [← hkey])
  have hrun1:(Instr.mapUpdate mt (.map (some b)) K X).run P w = .ok () (w.putObj b (.map (es1.modify j (fun e => { e with key:=K,val:=X })) clock1)):=by
   simp [Instr.mapUpdate,run_underlying hu,run_getMap hw,hck,hf,hel,hst,run_setMap _ hw]
  have hrun2:(Instr.entryStore mt (.map (some b)) (goInt e0.born) X).run P w = .ok () (w.putObj b (.map (es1.modify j (fun e => { e with key:=K,val:=X })) clock1)):=by
   rw [← hmod]
   simp [Instr.entryStore,run_getMap hw,asInt,asIntOf,goInt,hidx,run_setMap _ hw]
  obtain ⟨g',w',x,u1,u2⟩:=q
  refine ⟨g',w',x,?_,u2⟩
  rw [← u1]
  simp only [Sem.run_bind,hrun1,hrun2]
def entryOf:Op → Option (TypeId × Nat × Nat)
 | .mapEntry t (.tmp m) (.tmp k) => some (t,m,k)
 | _ => none
def extractOf:Op → Option (Nat × Nat)
 | .extract (.tmp a) i => some (a,i)
 | _ => none
def storeOf:Op → Option (TypeId × Nat × Nat × Operand)
 | .entryStore t (.tmp m) (.tmp d) x => some (t,m,d,x)
 | _ => none
def appendOf:AOp → Bool
 | .append .. => true
 | _ => false
theorem entryOf_some {op:Op} {t:TypeId} {m k:Nat} (h:entryOf op = some (t,m,k)):op = .mapEntry t (.tmp m) (.tmp k):=by
 unfold entryOf at h
 split at h <;> cases h
 rfl
theorem extractOf_some {op:Op} {a i:Nat} (h:extractOf op = some (a,i)):op = .extract (.tmp a) i:=by
 unfold extractOf at h
 split at h <;> cases h
 rfl
theorem storeOf_some {op:Op} {t:TypeId} {m d:Nat} {x:Operand} (h:storeOf op = some (t,m,d,x)):op = .entryStore t (.tmp m) (.tmp d) x:=by
 unfold storeOf at h
 split at h <;> cases h
 rfl
theorem appendOf_some {o:AOp} (h:appendOf o = true):∃ s b c x y,o = .append s b c x y:=by
 cases o <;> first | exact ⟨_,_,_,_,_,rfl⟩ | cases h
def tailOps (da db dd m k : Nat) (ag : Bool) (ks : List CK) (z : V) (x : Opd) (c : AOper) : List AOper :=
  [⟨some da, .move (.cst (.bool true)), none⟩, ⟨some dd, .un .not (.tmp da), none⟩, ⟨some da, .un .not (.tmp dd), none⟩, ⟨some da, .move (.cst .junk), none⟩, ⟨some dd, .move (.cst .junk), none⟩,
   ⟨some db, .mget ag ks z false (.tmp m) (.tmp k), none⟩, c, ⟨none, .mput ag ks (.tmp m) (.tmp k) x, none⟩]
def tailOk (A B C D E:Oper) (m k da a1 db dc a2 dd m2 d2:Nat):Bool :=
 A.guard.isNone && B.guard.isNone && C.guard.isNone && D.guard.isNone && E.guard.isNone && E.dst.isNone &&
 decide (a1 = da) && decide (a2 = da) && decide (d2 = dd) && decide (m2 = m) && decide (da ≠ db) && decide (da ≠ dc) && decide (dd ≠ db) && decide (dd ≠ dc) && decide (m ≠ db) && decide (m ≠ dc) && decide (k ≠ db) && decide (k ≠ dc) && decide (da ≠ dd)
def tail5 (P:Program) (al:List Nat) (ops:Array Oper):List Oper → Option (List AOper)
 | [A,B,C,D,E] =>
  match entryOf A.op,A.dst,extractOf B.op,B.dst,C.dst,extractOf D.op,D.dst,storeOf E.op with
  | some (mt,m,k),some da,some (a1,0),some db,some dc,some (a2,1),some dd,some (_,m2,d2,x) =>
   match tailOk A B C D E m k da a1 db dc a2 dd m2 d2,P.underlying mt,trOpd x,trOper P al ops C with
   | true,some (.map kt et),some x',some c =>
    match agKey P kt,kindsOf P 2 kt,zeroVal P et,appendOf c.op with
    | some ag,some ks,some z,true => some (tailOps da db dd m k ag ks z x' c)
    | _,_,_,_ => none
   | _,_,_,_ => none
  | _,_,_,_,_,_,_,_ => none
 | _ => none
theorem put_junk {g:G} {w:World} {t:List V} {a:Act} (r:TRel g w t a.tmps) {d:Nat} (hd:t.getD d .junk = .junk) (X:Value):TRel g w t (a.put (some d) X).tmps:=by
 have:=r.put (.junk X) (some d)
 have e:put t (some d) .junk = t:=by
  simp only [put]
  apply List.ext_getElem?
  intro i
  by_cases hi:d = i
  ·subst hi
   rcases Nat.lt_or_ge d t.length with h | h
   ·rw [List.getElem?_set_self h]
    rw [List.getD_eq_getElem?_getD,List.getElem?_eq_getElem h] at hd
    rw [List.getElem?_eq_getElem h]
    simpa using hd.symm
   ·rw [List.getElem?_eq_none (by simpa using h),List.getElem?_eq_none h]
  ·rw [List.getElem?_set_ne hi]
 rwa [e] at this
theorem not_lt {t:List V} {d:Nat} {u v:V} (h:unA .not (ev (t.set d u) (.tmp d)) = some v):d < t.length:=by
 rcases Nat.lt_or_ge d t.length with h1 | h1
 ·exact h1
 ·simp only [ev,List.getD_eq_getElem?_getD,List.getElem?_eq_none (show (t.set d u).length ≤ d by simpa using h1),Option.getD_none,unA,reduceCtorEq] at h
theorem getD_set {t:List V} {d i:Nat} {v:V} (h:i ≠ d):(t.set d v).getD i .junk = t.getD i .junk:=by
 simp only [List.getD_eq_getElem?_getD,List.getElem?_set_ne (Ne.symm h)]
theorem step_plain {call:Caller} {fb:Nat} {d:Option Nat} {op:AOp} {t:List V} {h:Heap} {s:List V × Heap} (hs:stepOp call fb ⟨d,op,none⟩ t h = some s) (hc:op.isCall = false) :
  ∃ eff,prim fb (ev t) (fun o => h[o]?) op = some eff ∧ s = (match eff with | .ret v => (put t d v,h) | .set o x v => (put t d v,h.set o x)):=by
 unfold stepOp at hs
 simp only [wanted] at hs
 have:doOp call fb op (ev t) h = (match prim fb (ev t) (fun o => h[o]?) op with | some (.ret v) => some (v,h) | some (.set o x v) => some (v,h.set o x) | none => none):=by
  cases op <;> first | rfl | cases hc
 rw [this] at hs
 cases hp:prim fb (ev t) (fun o => h[o]?) op with
 | none => simp [hp] at hs
 | some eff =>
  refine ⟨eff,rfl,?_⟩
  cases eff <;> simp only [hp,Option.some.injEq] at hs <;> exact hs.symm
theorem runOps_cons {call:Caller} {fb:Nat} {o:AOper} {os:List AOper} {t:List V} {h:Heap} {r:List V × Heap} (hr:runOps call fb (o :: os) t h = some r):∃ t1 h1,stepOp call fb o t h = some (t1,h1) ∧ runOps call fb os t1 h1 = some r:=by
 simp only [runOps] at hr
 split at hr
 ·rename_i t1 h1 hs; exact ⟨t1,h1,hs,hr⟩
 ·cases hr
theorem runOps_move {call:Caller} {fb d:Nat} {v:V} {os:List AOper} {t:List V} {h:Heap} {r:List V × Heap} (hr:runOps call fb (⟨some d,.move (.cst v),none⟩ :: os) t h = some r):runOps call fb os (t.set d v) h = some r:=hr
theorem runOps_not {call:Caller} {fb d i:Nat} {os:List AOper} {t:List V} {h:Heap} {r:List V × Heap} (hr:runOps call fb (⟨some d,.un .not (.tmp i),none⟩ :: os) t h = some r):∃ v,unA .not (ev t (.tmp i)) = some v ∧ runOps call fb os (t.set d v) h = some r:=by
 cases hv:unA .not (ev t (.tmp i)) with
 | none => simp [runOps,stepOp,wanted,doOp,prim,hv] at hr
 | some v => exact ⟨v,rfl,by simpa [runOps,stepOp,wanted,doOp,prim,hv,put] using hr⟩
theorem runOps_mget {call:Caller} {fb d:Nat} {ag:Bool} {ks:List CK} {z:V} {m k:Opd} {os:List AOper} {t:List V} {h:Heap} {r:List V × Heap} (hr:runOps call fb (⟨some d,.mget ag ks z false m k,none⟩ :: os) t h = some r) :
  ∃ v,mgetA (fun o => h[o]?) ag ks z false (ev t m) (ev t k) = some v ∧ runOps call fb os (t.set d v) h = some r:=by
 cases hv:mgetA (fun o => h[o]?) ag ks z false (ev t m) (ev t k) with
 | none => simp [runOps,stepOp,wanted,doOp,prim,hv] at hr
 | some v => exact ⟨v,rfl,by simpa [runOps,stepOp,wanted,doOp,prim,hv,put] using hr⟩
theorem tail_steps {call:Caller} {fb:Nat} {al:List Nat} {ops:Array Oper} {d0:List Deferred} {A B C D E:Oper} {as:List AOper} {g:G} {h:Heap} {w:World} {t:List V} {a:Act} {t':List V} {h':Heap}
  (ht:tail5 P al ops [A,B,C,D,E] = some as) (hr:runOps call fb as t h = some (t',h')) (s:Sim g h w) (r:TRel g w t a.tmps) (hd:a.defers = d0) :
  A.guard = none ∧ B.guard = none ∧ C.guard = none ∧ D.guard = none ∧ E.guard = none ∧ ∃ St:Bool → Bool → Bool → Act → World → Prop,
   (∀ (rd:Option Nat) (nn:Nat) (K:Act → World → Prop) (Q:Exit → Act → World → Prop),(∀ a' w',St false false false a' w' → K a' w') → A.wpIn (FR rd) nn P a w K Q) ∧
   (∀ δ a1 w1,St false false δ a1 w1 → ∀ (rd:Option Nat) (nn:Nat) (K:Act → World → Prop) (Q:Exit → Act → World → Prop),(∀ a' w',St true false δ a' w' → K a' w') → B.wpIn (FR rd) nn P a1 w1 K Q) ∧
   (∀ δ a1 w1,St true false δ a1 w1 → ∀ (rd:Option Nat) (nn:Nat) (K:Act → World → Prop) (Q:Exit → Act → World → Prop),(∀ a' w',St true true δ a' w' → K a' w') → C.wpIn (FR rd) nn P a1 w1 K Q) ∧
   (∀ β γ a1 w1,St β γ false a1 w1 → ∀ (rd:Option Nat) (nn:Nat) (K:Act → World → Prop) (Q:Exit → Act → World → Prop),(∀ a' w',St β γ true a' w' → K a' w') → D.wpIn (FR rd) nn P a1 w1 K Q) ∧
   (∀ a1 w1,St true true true a1 w1 → ∀ (rd:Option Nat) (nn:Nat) (K:Act → World → Prop) (Q:Exit → Act → World → Prop),
    (∀ g' w' a',Sim g' h' w' → Ext g h w g' h' w' → TRel g' w' t' a'.tmps → a'.defers = d0 → K a' w') → E.wpIn (FR rd) nn P a1 w1 K Q):=by
 unfold tail5 at ht
 simp only at ht
 split at ht
 case h_2 => cases ht
 rename_i mt m k da a1 db dc a2 dd mt2 m2 d2 x e1 e2 e3 e4 e5 e6 e7 e8
 split at ht
 case h_2 => cases ht
 rename_i kt et x' c hok hu hx hc
 split at ht
 case h_2 => cases ht
 rename_i ag ks z ha hk hz hap
 cases ht
 have e1:=entryOf_some e1
 have e3:=extractOf_some e3
 have e6:=extractOf_some e6
 have e8:=storeOf_some e8
 unfold tailOk at hok
 simp only [Bool.and_eq_true,decide_eq_true_eq,Option.isNone_iff_eq_none] at hok
 obtain ⟨⟨⟨⟨⟨⟨⟨⟨⟨⟨⟨⟨⟨⟨⟨⟨⟨⟨gA,gB⟩,gC⟩,gD⟩,gE⟩,dE⟩,rfl⟩,rfl⟩,rfl⟩,rfl⟩,n1⟩,n2⟩,n3⟩,n4⟩,n5⟩,n6⟩,n7⟩,n8⟩,dne⟩:=hok
 unfold tailOps at hr
 -- the abstract run
 have hr:=runOps_move hr
 obtain ⟨v2,hp,hr⟩:=runOps_not hr
 have hda:=not_lt hp
 obtain ⟨v3,hp3,hr⟩:=runOps_not hr
 have hdd:=not_lt hp3
 simp only [List.length_set] at hdd
 have hr:=runOps_move hr
 have hr:=runOps_move hr
 have et:((((t.set a2 (.bool true)).set d2 v2).set a2 v3).set a2 .junk).set d2 .junk = (t.set a2 .junk).set d2 .junk:=by
  rw [List.set_set]
  by_cases he:a2 = d2
  ·subst he; simp only [List.set_set]
  ·rw [List.set_comm _ _ (Ne.symm he),List.set_set,List.set_set]
 rw [et] at hr
 clear et hp hp3
 have hj1:((t.set a2 V.junk).set d2 .junk).getD a2 .junk = .junk:=by
  by_cases he:a2 = d2
  ·subst he; simp only [List.set_set]; simp [List.getD_eq_getElem?_getD,hda]
  ·rw [getD_set he]; simp [List.getD_eq_getElem?_getD,hda]
 have hj2:((t.set a2 V.junk).set d2 .junk).getD d2 .junk = .junk:=by simp [List.getD_eq_getElem?_getD,hdd]
 have r1:TRel g w ((t.set a2 .junk).set d2 .junk) a.tmps:=r.clear [a2,d2]
 have hl1:((t.set a2 V.junk).set d2 .junk).length = t.length:=by simp
 generalize (t.set a2 V.junk).set d2 .junk = T at hr hj1 hj2 r1 hl1
 obtain ⟨v0,hv0,hr⟩:=runOps_mget hr
 obtain ⟨t7,k7,hs7,hr⟩:=runOps_cons hr
 obtain ⟨t8,k8,hs,hr⟩:=runOps_cons hr
 simp only [runOps,Option.some.injEq,Prod.mk.injEq] at hr
 obtain ⟨rfl,rfl⟩:=hr
 obtain ⟨eff,hp8,hs⟩:=step_plain hs rfl
 simp only [prim] at hp8
 -- the append
 have hcg:c.guard = none ∧ c.dst = C.dst:=by
  unfold trOper at hc
  split at hc
  ·rename_i op gd h1 h2
   cases hc
   rw [gC] at h2
   simp only [trGuard,Option.some.injEq] at h2
   exact ⟨h2.symm,rfl⟩
  ·cases hc
 obtain ⟨hcg,hcd⟩:=hcg
 rw [e5] at hcd
 obtain ⟨cd,cop,cg⟩:=c
 simp only at hcg hcd hap
 subst hcg hcd
 obtain ⟨cs1,cs2,cs3,cx,cy,rfl⟩:=appendOf_some hap
 obtain ⟨eff7,hp7,hs7⟩:=step_plain hs7 rfl
 have hp7':=hp7
 simp only [prim] at hp7
 have hop:trOp P (al.idxOf (C.dst.getD 0)) C.op = some (.append cs1 cs2 cs3 cx cy):=by
  unfold trOper at hc
  split at hc
  ·rename_i op gd h1 h2
   simp only [Option.some.injEq,AOper.mk.injEq] at hc
   obtain ⟨-,rfl,-⟩:=hc
   unfold trOpS at h1
   split at h1
   ·rename_i q hq; cases h1; exact hq
   ·cases h1
  ·cases hc
 -- where the map is
 have hmk:t7.getD m2 .junk = T.getD m2 .junk ∧ t7.getD k .junk = T.getD k .junk ∧ t7.getD a2 .junk = .junk ∧ t7.getD d2 .junk = .junk:=by
  have:∃ v,t7 = (T.set db v0).set dc v:=by
   cases eff7 <;> simp only [put,Prod.mk.injEq] at hs7 <;> exact ⟨_,hs7.1⟩
  obtain ⟨v,rfl⟩:=this
  rw [getD_set n6,getD_set n5,getD_set n8,getD_set n7,getD_set n2,getD_set n1,getD_set n4,getD_set n3]
  exact ⟨rfl,rfl,hj1,hj2⟩
 obtain ⟨hm7,hk7,hj1',hj2'⟩:=hmk
 have hmap:∃ o ver es3,T.getD m2 .junk = .map o ver ∧ mapAt (fun o => k7[o]?) o ver = some es3 ∧ ∃ cs3',keyC ag (T.getD k .junk) = some cs3' ∧ eff = .set o ⟨ver,.map (mputL ag ks cs3' (T.getD k .junk) (ev t7 x') es3)⟩ (.tup []):=by
  unfold mputA at hp8
  simp only [ev,hm7,hk7] at hp8
  split at hp8
  ·cases hp8
  rename_i cs' hcs'
  split at hp8
  ·rename_i o ver hmo
   split at hp8
   ·cases hp8
   rename_i es3 hes3
   split at hp8
   ·cases hp8
    exact ⟨o,ver,es3,hmo,hes3,cs',hcs',rfl⟩
   ·cases hp8
  ·cases hp8
 obtain ⟨o,ver,es3,hmo,hes3,cs,hcs',rfl⟩:=hmap
 simp only [put,Prod.mk.injEq] at hs
 obtain ⟨rfl,rfl⟩:=hs
 simp only [ev,hmo] at hv0
 have hm:=r1.opd (.tmp m2) (.tmp m2) rfl
 have hK0:=r1.opd (.tmp k) (.tmp k) rfl
 simp only [ev] at hm hK0
 rw [hmo] at hm
 obtain ⟨cs0,es,V0,g1,w1,b,es1,clock1,j,e0,u1,u2,u3,u4,u5,s1,x1,u6,u7,u8,u9,u10⟩:=entry_run s hu ha hk hz hm hK0 hv0
 rw [hcs'] at u1
 cases u1
 have ho:h[o]? = some ⟨ver,.map es⟩:=by
  unfold mapAt at u2
  split at u2
  ·rename_i v es' he
   split at u2
   ·rename_i hv; cases u2; subst hv; exact he
   ·cases u2
  ·cases u2
 have hol:o < h.length:=(List.getElem?_eq_some_iff.1 ho).1
 -- the hidden memory
 have hx1:(h.set o ⟨ver,.map (mputL ag ks cs (T.getD k .junk) v0 es)⟩)[o]? = some ⟨ver,.map (mputL ag ks cs (T.getD k .junk) v0 es)⟩:=by simp [hol]
 obtain ⟨sd,xd⟩:=sim_kill1 s1 hx1
 simp only [List.set_set] at sd xd
 have hpd:prim fb (ev (T.set db v0)) (fun i => (h.set o ⟨ver,.dead⟩)[i]?) (.append cs1 cs2 cs3 cx cy) = some eff7:=by
  rw [← hp7']
  simp only [prim]
  exact appendA_hide ho _ _ _ _ _
 have hx2:∃ v7 hd7,put (T.set db v0) (some dc) v7 = t8 ∧ (∀ g w a,EffPrim P (execOp a C) g (h.set o ⟨ver,.dead⟩) w eff7 → PrimGoes P (execOp a C) g (h.set o ⟨ver,.dead⟩) w v7 hd7) ∧ hd7[o]? = some ⟨ver,.dead⟩ ∧ (∀ y,hd7.set o y = k7.set o y) ∧ es3 = es:=by
  cases eff7 with
  | ret v =>
   simp only [Prod.mk.injEq] at hs7
   obtain ⟨rfl,rfl⟩:=hs7
   rw [u2] at hes3
   cases hes3
   exact ⟨v,_,rfl,fun _ _ _ q => q,by simp [hol],fun y => by rw [List.set_set],rfl⟩
  | set o' x v =>
   simp only [Prod.mk.injEq] at hs7
   obtain ⟨rfl,rfl⟩:=hs7
   have hne:o' ≠ o:=by
    rintro rfl
    have hb:=appendA_bd hp7
    unfold mapAt at hes3
    simp only [List.getElem?_set_self hol] at hes3
    obtain ⟨xv,xb⟩:=x
    cases xb <;> simp only [reduceCtorEq] at hes3
    exact hb _ rfl
   have:mapAt (fun i => (h.set o' x)[i]?) o ver = mapAt (fun i => h[i]?) o ver:=by
    unfold mapAt
    simp only [List.getElem?_set_ne hne]
   rw [this,u2] at hes3
   cases hes3
   refine ⟨v,_,rfl,fun _ _ _ q => q,?_,fun y => ?_,rfl⟩
   ·rw [List.getElem?_set_ne hne]; simp [hol]
   ·rw [List.set_comm _ _ hne,List.set_set,List.set_comm _ _ (Ne.symm hne)]
 obtain ⟨v7,hd7,ht7,hgo,hdead,hset,rfl⟩:=hx2
 have hdb:(T.set db v0).getD d2 .junk = .junk:=by rw [getD_set n3]; exact hj2
 have hm1:mapAt (fun i => (h.set o ⟨ver,.map (mputL ag ks cs (T.getD k .junk) v0 es3)⟩)[i]?) o ver = some (mputL ag ks cs (T.getD k .junk) v0 es3):=by
  unfold mapAt
  simp only [hx1,if_true]
 have own:eqCells ks cs cs = some true:=(mapOk_spec u3).1
 refine ⟨gA,gB,gC,gD,gE,fun β γ δ a' w' => a'.eval (.tmp a2) = .tuple #[V0,goInt e0.born] ∧ a'.tmps.size = a.tmps.size ∧ a'.defers = d0 ∧ (δ = true → a'.eval (.tmp d2) = goInt e0.born) ∧
  (match γ with
   | false => w' = w1 ∧ TRel g1 w1 (match β with | true => T.set db v0 | false => T) a'.tmps
   | true => ∃ g2,Sim g2 hd7 w' ∧ Ext g1 (h.set o ⟨ver,.dead⟩) w1 g2 hd7 w' ∧ TRel g2 w' t8 a'.tmps),?_,?_,?_,?_,?_⟩
 ·intro rd nn K Q hK
  refine wpIn_value (v:=.tuple #[V0,goInt e0.born]) (w':=w1) (by simp [e1]) (by simp [execOp,e1,u4]) ?_
  rw [e2]
  refine hK _ _ ⟨put_eval_same (by rw [r1.1,hl1]; exact hda),put_size,(put_defers _ _ _).trans hd,(fun h => by simp at h),rfl,put_junk (r1.ext x1 s) hj1 _⟩
 ·rintro δ A2 W ⟨q1,z1,z2,z3,hW,r2⟩ rd nn K Q hK
  simp only at r2
  rw [hW]
  refine wpIn_value (v:=V0) (w':=w1) (by simp [e3]) (by simp [execOp,e3,q1,Instr.extract]) ?_
  rw [e4]
  exact hK _ _ ⟨by rw [put_eval_other n1]; exact q1,put_size.trans z1,(put_defers _ _ _).trans z2,fun hδ => by rw [put_eval_other n3]; exact z3 hδ,rfl,r2.put u5 (some db)⟩
 ·rintro δ A3 W ⟨q2,z1,z2,z3,hW,r3⟩ rd nn K Q hK
  simp only at r3
  rw [hW]
  obtain ⟨g2,w2,X7,nx,hrun,hnx,s2,x2,v2'⟩:=hgo g1 w1 A3.eval (sim_prim (P:=P) r3.opd (fun _ => rfl) sd hop hpd)
  have fin:K (A3.put C.dst X7) w2:=by
   rw [e5]
   refine hK _ _ ⟨by rw [put_eval_other n2]; exact q2,put_size.trans z1,(put_defers _ _ _).trans z2,fun hδ => by rw [put_eval_other n4]; exact z3 hδ,g2,s2,x2,?_⟩
   rw [← ht7]
   exact (r3.ext x2 sd).put v2' (some dc)
  unfold Oper.wpIn
  rw [Oper.semAt_eq _ _ _ (trOp_defer hop),hrun]
  refine ⟨fun _ _ => trivial,?_⟩
  rcases hnx with rfl | ⟨rfl,rfl⟩
  ·exact fin
  ·exact fin
 ·rintro β γ A4 W ⟨q3,z1,z2,z3,z4⟩ rd nn K Q hK
  refine wpIn_value (v:=goInt e0.born) (w':=W) (by simp [e6]) (by simp [execOp,e6,q3,Instr.extract]) ?_
  rw [e7]
  have qs:(A4.put (some d2) (goInt e0.born)).eval (.tmp d2) = goInt e0.born:=put_eval_same (by rw [z1,r1.1,hl1]; exact hdd)
  refine hK _ _ ⟨?_,put_size.trans z1,(put_defers _ _ _).trans z2,fun _ => qs,?_⟩
  ·rw [put_eval_other dne]; exact q3
  ·cases γ with
   | false =>
    obtain ⟨hW,r3⟩:=z4
    refine ⟨hW,?_⟩
    cases β with
    | true => exact put_junk r3 hdb _
    | false => exact put_junk r3 hj2 _
   | true =>
    obtain ⟨g2,s2,x2,r4⟩:=z4
    exact ⟨g2,s2,x2,put_junk r4 hj2' _⟩
 ·rintro A5 w2 ⟨q3,z1,hd5,z3,g2,s2,x2,r5⟩ rd nn K Q hK
  have q4:=z3 rfl
  obtain ⟨s3,x3,-⟩:=sim_show s1 hm1 s2 (by rw [List.set_set]; exact x2) hdead
  have hw2:w2.heap[b]? = some (.map es1 clock1):=by
   obtain ⟨b',p,es',clock,y1,y2,y3,y4,-⟩:=sim_map s1 hm1
   rw [u7] at y2
   cases y2
   rw [x2.frame b y4 (fun i hi => ?_)]
   ·exact u8
   ·have hi':blk g1 ((h.set o ⟨ver,.map (mputL ag ks cs (T.getD k .junk) v0 es3)⟩).set o ⟨ver,.dead⟩) i = some b:=by rw [List.set_set]; exact hi
    obtain ⟨h1,h3⟩:=blk_set_dead hi'
    exact h1 (s1.inj _ _ _ h3 y3)
  have hm5:=r5.opd (.tmp m2) (.tmp m2) rfl
  simp only [ev] at hm5
  rw [hm7,hmo] at hm5
  have hK5:VRel g2 w2 (T.getD k .junk) (a.eval (.tmp k)):=((hK0.ext x1 s).ext x3 s1)
  have hX5:=r5.opd x' x hx
  have hm3:mapAt (fun i => (hd7.set o ⟨ver,.map (mputL ag ks cs (T.getD k .junk) v0 es3)⟩)[i]?) o ver = some (mputL ag ks cs (T.getD k .junk) v0 es3):=by
   have:o < hd7.length:=(List.getElem?_eq_some_iff.1 hdead).1
   unfold mapAt
   simp only [List.getElem?_set_self this,if_true]
  have fin:=store_run s3 hu ha hk hm5 hK5 hX5 hcs' hm3 (mapOk_put hcs' u3) (x3.loc _ _ _ u7) hw2 u9 u10
  rw [mput_mput hcs' own] at fin
  obtain ⟨g3,w3,Xe,ne,hre,hne,s4,x4,v4⟩:=EffPrim.ofSkip (P:=P) fin
  rw [List.set_set,hset ⟨ver,.map (mputL ag ks cs (T.getD k .junk) (ev t8 x') es3)⟩] at s4 x4
  have hrun5:(execOp A5.eval E).run P w2 = .ok ne w3:=by
   rw [← hre]
   simp only [execOp,e8,q4]
   rfl
  unfold Oper.wpIn
  rw [Oper.semAt_eq _ _ _ (by simp [e8]),hrun5]
  refine ⟨fun _ _ => trivial,?_⟩
  have done:∀ X,K (A5.put E.dst X) w3:=fun X => by
   rw [dE]
   exact hK g3 w3 A5 s4 (x1.trans (x3.trans x4)) (r5.ext x4 s3) hd5
  rcases hne with rfl | ⟨rfl,rfl⟩
  ·exact done _
  ·exact done _
theorem sim_tail {call:Caller} {fb:Nat} {al:List Nat} {ops:Array Oper} {rd:Option Nat} {nn:Nat} {Q:Exit → Act → World → Prop} {d0:List Deferred} {l:List Oper} {as:List AOper} {g:G} {h:Heap} {w:World} {t:List V} {a:Act} {t':List V} {h':Heap}
  (ht:tail5 P al ops l = some as) (hr:runOps call fb as t h = some (t',h')) (s:Sim g h w) (r:TRel g w t a.tmps) (hd:a.defers = d0)
  (hQ:∀ g' w' a',Sim g' h' w' → Ext g h w g' h' w' → TRel g' w' t' a'.tmps → a'.defers = d0 → Q .normal a' w'):wpListIn (FR rd) nn P ops Q l a w:=by
 obtain ⟨A,B,C,D,E,rfl⟩:∃ A B C D E,l = [A,B,C,D,E]:=by
  unfold tail5 at ht
  split at ht
  ·exact ⟨_,_,_,_,_,rfl⟩
  ·cases ht
 obtain ⟨gA,gB,gC,gD,gE,St,sA,sB,sC,sD,sE⟩:=tail_steps ht hr s r hd
 simp only [wpListIn,wanted_none gA,wanted_none gB,wanted_none gC,wanted_none gD,wanted_none gE,if_true]
 exact sA _ _ _ _ fun _ _ h1 => sB _ _ _ h1 _ _ _ _ fun _ _ h2 => sC _ _ _ h2 _ _ _ _ fun _ _ h3 => sD _ _ _ _ h3 _ _ _ _ fun _ _ h4 => sE _ _ h4 _ _ _ _ hQ
def trOpsE (P:Program) (al:List Nat) (ops:Array Oper):List Oper → Option (List AOper)
 | [] => some []
 | o :: os =>
  match tail5 P al ops (o :: os) with
  | some as => some as
  | none => match trOper P al ops o,trOpsE P al ops os with | some a,some as => some (a :: as) | _,_ => none
theorem sim_opsE {call:Caller} (hcall:CallOk P call) {fb:Nat} {al:List Nat} {ops:Array Oper} {rd:Option Nat} {nn:Nat} {Q:Exit → Act → World → Prop} {d0:List Deferred}:∀ (l:List Oper) (as:List AOper) (g:G) (h:Heap) (w:World) (t:List V) (a:Act) (t':List V) (h':Heap),
  trOpsE P al ops l = some as → runOps call fb as t h = some (t',h') → g.code = codesOf P → Sim g h w → TRel g w t a.tmps → a.defers = d0 →
  (∀ g' w' a',Sim g' h' w' → Ext g h w g' h' w' → TRel g' w' t' a'.tmps → a'.defers = d0 → Q .normal a' w') → wpListIn (FR rd) nn P ops Q l a w
 | [],as,g,h,w,t,a,t',h',ht,hr,hgc,s,r,hd,hQ => by
  simp [trOpsE] at ht
  subst ht
  simp only [runOps,Option.some.injEq,Prod.mk.injEq] at hr
  obtain ⟨rfl,rfl⟩:=hr
  exact hQ g w a s (Ext.refl _ _ _) r hd
 | o :: l,as,g,h,w,t,a,t',h',ht,hr,hgc,s,r,hd,hQ => by
  simp only [trOpsE] at ht
  split at ht
  ·rename_i bs h5
   cases ht
   exact sim_tail h5 hr s r hd hQ
  split at ht
  case h_2 => cases ht
  rename_i ao as' h1 h2
  cases ht
  simp only [runOps] at hr
  split at hr
  case h_2 => cases hr
  rename_i t1 k1 hst
  have:=sim_step hcall (fb:=fb) hgc s r h1 hst (rd:=rd) (n:=nn) (K:=wpListIn (FR rd) nn P ops Q l) (Q:=Q) (fun g' w' a' q1 q2 q3 q4 =>
   sim_opsE hcall l as' g' k1 w' t1 a' t' h' h2 hr (q2.code.trans hgc) q1 q3 (q4.trans hd) (fun g2 w2 a2 p1 p2 p3 p4 => hQ g2 w2 a2 p1 (q2.trans p2) p3 p4))
  simp only [wpListIn]
  exact this
end Go.Am


set_option linter.unusedVariables false
set_option linter.unusedSimpArgs false
namespace Go.Am
variable {P:Program}
def nopA:AOper:=⟨none,.move (.cst (.tup [])),none⟩
def rdyL (ops:Array Oper) (l:Array Bool) (r:List Nat):Bool:=decide (Region.ready .any ops l = r)
def tailL (n k:Nat) (l:List Nat):Array Bool:=l.foldl (fun a i => a.setIfInBounds i true) (firstB n k)
def cutOk (ops : Array Oper) (k : Nat) : Bool :=
  decide (ops.size = k + 5) &&
  ((List.range ops.size).all fun m => match ops[m]? with | some o => o.after.all (fun e => !Region.binds .any e || decide (e.on < m)) | none => false) &&
  (match ops[k]? with | some o => (List.range k).all fun j => edge1 o j | none => false) &&
  ([k + 1, k + 2, k + 3, k + 4].all fun m => match ops[m]? with | some o => o.after.any fun e => Region.binds .any e && decide (k ≤ e.on) | none => false) &&
  (rdyL ops (tailL ops.size k []) [k] && rdyL ops (tailL ops.size k [k]) [k + 1, k + 3] && rdyL ops (tailL ops.size k [k, k + 1]) [k + 2, k + 3] && rdyL ops (tailL ops.size k [k, k + 3]) [k + 1] &&
   rdyL ops (tailL ops.size k [k, k + 1, k + 2]) [k + 3] && rdyL ops (tailL ops.size k [k, k + 1, k + 3]) [k + 2] && rdyL ops (tailL ops.size k [k, k + 3, k + 1]) [k + 2] &&
   rdyL ops (tailL ops.size k [k, k + 1, k + 2, k + 3]) [k + 4] && rdyL ops (tailL ops.size k [k, k + 1, k + 3, k + 2]) [k + 4] && rdyL ops (tailL ops.size k [k, k + 3, k + 1, k + 2]) [k + 4] &&
   rdyL ops (tailL ops.size k [k, k + 1, k + 2, k + 3, k + 4]) [] && rdyL ops (tailL ops.size k [k, k + 1, k + 3, k + 2, k + 4]) [] && rdyL ops (tailL ops.size k [k, k + 3, k + 1, k + 2, k + 4]) [])
variable {call:Caller} {fb:Nat} {ops:Array Oper} {al:List Nat}
theorem tailL_snoc (n k:Nat) (l:List Nat) (i:Nat):(tailL n k l).setIfInBounds i true = tailL n k (l ++ [i]):=by
 simp [tailL]
theorem nop_next {as0:List AOper} {k i:Nat} (hl:as0.length = k) (h1:k ≤ i) (h2:i < k + 5) {fin:List V × Heap → Prop} {C:Nat → List V × Heap → Prop} {fuel:Nat} {listed:Array Bool} {s:List V × Heap}
  (H:AnyA call fb ops (as0 ++ List.replicate 5 nopA) fin C (fuel + 1) listed s) (hi:i ∈ Region.ready .any ops listed):AnyA call fb ops (as0 ++ List.replicate 5 nopA) fin C fuel (listed.setIfInBounds i true) s:=by
 obtain ⟨-,ao,s',hao,hst,H'⟩:=H.2 i hi
 have:(as0 ++ List.replicate 5 nopA)[i]? = some nopA:=by
  rw [List.getElem?_append_right (by omega),List.getElem?_replicate]
  simp; omega
 rw [this] at hao
 cases hao
 have:stepOp call fb nopA s.1 s.2 = some (s.1,s.2):=rfl
 rw [this] at hst
 cases hst
 exact H'
section
variable {as0:List AOper} {k:Nat} {fin:List V × Heap → Prop} {C:Nat → List V × Heap → Prop} {s:List V × Heap} {rd:Option Nat} {nn:Nat} {Q:Exit → Act → World → Prop}
theorem wp_one (hl:as0.length = k) {l:List Nat} {i:Nat} (hrd:rdyL ops (tailL ops.size k l) [i] = true) (h1:k ≤ i) (h2:i < k + 5) {o:Oper} (ho:ops[i]? = some o) (hg:o.guard = none) {fuel:Nat} {a:Act} {w:World}
  (H:AnyA call fb ops (as0 ++ List.replicate 5 nopA) fin C fuel (tailL ops.size k l) s)
  (step:∀ f,AnyA call fb ops (as0 ++ List.replicate 5 nopA) fin C f (tailL ops.size k (l ++ [i])) s → o.wpIn (FR rd) nn P a w (wpAnyIn (FR rd) nn P .any ops Q f (tailL ops.size k (l ++ [i]))) Q) :
  wpAnyIn (FR rd) nn P .any ops Q fuel (tailL ops.size k l) a w:=by
 have hr:Region.ready .any ops (tailL ops.size k l) = [i]:=of_decide_eq_true hrd
 cases fuel with
 | zero => have:=H.1; rw [hr] at this; cases this
 | succ f =>
  refine ⟨(fun h0 => by rw [hr] at h0; cases h0),fun j hj => ?_⟩
  rw [hr] at hj
  obtain rfl:=List.mem_singleton.1 hj
  have H':=nop_next hl h1 h2 H (by rw [hr]; simp)
  rw [tailL_snoc] at H' ⊢
  unfold wpOpIn
  simp only [ho,wanted_none hg,if_true]
  exact step f H'
theorem wp_two (hl:as0.length = k) {l:List Nat} {i j:Nat} (hrd:rdyL ops (tailL ops.size k l) [i,j] = true) (h1:k ≤ i) (h2:i < k + 5) (h3:k ≤ j) (h4:j < k + 5) {o p:Oper} (ho:ops[i]? = some o) (hg:o.guard = none) (hp:ops[j]? = some p) (hgp:p.guard = none) {fuel:Nat} {a:Act} {w:World}
  (H:AnyA call fb ops (as0 ++ List.replicate 5 nopA) fin C fuel (tailL ops.size k l) s)
  (step:∀ f,AnyA call fb ops (as0 ++ List.replicate 5 nopA) fin C f (tailL ops.size k (l ++ [i])) s → o.wpIn (FR rd) nn P a w (wpAnyIn (FR rd) nn P .any ops Q f (tailL ops.size k (l ++ [i]))) Q)
  (step2:∀ f,AnyA call fb ops (as0 ++ List.replicate 5 nopA) fin C f (tailL ops.size k (l ++ [j])) s → p.wpIn (FR rd) nn P a w (wpAnyIn (FR rd) nn P .any ops Q f (tailL ops.size k (l ++ [j]))) Q) :
  wpAnyIn (FR rd) nn P .any ops Q fuel (tailL ops.size k l) a w:=by
 have hr:Region.ready .any ops (tailL ops.size k l) = [i,j]:=of_decide_eq_true hrd
 cases fuel with
 | zero => have:=H.1; rw [hr] at this; cases this
 | succ f =>
  refine ⟨(fun h0 => by rw [hr] at h0; cases h0),fun x hx => ?_⟩
  rw [hr] at hx
  rcases List.mem_cons.1 hx with rfl | hx
  ·have H':=nop_next hl h1 h2 H (by rw [hr]; simp)
   rw [tailL_snoc] at H' ⊢
   unfold wpOpIn
   simp only [ho,wanted_none hg,if_true]
   exact step f H'
  ·obtain rfl:=List.mem_singleton.1 hx
   have H':=nop_next hl h3 h4 H (by rw [hr]; simp)
   rw [tailL_snoc] at H' ⊢
   unfold wpOpIn
   simp only [hp,wanted_none hgp,if_true]
   exact step2 f H'
theorem wp_none {l:Array Bool} (hrd:rdyL ops l [] = true) {fuel:Nat} {a:Act} {w:World} (hQ:Q .normal a w):wpAnyIn (FR rd) nn P .any ops Q fuel l a w:=by
 have hr:Region.ready .any ops l = []:=of_decide_eq_true hrd
 cases fuel with
 | zero => exact ⟨hr,hQ⟩
 | succ f => exact ⟨fun _ => hQ,(fun i hi => by rw [hr] at hi; cases hi)⟩
theorem nop_fin (hl:as0.length = k) (hc:cutOk ops k = true) {fuel:Nat} (H:AnyA call fb ops (as0 ++ List.replicate 5 nopA) fin C fuel (tailL ops.size k []) s):fin s:=by
 simp only [cutOk,Bool.and_eq_true] at hc
 obtain ⟨-,⟨⟨⟨⟨⟨⟨⟨⟨⟨⟨⟨⟨c1,c2⟩,c3⟩,c4⟩,c5⟩,c6⟩,c7⟩,c8⟩,c9⟩,c10⟩,c11⟩,c12⟩,c13⟩⟩:=hc
 have next:∀ {l:List Nat} {i:Nat} {r:List Nat} {fuel:Nat},rdyL ops (tailL ops.size k l) (i :: r) = true → k ≤ i → i < k + 5 → AnyA call fb ops (as0 ++ List.replicate 5 nopA) fin C fuel (tailL ops.size k l) s →
   ∃ f,AnyA call fb ops (as0 ++ List.replicate 5 nopA) fin C f (tailL ops.size k (l ++ [i])) s:=by
  intro l i r fuel hrd h1 h2 H
  have hr:Region.ready .any ops (tailL ops.size k l) = i :: r:=of_decide_eq_true hrd
  cases fuel with
  | zero => have:=H.1; rw [hr] at this; cases this
  | succ f =>
   have H':=nop_next hl h1 h2 H (by rw [hr]; simp)
   rw [tailL_snoc] at H'
   exact ⟨f,H'⟩
 obtain ⟨_,H⟩:=next c1 (by omega) (by omega) H
 obtain ⟨_,H⟩:=next c2 (by omega) (by omega) H
 obtain ⟨_,H⟩:=next c3 (by omega) (by omega) H
 obtain ⟨_,H⟩:=next c5 (by omega) (by omega) H
 obtain ⟨f,H⟩:=next c8 (by omega) (by omega) H
 have hr:Region.ready .any ops (tailL ops.size k [k,k + 1,k + 2,k + 3,k + 4]) = []:=of_decide_eq_true c11
 cases f with
 | zero => exact H.2
 | succ f => exact H.1 hr
theorem tail_any (hl:as0.length = k) (hc:cutOk ops k = true) {d0:List Deferred} {A B D E X:Oper} {bs:List AOper} {g:G} {h:Heap} {w:World} {t:List V} {a:Act} {t':List V} {h':Heap}
  (hA:ops[k]? = some A) (hB:ops[k + 1]? = some B) (hX:ops[k + 2]? = some X) (hD:ops[k + 3]? = some D) (hE:ops[k + 4]? = some E)
  (ht:tail5 P al ops [A,B,X,D,E] = some bs) (hr:runOps call fb bs t h = some (t',h')) (s0:Sim g h w) (r:TRel g w t a.tmps) (hd:a.defers = d0)
  (hQ:∀ g' w' a',Sim g' h' w' → Ext g h w g' h' w' → TRel g' w' t' a'.tmps → a'.defers = d0 → Q .normal a' w') {fuel:Nat} (H:AnyA call fb ops (as0 ++ List.replicate 5 nopA) fin C fuel (tailL ops.size k []) s) :
  wpAnyIn (FR rd) nn P .any ops Q fuel (tailL ops.size k []) a w:=by
 obtain ⟨gA,gB,gC,gD,gE,St,sA,sB,sC,sD,sE⟩:=tail_steps ht hr s0 r hd
 simp only [cutOk,Bool.and_eq_true] at hc
 obtain ⟨-,⟨⟨⟨⟨⟨⟨⟨⟨⟨⟨⟨⟨c1,c2⟩,c3⟩,c4⟩,c5⟩,c6⟩,c7⟩,c8⟩,c9⟩,c10⟩,c11⟩,c12⟩,c13⟩⟩:=hc
 refine wp_one hl c1 (by omega) (by omega) hA gA H fun f H => sA _ _ _ _ fun a1 w1 st => ?_
 refine wp_two hl c2 (by omega) (by omega) (by omega) (by omega) hB gB hD gD H (fun f H => sB _ _ _ st _ _ _ _ fun a2 w2 st => ?_) (fun f H => sD _ _ _ _ st _ _ _ _ fun a2 w2 st => ?_)
 ·refine wp_two hl c3 (by omega) (by omega) (by omega) (by omega) hX gC hD gD H (fun f H => sC _ _ _ st _ _ _ _ fun a3 w3 st => ?_) (fun f H => sD _ _ _ _ st _ _ _ _ fun a3 w3 st => ?_)
  ·refine wp_one hl c5 (by omega) (by omega) hD gD H fun f H => sD _ _ _ _ st _ _ _ _ fun a4 w4 st => ?_
   exact wp_one hl c8 (by omega) (by omega) hE gE H fun f H => sE _ _ st _ _ _ _ fun g' w' a' q1 q2 q3 q4 => wp_none c11 (hQ g' w' a' q1 q2 q3 q4)
  ·refine wp_one hl c6 (by omega) (by omega) hX gC H fun f H => sC _ _ _ st _ _ _ _ fun a4 w4 st => ?_
   exact wp_one hl c9 (by omega) (by omega) hE gE H fun f H => sE _ _ st _ _ _ _ fun g' w' a' q1 q2 q3 q4 => wp_none c12 (hQ g' w' a' q1 q2 q3 q4)
 ·refine wp_one hl c4 (by omega) (by omega) hB gB H fun f H => sB _ _ _ st _ _ _ _ fun a3 w3 st => ?_
  refine wp_one hl c7 (by omega) (by omega) hX gC H fun f H => sC _ _ _ st _ _ _ _ fun a4 w4 st => ?_
  exact wp_one hl c10 (by omega) (by omega) hE gE H fun f H => sE _ _ st _ _ _ _ fun g' w' a' q1 q2 q3 q4 => wp_none c13 (hQ g' w' a' q1 q2 q3 q4)
end
theorem ready_all {listed:Array Bool} (he:∀ (m:Nat) (o:Oper),ops[m]? = some o → ∀ e ∈ o.after,Region.binds .any e = true → e.on < m) (hr:Region.ready .any ops listed = []):∀ m,m < ops.size → listed.getD m true = true:=by
 intro m
 induction m using Nat.strongRecOn with
 | _ m ih =>
  intro hm
  cases hl:listed.getD m true with
  | true => rfl
  | false =>
   have:m ∈ Region.ready .any ops listed:=by
    rw [mem_ready]
    refine ⟨hl,ops[m],by simp [hm],fun e hem hb => ?_⟩
    have h1:=he m _ (by simp [hm]) e hem hb
    have h2:=ih e.on h1 (by omega)
    rw [Array.getD_eq_getD_getElem?] at h2 ⊢
    cases h3:listed[e.on]? with
    | some b => rw [h3] at h2; simpa using h2
    | none =>
     exfalso
     have:listed.size ≤ e.on:=by simpa using h3
     rw [Array.getD_eq_getD_getElem?,Array.getElem?_eq_none (by omega)] at hl
     cases hl
   rw [hr] at this
   cases this
theorem sim_any_cut (hcall:CallOk P call) {k:Nat} (hc:cutOk ops k = true) {as0:List AOper} (has:trOps P al ops (ops.toList.take k) = some as0) {fin:List V × Heap → Prop} {C:Nat → List V × Heap → Prop} {rd:Option Nat} {nn:Nat} {Q:Exit → Act → World → Prop} {d0:List Deferred} :
  ∀ (fuel:Nat) (listed:Array Bool) (g:G) (h:Heap) (w:World) (t:List V) (a:Act),AnyA call fb ops (as0 ++ List.replicate 5 nopA) fin C fuel listed (t,h) → listed.size = ops.size → (∀ i,k ≤ i → i < ops.size → listed.getD i false = false) → g.code = codesOf P → Sim g h w → TRel g w t a.tmps → a.defers = d0 →
  (∀ t1 h1 g1 w1 a1,Sim g1 h1 w1 → Ext g h w g1 h1 w1 → TRel g1 w1 t1 a1.tmps → a1.defers = d0 → ∀ f,AnyA call fb ops (as0 ++ List.replicate 5 nopA) fin C f (tailL ops.size k []) (t1,h1) → wpAnyIn (FR rd) nn P .any ops Q f (tailL ops.size k []) a1 w1) →
  wpAnyIn (FR rd) nn P .any ops Q fuel listed a w:=by
 have hc0:=hc
 simp only [cutOk,Bool.and_eq_true] at hc
 obtain ⟨⟨⟨⟨hn,hedge⟩,hk⟩,hbeh⟩,-⟩:=hc
 have hn:ops.size = k + 5:=of_decide_eq_true hn
 have he:∀ (m:Nat) (o:Oper),ops[m]? = some o → ∀ e ∈ o.after,Region.binds .any e = true → e.on < m:=by
  intro m o ho e hem hb
  have hm:m < ops.size:=by
   rcases Nat.lt_or_ge m ops.size with h | h
   ·exact h
   ·rw [Array.getElem?_eq_none h] at ho; cases ho
  have:=List.all_eq_true.1 hedge m (by simpa using hm)
  rw [ho] at this
  have:=Array.all_eq_true'.1 this e hem
  simpa [hb] using this
 have hlen:as0.length = k:=by
  rw [(trOps_get has).1,List.length_take,← Array.length_toList] at *
  omega
 intro fuel
 induction fuel with
 | zero =>
  intro listed g h w t a H hsz hli hgc s r hd hK
  exfalso
  have:=ready_all he H.1 k (by omega)
  have h2:=hli k (Nat.le_refl _) (by omega)
  rw [Array.getD_eq_getD_getElem?,Array.getElem?_eq_getElem (by omega)] at this h2
  simp at this h2
  rw [this] at h2
  cases h2
 | succ fuel ih =>
  intro listed g h w t a H hsz hli hgc s r hd hK
  -- is one of the first ones left?
  by_cases hall:∀ j,j < k → listed.getD j false = true
  ·have hl:listed = tailL ops.size k []:=by
    apply Array.ext'
    apply List.ext_getElem?
    intro i
    simp only [tailL,List.foldl_nil,firstB,List.getElem?_map]
    rw [Array.getElem?_toList]
    rcases Nat.lt_or_ge i ops.size with hi | hi
    ·rw [List.getElem?_range hi,Array.getElem?_eq_getElem (by omega)]
     rcases Nat.lt_or_ge i k with h1 | h1
     ·have:=hall i h1
      rw [Array.getD_eq_getD_getElem?,Array.getElem?_eq_getElem (by omega)] at this
      simp at this
      simp [this,h1]
     ·have:=hli i h1 hi
      rw [Array.getD_eq_getD_getElem?,Array.getElem?_eq_getElem (by omega)] at this
      simp at this
      simp [this]; omega
    ·rw [List.getElem?_eq_none (by simpa using hi),Array.getElem?_eq_none (by omega)]
     rfl
   subst hl
   exact hK t h g w a s (Ext.refl _ _ _) r hd _ H
  ·have hex:∃ j,j < k ∧ listed.getD j false = false:=by
    apply Classical.byContradiction
    intro hne
    apply hall
    intro j hj
    cases hb:listed.getD j false with
    | true => rfl
    | false => exact absurd ⟨j,hj,hb⟩ hne
   obtain ⟨j,hj,hjf⟩:=hex
   refine ⟨fun h0 => ?_,fun i hi => ?_⟩
   ·exfalso
    have:=ready_all he h0 k (by omega)
    have h2:=hli k (Nat.le_refl _) (by omega)
    rw [Array.getD_eq_getD_getElem?,Array.getElem?_eq_getElem (by omega)] at this h2
    simp at this h2
    rw [this] at h2
    cases h2
   ·obtain ⟨hi0,o,ho,hafter⟩:=mem_ready.1 hi
    have him:i < ops.size:=by
     rcases Nat.lt_or_ge i ops.size with h | h
     ·exact h
     ·rw [Array.getElem?_eq_none h] at ho; cases ho
    have hik:i < k:=by
     rcases Nat.lt_or_ge i k with h1 | h1
     ·exact h1
     ·exfalso
      by_cases hi':i = k
      ·subst hi'
       rw [ho] at hk
       have:=List.all_eq_true.1 hk j (by simpa using hj)
       unfold edge1 at this
       rw [Array.any_eq_true'] at this
       obtain ⟨e,hem,hee⟩:=this
       simp only [Bool.and_eq_true,beq_iff_eq] at hee
       have:=hafter e hem hee.1
       rw [hee.2,hjf] at this
       cases this
      ·have hm:i ∈ [k + 1,k + 2,k + 3,k + 4]:=by simp; omega
       have:=List.all_eq_true.1 hbeh i hm
       rw [ho] at this
       simp only at this
       rw [Array.any_eq_true'] at this
       obtain ⟨e,hem,hee⟩:=this
       simp only [Bool.and_eq_true,decide_eq_true_eq] at hee
       have h3:=hafter e hem hee.1
       have h4:=he i o ho e hem hee.1
       rw [hli e.on hee.2 (by omega)] at h3
       cases h3
    obtain ⟨-,ao,⟨t1,k1⟩,hao,hst,H'⟩:=H.2 i hi
    rw [List.getElem?_append_left (by omega)] at hao
    obtain ⟨o',ho',hto⟩:=(trOps_get has).2 i ao hao
    have:o' = o:=by
     rw [List.getElem?_take,if_pos hik] at ho'
     have:ops[i]? = some o':=by simpa using ho'
     rw [ho] at this
     cases this
     rfl
    subst this
    have:=sim_step hcall (fb:=fb) hgc s r hto hst (rd:=rd) (n:=nn) (K:=wpAnyIn (FR rd) nn P .any ops Q fuel (listed.setIfInBounds i true)) (Q:=Q) (fun g' w' a' q1 q2 q3 q4 =>
     ih _ g' k1 w' t1 a' H' (by simpa using hsz) (fun x hx hx2 => by
      rw [Array.getD_eq_getD_getElem?,Array.getElem?_setIfInBounds_ne (by omega),← Array.getD_eq_getD_getElem?]
      exact hli x hx hx2) (q2.code.trans hgc) q1 q3 (q4.trans hd) (fun t2 h2 g2 w2 a2 p1 p2 p3 p4 => hK t2 h2 g2 w2 a2 p1 (q2.trans p2) p3 p4))
    unfold wpOpIn
    simp only [ho]
    exact this
end Go.Am

