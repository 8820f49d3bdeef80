import Derived.Test.YtpjclkfeobhpaaaK4
set_option linter.unusedVariables false
set_option linter.unusedSimpArgs false
set_option linter.unusedSectionVars false
set_option maxRecDepth 10000
namespace Go.Am.T
attribute [local congr] selV_congr impB_congr
structure BTaker (l:List Wr) (W:V) (R:List Nat) (N n o ver s:Nat) (stop:Wr → Bool) (Inv:Bool → Nat → Heap → Prop):Prop where
 row:∀ b k h,Inv b k h → PRow h W l R ∧ h[s]? = some ⟨1,.var [W]⟩
 round:∀ (k:Nat) (h:Heap) (x:Wr),k < l.length → l[l.length - 1 - k]? = some x → Inv true k h → ∃ h',callA am N n YLD [.yld o ver,.int .i64 ((l.length - 1 - k:Nat):Int),.agg x.cs] h = some (.bool (!stop x),h') ∧ Inv (!stop x) (k + 1) h'
structure BTaken (l:List Wr) (stop:Wr → Bool) (Inv:Bool → Nat → Heap → Prop) (b:Bool) (K:Nat) (h:Heap):Prop where
 inv:Inv b K h
 all:b = true → K = l.length ∧ ∀ x ∈ l,stop x = false
 left:b = false → ∃ k x,K = k + 1 ∧ k < l.length ∧ l[l.length - 1 - k]? = some x ∧ stop x = true ∧ ∀ j y,j < k → l[l.length - 1 - j]? = some y → stop y = false
theorem am52_wp {N n:Nat} {args:List V} {h:Heap} {C:V → Heap → Prop} (ha:args.length = 2) (H:sx ⟨pureOf am,callA am N n,N,h.length⟩ am52.body (fr am52.nt (argsF 0 args)) (h ++ deads am52.sites) (retQ am52.res C)):∃ v h',callA am N (n + 1) 52 args h = some (v,h') ∧ C v h' :=
 call_keep at52 rfl ha (by decide) (sx_wp H)
theorem back_spec {N n:Nat} (hN:5000 ≤ N) {H:Heap} {l:List Wr} {W:V} {R:List Nat} {o ver s:Nat} {stop:Wr → Bool} {Inv:Bool → Nat → Heap → Prop} (T:BTaker l W R N n o ver s stop Inv) (hl:l.length ≤ 4096) (hI:Inv true 0 H) :
  ∃ v' h',callA am N (n + 1) 52 [.yld o ver,.ptr s 1 0] H = some (v',h') ∧ v' = .tup [] ∧ ∃ b K,BTaken l stop Inv b K h':=by
 obtain ⟨hrow,hs⟩:=T.row _ _ _ hI
 have hlen:=hrow.len
 obtain ⟨w1,w2,w3,w4,w5,w6⟩:=hrow.shape
 have hw0:IntKind.i64.wrap ((l.length:Int) - 1) = (l.length:Int) - 1 - ((0:Nat):Int):=(wrap64 (by omega) (by omega)).trans (by omega)
 refine am52_wp rfl ?_
 simp +contextual -implicitDefEqProofs (maxSteps:=10000000) only [sxb,↓sxd,plainD,stays,↓prim_pick,doOp,get,ins,del,dels,Nat.reduceLT,Nat.reduceEqDiff,↓reduceIte,reduceCtorEq,ne_eq,implies_true,prim,YLD,mkA,V.cells,Nat.reduceAdd,Nat.reduceSub,Nat.reduceMul,Nat.reduceLeDiff,loadA,cellsAt,nAg,packA,List.drop,List.take,List.head?,binA,unA,eqCells,eqCell,negB,fillA,storeA,Ob.with,indexedI,V.oneCell,intOf?,resA,resA1,packR,sealDepth,Int.reduceLT,Int.reduceLE,Int.reduceToNat,Int.reduceNeg,Int.reduceAdd,Int.reduceSub,Int.reduceMul,cond_true,cond_false,Int.reduceBNe,Int.reduceBEq,eq_self,deads,List.replicate,argsF,am52,hs,hlen,hw0,List.append_nil]
 refine sx_loop (fun i t h => t = fr 19 [(0,.yld o ver),(1,.ptr s 1 0),(3,.int .i64 ((l.length:Int) - 1 - (i:Int)))] ∧ i ≤ l.length ∧ Inv true i h ∧ ∀ j y,j < i → l[l.length - 1 - j]? = some y → stop y = false) 4096 (by show 4096 < N; omega) ⟨rfl,Nat.zero_le _,hI,fun j y hj => by omega⟩ ?_
 rintro i t h hi ⟨rfl,hil,hI1,hf⟩
 by_cases hlt:i < l.length
 ·have g1:decide ((l.length:Int) - 1 - (i:Int) ≥ 0) = true:=decide_eq_true (by omega)
  have w4:IntKind.i64.wrap ((l.length:Int) - 1 - (i:Int) - 1) = (l.length:Int) - 1 - ((i + 1:Nat):Int):=(wrap64 (by omega) (by omega)).trans (by omega)
  have ei:(l.length:Int) - 1 - (i:Int) = ((l.length - 1 - i:Nat):Int):=by omega
  have hk:l[l.length - 1 - i]? = some (l[l.length - 1 - i]'(by omega)):=List.getElem?_eq_getElem (by omega)
  generalize l[l.length - 1 - i]'(by omega) = x at hk
  obtain ⟨hr1,hs1⟩:=T.row _ _ _ hI1
  obtain ⟨o',ver',rd⟩:=hr1.read (by intro e; rw [e] at hlt; simp at hlt)
  obtain ⟨xok,xi,xr⟩:=rd _ x hk
  have hcl:=Wr.len xok
  have htk:List.take 101 x.cs = x.cs:=List.take_of_length_le (by omega)
  have xall:=xr 0 101 (by decide)
  rw [List.drop_zero,htk,Nat.add_zero] at xall
  have hone:=x.one
  obtain ⟨h2,hr,hI2⟩:=T.round i _ x hlt hk hI1
  have hs1':loadA (fun o => h[o]?) 1 (.ptr s 1 0) = some [W]:=by simp [loadA,cellsAt,hs1]
  rw [← ei] at xi hr
  have hi1:i + 1 ≤ l.length:=hlt
  have hi2:i < 4096:=by omega
  cases hst:stop x with
  | true =>
   rw [hst] at hr hI2
   simp +contextual -implicitDefEqProofs (maxSteps:=10000000) only [sxb,↓sxd,plainD,stays,↓prim_pick,doOp,get,ins,del,dels,Nat.reduceLT,Nat.reduceEqDiff,↓reduceIte,reduceCtorEq,ne_eq,implies_true,prim,YLD,mkA,V.cells,Nat.reduceAdd,Nat.reduceSub,Nat.reduceMul,Nat.reduceLeDiff,loadA,cellsAt,nAg,packA,List.drop,List.take,List.head?,binA,unA,eqCells,eqCell,negB,fillA,storeA,Ob.with,indexedI,V.oneCell,intOf?,resA,resA1,packR,sealDepth,Int.reduceLT,Int.reduceLE,Int.reduceToNat,Int.reduceNeg,Int.reduceAdd,Int.reduceSub,Int.reduceMul,cond_true,cond_false,Int.reduceBNe,Int.reduceBEq,eq_self,deads,List.replicate,argsF,g1,hs1',xi,xall,cvP_yld,hr,-loadA]
   exact ⟨false,_,hI2,fun h => (by cases h),fun _ => ⟨_,x,rfl,hlt,hk,hst,hf⟩⟩
  | false =>
   rw [hst] at hr hI2
   simp +contextual -implicitDefEqProofs (maxSteps:=10000000) only [sxb,↓sxd,plainD,stays,↓prim_pick,doOp,get,ins,del,dels,Nat.reduceLT,Nat.reduceEqDiff,↓reduceIte,reduceCtorEq,ne_eq,implies_true,prim,YLD,mkA,V.cells,Nat.reduceAdd,Nat.reduceSub,Nat.reduceMul,Nat.reduceLeDiff,loadA,cellsAt,nAg,packA,List.drop,List.take,List.head?,binA,unA,eqCells,eqCell,negB,fillA,storeA,Ob.with,indexedI,V.oneCell,intOf?,resA,resA1,packR,sealDepth,Int.reduceLT,Int.reduceLE,Int.reduceToNat,Int.reduceNeg,Int.reduceAdd,Int.reduceSub,Int.reduceMul,cond_true,cond_false,Int.reduceBNe,Int.reduceBEq,eq_self,deads,List.replicate,argsF,g1,hs1',xi,xall,cvP_yld,hr,w4,hi1,hi2,-loadA]
   refine ⟨hI2,fun j y hj hy => ?_⟩
   by_cases ej:j = i
   ·subst ej
    rw [hk] at hy
    cases hy
    exact hst
   ·exact hf j y (by omega) hy
 ·have e8:i = l.length:=by omega
  subst e8
  have g1:decide ((l.length:Int) - 1 - (l.length:Int) ≥ 0) = false:=decide_eq_false (by omega)
  simp +contextual -implicitDefEqProofs (maxSteps:=10000000) only [sxb,↓sxd,plainD,stays,↓prim_pick,doOp,get,ins,del,dels,Nat.reduceLT,Nat.reduceEqDiff,↓reduceIte,reduceCtorEq,ne_eq,implies_true,prim,YLD,mkA,V.cells,Nat.reduceAdd,Nat.reduceSub,Nat.reduceMul,Nat.reduceLeDiff,loadA,cellsAt,nAg,packA,List.drop,List.take,List.head?,binA,unA,eqCells,eqCell,negB,fillA,storeA,Ob.with,indexedI,V.oneCell,intOf?,resA,resA1,packR,sealDepth,Int.reduceLT,Int.reduceLE,Int.reduceToNat,Int.reduceNeg,Int.reduceAdd,Int.reduceSub,Int.reduceMul,cond_true,cond_false,Int.reduceBNe,Int.reduceBEq,eq_self,deads,List.replicate,argsF,g1]
  refine ⟨true,_,hI1,fun _ => ⟨rfl,fun x hx => ?_⟩,fun h => by cases h⟩
  obtain ⟨i,hi'⟩:=List.getElem?_of_mem hx
  have hil:=(List.getElem?_eq_some_iff.1 hi').1
  exact hf (l.length - 1 - i) x (by omega) (by rw [show l.length - 1 - (l.length - 1 - i) = i by omega]; exact hi')
def topW (f:Wr → Bool) (l:List Wr):Option Wr:=(l.filter f).getLast?
def verCs (x:Option Wr):List V:=match x with | some x => .int .i64 x.ps :: x.b.map (V.int .u8) | none => zV
def holdsF:Nat → Wr → Bool
 | 46,x => x.du
 | _,_ => true
theorem holds_spec {N n:Nat} (hn:1 ≤ n) {g:Nat} (hg:g = 46 ∨ g = 48) {x:Wr} (hx:x.Ok) (H:Heap):callA am N n g [.agg x.cs] H = some (.bool (holdsF g x),H):=by
 obtain ⟨n,rfl⟩:∃ m,n = m + 1:=⟨n - 1,by omega⟩
 have hcl:=Wr.len hx
 have hcd:=Wr.cd hx
 have hfree:V.freeL x.cs = true:=by
  refine freeL_of_mem fun c hc => ?_
  unfold Wr.cs Wr.hd at hc
  simp only [List.mem_append,List.mem_cons,List.not_mem_nil,or_false,List.mem_map] at hc
  rcases hc with (rfl | rfl | rfl | rfl) | ⟨y,-,rfl⟩ | rfl <;> rfl
 rcases hg with rfl | rfl
 ·refine call_pure at46 rfl rfl (by decide) (by simp only [freeL_cons,freeL_nil,free_agg,hfree,Bool.and_self]) (sx_wp ?_)
  simp +contextual -implicitDefEqProofs (maxSteps:=10000000) only [sxb,↓sxd,plainD,stays,↓prim_pick,doOp,get,ins,del,dels,Nat.reduceLT,Nat.reduceEqDiff,↓reduceIte,reduceCtorEq,ne_eq,implies_true,prim,YLD,mkA,V.cells,Nat.reduceAdd,Nat.reduceSub,Nat.reduceMul,Nat.reduceLeDiff,loadA,cellsAt,nAg,packA,List.drop,List.take,List.head?,binA,unA,eqCells,eqCell,negB,fillA,storeA,Ob.with,indexedI,V.oneCell,intOf?,resA,resA1,packR,sealDepth,Int.reduceLT,Int.reduceLE,Int.reduceToNat,Int.reduceNeg,Int.reduceAdd,Int.reduceSub,Int.reduceMul,cond_true,cond_false,Int.reduceBNe,Int.reduceBEq,eq_self,deads,List.replicate,argsF,am46,hcl,hcd,holdsF]
 ·refine call_pure at48 rfl rfl (by decide) (by simp only [freeL_cons,freeL_nil,free_agg,hfree,Bool.and_self]) (sx_wp ?_)
  simp +contextual -implicitDefEqProofs (maxSteps:=10000000) only [sxb,↓sxd,plainD,stays,↓prim_pick,doOp,get,ins,del,dels,Nat.reduceLT,Nat.reduceEqDiff,↓reduceIte,reduceCtorEq,ne_eq,implies_true,prim,YLD,mkA,V.cells,Nat.reduceAdd,Nat.reduceSub,Nat.reduceMul,Nat.reduceLeDiff,loadA,cellsAt,nAg,packA,List.drop,List.take,List.head?,binA,unA,eqCells,eqCell,negB,fillA,storeA,Ob.with,indexedI,V.oneCell,intOf?,resA,resA1,packR,sealDepth,Int.reduceLT,Int.reduceLE,Int.reduceToNat,Int.reduceNeg,Int.reduceAdd,Int.reduceSub,Int.reduceMul,cond_true,cond_false,Int.reduceBNe,Int.reduceBEq,eq_self,deads,List.replicate,argsF,am48,holdsF]
def topT (n0 g:Nat):List V:=fr 35 [(5,.ptr n0 1 0),(6,.ptr (n0 + 1) 1 0),(7,.int .i64 0),(9,.ptr (n0 + 2) 1 0),(26,.func 52 [] [.ptr (n0 + 6) 1 0])]
def topH (H:Heap) (g:Nat) (W:V) (L:List V) (x3:Ob) (st:Nat) (pd:Option (Option Nat)):Heap :=
 H ++ [⟨1,.var [.func g [] []]⟩,⟨1,.var zV⟩,⟨1,.var L⟩,x3,⟨1,.loop st pd (topT H.length g) H.length 45 0⟩,⟨1,.var (pcs (0,1))⟩,⟨1,.var [W]⟩]
def topI (H:Heap) (g:Nat) (l:List Wr) (W:V) (b:Bool) (k:Nat) (h:Heap):Prop :=
 (b = true ∧ ∃ x3,h = topH H g W zV x3 0 none) ∨ (b = false ∧ ∃ x x3 k',k = k' + 1 ∧ l[l.length - 1 - k']? = some x ∧ h = topH H g W (verCs (some x)) x3 2 (some (some 0)))
theorem top_taker {N n:Nat} {H:Heap} {g:Nat} (hg:g = 46 ∨ g = 48) {l:List Wr} {W:V} {R:List Nat} (hr:PRow H W l R):BTaker l W R N (n + 2) (H.length + 4) 1 (H.length + 6) (holdsF g) (topI H g l W):=by
 refine ⟨?_,?_⟩
 ·rintro b k h (⟨-,x3,rfl⟩ | ⟨-,x,x3,k',-,-,rfl⟩)
  ·exact ⟨hr.keep fun o ho => List.getElem?_append_left (hr.lt o ho),by unfold topH; rw [app_get]; rfl⟩
  ·exact ⟨hr.keep fun o ho => List.getElem?_append_left (hr.lt o ho),by unfold topH; rw [app_get]; rfl⟩
 ·rintro k h x hkl hk (⟨-,x3,rfl⟩ | ⟨h,-⟩)
  case inr => cases h
  have hx:=hr.1 x (List.mem_of_getElem? hk)
  have hxl:=Wr.len hx
  have hone:=x.one
  have tk:List.take 101 x.cs = x.cs:=List.take_of_length_le (by omega)
  have c46:=fun H => @holds_spec N (n + 1) (by omega) g hg x hx H
  have hcv:=Wr.cv hx
  have hcvl:(V.int .i64 x.ps :: x.b.map (V.int .u8)).length = 97:=by simp; exact hx
  have hvl:(x.b.map (V.int .u8)).length = 96:=by simp; exact hx
  have hvone:(x.b.map (V.int .u8)).all V.oneCell = true:=allOne_ints _ _
  have e1:(x.b.map (V.int .u8)).length + 1 = 97:=by omega
  have tk96:List.take 96 (x.b.map (V.int .u8)) = x.b.map (V.int .u8):=List.take_of_length_le (by omega)
  have pmg:pureOf am g = .pure:=by rcases hg with rfl | rfl <;> rfl
  have gy:g ≠ YLD:=by rcases hg with rfl | rfl <;> decide
  have sr97:setRange zV 0 (.int .i64 x.ps :: x.b.map (V.int .u8)) = .int .i64 x.ps :: x.b.map (V.int .u8):=by
   unfold setRange
   rw [hcvl,show List.drop (0 + 97) zV = [] from rfl,List.append_nil]
   rfl
  unfold zV at sr97
  cases hs:holdsF g x with
  | true =>
   refine ⟨topH H g W (verCs (some x)) ⟨x3.ver + 1,.var x.cs⟩ 2 (some (some 0)),?_,.inr ⟨rfl,x,_,k,rfl,hk,rfl⟩⟩
   unfold topH zV verCs
   refine call_yld (ho:=by rw [app_get]; rfl) (hp:=at45) (hr:=rfl) (hl:=rfl) ?_
   unfold topT
   rw [hs] at c46
   generalize x.cs = X at *
   simp +contextual -implicitDefEqProofs (maxSteps:=10000000) only [sxb,↓sxd,plainD,stays,↓prim_pick,doOp,get,ins,del,dels,Nat.reduceLT,Nat.reduceEqDiff,↓reduceIte,reduceCtorEq,ne_eq,implies_true,prim,YLD,mkA,V.cells,Nat.reduceAdd,Nat.reduceSub,Nat.reduceMul,Nat.reduceLeDiff,loadA,cellsAt,nAg,packA,List.drop,List.take,List.head?,binA,unA,eqCells,eqCell,negB,fillA,storeA,Ob.with,indexedI,V.oneCell,intOf?,resA,resA1,packR,sealDepth,Int.reduceLT,Int.reduceLE,Int.reduceToNat,Int.reduceNeg,Int.reduceAdd,Int.reduceSub,Int.reduceMul,cond_true,cond_false,Int.reduceBNe,Int.reduceBEq,eq_self,deads,List.replicate,argsF,setPs_cons,setPs_nil,app_get0,app_get,app_set0,app_set,hxl,hone,tk,c46,hcv,hvl,hvone,e1,tk96,sr97,cvP_func,gy]
   exact ⟨_,_,_,_,_,rfl,_,_,_,_,_,_,rfl,rfl,rfl⟩
  | false =>
   refine ⟨topH H g W zV ⟨x3.ver + 1,.var x.cs⟩ 0 none,?_,.inl ⟨rfl,_,rfl⟩⟩
   unfold topH zV
   refine call_yld (ho:=by rw [app_get]; rfl) (hp:=at45) (hr:=rfl) (hl:=rfl) ?_
   unfold topT
   rw [hs] at c46
   generalize x.cs = X at *
   simp +contextual -implicitDefEqProofs (maxSteps:=10000000) only [sxb,↓sxd,plainD,stays,↓prim_pick,doOp,get,ins,del,dels,Nat.reduceLT,Nat.reduceEqDiff,↓reduceIte,reduceCtorEq,ne_eq,implies_true,prim,YLD,mkA,V.cells,Nat.reduceAdd,Nat.reduceSub,Nat.reduceMul,Nat.reduceLeDiff,loadA,cellsAt,nAg,packA,List.drop,List.take,List.head?,binA,unA,eqCells,eqCell,negB,fillA,storeA,Ob.with,indexedI,V.oneCell,intOf?,resA,resA1,packR,sealDepth,Int.reduceLT,Int.reduceLE,Int.reduceToNat,Int.reduceNeg,Int.reduceAdd,Int.reduceSub,Int.reduceMul,cond_true,cond_false,Int.reduceBNe,Int.reduceBEq,eq_self,deads,List.replicate,argsF,setPs_cons,setPs_nil,app_get0,app_get,app_set0,app_set,hxl,hone,tk,c46,hcv,hvl,hvone,e1,tk96,sr97,cvP_func,gy]
   exact ⟨_,_,_,_,_,rfl,_,_,_,_,_,_,rfl,rfl,rfl⟩
theorem topW_some {f:Wr → Bool} {l:List Wr} {i:Nat} {x:Wr} (hi:l[i]? = some x) (hx:f x = true) (hl:∀ j y,i < j → l[j]? = some y → f y = false):topW f l = some x:=by
 have hil:=(List.getElem?_eq_some_iff.1 hi).1
 have e:l = l.take i ++ (x :: l.drop (i + 1)):=by
  rw [← (List.getElem?_eq_some_iff.1 hi).2,← List.drop_eq_getElem_cons hil,List.take_append_drop]
 have e2:(l.drop (i + 1)).filter f = []:=by
  rw [List.filter_eq_nil_iff]
  intro y hy
  obtain ⟨j,hj⟩:=List.getElem?_of_mem hy
  rw [List.getElem?_drop] at hj
  simp [hl _ y (by omega) hj]
 unfold topW
 rw [e,List.filter_append,List.filter_cons,if_pos hx,e2]
 simp
theorem topW_none {f:Wr → Bool} {l:List Wr} (h:∀ x ∈ l,f x = false):topW f l = none:=by
 unfold topW
 rw [List.filter_eq_nil_iff.2 fun x hx => by simp [h x hx]]
 rfl
def badP (nn p:Int):Bool:=badA nn (0,1) p 0
set_option maxHeartbeats 1000000 in
theorem top_spec {N n:Nat} (hN:5000 ≤ N) (hn:7 ≤ n) {g:Nat} (hg:g = 46 ∨ g = 48) {H:Heap} {a m:Nat} {nn:Int} {L:List Wr} {Q:List Pg} {O:List Od} (M:Md H a m nn L Q O) {p:Nat} (hb:badP nn p = false) (hL:L.length ≤ 4096) :
  ∃ v' H',callA am N n 45 [.ptr a 1 0,.int .i64 p,.func g [] []] H = some (v',H') ∧ v' = .tup [.agg (verCs (topW (holdsF g) (pgOf L p))),.int .i64 0] ∧ ∃ tl,H' = H ++ tl:=by
 obtain ⟨n,rfl⟩:∃ m,n = m + 4:=⟨n - 4,by omega⟩
 obtain ⟨-,-,pn⟩:=badA_k hb
 have n16:=M.n16
 obtain ⟨q,hq,eq⟩:=M.page (p:=p) (by omega)
 have pl:=pgOf_len L p
 have c29:=fun l => @ask_spec N (n + 3) (by omega) (H ++ l) a m nn Q M.at_.q16 M.n1 (M.app l).at_.ob' (0,1) p 0
 have eA:askE nn (0,1) p 0 = 0:=by unfold askE; rw [show badA nn (0,1) p 0 = false from hb]; rfl
 rw [eA] at c29
 unfold pcs at c29
 simp only at c29
 have oa:∀ l:Heap,(H ++ l)[a]? = some ⟨1,.var (mcs Q nn m)⟩:=fun l => (M.app l).at_.ob'
 have ql:=@mcs_len Q nn m M.at_.q16
 have qp:=@mcs_p Q nn m p q hq
 have hrow:=M.at_.pg q (List.mem_of_getElem? hq)
 rw [eq] at hrow
 obtain ⟨w1,w2,w3,w4,w5,w6⟩:=hrow.shape
 have T:=@top_taker N n H g hg _ _ _ hrow
 obtain ⟨v0,h',c52,rfl,b,K,hI,hall,hleft⟩:=@back_spec N (n + 2) hN (H ++ [⟨1,.var [.func g [] []]⟩,⟨1,.var zV⟩,⟨1,.var zV⟩,⟨0,.dead⟩,⟨1,.loop 0 none (topT H.length g) H.length 45 0⟩,⟨1,.var (pcs (0,1))⟩,⟨1,.var [q.W]⟩]) _ _ _ _ _ _ _ _ T (by omega) (Or.inl ⟨rfl,⟨0,.dead⟩,rfl⟩)
 have hp16:(p:Int) < 16:=by omega
 have hp15:p ≤ 15:=by omega
 have hpl:p + 1 ≤ 18:=by omega
 have hp17:p ≤ 17:=by omega
 have c51:∀ K:Heap,callA am N (n + 3) 51 [q.W] K = some (.func 52 [] [.ptr K.length 1 0],K ++ [⟨1,.var [q.W]⟩]):=fun K => by
  refine call_keep_eq at51 rfl rfl (by decide) (sx_wp ?_)
  simp +contextual -implicitDefEqProofs (maxSteps:=10000000) only [sxb,↓sxd,plainD,stays,↓prim_pick,doOp,get,ins,del,dels,Nat.reduceLT,Nat.reduceEqDiff,↓reduceIte,reduceCtorEq,ne_eq,implies_true,prim,YLD,mkA,V.cells,Nat.reduceAdd,Nat.reduceSub,Nat.reduceMul,Nat.reduceLeDiff,loadA,cellsAt,nAg,packA,List.drop,List.take,List.head?,binA,unA,eqCells,eqCell,negB,fillA,storeA,Ob.with,indexedI,V.oneCell,intOf?,resA,resA1,packR,sealDepth,Int.reduceLT,Int.reduceLE,Int.reduceToNat,Int.reduceNeg,Int.reduceAdd,Int.reduceSub,Int.reduceMul,cond_true,cond_false,Int.reduceBNe,Int.reduceBEq,eq_self,deads,List.replicate,argsF,am51,app_get0,app_set0,w1]
 have g0:((0:Int) != 0) = false:=rfl
 have hres:∃ st pd x3 vv,h' = topH H g q.W vv x3 st pd ∧ st ≠ 1 ∧ (pd = none ∨ pd = some (some 0)) ∧ vv = verCs (topW (holdsF g) (pgOf L p)):=by
  rcases hI with ⟨rfl,x3,rfl⟩ | ⟨rfl,x,x3,k',rfl,hx,rfl⟩
  ·obtain ⟨-,h2⟩:=hall rfl
   exact ⟨0,none,x3,zV,rfl,by decide,.inl rfl,by rw [topW_none h2]; rfl⟩
  ·obtain ⟨k,x',e1,h2,h3,h4,h5⟩:=hleft rfl
   obtain rfl:k = k':=by omega
   rw [hx] at h3
   cases h3
   refine ⟨2,some (some 0),x3,_,rfl,by decide,.inr rfl,?_⟩
   rw [topW_some hx h4 fun j y hj hy => ?_]
   have hjl:=(List.getElem?_eq_some_iff.1 hy).1
   exact h5 ((pgOf L p).length - 1 - j) y (by omega) (by rw [show (pgOf L p).length - 1 - ((pgOf L p).length - 1 - j) = j by omega]; exact hy)
 obtain ⟨st,pd,x3,vv,rfl,hst,hpd,hvv⟩:=hres
 rw [← hvv]
 have hvl:vv.length = 97 ∧ vv.all V.oneCell = true:=by
  rw [hvv]
  cases hx:topW (holdsF g) (pgOf L p) with
  | none => exact ⟨rfl,rfl⟩
  | some x =>
   have hok:=M.ab.ok.ok x (by
    unfold topW at hx
    have:=List.mem_of_getLast? hx
    exact (List.mem_filter.1 (List.mem_filter.1 this).1).1)
   have:=allOne_ints .u8 x.b
   refine ⟨by simp [verCs]; exact hok,?_⟩
   simp only [verCs,List.all_cons,this,V.oneCell,Bool.and_self]
 obtain ⟨hv1,hv2⟩:=hvl
 have hv3:List.take 97 vv = vv:=List.take_of_length_le (by omega)
 have sr97:setRange zV 0 vv = vv:=by
  unfold setRange
  rw [hv1,show List.drop (0 + 97) zV = [] from rfl,List.append_nil]
  rfl
 unfold zV at sr97
 clear hall hleft hI
 refine am45_wp rfl ?_
 generalize mcs Q nn m = cs at *
 simp +contextual -implicitDefEqProofs (maxSteps:=10000000) only [sxb,↓sxd,plainD,stays,↓prim_pick,doOp,get,ins,del,dels,Nat.reduceLT,Nat.reduceEqDiff,↓reduceIte,reduceCtorEq,ne_eq,implies_true,prim,YLD,mkA,V.cells,Nat.reduceAdd,Nat.reduceSub,Nat.reduceMul,Nat.reduceLeDiff,loadA,cellsAt,nAg,packA,List.drop,List.take,List.head?,binA,unA,eqCells,eqCell,negB,fillA,storeA,Ob.with,indexedI,V.oneCell,intOf?,resA,resA1,packR,sealDepth,Int.reduceLT,Int.reduceLE,Int.reduceToNat,Int.reduceNeg,Int.reduceAdd,Int.reduceSub,Int.reduceMul,cond_true,cond_false,Int.reduceBNe,Int.reduceBEq,eq_self,deads,List.replicate,argsF,am45,app_get0,app_get,app_set0,app_set,c29,g0,oa,ql,qp,hp16,hp15,hpl,hp17,c51,w1,List.length_append,List.append_assoc]
 refine sx_rangeF (x:=⟨0,.dead⟩) (g:=52) (xs:=[]) (ys:=[.ptr (H.length + 6) 1 0]) (by rw [app_get]; rfl) rfl (by rw [app_set]; exact c52) (by show (topH _ _ _ _ _ _ _)[_]? = _; unfold topH; rw [app_get]; rfl) hst ?_
 unfold topH zV
 rcases hpd with rfl | rfl <;>
 ·simp +contextual -implicitDefEqProofs (maxSteps:=10000000) only [sxb,↓sxd,plainD,stays,↓prim_pick,doOp,get,ins,del,dels,Nat.reduceLT,Nat.reduceEqDiff,↓reduceIte,reduceCtorEq,ne_eq,implies_true,prim,YLD,mkA,V.cells,Nat.reduceAdd,Nat.reduceSub,Nat.reduceMul,Nat.reduceLeDiff,loadA,cellsAt,nAg,packA,List.drop,List.take,List.head?,binA,unA,eqCells,eqCell,negB,fillA,storeA,Ob.with,indexedI,V.oneCell,intOf?,resA,resA1,packR,sealDepth,Int.reduceLT,Int.reduceLE,Int.reduceToNat,Int.reduceNeg,Int.reduceAdd,Int.reduceSub,Int.reduceMul,cond_true,cond_false,Int.reduceBNe,Int.reduceBEq,eq_self,deads,List.replicate,argsF,app_get0,app_get,app_set0,app_set,jumpE,hv1,hv2,hv3,sr97]
  exact ⟨_,rfl⟩
end Go.Am.T


set_option linter.unusedVariables false
set_option linter.unusedSimpArgs false
set_option linter.unusedSectionVars false
set_option maxRecDepth 10000
namespace Go.Am.T
attribute [local congr] selV_congr impB_congr
def bdL (x:Int):List Int:=x :: List.replicate 95 0
def Apart (a m:Nat) (Q:List Pg) (O:List Od) (b k:Nat) (Q2:List Pg) (O2:List Od):Prop:=∀ x,Own a m Q O x → ¬ Own b k Q2 O2 x
theorem Md.beside {H H':Heap} {a m b k:Nat} {kk:Int} {L2:List Wr} {Q Q' Q2:List Pg} {O O' O2:List Od} (M2:Md H b k kk L2 Q2 O2) (B:Bey H H' a m Q Q' O O') (hd:Apart a m Q O b k Q2 O2):Md H' b k kk L2 Q2 O2 ∧ Apart a m Q' O' b k Q2 O2:=by
 refine ⟨M2.keep fun x hx => B.oth x (M2.at_.lt x hx) fun e => hd x e hx,fun x hx hx2 => ?_⟩
 rcases B.new x hx with h | h
 ·exact hd x h hx2
 ·have:=M2.at_.lt x hx2
  omega
theorem Apart.symm {a m b k:Nat} {Q Q2:List Pg} {O O2:List Od} (h:Apart a m Q O b k Q2 O2):Apart b k Q2 O2 a m Q O:=fun x h1 h2 => h x h2 h1
theorem new_md {N n:Nat} (hn:1 ≤ n) {nn:Int} (h1:1 ≤ nn) (h2:nn ≤ 16) (H:Heap):∃ tl,callA am N n 8 [.int .i64 nn] H = some (.tup [.ptr (H.length + 1) 1 0,.int .i64 0],H ++ tl) ∧ Md (H ++ tl) (H.length + 1) H.length nn [] noQ [] ∧ ∀ x,Own (H.length + 1) H.length noQ [] x → H.length ≤ x:=by
 refine ⟨_,new_spec hn h1 h2 H,⟨new_at (by rw [app_get]; rfl) (by rw [app_get0]; rfl) (by omega),Ab.new nn,h1,h2⟩,?_⟩
 rintro x (rfl | rfl | ⟨q,hq,hx⟩ | ⟨o,ho,-⟩)
 ·omega
 ·omega
 ·rw [(List.mem_replicate.1 hq).2] at hx
  cases hx
 ·cases ho
theorem new_bad {N n:Nat} (hn:1 ≤ n) {nn:Int} (h:nn < 1 ∨ nn > 16) (H:Heap):∃ tl,callA am N n 8 [.int .i64 nn] H = some (.tup [.nilp,.int .i64 2],H ++ tl):=by
 obtain ⟨n,rfl⟩:∃ m,n = m + 1:=⟨n - 1,by omega⟩
 refine ⟨[⟨0,.dead⟩,⟨0,.dead⟩],am8_wp rfl ?_⟩
 by_cases h1:nn < 1
 ·have g1:decide (nn < 1) = true:=decide_eq_true h1
  simp +contextual -implicitDefEqProofs (maxSteps:=10000000) only [sxb,↓sxd,plainD,stays,↓prim_pick,doOp,get,ins,del,dels,Nat.reduceLT,Nat.reduceEqDiff,↓reduceIte,reduceCtorEq,ne_eq,implies_true,prim,YLD,mkA,V.cells,Nat.reduceAdd,Nat.reduceSub,Nat.reduceMul,Nat.reduceLeDiff,loadA,cellsAt,nAg,packA,List.drop,List.take,List.head?,binA,unA,eqCells,eqCell,negB,fillA,storeA,Ob.with,indexedI,V.oneCell,intOf?,resA,resA1,packR,sealDepth,Int.reduceLT,Int.reduceLE,Int.reduceToNat,Int.reduceNeg,Int.reduceAdd,Int.reduceSub,Int.reduceMul,cond_true,cond_false,Int.reduceBNe,Int.reduceBEq,eq_self,deads,List.replicate,argsF,am8,g1]
 ·have g1:decide (nn < 1) = false:=decide_eq_false h1
  have g2:decide (nn > 16) = true:=decide_eq_true (by omega)
  simp +contextual -implicitDefEqProofs (maxSteps:=10000000) only [sxb,↓sxd,plainD,stays,↓prim_pick,doOp,get,ins,del,dels,Nat.reduceLT,Nat.reduceEqDiff,↓reduceIte,reduceCtorEq,ne_eq,implies_true,prim,YLD,mkA,V.cells,Nat.reduceAdd,Nat.reduceSub,Nat.reduceMul,Nat.reduceLeDiff,loadA,cellsAt,nAg,packA,List.drop,List.take,List.head?,binA,unA,eqCells,eqCell,negB,fillA,storeA,Ob.with,indexedI,V.oneCell,intOf?,resA,resA1,packR,sealDepth,Int.reduceLT,Int.reduceLE,Int.reduceToNat,Int.reduceNeg,Int.reduceAdd,Int.reduceSub,Int.reduceMul,cond_true,cond_false,Int.reduceBNe,Int.reduceBEq,eq_self,deads,List.replicate,argsF,am8,g1,g2]
end Go.Am.T


set_option linter.unusedVariables false
set_option linter.unusedSimpArgs false
set_option linter.unusedSectionVars false
set_option maxRecDepth 10000
namespace Go.Am.T
attribute [local congr] selV_congr impB_congr
structure RefAt (H:Heap) (r:Nat) (pages:Int) (L:List Wr) (W:V) (R:List Nat):Prop where
 ob:H[r]? = some ⟨1,.var [.int .i64 pages,W]⟩
 row:PRow H W L R
 nr:r ∉ R
theorem RefAt.lt {H:Heap} {r:Nat} {pages:Int} {L:List Wr} {W:V} {R:List Nat} (h:RefAt H r pages L W R):r < H.length:=lt_of_get h.ob
theorem RefAt.keep {H H':Heap} {r:Nat} {pages:Int} {L:List Wr} {W:V} {R:List Nat} (h:RefAt H r pages L W R) (h1:H'[r]? = H[r]?) (h2:∀ o ∈ R,H'[o]? = H[o]?):RefAt H' r pages L W R :=
 ⟨by rw [h1]; exact h.ob,h.row.keep h2,h.nr⟩
theorem RefAt.app {H:Heap} {r:Nat} {pages:Int} {L:List Wr} {W:V} {R:List Nat} (h:RefAt H r pages L W R) (l:Heap):RefAt (H ++ l) r pages L W R :=
 h.keep (List.getElem?_append_left h.lt) (fun o ho => List.getElem?_append_left (h.row.lt o ho))
theorem am37_wp {N n:Nat} {args:List V} {h:Heap} {C:V → Heap → Prop} (ha:args.length = 2) (H:sx ⟨pureOf am,callA am N n,N,h.length⟩ am37.body (fr am37.nt (argsF 0 args)) (h ++ deads am37.sites) (retQ am37.res C)):∃ v h',callA am N (n + 1) 37 args h = some (v,h') ∧ C v h' :=
 call_keep at37 rfl ha (by decide) (sx_wp H)
theorem am38_wp {N n:Nat} {args:List V} {h:Heap} {C:V → Heap → Prop} (ha:args.length = 2) (H:sx ⟨pureOf am,callA am N n,N,h.length⟩ am38.body (fr am38.nt (argsF 0 args)) (h ++ deads am38.sites) (retQ am38.res C)):∃ v h',callA am N (n + 1) 38 args h = some (v,h') ∧ C v h' :=
 call_keep at38 rfl ha (by decide) (sx_wp H)
structure Coll (H:Heap) (k:Nat) (l:List Wr) (W:V) (R:List Nat) (h:Heap):Prop where
 len:h.length = H.length + k
 low:∀ o,o < H.length → h[o]? = H[o]?
 row:PRow h W l R
 new:∀ o ∈ R,H.length ≤ o
theorem Coll.keepRef {H:Heap} {k:Nat} {l:List Wr} {W:V} {R:List Nat} {h:Heap} (C:Coll H k l W R h) {r:Nat} {pages:Int} {L:List Wr} {W2:V} {R2:List Nat} (hr:RefAt H r pages L W2 R2):RefAt h r pages L W2 R2 :=
 hr.keep (C.low _ hr.lt) (fun o ho => C.low _ (hr.row.lt o ho))
theorem Coll.tl {H:Heap} {k:Nat} {l:List Wr} {W:V} {R:List Nat} {h:Heap} (C:Coll H k l W R h):∃ tl,h = H ++ tl:=by
 refine ⟨h.drop H.length,List.ext_getElem? fun i => ?_⟩
 rcases Nat.lt_or_ge i H.length with hi | hi
 ·rw [List.getElem?_append_left hi,C.low i hi]
 ·rw [List.getElem?_append_right hi,List.getElem?_drop]
  congr 1
  omega
theorem Coll.add {H:Heap} {k:Nat} {l:List Wr} {W:V} {R:List Nat} {h:Heap} (C:Coll H k l W R h) {j:Nat} (hj:j < k) {x:Wr} (hx:x.Ok) (hl:l.length ≤ 4096) :
  ∃ o1 y W',appendA (fun o => h[o]?) (H.length + j) 101 136 W (.sl [.agg x.cs] 101 (some 1)) = some (.set o1 y W') ∧ Coll H k (l ++ [x]) W' [o1] (h.set o1 y) ∧ o1 < h.length ∧ (o1 = H.length + j ∨ o1 ∈ R):=by
 have hlt:H.length + j < h.length:=by rw [C.len]; omega
 obtain ⟨o1,y,W',h1,h2,h3,h4⟩:=C.row.append (x:=x) hx (List.getElem?_eq_getElem hlt) (by omega)
 have ho:H.length ≤ o1:=by
  rcases h3 with rfl | h3
  ·omega
  ·exact C.new o1 h3
 refine ⟨o1,y,W',h1,⟨by simp [C.len],fun o hlo => ?_,h2,fun o ho' => ?_⟩,h4,h3⟩
 ·rw [List.getElem?_set_ne (by omega)]
  exact C.low o hlo
 ·obtain rfl:o = o1:=by simpa using ho'
  exact ho
theorem Coll.nil {H:Heap} {h:Heap} {k:Nat} (hl:h.length = H.length + k) (hlow:∀ o,o < H.length → h[o]? = H[o]?):Coll H k [] .nils [] h :=
 ⟨hl,hlow,⟨by simp,.inl ⟨rfl,.inl rfl,rfl⟩⟩,by simp⟩
set_option maxHeartbeats 1000000 in
theorem of_spec {N n:Nat} (hN:5000 ≤ N) (hn:1 ≤ n) {H:Heap} {r:Nat} {pages:Int} {L:List Wr} {W:V} {R:List Nat} (h:RefAt H r pages L W R) (hL:L.length ≤ 4096) (p:Int) :
  ∃ v' H',callA am N n 37 [.ptr r 1 0,.int .i64 p] H = some (v',H') ∧ ∃ R',Coll H 1 (pgOf L p) v' R' H':=by
 obtain ⟨n,rfl⟩:∃ m,n = m + 1:=⟨n - 1,by omega⟩
 refine am37_wp rfl ?_
 simp +contextual -implicitDefEqProofs (maxSteps:=10000000) only [sxb,↓sxd,plainD,stays,↓prim_pick,doOp,get,ins,del,dels,Nat.reduceLT,Nat.reduceEqDiff,↓reduceIte,reduceCtorEq,ne_eq,implies_true,prim,YLD,mkA,V.cells,Nat.reduceAdd,Nat.reduceSub,Nat.reduceMul,Nat.reduceLeDiff,loadA,cellsAt,nAg,packA,List.drop,List.take,List.head?,binA,unA,eqCells,eqCell,negB,fillA,storeA,Ob.with,indexedI,V.oneCell,intOf?,resA,resA1,packR,sealDepth,Int.reduceLT,Int.reduceLE,Int.reduceToNat,Int.reduceNeg,Int.reduceAdd,Int.reduceSub,Int.reduceMul,cond_true,cond_false,Int.reduceBNe,Int.reduceBEq,eq_self,deads,List.replicate,argsF,am37]
 refine sx_loop (fun i t h' => ∃ Wa Ra,t = fr 41 [(0,.ptr r 1 0),(1,.int .i64 p),(5,Wa),(6,.int .i64 (i:Nat))] ∧ i ≤ L.length ∧ Coll H 1 (pgOf (L.take i) p) Wa Ra h') 4096 (by show 4096 < N; omega) ⟨.nils,[],rfl,Nat.zero_le _,Coll.nil (by simp) fun o ho => List.getElem?_append_left ho⟩ ?_
 rintro i t h' hi ⟨Wa,Ra,rfl,hiL,C⟩
 have hr:=C.keepRef h
 have hob:=hr.ob
 have l1:loadA (fun o => h'[o]?) 1 (.ptr r 1 1) = some [W]:=by simp [loadA,cellsAt,hob]
 have hlen:=hr.row.len
 obtain ⟨w1,w2,w3,w4,w5,w6⟩:=hr.row.shape
 obtain ⟨v1,v2,v3,v4,v5,v6⟩:=C.row.shape
 by_cases hlt:i < L.length
 case neg =>
  have:i = L.length:=by omega
  subst this
  have g1:decide ((L.length:Int) < (L.length:Int)) = false:=decide_eq_false (by omega)
  rw [List.take_length] at C
  simp +contextual -implicitDefEqProofs (maxSteps:=10000000) only [sxb,↓sxd,plainD,stays,↓prim_pick,doOp,get,ins,del,dels,Nat.reduceLT,Nat.reduceEqDiff,↓reduceIte,reduceCtorEq,ne_eq,implies_true,prim,YLD,mkA,V.cells,Nat.reduceAdd,Nat.reduceSub,Nat.reduceMul,Nat.reduceLeDiff,loadA,cellsAt,nAg,packA,List.drop,List.take,List.head?,binA,unA,eqCells,eqCell,negB,fillA,storeA,Ob.with,indexedI,V.oneCell,intOf?,resA,resA1,packR,sealDepth,Int.reduceLT,Int.reduceLE,Int.reduceToNat,Int.reduceNeg,Int.reduceAdd,Int.reduceSub,Int.reduceMul,cond_true,cond_false,Int.reduceBNe,Int.reduceBEq,eq_self,deads,List.replicate,argsF,isNil,l1,hlen,g1,-loadA]
  exact ⟨_,C⟩
 have g1:decide ((i:Int) < (L.length:Int)) = true:=decide_eq_true (by omega)
 have hwr:IntKind.i64.wrap ((i:Int) + 1) = ((i + 1:Nat):Int):=(wrap64 (by omega) (by omega)).trans (by omega)
 have hx:L[i]? = some L[i]:=List.getElem?_eq_getElem hlt
 generalize L[i] = x at hx
 obtain ⟨o1,ver1,rd⟩:=hr.row.read (by intro e; rw [e] at hlt; simp at hlt)
 obtain ⟨xok,xi,xr⟩:=rd i x hx
 have x2:=(xr 2 1 (by decide)).trans (congrArg some (show (x.cs.drop 2).take 1 = [V.int .i64 x.pg] from rfl))
 have hcl:=Wr.len xok
 have htk:List.take 101 x.cs = x.cs:=List.take_of_length_le (by omega)
 have xall:=xr 0 101 (by decide)
 rw [List.drop_zero,htk,Nat.add_zero] at xall
 have hone:=x.one
 have hts:L.take (i + 1) = L.take i ++ [x]:=by rw [List.take_add_one,hx]; rfl
 have hpl:=pgOf_len (L.take i) p
 have htl:(L.take i).length ≤ L.length:=by rw [List.length_take]; omega
 have r1:List.range 1 = [0]:=rfl
 have wr:wrapV x.cs = .agg x.cs:=rfl
 by_cases hp:x.pg = p
 ·have g2:(x.pg == p) = true:=by simpa using hp
  obtain ⟨o2,y,W',hA,C2,ho2,ho3⟩:=C.add (j:=0) (by omega) xok (by omega)
  rw [Nat.add_zero] at hA
  have e:pgOf (L.take (i + 1)) p = pgOf (L.take i) p ++ [x]:=by rw [hts,pgOf_app,pgOf_one,if_pos hp]
  rw [← e] at C2
  obtain ⟨u1,u2,u3,u4,u5,u6⟩:=C2.row.shape
  simp +contextual -implicitDefEqProofs (maxSteps:=10000000) only [sxb,↓sxd,plainD,stays,↓prim_pick,doOp,get,ins,del,dels,Nat.reduceLT,Nat.reduceEqDiff,↓reduceIte,reduceCtorEq,ne_eq,implies_true,prim,YLD,mkA,V.cells,Nat.reduceAdd,Nat.reduceSub,Nat.reduceMul,Nat.reduceLeDiff,loadA,cellsAt,nAg,packA,List.drop,List.take,List.head?,binA,unA,eqCells,eqCell,negB,fillA,storeA,Ob.with,indexedI,V.oneCell,intOf?,resA,resA1,packR,sealDepth,Int.reduceLT,Int.reduceLE,Int.reduceToNat,Int.reduceNeg,Int.reduceAdd,Int.reduceSub,Int.reduceMul,cond_true,cond_false,Int.reduceBNe,Int.reduceBEq,eq_self,deads,List.replicate,argsF,isNil,l1,hlen,g1,hwr,xi,x2,xall,g2,r1,wr,htk,hcl,hone,hA,hlt,-loadA]
  exact ⟨by omega,W',[o2],rfl,by omega,C2⟩
 ·have g2:(x.pg == p) = false:=by simpa using hp
  have e:pgOf (L.take (i + 1)) p = pgOf (L.take i) p:=by rw [hts,pgOf_app,pgOf_one,if_neg hp,List.append_nil]
  rw [← e] at C
  simp +contextual -implicitDefEqProofs (maxSteps:=10000000) only [sxb,↓sxd,plainD,stays,↓prim_pick,doOp,get,ins,del,dels,Nat.reduceLT,Nat.reduceEqDiff,↓reduceIte,reduceCtorEq,ne_eq,implies_true,prim,YLD,mkA,V.cells,Nat.reduceAdd,Nat.reduceSub,Nat.reduceMul,Nat.reduceLeDiff,loadA,cellsAt,nAg,packA,List.drop,List.take,List.head?,binA,unA,eqCells,eqCell,negB,fillA,storeA,Ob.with,indexedI,V.oneCell,intOf?,resA,resA1,packR,sealDepth,Int.reduceLT,Int.reduceLE,Int.reduceToNat,Int.reduceNeg,Int.reduceAdd,Int.reduceSub,Int.reduceMul,cond_true,cond_false,Int.reduceBNe,Int.reduceBEq,eq_self,deads,List.replicate,argsF,isNil,l1,hlen,g1,hwr,xi,x2,xall,g2,hlt,-loadA]
  exact ⟨by omega,Wa,Ra,rfl,by omega,C⟩
def volL (w:Int × Int) (L:List Wr):List Wr:=L.filter (vol w)
theorem volL_snoc (w:Int × Int) (L:List Wr) (x:Wr):volL w (L ++ [x]) = if vol w x = true then volL w L ++ [x] else volL w L:=by
 unfold volL
 rw [List.filter_append,List.filter_cons]
 split <;> simp
set_option maxHeartbeats 1000000 in
theorem vref_spec {N n:Nat} (hN:5000 ≤ N) (hn:1 ≤ n) {H:Heap} {r:Nat} {pages:Int} {L:List Wr} {W:V} {R:List Nat} (h:RefAt H r pages L W R) (hL:L.length ≤ 4096) (w:Int × Int) :
  ∃ v' H',callA am N n 38 [.ptr r 1 0,.agg (pcs w)] H = some (v',H') ∧ ∃ R',Coll H 2 (volL w L) v' R' H':=by
 obtain ⟨n,rfl⟩:∃ m,n = m + 1:=⟨n - 1,by omega⟩
 obtain ⟨nd,ep⟩:=w
 unfold pcs
 refine am38_wp rfl ?_
 simp +contextual -implicitDefEqProofs (maxSteps:=10000000) only [sxb,↓sxd,plainD,stays,↓prim_pick,doOp,get,ins,del,dels,Nat.reduceLT,Nat.reduceEqDiff,↓reduceIte,reduceCtorEq,ne_eq,implies_true,prim,YLD,mkA,V.cells,Nat.reduceAdd,Nat.reduceSub,Nat.reduceMul,Nat.reduceLeDiff,loadA,cellsAt,nAg,packA,List.drop,List.take,List.head?,binA,unA,eqCells,eqCell,negB,fillA,storeA,Ob.with,indexedI,V.oneCell,intOf?,resA,resA1,packR,sealDepth,Int.reduceLT,Int.reduceLE,Int.reduceToNat,Int.reduceNeg,Int.reduceAdd,Int.reduceSub,Int.reduceMul,cond_true,cond_false,Int.reduceBNe,Int.reduceBEq,eq_self,deads,List.replicate,argsF,am38,app_get0,app_get,app_set0,app_set]
 refine sx_loop (fun i t h' => ∃ Wa Ra,t = fr 52 [(0,.ptr r 1 0),(3,.ptr H.length 1 0),(5,Wa),(6,.int .i64 (i:Nat))] ∧ i ≤ L.length ∧ Coll H 2 (volL (nd,ep) (L.take i)) Wa Ra h' ∧ h'[H.length]? = some ⟨1,.var [.int .i64 nd,.int .i64 ep]⟩ ∧ ∀ o ∈ Ra,H.length + 1 ≤ o) 4096 (by show 4096 < N; omega)
  ⟨.nils,[],rfl,Nat.zero_le _,Coll.nil (by simp) fun o ho => List.getElem?_append_left ho,by rw [app_get0]; rfl,by simp⟩ ?_
 rintro i t h' hi ⟨Wa,Ra,rfl,hiL,C,hb0,hRa⟩
 have hr:=C.keepRef h
 have hob:=hr.ob
 have l1:loadA (fun o => h'[o]?) 1 (.ptr r 1 1) = some [W]:=by simp [loadA,cellsAt,hob]
 have l2:loadA (fun o => h'[o]?) 2 (.ptr H.length 1 0) = some [.int .i64 nd,.int .i64 ep]:=by simp [loadA,cellsAt,hb0]
 have hlen:=hr.row.len
 obtain ⟨w1,w2,w3,w4,w5,w6⟩:=hr.row.shape
 obtain ⟨v1,v2,v3,v4,v5,v6⟩:=C.row.shape
 by_cases hlt:i < L.length
 case neg =>
  have:i = L.length:=by omega
  subst this
  have g1:decide ((L.length:Int) < (L.length:Int)) = false:=decide_eq_false (by omega)
  rw [List.take_length] at C
  simp +contextual -implicitDefEqProofs (maxSteps:=10000000) only [sxb,↓sxd,plainD,stays,↓prim_pick,doOp,get,ins,del,dels,Nat.reduceLT,Nat.reduceEqDiff,↓reduceIte,reduceCtorEq,ne_eq,implies_true,prim,YLD,mkA,V.cells,Nat.reduceAdd,Nat.reduceSub,Nat.reduceMul,Nat.reduceLeDiff,loadA,cellsAt,nAg,packA,List.drop,List.take,List.head?,binA,unA,eqCells,eqCell,negB,fillA,storeA,Ob.with,indexedI,V.oneCell,intOf?,resA,resA1,packR,sealDepth,Int.reduceLT,Int.reduceLE,Int.reduceToNat,Int.reduceNeg,Int.reduceAdd,Int.reduceSub,Int.reduceMul,cond_true,cond_false,Int.reduceBNe,Int.reduceBEq,eq_self,deads,List.replicate,argsF,isNil,l1,hlen,g1,-loadA]
  exact ⟨_,C⟩
 have g1:decide ((i:Int) < (L.length:Int)) = true:=decide_eq_true (by omega)
 have hwr:IntKind.i64.wrap ((i:Int) + 1) = ((i + 1:Nat):Int):=(wrap64 (by omega) (by omega)).trans (by omega)
 have hx:L[i]? = some L[i]:=List.getElem?_eq_getElem hlt
 generalize L[i] = x at hx
 obtain ⟨o1,ver1,rd⟩:=hr.row.read (by intro e; rw [e] at hlt; simp at hlt)
 obtain ⟨xok,xi,xr⟩:=rd i x hx
 have x0:=(xr 0 2 (by decide)).trans (congrArg some x.c0)
 have xd:=(xr 100 1 (by decide)).trans (congrArg some (Wr.cd xok))
 have hcl:=Wr.len xok
 have htk:List.take 101 x.cs = x.cs:=List.take_of_length_le (by omega)
 have xall:=xr 0 101 (by decide)
 rw [List.drop_zero,htk,Nat.add_zero] at xall
 rw [Nat.add_zero] at x0
 have hone:=x.one
 have hts:L.take (i + 1) = L.take i ++ [x]:=by rw [List.take_add_one,hx]; rfl
 have hpl:(volL (nd,ep) (L.take i)).length ≤ (L.take i).length:=List.length_filter_le _ _
 have htl:(L.take i).length ≤ L.length:=by rw [List.length_take]; omega
 have r1:List.range 1 = [0]:=rfl
 have wr:wrapV x.cs = .agg x.cs:=rfl
 have hvq:((x.nd == nd && x.ep == ep) && !x.du) = vol (nd,ep) x:=by
  unfold vol Wr.who
  rw [Bool.and_comm]
  rfl
 by_cases hv:vol (nd,ep) x = true
 ·obtain ⟨q1,q2⟩:=vol_iff.1 hv
  unfold Wr.who at q2
  simp only [Prod.mk.injEq] at q2
  rw [q1] at xd
  rw [q2.1,q2.2] at x0
  obtain ⟨o2,y,W',hA,C2,ho2,ho3⟩:=C.add (j:=1) (by omega) xok (by omega)
  have e:volL (nd,ep) (L.take (i + 1)) = volL (nd,ep) (L.take i) ++ [x]:=by rw [hts,volL_snoc,if_pos hv]
  rw [← e] at C2
  obtain ⟨u1,u2,u3,u4,u5,u6⟩:=C2.row.shape
  have ho2':H.length + 1 ≤ o2:=by
   rcases ho3 with h | h
   ·omega
   ·exact hRa _ h
  simp +contextual -implicitDefEqProofs (maxSteps:=10000000) only [sxb,↓sxd,plainD,stays,↓prim_pick,doOp,get,ins,del,dels,Nat.reduceLT,Nat.reduceEqDiff,↓reduceIte,reduceCtorEq,ne_eq,implies_true,prim,YLD,mkA,V.cells,Nat.reduceAdd,Nat.reduceSub,Nat.reduceMul,Nat.reduceLeDiff,loadA,cellsAt,nAg,packA,List.drop,List.take,List.head?,binA,unA,eqCells,eqCell,negB,fillA,storeA,Ob.with,indexedI,V.oneCell,intOf?,resA,resA1,packR,sealDepth,Int.reduceLT,Int.reduceLE,Int.reduceToNat,Int.reduceNeg,Int.reduceAdd,Int.reduceSub,Int.reduceMul,cond_true,cond_false,Int.reduceBNe,Int.reduceBEq,eq_self,deads,List.replicate,argsF,isNil,l1,l2,hlen,g1,hwr,xi,x0,xd,xall,eqCells,eqCell,beq_self_eq_true,r1,wr,htk,hcl,hone,hA,hlt,-loadA]
  exact ⟨by omega,W',[o2],rfl,by omega,C2,by rw [List.getElem?_set_ne (by omega)]; exact hb0,by simpa using ho2'⟩
 ·have e:volL (nd,ep) (L.take (i + 1)) = volL (nd,ep) (L.take i):=by rw [hts,volL_snoc,if_neg hv]
  rw [← e] at C
  have hvf:vol (nd,ep) x = false:=by simpa using hv
  rw [hvf] at hvq
  cases hw:(x.nd == nd && x.ep == ep) with
  | false =>
   simp +contextual -implicitDefEqProofs (maxSteps:=10000000) only [sxb,↓sxd,plainD,stays,↓prim_pick,doOp,get,ins,del,dels,Nat.reduceLT,Nat.reduceEqDiff,↓reduceIte,reduceCtorEq,ne_eq,implies_true,prim,YLD,mkA,V.cells,Nat.reduceAdd,Nat.reduceSub,Nat.reduceMul,Nat.reduceLeDiff,loadA,cellsAt,nAg,packA,List.drop,List.take,List.head?,binA,unA,eqCells,eqCell,negB,fillA,storeA,Ob.with,indexedI,V.oneCell,intOf?,resA,resA1,packR,sealDepth,Int.reduceLT,Int.reduceLE,Int.reduceToNat,Int.reduceNeg,Int.reduceAdd,Int.reduceSub,Int.reduceMul,cond_true,cond_false,Int.reduceBNe,Int.reduceBEq,eq_self,deads,List.replicate,argsF,isNil,l1,l2,hlen,g1,hwr,xi,x0,xd,xall,eqCells,eqCell,hw,hlt,-loadA]
   exact ⟨by omega,Wa,Ra,rfl,by omega,C,hb0,hRa⟩
  | true =>
   rw [hw] at hvq
   have hdu:x.du = true:=by simpa using hvq
   rw [hdu] at xd
   simp +contextual -implicitDefEqProofs (maxSteps:=10000000) only [sxb,↓sxd,plainD,stays,↓prim_pick,doOp,get,ins,del,dels,Nat.reduceLT,Nat.reduceEqDiff,↓reduceIte,reduceCtorEq,ne_eq,implies_true,prim,YLD,mkA,V.cells,Nat.reduceAdd,Nat.reduceSub,Nat.reduceMul,Nat.reduceLeDiff,loadA,cellsAt,nAg,packA,List.drop,List.take,List.head?,binA,unA,eqCells,eqCell,negB,fillA,storeA,Ob.with,indexedI,V.oneCell,intOf?,resA,resA1,packR,sealDepth,Int.reduceLT,Int.reduceLE,Int.reduceToNat,Int.reduceNeg,Int.reduceAdd,Int.reduceSub,Int.reduceMul,cond_true,cond_false,Int.reduceBNe,Int.reduceBEq,eq_self,deads,List.replicate,argsF,isNil,l1,l2,hlen,g1,hwr,xi,x0,xd,xall,eqCells,eqCell,hw,hlt,-loadA]
   exact ⟨by omega,Wa,Ra,rfl,by omega,C,hb0,hRa⟩
end Go.Am.T


set_option linter.unusedVariables false
set_option linter.unusedSimpArgs false
set_option linter.unusedSectionVars false
set_option maxRecDepth 10000
namespace Go.Am.T
attribute [local congr] selV_congr impB_congr
set_option maxHeartbeats 1000000 in
theorem of_specI {N n:Nat} (hN:5000 ≤ N) (hn:1 ≤ n) {H:Heap} {pages:Int} {L:List Wr} {m:V} (h:IsL m 101 (L.map Wr.cs)) (hok:∀ x ∈ L,x.Ok) (hL:L.length ≤ 4096) (p:Int) :
  ∃ v' H',callA am N n 37 [.iptr [.int .i64 pages,m] 0,.int .i64 p] H = some (v',H') ∧ ∃ R',Coll H 1 (pgOf L p) v' R' H':=by
 obtain ⟨n,rfl⟩:∃ m,n = m + 1:=⟨n - 1,by omega⟩
 refine am37_wp rfl ?_
 simp +contextual -implicitDefEqProofs (maxSteps:=10000000) only [sxb,↓sxd,plainD,stays,↓prim_pick,doOp,get,ins,del,dels,Nat.reduceLT,Nat.reduceEqDiff,↓reduceIte,reduceCtorEq,ne_eq,implies_true,prim,YLD,mkA,V.cells,Nat.reduceAdd,Nat.reduceSub,Nat.reduceMul,Nat.reduceLeDiff,loadA,cellsAt,nAg,packA,List.drop,List.take,List.head?,binA,unA,eqCells,eqCell,negB,fillA,storeA,Ob.with,indexedI,V.oneCell,intOf?,resA,resA1,packR,sealDepth,Int.reduceLT,Int.reduceLE,Int.reduceToNat,Int.reduceNeg,Int.reduceAdd,Int.reduceSub,Int.reduceMul,cond_true,cond_false,Int.reduceBNe,Int.reduceBEq,eq_self,deads,List.replicate,argsF,am37]
 refine sx_loop (fun i t h' => ∃ Wa Ra,t = fr 41 [(0,.iptr [.int .i64 pages,m] 0),(1,.int .i64 p),(5,Wa),(6,.int .i64 (i:Nat))] ∧ i ≤ L.length ∧ Coll H 1 (pgOf (L.take i) p) Wa Ra h') 4096 (by show 4096 < N; omega) ⟨.nils,[],rfl,Nat.zero_le _,Coll.nil (by simp) fun o ho => List.getElem?_append_left ho⟩ ?_
 rintro i t h' hi ⟨Wa,Ra,rfl,hiL,C⟩
 have l1:loadA (fun o => h'[o]?) 1 (.iptr [.int .i64 pages,m] 1) = some [m]:=rfl
 have hlen:=h.len
 rw [List.length_map] at hlen
 have hnstr:=h.nstr
 obtain ⟨v1,v2,v3,v4,v5,v6⟩:=C.row.shape
 by_cases hlt:i < L.length
 case neg =>
  have:i = L.length:=by omega
  subst this
  have g1:decide ((L.length:Int) < (L.length:Int)) = false:=decide_eq_false (by omega)
  rw [List.take_length] at C
  simp +contextual -implicitDefEqProofs (maxSteps:=10000000) only [sxb,↓sxd,plainD,stays,↓prim_pick,doOp,get,ins,del,dels,Nat.reduceLT,Nat.reduceEqDiff,↓reduceIte,reduceCtorEq,ne_eq,implies_true,prim,YLD,mkA,V.cells,Nat.reduceAdd,Nat.reduceSub,Nat.reduceMul,Nat.reduceLeDiff,loadA,cellsAt,nAg,packA,List.drop,List.take,List.head?,binA,unA,eqCells,eqCell,negB,fillA,storeA,Ob.with,indexedI,V.oneCell,intOf?,resA,resA1,packR,sealDepth,Int.reduceLT,Int.reduceLE,Int.reduceToNat,Int.reduceNeg,Int.reduceAdd,Int.reduceSub,Int.reduceMul,cond_true,cond_false,Int.reduceBNe,Int.reduceBEq,eq_self,deads,List.replicate,argsF,isNil,l1,hlen,hnstr,g1,-loadA]
  exact ⟨_,C⟩
 have g1:decide ((i:Int) < (L.length:Int)) = true:=decide_eq_true (by omega)
 have hwr:IntKind.i64.wrap ((i:Int) + 1) = ((i + 1:Nat):Int):=(wrap64 (by omega) (by omega)).trans (by omega)
 have hx:L[i]? = some L[i]:=List.getElem?_eq_getElem hlt
 generalize L[i] = x at hx
 have xok:=hok x (List.mem_of_getElem? hx)
 have xi:=h.at_ i
 rw [List.getElem?_map,hx] at xi
 simp only [Option.map_some] at xi
 have hcl:=Wr.len xok
 have htk:List.take 101 x.cs = x.cs:=List.take_of_length_le (by omega)
 have x2:loadA (fun o => h'[o]?) 1 (.iptr x.cs 2) = some [.int .i64 x.pg]:=by
  simp only [loadA,hcl]
  rfl
 have xall:loadA (fun o => h'[o]?) 101 (.iptr x.cs 0) = some x.cs:=by simp [loadA,hcl,htk]
 have hone:=x.one
 have hts:L.take (i + 1) = L.take i ++ [x]:=by rw [List.take_add_one,hx]; rfl
 have hpl:=pgOf_len (L.take i) p
 have htl:(L.take i).length ≤ L.length:=by rw [List.length_take]; omega
 have r1:List.range 1 = [0]:=rfl
 have wr:wrapV x.cs = .agg x.cs:=rfl
 by_cases hp:x.pg = p
 ·have g2:(x.pg == p) = true:=by simpa using hp
  obtain ⟨o2,y,W',hA,C2,ho2,ho3⟩:=C.add (j:=0) (by omega) xok (by omega)
  rw [Nat.add_zero] at hA
  have e:pgOf (L.take (i + 1)) p = pgOf (L.take i) p ++ [x]:=by rw [hts,pgOf_app,pgOf_one,if_pos hp]
  rw [← e] at C2
  obtain ⟨u1,u2,u3,u4,u5,u6⟩:=C2.row.shape
  simp +contextual -implicitDefEqProofs (maxSteps:=10000000) only [sxb,↓sxd,plainD,stays,↓prim_pick,doOp,get,ins,del,dels,Nat.reduceLT,Nat.reduceEqDiff,↓reduceIte,reduceCtorEq,ne_eq,implies_true,prim,YLD,mkA,V.cells,Nat.reduceAdd,Nat.reduceSub,Nat.reduceMul,Nat.reduceLeDiff,loadA,cellsAt,nAg,packA,List.drop,List.take,List.head?,binA,unA,eqCells,eqCell,negB,fillA,storeA,Ob.with,indexedI,V.oneCell,intOf?,resA,resA1,packR,sealDepth,Int.reduceLT,Int.reduceLE,Int.reduceToNat,Int.reduceNeg,Int.reduceAdd,Int.reduceSub,Int.reduceMul,cond_true,cond_false,Int.reduceBNe,Int.reduceBEq,eq_self,deads,List.replicate,argsF,isNil,l1,hlen,hnstr,g1,hwr,xi,x2,xall,g2,r1,wr,htk,hcl,hone,hA,hlt,-loadA]
  exact ⟨by omega,W',[o2],rfl,by omega,C2⟩
 ·have g2:(x.pg == p) = false:=by simpa using hp
  have e:pgOf (L.take (i + 1)) p = pgOf (L.take i) p:=by rw [hts,pgOf_app,pgOf_one,if_neg hp,List.append_nil]
  rw [← e] at C
  simp +contextual -implicitDefEqProofs (maxSteps:=10000000) only [sxb,↓sxd,plainD,stays,↓prim_pick,doOp,get,ins,del,dels,Nat.reduceLT,Nat.reduceEqDiff,↓reduceIte,reduceCtorEq,ne_eq,implies_true,prim,YLD,mkA,V.cells,Nat.reduceAdd,Nat.reduceSub,Nat.reduceMul,Nat.reduceLeDiff,loadA,cellsAt,nAg,packA,List.drop,List.take,List.head?,binA,unA,eqCells,eqCell,negB,fillA,storeA,Ob.with,indexedI,V.oneCell,intOf?,resA,resA1,packR,sealDepth,Int.reduceLT,Int.reduceLE,Int.reduceToNat,Int.reduceNeg,Int.reduceAdd,Int.reduceSub,Int.reduceMul,cond_true,cond_false,Int.reduceBNe,Int.reduceBEq,eq_self,deads,List.replicate,argsF,isNil,l1,hlen,hnstr,g1,hwr,xi,x2,xall,g2,hlt,-loadA]
  exact ⟨by omega,Wa,Ra,rfl,by omega,C⟩
theorem PRow.shutd {H:Heap} {W:V} {l:List Wr} {R:List Nat} (h:PRow H W l R):∃ m,(∀ d,V.shut (fun o => H[o]?) (d + 2) W = some m) ∧ IsL m 101 (l.map Wr.cs):=by
 obtain ⟨hall,⟨rfl,rfl | rfl,-⟩ | ⟨o,ver,cap,rest,hrs,-,rfl,ho,hc⟩⟩:=h
 ·exact ⟨.nils,fun _ => rfl,isL_nils 101⟩
 ·exact ⟨.sl [] 101 (some 0),fun _ => rfl,isL_sl rfl rfl⟩
 ·refine ⟨.sl (l.map fun x => V.agg x.cs) 101 cap,fun d => shut_view (by decide) ?_ (by simp) ?_,isL_sl (freeL_of_mem fun b hb => ?_) (by rw [List.map_map]; rfl)⟩
  ·intro e he
   obtain ⟨x,hx,rfl⟩:=List.mem_map.1 he
   refine ⟨Wr.len (hall x hx),?_,fun c hc => ⟨?_,List.all_eq_true.1 x.one c hc⟩⟩
   ·show wrapV x.cs = .agg x.cs
    rfl
   ·have hc:c ∈ x.cs:=hc
    unfold Wr.cs Wr.hd at hc
    simp only [List.mem_append,List.mem_cons,List.not_mem_nil,or_false,List.mem_map] at hc
    rcases hc with (rfl | rfl | rfl | rfl) | ⟨y,-,rfl⟩ | rfl <;> rfl
  ·rw [flatMap_agg]
   have hl:=flatW_len hall
   simp only [loadA,cellsAt,ho,↓reduceIte,Nat.zero_add,List.length_append,hl,List.drop_zero]
   rw [if_pos (by omega),List.take_append,hl,Nat.sub_self,List.take_zero,List.append_nil,List.take_of_length_le (by omega)]
   rfl
  ·obtain ⟨x,hx,rfl⟩:=List.mem_map.1 hb
   refine freeL_of_mem fun c hc => ?_
   unfold Wr.cs Wr.hd at hc
   simp only [List.mem_append,List.mem_cons,List.not_mem_nil,or_false,List.mem_map] at hc
   rcases hc with (rfl | rfl | rfl | rfl) | ⟨y,-,rfl⟩ | rfl <;> rfl
theorem RefAt.shut {H:Heap} {r:Nat} {pages:Int} {L:List Wr} {W:V} {R:List Nat} (h:RefAt H r pages L W R):∃ m,V.shut (fun o => H[o]?) sealDepth (.ptr r 1 0) = some (.iptr [.int .i64 pages,m] 0) ∧ IsL m 101 (L.map Wr.cs):=by
 obtain ⟨m,hm,hi⟩:=h.row.shutd
 refine ⟨m,?_,hi⟩
 have e:V.shut (fun o => H[o]?) sealDepth (.ptr r 1 0) = match cellsAt (fun o => H[o]?) r 1 with
   | some all => (all.mapM (V.shut (fun o => H[o]?) 63)).map fun cs => .iptr cs 0
   | none => none:=rfl
 rw [e]
 simp only [cellsAt,h.ob,↓reduceIte,List.mapM_cons,List.mapM_nil]
 rw [show V.shut (fun o => H[o]?) 63 (.int .i64 pages) = some (.int .i64 pages) from rfl,show V.shut (fun o => H[o]?) 63 W = some m from hm 61]
 rfl
def yF (d:Bool) (x:Wr):Bool:=x.du || !d
theorem topW_snoc (f:Wr → Bool) (l:List Wr) (x:Wr):topW f (l ++ [x]) = if f x = true then some x else topW f l:=by
 unfold topW
 rw [List.filter_append,List.filter_cons]
 split <;> simp
theorem verCs_ok {x:Option Wr} (h:∀ y,x = some y → y.Ok):(verCs x).length = 97 ∧ (verCs x).all V.oneCell = true ∧ List.take 97 (verCs x) = verCs x ∧ setRange zV 0 (verCs x) = verCs x ∧ (V.agg (verCs x)).plain = true:=by
 have hl:(verCs x).length = 97:=by
  cases x with
  | none => rfl
  | some y => simp [verCs]; exact h y rfl
 have hall:∀ v ∈ verCs x,∃ k n,v = V.int k n:=by
  cases x with
  | none =>
   intro v hv
   have:v ∈ (V.int .i64 0 :: List.replicate 96 (V.int .u8 0)):=hv
   rcases List.mem_cons.1 this with rfl | h
   ·exact ⟨_,_,rfl⟩
   ·exact ⟨_,_,(List.mem_replicate.1 h).2⟩
  | some y =>
   intro v hv
   rcases List.mem_cons.1 hv with rfl | h
   ·exact ⟨_,_,rfl⟩
   ·obtain ⟨z,-,rfl⟩:=List.mem_map.1 h
    exact ⟨_,_,rfl⟩
 refine ⟨hl,?_,List.take_of_length_le (by omega),?_,?_⟩
 ·rw [List.all_eq_true]
  intro v hv
  obtain ⟨k,n,rfl⟩:=hall v hv
  rfl
 ·unfold setRange
  rw [hl,show List.drop (0 + 97) zV = [] from rfl,List.append_nil]
  rfl
 ·generalize verCs x = l at hall
  clear hl
  show V.plainL l = true
  induction l with
  | nil => rfl
  | cons v l ih =>
   obtain ⟨k,n,rfl⟩:=hall v (by simp)
   have:=ih fun u hu => hall u (by simp [hu])
   simp [V.plainL,V.plain,this]
end Go.Am.T


set_option linter.unusedVariables false
set_option linter.unusedSimpArgs false
set_option linter.unusedSectionVars false
set_option maxRecDepth 10000
namespace Go.Am.T
attribute [local congr] selV_congr impB_congr
theorem am42_wp {N n:Nat} {args args':List V} {h:Heap} {v:V} (ha:args.length = 3) (hs:args.mapM (V.shut (fun o => h[o]?) sealDepth) = some args')
  (H:sx ⟨pureOf am,callA am N n,N,0⟩ am42.body (fr am42.nt (argsF 0 args')) (deads am42.sites) (retQ am42.res fun x h' => x = v ∧ v.plain = true)):callA am N (n + 1) 42 args h = some (v,h) :=
 call_look at42 rfl ha (by decide) hs (sx_wp H)
theorem am43_wp {N n:Nat} {args args':List V} {h:Heap} {v:V} (ha:args.length = 2) (hs:args.mapM (V.shut (fun o => h[o]?) sealDepth) = some args')
  (H:sx ⟨pureOf am,callA am N n,N,0⟩ am43.body (fr am43.nt (argsF 0 args')) (deads am43.sites) (retQ am43.res fun x h' => x = v ∧ v.plain = true)):callA am N (n + 1) 43 args h = some (v,h) :=
 call_look at43 rfl ha (by decide) hs (sx_wp H)
def outP (pages p:Int):Bool:=decide (p < 0) || decide (p ≥ pages)
def yV (pages:Int) (L:List Wr) (p:Int) (f:Wr → Bool):V:=if outP pages p = true then .tup [.agg zV,.int .i64 2] else .tup [.agg (verCs (topW f (pgOf L p))),.int .i64 0]
theorem pgOf_ok {L:List Wr} (h:∀ x ∈ L,x.Ok) (p:Int):∀ x ∈ pgOf L p,x.Ok:=fun x hx => h x (List.mem_filter.1 hx).1
theorem topW_ok {f:Wr → Bool} {l:List Wr} (h:∀ x ∈ l,x.Ok):∀ y,topW f l = some y → y.Ok:=fun y hy => by
 unfold topW at hy
 exact h y (List.mem_filter.1 (List.mem_of_getLast? hy)).1
set_option maxHeartbeats 2000000 in
theorem yref_spec {N n:Nat} (hN:5000 ≤ N) (hn:3 ≤ n) {H:Heap} {r:Nat} {pages:Int} {L:List Wr} {W:V} {R:List Nat} (h:RefAt H r pages L W R) (hL:L.length ≤ 4096) (p:Int) (d:Bool) :
  callA am N n 42 [.ptr r 1 0,.int .i64 p,.bool d] H = some (yV pages L p (yF d),H):=by
 obtain ⟨n,rfl⟩:∃ m,n = m + 1:=⟨n - 1,by omega⟩
 obtain ⟨m,hm,hi⟩:=h.shut
 have hok:=h.row.1
 unfold yV outP
 refine am42_wp (args':=[.iptr [.int .i64 pages,m] 0,.int .i64 p,.bool d]) rfl (by rw [List.mapM_cons,hm]; rfl) ?_
 have l0:∀ g,loadA g 1 (.iptr [.int .i64 pages,m] 0) = some [.int .i64 pages]:=fun g => rfl
 by_cases hb:(decide (p < 0) || decide (p ≥ pages)) = true
 ·rw [if_pos hb]
  unfold zV
  simp +contextual -implicitDefEqProofs (maxSteps:=10000000) only [sxb,↓sxd,plainD,stays,↓prim_pick,doOp,get,ins,del,dels,Nat.reduceLT,Nat.reduceEqDiff,↓reduceIte,reduceCtorEq,ne_eq,implies_true,prim,YLD,mkA,V.cells,Nat.reduceAdd,Nat.reduceSub,Nat.reduceMul,Nat.reduceLeDiff,loadA,cellsAt,nAg,packA,List.drop,List.take,List.head?,binA,unA,eqCells,eqCell,negB,fillA,storeA,Ob.with,indexedI,V.oneCell,intOf?,resA,resA1,packR,sealDepth,Int.reduceLT,Int.reduceLE,Int.reduceToNat,Int.reduceNeg,Int.reduceAdd,Int.reduceSub,Int.reduceMul,cond_true,cond_false,Int.reduceBNe,Int.reduceBEq,eq_self,deads,List.replicate,argsF,am42,isNil,l0,hb]
  rfl
 ·rw [if_neg hb]
  have hb':(decide (p < 0) || decide (p ≥ pages)) = false:=by simpa using hb
  obtain ⟨v0,H0,c37,R0,C0⟩:=@of_specI N n hN (by omega) [⟨1,.var zV⟩,⟨1,.var zV⟩] pages L m hi hok hL p
  have hlen:=C0.row.len
  have pl:=pgOf_len L p
  have l1:H0.length = 3:=C0.len
  have z0:H0[0]? = some ⟨1,.var zV⟩:=C0.low 0 (by simp)
  have z1:H0[1]? = some ⟨1,.var zV⟩:=C0.low 1 (by simp)
  have hR:∀ o ∈ R0,2 ≤ o:=C0.new
  obtain ⟨w1,w2,w3,w4,w5,w6⟩:=C0.row.shape
  unfold zV at c37
  simp +contextual -implicitDefEqProofs (maxSteps:=10000000) only [sxb,↓sxd,plainD,stays,↓prim_pick,doOp,get,ins,del,dels,Nat.reduceLT,Nat.reduceEqDiff,↓reduceIte,reduceCtorEq,ne_eq,implies_true,prim,YLD,mkA,V.cells,Nat.reduceAdd,Nat.reduceSub,Nat.reduceMul,Nat.reduceLeDiff,loadA,cellsAt,nAg,packA,List.drop,List.take,List.head?,binA,unA,eqCells,eqCell,negB,fillA,storeA,Ob.with,indexedI,V.oneCell,intOf?,resA,resA1,packR,sealDepth,Int.reduceLT,Int.reduceLE,Int.reduceToNat,Int.reduceNeg,Int.reduceAdd,Int.reduceSub,Int.reduceMul,cond_true,cond_false,Int.reduceBNe,Int.reduceBEq,eq_self,deads,List.replicate,argsF,am42,isNil,l0,hb',c37]
  refine sx_loop (fun i t h' => t = fr 49 [(2,.bool d),(6,.ptr 0 1 0),(8,.ptr 1 1 0),(9,v0),(10,.int .i64 (i:Nat))] ∧ i ≤ (pgOf L p).length ∧ h' = H0.set 1 ⟨1,.var (verCs (topW (yF d) ((pgOf L p).take i)))⟩) 4096 (by show 4096 < N; omega) ⟨rfl,Nat.zero_le _,?_⟩ ?_
  ·rw [List.take_zero]
   apply List.ext_getElem?
   intro j
   by_cases e:1 = j
   ·subst e; rw [List.getElem?_set_self (by omega),z1]; rfl
   ·rw [List.getElem?_set_ne e]
  rintro i t h' hi ⟨rfl,hil,rfl⟩
  obtain ⟨k1,k2,k3,k4,k5⟩:=verCs_ok (topW_ok (f:=yF d) (l:=(pgOf L p).take i) fun x hx => pgOf_ok hok p x (List.mem_of_mem_take hx))
  generalize hvv:verCs (topW (yF d) ((pgOf L p).take i)) = vv at *
  have hl1:1 < H0.length:=by omega
  have g11:∀ y,(H0.set 1 y)[1]? = some y:=fun y => List.getElem?_set_self hl1
  have g10:∀ y,(H0.set 1 y)[0]? = some ⟨1,.var zV⟩:=fun y => by rw [List.getElem?_set_ne (by omega)]; exact z0
  by_cases hlt:i < (pgOf L p).length
  case neg =>
   have:i = (pgOf L p).length:=by omega
   subst this
   have g1:decide (((pgOf L p).length:Int) < ((pgOf L p).length:Int)) = false:=decide_eq_false (by omega)
   rw [List.take_length] at hvv
   subst hvv
   have sr:=k4
   unfold zV at sr g10
   have hl2:∀ y,0 < (H0.set 1 y).length:=fun y => by simp; omega
   have g00:∀ y z,((H0.set 1 y).set 0 z)[0]? = some z:=fun y z => List.getElem?_set_self (hl2 y)
   simp +contextual -implicitDefEqProofs (maxSteps:=10000000) only [sxb,↓sxd,plainD,stays,↓prim_pick,doOp,get,ins,del,dels,Nat.reduceLT,Nat.reduceEqDiff,↓reduceIte,reduceCtorEq,ne_eq,implies_true,prim,YLD,mkA,V.cells,Nat.reduceAdd,Nat.reduceSub,Nat.reduceMul,Nat.reduceLeDiff,loadA,cellsAt,nAg,packA,List.drop,List.take,List.head?,binA,unA,eqCells,eqCell,negB,fillA,storeA,Ob.with,indexedI,V.oneCell,intOf?,resA,resA1,packR,sealDepth,Int.reduceLT,Int.reduceLE,Int.reduceToNat,Int.reduceNeg,Int.reduceAdd,Int.reduceSub,Int.reduceMul,cond_true,cond_false,Int.reduceBNe,Int.reduceBEq,eq_self,deads,List.replicate,argsF,hlen,g1,g11,g10,k1,k2,k3,sr,g00,hl2,List.length_set,hl1]
   show ((V.agg (verCs (topW (yF d) (pgOf L p)))).plain && (true && true)) = true
   rw [k5]
   rfl
  have g1:decide ((i:Int) < ((pgOf L p).length:Int)) = true:=decide_eq_true (by omega)
  have hwr:IntKind.i64.wrap ((i:Int) + 1) = ((i + 1:Nat):Int):=(wrap64 (by omega) (by omega)).trans (by omega)
  have hx:(pgOf L p)[i]? = some ((pgOf L p)[i]):=List.getElem?_eq_getElem hlt
  generalize (pgOf L p)[i] = x at hx
  have row1:PRow (H0.set 1 ⟨1,.var vv⟩) v0 (pgOf L p) R0:=C0.row.keep fun o ho => List.getElem?_set_ne (by have:=hR o ho; omega)
  obtain ⟨o1,ver1,rd⟩:=row1.read (by intro e; rw [e] at hlt; simp at hlt)
  obtain ⟨xok,xi,xr⟩:=rd i x hx
  have xv:=(xr 3 97 (by decide)).trans (congrArg some (Wr.cv xok))
  have xd:=(xr 100 1 (by decide)).trans (congrArg some (Wr.cd xok))
  have hts:(pgOf L p).take (i + 1) = (pgOf L p).take i ++ [x]:=by rw [List.take_add_one,hx]; rfl
  have htop:topW (yF d) ((pgOf L p).take (i + 1)) = if yF d x = true then some x else topW (yF d) ((pgOf L p).take i):=by rw [hts,topW_snoc]
  have e1:(V.int .i64 x.ps :: x.b.map (V.int .u8)).length = 97:=by simp; exact xok
  have e2:(x.b.map (V.int .u8)).all V.oneCell = true:=allOne_ints _ _
  have e3:setRange vv 0 (.int .i64 x.ps :: x.b.map (V.int .u8)) = .int .i64 x.ps :: x.b.map (V.int .u8):=by
   unfold setRange
   rw [e1,List.drop_of_length_le (by omega),List.append_nil]
   rfl
  have e4:List.take 97 (V.int .i64 x.ps :: x.b.map (V.int .u8)) = .int .i64 x.ps :: x.b.map (V.int .u8):=List.take_of_length_le (by omega)
  have e5:(x.b.map (V.int .u8)).length = 96:=by simp; exact xok
  have e6:List.take 96 (x.b.map (V.int .u8)) = x.b.map (V.int .u8):=List.take_of_length_le (by omega)
  have hi1:i + 1 ≤ (pgOf L p).length:=hlt
  have hi2:i < 4096:=by omega
  by_cases hf:yF d x = true
  ·rw [if_pos hf] at htop
   have hf':(x.du || !d) = true:=hf
   simp +contextual -implicitDefEqProofs (maxSteps:=10000000) only [sxb,↓sxd,plainD,stays,↓prim_pick,doOp,get,ins,del,dels,Nat.reduceLT,Nat.reduceEqDiff,↓reduceIte,reduceCtorEq,ne_eq,implies_true,prim,YLD,mkA,V.cells,Nat.reduceAdd,Nat.reduceSub,Nat.reduceMul,Nat.reduceLeDiff,loadA,cellsAt,nAg,packA,List.drop,List.take,List.head?,binA,unA,eqCells,eqCell,negB,fillA,storeA,Ob.with,indexedI,V.oneCell,intOf?,resA,resA1,packR,sealDepth,Int.reduceLT,Int.reduceLE,Int.reduceToNat,Int.reduceNeg,Int.reduceAdd,Int.reduceSub,Int.reduceMul,cond_true,cond_false,Int.reduceBNe,Int.reduceBEq,eq_self,deads,List.replicate,argsF,hlen,g1,hwr,xi,xd,xv,hf',e1,e2,e3,e4,e5,e6,g11,k1,List.set_set,List.length_set,hl1,hi1,hi2,-loadA]
   rw [htop]
   rfl
  ·rw [if_neg hf] at htop
   have hf':(x.du || !d) = false:=by
    have:¬ (x.du || !d) = true:=hf
    simpa using this
   simp +contextual -implicitDefEqProofs (maxSteps:=10000000) only [sxb,↓sxd,plainD,stays,↓prim_pick,doOp,get,ins,del,dels,Nat.reduceLT,Nat.reduceEqDiff,↓reduceIte,reduceCtorEq,ne_eq,implies_true,prim,YLD,mkA,V.cells,Nat.reduceAdd,Nat.reduceSub,Nat.reduceMul,Nat.reduceLeDiff,loadA,cellsAt,nAg,packA,List.drop,List.take,List.head?,binA,unA,eqCells,eqCell,negB,fillA,storeA,Ob.with,indexedI,V.oneCell,intOf?,resA,resA1,packR,sealDepth,Int.reduceLT,Int.reduceLE,Int.reduceToNat,Int.reduceNeg,Int.reduceAdd,Int.reduceSub,Int.reduceMul,cond_true,cond_false,Int.reduceBNe,Int.reduceBEq,eq_self,deads,List.replicate,argsF,hlen,g1,hwr,xi,xd,xv,hf',hi1,hi2,-loadA]
   rw [htop,hvv]
def wV (x:(Int × Int) × Bool):V:=.tup [.agg (pcs x.1),.bool x.2]
theorem whoseW_last {nn:Int} {L:List Wr} (h:LOk nn L) (p:Int):whoseW (pgOf L p) = match (pgOf L p).getLast? with | none => ((0,0),false) | some x => if x.du = true then ((0,0),false) else (x.who,true):=by
 cases hz:(pgOf L p).getLast? with
 | none =>
  rw [List.getLast?_eq_none_iff] at hz
  rw [hz]
  rfl
 | some x =>
  have hz':=hz
  rw [List.getLast?_eq_getElem?] at hz'
  have hps:=h.ps _ _ _ hz'
  unfold whoseW
  rw [lastK_eq hz]
  by_cases hd:x.du = true
  ·rw [if_pos (.inr hd)]
   simp [hd]
  ·rw [if_neg (by
    rintro (e | e)
    ·omega
    ·exact hd e)]
   simp [hd,Wr.who]
set_option maxHeartbeats 2000000 in
theorem wref_spec {N n:Nat} (hN:5000 ≤ N) (hn:3 ≤ n) {H:Heap} {r:Nat} {pages:Int} {L:List Wr} {W:V} {R:List Nat} (h:RefAt H r pages L W R) (hk:LOk pages L) (hL:L.length ≤ 4096) (p:Int) :
  callA am N n 43 [.ptr r 1 0,.int .i64 p] H = some (wV (whoseW (pgOf L p)),H):=by
 obtain ⟨n,rfl⟩:∃ m,n = m + 1:=⟨n - 1,by omega⟩
 obtain ⟨m,hm,hi⟩:=h.shut
 have hok:=h.row.1
 unfold wV
 refine am43_wp (args':=[.iptr [.int .i64 pages,m] 0,.int .i64 p]) rfl (by rw [List.mapM_cons,hm]; rfl) ?_
 obtain ⟨v0,H0,c37,R0,C0⟩:=@of_specI N n hN (by omega) [⟨1,.var [.int .i64 0,.int .i64 0]⟩] pages L m hi hok hL p
 have hlen:=C0.row.len
 have pl:=pgOf_len L p
 have l1:H0.length = 2:=C0.len
 have z0:H0[0]? = some ⟨1,.var [.int .i64 0,.int .i64 0]⟩:=C0.low 0 (by simp)
 obtain ⟨w1,w2,w3,w4,w5,w6⟩:=C0.row.shape
 have hl0:0 < H0.length:=by omega
 have g0:∀ z,(H0.set 0 z)[0]? = some z:=fun z => List.getElem?_set_self hl0
 rw [whoseW_last hk p]
 cases hz:(pgOf L p).getLast? with
 | none =>
  rw [List.getLast?_eq_none_iff] at hz
  rw [hz] at hlen
  unfold pcs
  simp +contextual -implicitDefEqProofs (maxSteps:=10000000) only [sxb,↓sxd,plainD,stays,↓prim_pick,doOp,get,ins,del,dels,Nat.reduceLT,Nat.reduceEqDiff,↓reduceIte,reduceCtorEq,ne_eq,implies_true,prim,YLD,mkA,V.cells,Nat.reduceAdd,Nat.reduceSub,Nat.reduceMul,Nat.reduceLeDiff,loadA,cellsAt,nAg,packA,List.drop,List.take,List.head?,binA,unA,eqCells,eqCell,negB,fillA,storeA,Ob.with,indexedI,V.oneCell,intOf?,resA,resA1,packR,sealDepth,Int.reduceLT,Int.reduceLE,Int.reduceToNat,Int.reduceNeg,Int.reduceAdd,Int.reduceSub,Int.reduceMul,cond_true,cond_false,Int.reduceBNe,Int.reduceBEq,eq_self,deads,List.replicate,argsF,am43,c37,hlen,z0,hl0,g0]
  rfl
 | some x =>
  rw [List.getLast?_eq_getElem?] at hz
  have hzl:=(List.getElem?_eq_some_iff.1 hz).1
  obtain ⟨o1,ver1,rd⟩:=C0.row.read (by intro e; rw [e] at hzl; simp at hzl)
  obtain ⟨xok,xi,xr⟩:=rd _ x hz
  have x0:=(xr 0 2 (by decide)).trans (congrArg some x.c0)
  have xd:=(xr 100 1 (by decide)).trans (congrArg some (Wr.cd xok))
  rw [Nat.add_zero] at x0
  have hwr:IntKind.i64.wrap (((pgOf L p).length:Int) - 1) = (((pgOf L p).length - 1:Nat):Int):=(wrap64 (by omega) (by omega)).trans (by omega)
  have g1:(((pgOf L p).length:Int) == 0) = false:=by
   rw [beq_eq_false_iff_ne]
   omega
  have s0:loadA (fun o => H0[o]?) 2 (.ptr 0 1 0) = some [.int .i64 0,.int .i64 0]:=by simp [loadA,cellsAt,z0]
  cases hd:x.du with
  | true =>
   rw [hd] at xd
   unfold pcs
   simp +contextual -implicitDefEqProofs (maxSteps:=10000000) only [sxb,↓sxd,plainD,stays,↓prim_pick,doOp,get,ins,del,dels,Nat.reduceLT,Nat.reduceEqDiff,↓reduceIte,reduceCtorEq,ne_eq,implies_true,prim,YLD,mkA,V.cells,Nat.reduceAdd,Nat.reduceSub,Nat.reduceMul,Nat.reduceLeDiff,loadA,cellsAt,nAg,packA,List.drop,List.take,List.head?,binA,unA,eqCells,eqCell,negB,fillA,storeA,Ob.with,indexedI,V.oneCell,intOf?,resA,resA1,packR,sealDepth,Int.reduceLT,Int.reduceLE,Int.reduceToNat,Int.reduceNeg,Int.reduceAdd,Int.reduceSub,Int.reduceMul,cond_true,cond_false,Int.reduceBNe,Int.reduceBEq,eq_self,deads,List.replicate,argsF,am43,c37,hlen,hwr,g1,xi,xd,z0,hl0,g0,hd,-loadA]
   rfl
  | false =>
   rw [hd] at xd
   unfold pcs Wr.who
   simp +contextual -implicitDefEqProofs (maxSteps:=10000000) only [sxb,↓sxd,plainD,stays,↓prim_pick,doOp,get,ins,del,dels,Nat.reduceLT,Nat.reduceEqDiff,↓reduceIte,reduceCtorEq,ne_eq,implies_true,prim,YLD,mkA,V.cells,Nat.reduceAdd,Nat.reduceSub,Nat.reduceMul,Nat.reduceLeDiff,loadA,cellsAt,nAg,packA,List.drop,List.take,List.head?,binA,unA,eqCells,eqCell,negB,fillA,storeA,Ob.with,indexedI,V.oneCell,intOf?,resA,resA1,packR,sealDepth,Int.reduceLT,Int.reduceLE,Int.reduceToNat,Int.reduceNeg,Int.reduceAdd,Int.reduceSub,Int.reduceMul,cond_true,cond_false,Int.reduceBNe,Int.reduceBEq,eq_self,deads,List.replicate,argsF,am43,c37,hlen,hwr,g1,xi,xd,x0,z0,hl0,g0,hd,-loadA]
   rfl
end Go.Am.T


set_option linter.unusedVariables false
set_option linter.unusedSimpArgs false
set_option linter.unusedSectionVars false
set_option maxRecDepth 10000
namespace Go.Am.T
attribute [local congr] selV_congr impB_congr
theorem am36_wp {N n:Nat} {args args':List V} {h:Heap} {v:V} (ha:args.length = 2) (hs:args.mapM (V.shut (fun o => h[o]?) sealDepth) = some args')
  (H:sx ⟨pureOf am,callA am N n,N,0⟩ am36.body (fr am36.nt (argsF 0 args')) (deads am36.sites) (retQ am36.res fun x h' => x = v ∧ v.plain = true)):callA am N (n + 1) 36 args h = some (v,h) :=
 call_look at36 rfl ha (by decide) hs (sx_wp H)
theorem sameW_spec {N n:Nat} (hN:5000 ≤ N) (hn:1 ≤ n) {u v:V} {l:List Wr} {R1 R2:List Nat} {H:Heap} (r1:PRow H u l R1) (r2:PRow H v l R2) (hl:l.length ≤ 4096):callA am N n 36 [u,v] H = some (.bool true,H):=by
 obtain ⟨n,rfl⟩:∃ m,n = m + 1:=⟨n - 1,by omega⟩
 obtain ⟨m1,s1,i1⟩:=r1.shut
 obtain ⟨m2,s2,i2⟩:=r2.shut
 have la:=i1.len
 have lb:=i2.len
 rw [List.length_map] at la lb
 have na:=i1.nstr
 have nb:=i2.nstr
 have d0:((l.length:Int) != (l.length:Int)) = false:=by simp
 refine am36_wp (args':=[m1,m2]) rfl (by rw [List.mapM_cons,s1,List.mapM_cons,s2]; rfl) ?_
 simp +contextual -implicitDefEqProofs (maxSteps:=10000000) only [sxb,↓sxd,plainD,stays,↓prim_pick,doOp,get,ins,del,dels,Nat.reduceLT,Nat.reduceEqDiff,↓reduceIte,reduceCtorEq,ne_eq,implies_true,prim,YLD,mkA,V.cells,Nat.reduceAdd,Nat.reduceSub,Nat.reduceMul,Nat.reduceLeDiff,loadA,cellsAt,nAg,packA,List.drop,List.take,List.head?,binA,unA,eqCells,eqCell,negB,fillA,storeA,Ob.with,indexedI,V.oneCell,intOf?,resA,resA1,packR,sealDepth,Int.reduceLT,Int.reduceLE,Int.reduceToNat,Int.reduceNeg,Int.reduceAdd,Int.reduceSub,Int.reduceMul,cond_true,cond_false,Int.reduceBNe,Int.reduceBEq,eq_self,deads,List.replicate,argsF,am36,la,lb,d0]
 refine sx_loop (fun i t k => t = fr 26 [(0,m1),(1,m2),(5,.int .i64 i)] ∧ i ≤ l.length ∧ k = []) 4096 (by show 4096 < N; omega) ⟨rfl,Nat.zero_le _,rfl⟩ ?_
 rintro i t k hi ⟨rfl,hiA,rfl⟩
 by_cases hlt:i < l.length
 ·have hlt':decide ((i:Int) < (l.length:Int)) = true:=decide_eq_true (by omega)
  have ha:=i1.at_ i
  have hb:=i2.at_ i
  have hx:l[i]? = some l[i]:=List.getElem?_eq_getElem hlt
  have hok:=r1.1 l[i] (List.getElem_mem hlt)
  generalize l[i] = x at hx hok
  rw [List.getElem?_map,hx] at ha hb
  simp only [Option.map_some] at ha hb
  have hcl:=Wr.len hok
  have htk:List.take 101 x.cs = x.cs:=List.take_of_length_le (by omega)
  have sall:∀ g,loadA g 101 (.iptr x.cs 0) = some x.cs:=fun g => by simp [loadA,hcl,htk]
  have heq:eqCells [.i .i64,.i .i64,.i .i64,.i .i64,.i .u8,.i .u8,.i .u8,.i .u8,.i .u8,.i .u8,.i .u8,.i .u8,.i .u8,.i .u8,.i .u8,.i .u8,.i .u8,.i .u8,.i .u8,.i .u8,.i .u8,.i .u8,.i .u8,.i .u8,.i .u8,.i .u8,.i .u8,.i .u8,.i .u8,.i .u8,.i .u8,.i .u8,.i .u8,.i .u8,.i .u8,.i .u8,.i .u8,.i .u8,.i .u8,.i .u8,.i .u8,.i .u8,.i .u8,.i .u8,.i .u8,.i .u8,.i .u8,.i .u8,.i .u8,.i .u8,.i .u8,.i .u8,.i .u8,.i .u8,.i .u8,.i .u8,.i .u8,.i .u8,.i .u8,.i .u8,.i .u8,.i .u8,.i .u8,.i .u8,.i .u8,.i .u8,.i .u8,.i .u8,.i .u8,.i .u8,.i .u8,.i .u8,.i .u8,.i .u8,.i .u8,.i .u8,.i .u8,.i .u8,.i .u8,.i .u8,.i .u8,.i .u8,.i .u8,.i .u8,.i .u8,.i .u8,.i .u8,.i .u8,.i .u8,.i .u8,.i .u8,.i .u8,.i .u8,.i .u8,.i .u8,.i .u8,.i .u8,.i .u8,.i .u8,.i .u8,.b] x.cs x.cs = some true:=by
   have:=eq_bytes_b x.b x.du 96 hok
   simp only [List.replicate,List.cons_append,List.nil_append] at this
   simp only [Wr.cs,Wr.hd,List.cons_append,List.nil_append,eqCells,eqCell,↓reduceIte,this]
   simp
  have w2:IntKind.i64.wrap ((i:Int) + 1) = ((i + 1:Nat):Int):=(wrap64 (by omega) (by omega)).trans (by omega)
  have hi1:i + 1 ≤ l.length:=by omega
  have hi2:i < 4096:=by omega
  simp +contextual -implicitDefEqProofs (maxSteps:=10000000) only [sxb,↓sxd,plainD,stays,↓prim_pick,doOp,get,ins,del,dels,Nat.reduceLT,Nat.reduceEqDiff,↓reduceIte,reduceCtorEq,ne_eq,implies_true,prim,YLD,mkA,V.cells,Nat.reduceAdd,Nat.reduceSub,Nat.reduceMul,Nat.reduceLeDiff,loadA,cellsAt,nAg,packA,List.drop,List.take,List.head?,binA,unA,eqCells,eqCell,negB,fillA,storeA,Ob.with,indexedI,V.oneCell,intOf?,resA,resA1,packR,sealDepth,Int.reduceLT,Int.reduceLE,Int.reduceToNat,Int.reduceNeg,Int.reduceAdd,Int.reduceSub,Int.reduceMul,cond_true,cond_false,Int.reduceBNe,Int.reduceBEq,eq_self,deads,List.replicate,argsF,la,hlt',ha,hb,sall,heq,w2,hi1,hi2,hlt,-loadA]
 ·have e:i = l.length:=by omega
  subst e
  have hlt':decide ((l.length:Int) < (l.length:Int)) = false:=decide_eq_false (by omega)
  simp +contextual -implicitDefEqProofs (maxSteps:=10000000) only [sxb,↓sxd,plainD,stays,↓prim_pick,doOp,get,ins,del,dels,Nat.reduceLT,Nat.reduceEqDiff,↓reduceIte,reduceCtorEq,ne_eq,implies_true,prim,YLD,mkA,V.cells,Nat.reduceAdd,Nat.reduceSub,Nat.reduceMul,Nat.reduceLeDiff,loadA,cellsAt,nAg,packA,List.drop,List.take,List.head?,binA,unA,eqCells,eqCell,negB,fillA,storeA,Ob.with,indexedI,V.oneCell,intOf?,resA,resA1,packR,sealDepth,Int.reduceLT,Int.reduceLE,Int.reduceToNat,Int.reduceNeg,Int.reduceAdd,Int.reduceSub,Int.reduceMul,cond_true,cond_false,Int.reduceBNe,Int.reduceBEq,eq_self,deads,List.replicate,argsF,la,hlt',plain_bool]
theorem plOf_val (w:Int × Int):∀ (l pre:List Wr),(∀ x ∈ pre ++ l,0 ≤ x.pg) → (plOf w pre l).length = (volL w l).length ∧ ∀ (k:Nat) (y:Int × Int),(plOf w pre l)[k]? = some y → ∃ x,(volL w l)[k]? = some x ∧ 0 ≤ y.1 ∧ 0 ≤ y.2 ∧ (pgOf (pre ++ l) y.1)[y.2.toNat]? = some x
 | [],pre,_ => ⟨rfl,fun k y h => by simp [plOf] at h⟩
 | x :: l,pre,hp => by
  obtain ⟨h1,h2⟩:=plOf_val w l (pre ++ [x]) (by simpa using hp)
  rw [List.append_assoc,List.singleton_append] at h2
  unfold plOf volL
  rw [List.filter_cons]
  by_cases hv:vol w x = true
  ·rw [if_pos hv,if_pos hv]
   refine ⟨by simpa [volL] using h1,fun k y hk => ?_⟩
   cases k with
   | zero =>
    simp only [List.getElem?_cons_zero,Option.some.injEq] at hk
    subst hk
    refine ⟨x,rfl,hp x (by simp),by simp,?_⟩
    simp only [Int.toNat_natCast]
    rw [pgOf_app,List.getElem?_append_right (Nat.le_refl _),Nat.sub_self,pgOf_cons,if_pos rfl]
    rfl
   | succ k => exact h2 k y (by simpa using hk)
  ·rw [if_neg hv,if_neg hv]
   exact ⟨h1,h2⟩
theorem am41_wp {N n:Nat} {args:List V} {h:Heap} {C:V → Heap → Prop} (ha:args.length = 2) (H:sx ⟨pureOf am,callA am N n,N,h.length⟩ am41.body (fr am41.nt (argsF 0 args)) (h ++ deads am41.sites) (retQ am41.res C)):∃ v h',callA am N (n + 1) 41 args h = some (v,h') ∧ C v h' :=
 call_keep at41 rfl ha (by decide) (sx_wp H)
theorem ORow.read {H:Heap} {W:V} {l:List (Int × Int)} {R:List Nat} (h:ORow H W l R) (hne:l ≠ []):∃ o ver off,∀ (k:Nat) (x:Int × Int),l[k]? = some x → iaddrSA 2 W (.int .i64 (k:Int)) = some (.ret (.ptr o ver (off + k * 2))) ∧ loadA (fun o => H[o]?) 2 (.ptr o ver (off + k * 2)) = some (pcs x):=by
 rcases h with ⟨h0,-⟩ | ⟨o,ver,pre,hpre,-,hW,ho⟩
 ·exact absurd h0 hne
 ·refine ⟨o,ver,pre.length,fun k x hk => ?_⟩
  have hkl:=(List.getElem?_eq_some_iff.1 hk).1
  have hl:=flatP_len l
  refine ⟨?_,?_⟩
  ·rw [hW]
   have g0:(0:Int) ≤ (k:Int):=by omega
   have g1:(k:Int) < (l.length:Int):=by omega
   simp [iaddrSA,indexedI,intOf?,g0,g1]
  ·simp only [loadA,cellsAt,ho,↓reduceIte]
   rw [if_pos (by rw [List.length_append,hl]; omega),flatP_at hk pre]
set_option maxHeartbeats 2000000 in
theorem vola_md {N n:Nat} (hN:5000 ≤ N) (hn:3 ≤ n) {H:Heap} {a m:Nat} {nn:Int} {L:List Wr} {Q:List Pg} {O:List Od} (M:Md H a m nn L Q O) (hL:L.length ≤ 4096) (w:Int × Int) :
  ∃ v' H',callA am N n 41 [.ptr a 1 0,.agg (pcs w)] H = some (v',H') ∧ ∃ R',Coll H 3 (volL w L) v' R' H':=by
 obtain ⟨n,rfl⟩:∃ m,n = m + 1:=⟨n - 1,by omega⟩
 have n1:=M.n1
 have n16:=M.n16
 have c26:=fun l => @there_spec N n (by omega) _ a m nn Q M.at_.q16 M.n1 (M.app l).at_.ob'
 have oa:∀ l:Heap,(H ++ l)[a]? = some ⟨1,.var (mcs Q nn m)⟩:=fun l => (M.app l).at_.ob'
 have om:∀ l:Heap,(H ++ l)[m]? = some ⟨1,.map (O.map Od.e)⟩:=fun l => (M.app l).at_.mp
 have q2:=@mcs_m Q nn m M.at_.q16
 have ql:=@mcs_len Q nn m M.at_.q16
 have qp:=@mcs_p Q nn m
 have mg:=fun l => mget_w (get:=fun x => (H ++ l)[x]?) (om l) w
 have hro:=ord_row M.at_ w
 have hlo:=hro.len
 have hod:=M.ab.od w
 obtain ⟨hpl,hpv⟩:=plOf_val w L [] fun x hx => (M.ab.ok.pg x (by simpa using hx)).1
 rw [← hod] at hpl hpv
 obtain ⟨z1,z2,z3,z4,z5,z6⟩:=hro.shape
 have hvl:(volL w L).length ≤ L.length:=List.length_filter_le _ _
 generalize ordV O w = OV at *
 generalize ordOf O w = OL at *
 generalize ordR O w = OR at *
 obtain ⟨nd,ep⟩:=w
 unfold pcs at mg ⊢
 simp only at mg ⊢
 refine am41_wp rfl ?_
 generalize mcs Q nn m = cs at *
 simp +contextual -implicitDefEqProofs (maxSteps:=10000000) only [sxb,↓sxd,plainD,stays,↓prim_pick,doOp,get,ins,del,dels,Nat.reduceLT,Nat.reduceEqDiff,↓reduceIte,reduceCtorEq,ne_eq,implies_true,prim,YLD,mkA,V.cells,Nat.reduceAdd,Nat.reduceSub,Nat.reduceMul,Nat.reduceLeDiff,loadA,cellsAt,nAg,packA,List.drop,List.take,List.head?,binA,unA,eqCells,eqCell,negB,fillA,storeA,Ob.with,indexedI,V.oneCell,intOf?,resA,resA1,packR,sealDepth,Int.reduceLT,Int.reduceLE,Int.reduceToNat,Int.reduceNeg,Int.reduceAdd,Int.reduceSub,Int.reduceMul,cond_true,cond_false,Int.reduceBNe,Int.reduceBEq,eq_self,deads,List.replicate,argsF,am41,app_get0,app_get,app_set0,app_set,c26,oa,q2,ql,mg,hlo,z1]
 refine sx_loop (fun i t h' => ∃ Wa Ra,t = fr 38 [(0,.ptr a 1 0),(5,Wa),(16,OV),(17,.int .i64 (OL.length:Nat)),(18,.int .i64 (i:Nat))] ∧ i ≤ OL.length ∧ Coll H 3 ((volL (nd,ep) L).take i) Wa Ra h' ∧ (∃ x,h'[H.length + 1]? = some x) ∧ ∀ o ∈ Ra,H.length + 2 ≤ o) 4096 (by show 4096 < N; omega)
  ⟨.nils,[],rfl,Nat.zero_le _,by rw [List.take_zero]; exact Coll.nil (by simp) fun o ho => List.getElem?_append_left ho,⟨_,by rw [app_get]; rfl⟩,by simp⟩ ?_
 rintro i t h' hi ⟨Wa,Ra,rfl,hiL,C,⟨y1,hy1⟩,hRa⟩
 obtain ⟨v1,v2,v3,v4,v5,v6⟩:=C.row.shape
 by_cases hlt:i < OL.length
 case neg =>
  have:i = OL.length:=by omega
  subst this
  have g1:decide ((OL.length:Int) < (OL.length:Int)) = false:=decide_eq_false (by omega)
  rw [hpl,List.take_length] at C
  simp +contextual -implicitDefEqProofs (maxSteps:=10000000) only [sxb,↓sxd,plainD,stays,↓prim_pick,doOp,get,ins,del,dels,Nat.reduceLT,Nat.reduceEqDiff,↓reduceIte,reduceCtorEq,ne_eq,implies_true,prim,YLD,mkA,V.cells,Nat.reduceAdd,Nat.reduceSub,Nat.reduceMul,Nat.reduceLeDiff,loadA,cellsAt,nAg,packA,List.drop,List.take,List.head?,binA,unA,eqCells,eqCell,negB,fillA,storeA,Ob.with,indexedI,V.oneCell,intOf?,resA,resA1,packR,sealDepth,Int.reduceLT,Int.reduceLE,Int.reduceToNat,Int.reduceNeg,Int.reduceAdd,Int.reduceSub,Int.reduceMul,cond_true,cond_false,Int.reduceBNe,Int.reduceBEq,eq_self,deads,List.replicate,argsF,g1]
  exact ⟨_,C⟩
 have g1:decide ((i:Int) < (OL.length:Int)) = true:=decide_eq_true (by omega)
 have hwr:IntKind.i64.wrap ((i:Int) + 1) = ((i + 1:Nat):Int):=(wrap64 (by omega) (by omega)).trans (by omega)
 have hy:OL[i]? = some OL[i]:=List.getElem?_eq_getElem hlt
 generalize OL[i] = y at hy
 obtain ⟨x,hx,p0,p1,hxp⟩:=hpv i y hy
 rw [List.nil_append] at hxp
 obtain ⟨p,q⟩:=y
 simp only at p0 p1 hxp
 obtain ⟨p,rfl⟩:∃ k:Nat,p = (k:Int):=⟨p.toNat,by omega⟩
 obtain ⟨q,rfl⟩:∃ k:Nat,q = (k:Int):=⟨q.toNat,by omega⟩
 rw [Int.toNat_natCast] at hxp
 have hxL:x ∈ L:=(List.mem_filter.1 (List.mem_of_getElem? hxp)).1
 have hxg:x.pg = (p:Int):=by
  have:=(List.mem_filter.1 (List.mem_of_getElem? hxp)).2
  simpa using this
 have hpn:=(M.ab.ok.pg x hxL).2
 obtain ⟨qq,hq,eq⟩:=M.page (p:=p) (by omega)
 have p1':=qp hq
 have hrow:=C.low
 have hli:H.length + 1 < h'.length:=by rw [C.len]; omega
 obtain ⟨h2,eh2⟩:∃ h2,h2 = h'.set (H.length + 1) ⟨y1.ver + 1,.var [.int .i64 p,.int .i64 q]⟩:=⟨_,rfl⟩
 have eh2':=eh2.symm
 have k2:∀ o,o < H.length → h2[o]? = H[o]?:=fun o ho => by rw [eh2,List.getElem?_set_ne (by omega)]; exact C.low o ho
 have C2:Coll H 3 ((volL (nd,ep) L).take i) Wa Ra h2:=⟨by rw [eh2]; simp [C.len],k2,C.row.keep fun o ho => by rw [eh2]; exact List.getElem?_set_ne (by have:=hRa o ho; omega),C.new⟩
 have hor:=hro.keep (H':=h') fun o ho => C.low o (hro.lt o ho)
 obtain ⟨o1,ver1,off1,rd1⟩:=hor.read (by intro e; rw [e] at hlt; simp at hlt)
 obtain ⟨oi,ol⟩:=rd1 i _ hy
 have a2:h2[a]? = some ⟨1,.var cs⟩:=by rw [k2 a M.at_.lta]; have:=oa []; rwa [List.append_nil] at this
 have pr:PRow h2 qq.W (pgOf L p) qq.R:=by
  have:=(M.at_.pg qq (List.mem_of_getElem? hq)).keep (H':=h2) fun o ho => k2 o ((M.at_.pg qq (List.mem_of_getElem? hq)).lt o ho)
  rwa [eq] at this
 obtain ⟨o2,ver2,rd2⟩:=pr.read (by intro e; rw [e] at hxp; simp at hxp)
 obtain ⟨xok,xi,xr⟩:=rd2 q x hxp
 have hcl:=Wr.len xok
 have htk:List.take 101 x.cs = x.cs:=List.take_of_length_le (by omega)
 have xall:=xr 0 101 (by decide)
 rw [List.drop_zero,htk,Nat.add_zero] at xall
 have hone:=x.one
 have hts:(volL (nd,ep) L).take (i + 1) = (volL (nd,ep) L).take i ++ [x]:=by rw [List.take_add_one,hx]; rfl
 have htl:((volL (nd,ep) L).take i).length ≤ L.length:=by rw [List.length_take]; omega
 obtain ⟨o3,y3,W',hA,C3,ho3,hor3⟩:=C2.add (j:=2) (by omega) xok (by omega)
 rw [← hts] at C3
 have ho3':H.length + 2 ≤ o3:=by
  rcases hor3 with h | h
  ·omega
  ·exact hRa _ h
 have r1:List.range 1 = [0]:=rfl
 have wr:wrapV x.cs = .agg x.cs:=rfl
 have l21:h2[H.length + 1]? = some ⟨y1.ver + 1,.var [.int .i64 p,.int .i64 q]⟩:=by rw [eh2,List.getElem?_set_self hli]
 have s0:loadA (fun o => h2[o]?) 1 (.ptr (H.length + 1) (y1.ver + 1) 0) = some [.int .i64 p]:=by simp [loadA,cellsAt,l21]
 have s1:loadA (fun o => h2[o]?) 1 (.ptr (H.length + 1) (y1.ver + 1) 1) = some [.int .i64 q]:=by simp [loadA,cellsAt,l21]
 have hp16:(p:Int) < 16:=by omega
 have hp15:p ≤ 15:=by omega
 have hpl':p + 1 ≤ 18:=by omega
 have lp:loadA (fun o => h2[o]?) 1 (.ptr a 1 p) = some [qq.W]:=by simp [loadA,cellsAt,a2,ql,hpl',p1']
 obtain ⟨w1,w2,w3,w4,w5,w6⟩:=pr.shape
 obtain ⟨u1,u2,u3,u4,u5,u6⟩:=C3.row.shape
 unfold pcs at ol
 simp only at ol
 have sg:∀ z,(h'.set (H.length + 1) z)[H.length + 1]? = some z:=fun z => List.getElem?_set_self hli
 have hp17:p ≤ 17:=by omega
 simp +contextual -implicitDefEqProofs (maxSteps:=10000000) only [sxb,↓sxd,plainD,stays,↓prim_pick,doOp,get,ins,del,dels,Nat.reduceLT,Nat.reduceEqDiff,↓reduceIte,reduceCtorEq,ne_eq,implies_true,prim,YLD,mkA,V.cells,Nat.reduceAdd,Nat.reduceSub,Nat.reduceMul,Nat.reduceLeDiff,loadA,cellsAt,nAg,packA,List.drop,List.take,List.head?,binA,unA,eqCells,eqCell,negB,fillA,storeA,Ob.with,indexedI,V.oneCell,intOf?,resA,resA1,packR,sealDepth,Int.reduceLT,Int.reduceLE,Int.reduceToNat,Int.reduceNeg,Int.reduceAdd,Int.reduceSub,Int.reduceMul,cond_true,cond_false,Int.reduceBNe,Int.reduceBEq,eq_self,deads,List.replicate,argsF,g1,hwr,oi,ol,hy1,sg,hli,List.length_set,List.set_set,eh2',s0,s1,lp,hp16,hp15,hp17,xi,xall,r1,wr,htk,hcl,hone,hA,hlt,w1,-loadA]
 exact ⟨by omega,W',[o3],rfl,by omega,C3,⟨_,by rw [List.getElem?_set_ne (by omega)]; exact l21⟩,by simpa using ho3'⟩
end Go.Am.T


set_option linter.unusedVariables false
set_option linter.unusedSimpArgs false
set_option linter.unusedSectionVars false
set_option maxRecDepth 10000
namespace Go.Am.T
attribute [local congr] selV_congr impB_congr
structure RBey (H H':Heap) (r:Nat) (R R':List Nat):Prop where
 len:H.length ≤ H'.length
 oth:∀ x,x < H.length → x ≠ r → x ∉ R → H'[x]? = H[x]?
 new:∀ x ∈ R',x ∈ R ∨ H.length ≤ x
def mayB (w:Int × Int):Bool:=decide (w.1 ≥ 0) && (decide (w.1 < 8) && (decide (w.2 ≥ 1) && decide (w.2 ≤ 2147483647)))
theorem may_spec {N n:Nat} (hn:1 ≤ n) (w:Int × Int) (H:Heap):callA am N n 50 [.agg (pcs w)] H = some (.bool (mayB w),H):=by
 obtain ⟨n,rfl⟩:∃ m,n = m + 1:=⟨n - 1,by omega⟩
 obtain ⟨nd,ep⟩:=w
 unfold mayB pcs
 simp only
 refine call_pure at50 rfl rfl (by decide) rfl (sx_wp ?_)
 simp +contextual -implicitDefEqProofs (maxSteps:=10000000) only [sxb,↓sxd,plainD,stays,↓prim_pick,doOp,get,ins,del,dels,Nat.reduceLT,Nat.reduceEqDiff,↓reduceIte,reduceCtorEq,ne_eq,implies_true,prim,YLD,mkA,V.cells,Nat.reduceAdd,Nat.reduceSub,Nat.reduceMul,Nat.reduceLeDiff,loadA,cellsAt,nAg,packA,List.drop,List.take,List.head?,binA,unA,eqCells,eqCell,negB,fillA,storeA,Ob.with,indexedI,V.oneCell,intOf?,resA,resA1,packR,sealDepth,Int.reduceLT,Int.reduceLE,Int.reduceToNat,Int.reduceNeg,Int.reduceAdd,Int.reduceSub,Int.reduceMul,cond_true,cond_false,Int.reduceBNe,Int.reduceBEq,eq_self,deads,List.replicate,argsF,am50]
theorem badA_may (nn:Int) (w:Int × Int) (p k:Int):badA nn w p k = (!mayB w || (decide (p < 0) || (decide (p ≥ nn) || decide (k < 0)))):=by
 rw [Bool.eq_iff_iff]
 unfold badA mayB
 simp only [Bool.or_eq_true,decide_eq_true_eq,Bool.not_eq_true',Bool.and_eq_false_iff,decide_eq_false_iff_not]
 omega
theorem am31_wp {N n:Nat} {args:List V} {h:Heap} {C:V → Heap → Prop} (ha:args.length = 4) (H:sx ⟨pureOf am,callA am N n,N,h.length⟩ am31.body (fr am31.nt (argsF 0 args)) (h ++ deads am31.sites) (retQ am31.res C)):∃ v h',callA am N (n + 1) 31 args h = some (v,h') ∧ C v h' :=
 call_keep at31 rfl ha (by decide) (sx_wp H)
theorem RefAt.len {H:Heap} {r:Nat} {pages:Int} {L:List Wr} {W:V} {R:List Nat} (h:RefAt H r pages L W R):lenA W = some L.length:=h.row.len
set_option maxHeartbeats 2000000 in
theorem write_ref {N n:Nat} (hN:5000 ≤ N) (hn:3 ≤ n) {H:Heap} {r:Nat} {pages:Int} {L:List Wr} {W:V} {R:List Nat} (h:RefAt H r pages L W R) (hk:LOk pages L) (hL:L.length ≤ 4000) (w:Int × Int) (p:Int) {B:List Int} (hB:B.length = 96) :
  ∃ v' H',callA am N n 31 [.ptr r 1 0,.agg (pcs w),.int .i64 p,.agg (B.map (V.int .u8))] H = some (v',H') ∧ v' = .tup [.int .i64 (opW pages L w p B).1.1,.int .i64 (opW pages L w p B).1.2] ∧ ∃ W' R',RefAt H' r pages (opW pages L w p B).2 W' R' ∧ RBey H H' r R R':=by
 obtain ⟨n,rfl⟩:∃ m,n = m + 1:=⟨n - 1,by omega⟩
 have c50:=@may_spec N n (by omega) w
 have bl:(B.map (V.int .u8)).length = 96:=by simp [hB]
 have bone:(B.map (V.int .u8)).all V.oneCell = true:=allOne_ints _ _
 have hbm:=badA_may pages w p 0
 have ob:∀ l:Heap,(H ++ l)[r]? = some ⟨1,.var [.int .i64 pages,W]⟩:=fun l => (h.app l).ob
 obtain ⟨w1,w2,w3,w4,w5,w6⟩:=h.row.shape
 unfold opW
 by_cases hb:badA pages w p 0 = true
 ·rw [if_pos hb]
  rw [hb] at hbm
  have hbm':(!mayB w || (decide (p < 0) || decide (p ≥ pages))) = true:=by
   rw [hbm]; simp
  obtain ⟨nd,ep⟩:=w
  unfold pcs at c50 ⊢
  simp only at c50 ⊢
  generalize mayB (nd,ep) = mb at *
  refine am31_wp rfl ?_
  generalize B.map (V.int .u8) = BV at *
  simp +contextual -implicitDefEqProofs (maxSteps:=10000000) only [sxb,↓sxd,plainD,stays,↓prim_pick,doOp,get,ins,del,dels,Nat.reduceLT,Nat.reduceEqDiff,↓reduceIte,reduceCtorEq,ne_eq,implies_true,prim,YLD,mkA,V.cells,Nat.reduceAdd,Nat.reduceSub,Nat.reduceMul,Nat.reduceLeDiff,loadA,cellsAt,nAg,packA,List.drop,List.take,List.head?,binA,unA,eqCells,eqCell,negB,fillA,storeA,Ob.with,indexedI,V.oneCell,intOf?,resA,resA1,packR,sealDepth,Int.reduceLT,Int.reduceLE,Int.reduceToNat,Int.reduceNeg,Int.reduceAdd,Int.reduceSub,Int.reduceMul,cond_true,cond_false,Int.reduceBNe,Int.reduceBEq,eq_self,deads,List.replicate,argsF,am31,isNil,app_get0,app_get,app_set0,app_set,c50,pm50,ob,hbm']
  exact ⟨W,R,h.app _,⟨by simp,fun x hx _ _ => List.getElem?_append_left hx,fun x hx => .inl hx⟩⟩
 ·rw [if_neg hb]
  have hb':badA pages w p 0 = false:=by simpa using hb
  rw [hb'] at hbm
  have hbm':(!mayB w || (decide (p < 0) || decide (p ≥ pages))) = false:=by
   have:=hbm.symm
   simpa using this
  obtain ⟨-,p0,pn⟩:=badA_k hb'
  obtain ⟨p,rfl⟩:∃ p':Nat,p = (p':Int):=⟨p.toNat,by omega⟩
  obtain ⟨v0,H0,c37,R0,C0⟩:=@of_spec N n hN (by omega) (H ++ [⟨1,.var (pcs w)⟩,⟨1,.var (B.map (V.int .u8))⟩,⟨0,.dead⟩]) r pages L W R (h.app _) (by omega) p
  have hlen:=C0.row.len
  have pl:=pgOf_len L p
  have hr0:=C0.keepRef (h.app [⟨1,.var (pcs w)⟩,⟨1,.var (B.map (V.int .u8))⟩,⟨0,.dead⟩])
  have l0:H0.length = H.length + 4:=by rw [C0.len]; simp
  have low:∀ o,o < H.length → H0[o]? = H[o]?:=fun o ho => by rw [C0.low o (by simp; omega),List.getElem?_append_left ho]
  have s0:H0[H.length]? = some ⟨1,.var (pcs w)⟩:=by rw [C0.low _ (by simp),app_get0]; rfl
  have s1:H0[H.length + 1]? = some ⟨1,.var (B.map (V.int .u8))⟩:=by rw [C0.low _ (by simp),app_get]; rfl
  have s2:H0[H.length + 2]? = some ⟨0,.dead⟩:=by rw [C0.low _ (by simp),app_get]; rfl
  have rl:=h.lt
  obtain ⟨x1,x2,x3,x4,x5,x6⟩:=C0.row.shape
  have lw:loadA (fun o => H0[o]?) 2 (.ptr H.length 1 0) = some [.int .i64 w.1,.int .i64 w.2]:=by simp [loadA,cellsAt,s0,pcs]
  have lB:loadA (fun o => H0[o]?) 96 (.ptr (H.length + 1) 1 0) = some (B.map (V.int .u8)):=by simp [loadA,cellsAt,s1,hB,List.take_of_length_le]
  have lr:loadA (fun o => H0[o]?) 1 (.ptr r 1 1) = some [W]:=by simp [loadA,cellsAt,hr0.ob]
  have g4:decide (((pgOf L p).length:Int) ≥ 4096) = false:=decide_eq_false (by omega)
  have hw1:IntKind.i64.wrap (((pgOf L p).length:Int) + 1) = (((pgOf L p).length + 1:Nat):Int):=(wrap64 (by omega) (by omega)).trans (by omega)
  have lw0:∀ l:Heap,loadA (fun o => (H ++ l)[o]?) 1 (.ptr r 1 0) = some [.int .i64 pages]:=fun l => by simp [loadA,cellsAt,ob l]
  -- the write itself
  obtain ⟨X,eX⟩:∃ X:Wr,X = ⟨w.1,w.2,p,((pgOf L p).length + 1:Nat),B,false⟩:=⟨_,rfl⟩
  have xok:X.Ok:=by rw [eX]; exact hB
  have hXc:X.cs = .int .i64 w.1 :: .int .i64 w.2 :: .int .i64 p :: .int .i64 (((pgOf L p).length + 1:Nat):Int) :: (B.map (V.int .u8) ++ [.bool false]):=by rw [eX]; rfl
  have hXl:=Wr.len xok
  have hXo:=X.one
  have hXt:List.take 101 X.cs = X.cs:=List.take_of_length_le (by omega)
  obtain ⟨o1,y,W',hA,row1,ho1,hol⟩:=hr0.row.append (x:=X) xok s2 (by omega)
  have no1:o1 ≠ r:=by
   rcases ho1 with e | e
   ·omega
   ·exact fun e' => hr0.nr (e' ▸ e)
  obtain ⟨H2,eH2⟩:∃ H2,H2 = (H0.set o1 y).set r ⟨1,.var [.int .i64 pages,W']⟩:=⟨_,rfl⟩
  have eH2':=eH2.symm
  have r1':(H0.set o1 y)[r]? = some ⟨1,.var [.int .i64 pages,W]⟩:=by rw [List.getElem?_set_ne no1]; exact hr0.ob
  have r1l:r < (H0.set o1 y).length:=by simp; omega
  have rl0:r < H0.length:=by omega
  have fin:RefAt H2 r pages (L ++ [X]) W' [o1] ∧ RBey H H2 r R [o1]:=by
   refine ⟨⟨by rw [eH2,List.getElem?_set_self r1l],row1.keep fun o ho => ?_,by simpa using Ne.symm no1⟩,⟨by rw [eH2]; simp; omega,fun x hx h1 h2 => ?_,fun x hx => ?_⟩⟩
   ·obtain rfl:o = o1:=by simpa using ho
    rw [eH2,List.getElem?_set_ne (Ne.symm no1)]
   ·have:o1 ≠ x:=by
     rintro rfl
     rcases ho1 with e | e
     ·omega
     ·exact h2 e
    rw [eH2,List.getElem?_set_ne (Ne.symm h1),List.getElem?_set_ne this]
    exact low x hx
   ·obtain rfl:x = o1:=by simpa using hx
    rcases ho1 with e | e
    ·exact .inr (by omega)
    ·exact .inl e
  have stay:RefAt H0 r pages L W R ∧ RBey H H0 r R R:=⟨hr0,⟨by omega,fun x hx _ _ => low x hx,fun x hx => .inl hx⟩⟩
  obtain ⟨u1,u2,u3,u4,u5,u6⟩:=row1.shape
  have rr1:List.range 1 = [0]:=rfl
  have wr:wrapV X.cs = .agg X.cs:=by rw [hXc]; rfl
  have hsr:setRange (List.replicate 96 (V.int .u8 0) ++ [.bool false]) 0 (B.map (V.int .u8)) = B.map (V.int .u8) ++ [.bool false]:=by
   unfold setRange
   rw [bl]
   rfl
  simp only [List.replicate,List.cons_append,List.nil_append] at hsr
  have b97:(B.map (V.int .u8) ++ [V.bool false]).length = 97:=by simp [hB]
  have t101:List.take 101 (.int .i64 w.1 :: .int .i64 w.2 :: .int .i64 p :: .int .i64 ((pgOf L p).length + 1:Nat) :: (B.map (V.int .u8) ++ [.bool false])) = .int .i64 w.1 :: .int .i64 w.2 :: .int .i64 p :: .int .i64 ((pgOf L p).length + 1:Nat) :: (B.map (V.int .u8) ++ [.bool false]) :=
   List.take_of_length_le (by simp [hB])
  have btk:List.take 96 (B.map (V.int .u8)) = B.map (V.int .u8):=List.take_of_length_le (by omega)
  rw [hXc] at hA
  have g00:decide ((0:Int) > 0) = false:=rfl
  have g40:decide ((0:Int) ≥ 4096) = false:=rfl
  have t97:List.take 97 (B.map (V.int .u8) ++ [V.bool false]) = B.map (V.int .u8) ++ [.bool false]:=List.take_of_length_le (by omega)
  have wr2:∀ (a b:V) (l:List V),wrapV (a :: b :: l) = .agg (a :: b :: l):=fun _ _ _ => rfl
  have g01:(pgOf L p) ≠ [] → decide (((pgOf L p).length:Int) > 0) = true:=fun h => by
   have:=List.length_pos_iff.2 h
   exact decide_eq_true (by omega)
  have hq:(pgOf L p).length ≠ 4096:=by omega
  rw [if_neg hq,whoseW_last hk p]
  generalize hpg:pgOf L p = PL at *
  have rest:∀ hrow:PRow H0 v0 PL R0,∀ z,PL.getLast? = some z → ∃ o ver,iaddrSA 101 v0 (.int .i64 ((PL.length - 1:Nat):Int)) = some (.ret (.ptr o ver ((PL.length - 1) * 101))) ∧ loadA (fun o => H0[o]?) 2 (.ptr o ver ((PL.length - 1) * 101)) = some [.int .i64 z.nd,.int .i64 z.ep] ∧ loadA (fun o => H0[o]?) 1 (.ptr o ver ((PL.length - 1) * 101 + 100)) = some [.bool z.du]:=by
   intro hrow z hz
   rw [List.getLast?_eq_getElem?] at hz
   obtain ⟨o,ver,rd⟩:=hrow.read (by intro e; rw [e] at hz; simp at hz)
   obtain ⟨zok,zi,zr⟩:=rd _ z hz
   have z0:=(zr 0 2 (by decide)).trans (congrArg some z.c0)
   rw [Nat.add_zero] at z0
   exact ⟨o,ver,zi,z0,(zr 100 1 (by decide)).trans (congrArg some (Wr.cd zok))⟩
  cases hz:PL.getLast? with
  | none =>
   rw [List.getLast?_eq_none_iff] at hz
   subst hz
   rw [if_neg (by simp),← eX]
   rw [show ((([]:List Wr).length + 1:Nat):Int) = 1 from rfl] at hA
   obtain ⟨nd,ep⟩:=w
   unfold pcs at *
   simp only at *
   refine am31_wp rfl ?_
   generalize hBV:B.map (V.int .u8) = BV at *
   simp +contextual -implicitDefEqProofs (maxSteps:=10000000) only [sxb,↓sxd,plainD,stays,↓prim_pick,doOp,get,ins,del,dels,Nat.reduceLT,Nat.reduceEqDiff,↓reduceIte,reduceCtorEq,ne_eq,implies_true,prim,YLD,mkA,V.cells,Nat.reduceAdd,Nat.reduceSub,Nat.reduceMul,Nat.reduceLeDiff,loadA,cellsAt,nAg,packA,List.drop,List.take,List.head?,binA,unA,eqCells,eqCell,negB,fillA,storeA,Ob.with,indexedI,V.oneCell,intOf?,resA,resA1,packR,sealDepth,Int.reduceLT,Int.reduceLE,Int.reduceToNat,Int.reduceNeg,Int.reduceAdd,Int.reduceSub,Int.reduceMul,cond_true,cond_false,Int.reduceBNe,Int.reduceBEq,eq_self,deads,List.replicate,argsF,am31,isNil,app_get0,app_get,app_set0,app_set,c50,pm50,lw0,hbm',c37,hlen,g00,g40,lw,lB,lr,bl,btk,bone,hsr,rr1,List.drop_zero,t97,wr2,b97,List.all_append,hw1,hA,r1',r1l,rl0,eH2',w1,u1,u2,-loadA]
   exact ⟨_,_,fin⟩
  | some z =>
   obtain ⟨zo,zv,zi,zw,zd⟩:=rest C0.row z hz
   have hne:PL ≠ []:=by intro e; rw [e] at hz; cases hz
   have hpos:=List.length_pos_iff.2 hne
   have g01':=g01 hne
   have hwm:IntKind.i64.wrap ((PL.length:Int) - 1) = ((PL.length - 1:Nat):Int):=(wrap64 (by omega) (by omega)).trans (by omega)
   obtain ⟨du,hdu⟩:∃ du,z.du = du:=⟨_,rfl⟩
   rw [hdu] at zd
   simp only [hdu]
   obtain ⟨nd,ep⟩:=w
   unfold pcs at *
   simp only at *
   cases du with
   | true =>
    rw [if_neg (by simp),← eX]
    refine am31_wp rfl ?_
    generalize hBV:B.map (V.int .u8) = BV at *
    simp +contextual -implicitDefEqProofs (maxSteps:=10000000) only [sxb,↓sxd,plainD,stays,↓prim_pick,doOp,get,ins,del,dels,Nat.reduceLT,Nat.reduceEqDiff,↓reduceIte,reduceCtorEq,ne_eq,implies_true,prim,YLD,mkA,V.cells,Nat.reduceAdd,Nat.reduceSub,Nat.reduceMul,Nat.reduceLeDiff,loadA,cellsAt,nAg,packA,List.drop,List.take,List.head?,binA,unA,eqCells,eqCell,negB,fillA,storeA,Ob.with,indexedI,V.oneCell,intOf?,resA,resA1,packR,sealDepth,Int.reduceLT,Int.reduceLE,Int.reduceToNat,Int.reduceNeg,Int.reduceAdd,Int.reduceSub,Int.reduceMul,cond_true,cond_false,Int.reduceBNe,Int.reduceBEq,eq_self,deads,List.replicate,argsF,am31,isNil,app_get0,app_get,app_set0,app_set,c50,pm50,lw0,hbm',c37,hlen,g01',g4,hwm,zi,zd,lw,lB,lr,bl,btk,bone,hsr,rr1,List.drop_zero,t97,wr2,b97,List.all_append,hw1,hA,r1',r1l,rl0,eH2',w1,u1,u2,-loadA]
    exact ⟨_,_,fin⟩
   | false =>
    by_cases hq2:z.who = (nd,ep)
    ·rw [if_neg (by simp [hq2]),← eX]
     have q3:z.nd = nd ∧ z.ep = ep:=by simpa [Wr.who] using hq2
     rw [q3.1,q3.2] at zw
     refine am31_wp rfl ?_
     generalize hBV:B.map (V.int .u8) = BV at *
     simp +contextual -implicitDefEqProofs (maxSteps:=10000000) only [sxb,↓sxd,plainD,stays,↓prim_pick,doOp,get,ins,del,dels,Nat.reduceLT,Nat.reduceEqDiff,↓reduceIte,reduceCtorEq,ne_eq,implies_true,prim,YLD,mkA,V.cells,Nat.reduceAdd,Nat.reduceSub,Nat.reduceMul,Nat.reduceLeDiff,loadA,cellsAt,nAg,packA,List.drop,List.take,List.head?,binA,unA,eqCells,eqCell,negB,fillA,storeA,Ob.with,indexedI,V.oneCell,intOf?,resA,resA1,packR,sealDepth,Int.reduceLT,Int.reduceLE,Int.reduceToNat,Int.reduceNeg,Int.reduceAdd,Int.reduceSub,Int.reduceMul,cond_true,cond_false,Int.reduceBNe,Int.reduceBEq,eq_self,deads,List.replicate,argsF,am31,isNil,app_get0,app_get,app_set0,app_set,c50,pm50,lw0,hbm',c37,hlen,g01',g4,hwm,zi,zd,zw,eqCells,eqCell,beq_self_eq_true,lw,lB,lr,bl,btk,bone,hsr,rr1,List.drop_zero,t97,wr2,b97,List.all_append,hw1,hA,r1',r1l,rl0,eH2',w1,u1,u2,-loadA]
     exact ⟨_,_,fin⟩
    ·rw [if_pos (by simp [hq2])]
     have q3:(z.nd == nd && z.ep == ep) = false:=by
      cases e:(z.nd == nd && z.ep == ep) with
      | false => rfl
      | true =>
       rw [Bool.and_eq_true,beq_iff_eq,beq_iff_eq] at e
       exact absurd (Prod.ext e.1 e.2) hq2
     refine am31_wp rfl ?_
     generalize hBV:B.map (V.int .u8) = BV at *
     simp +contextual -implicitDefEqProofs (maxSteps:=10000000) only [sxb,↓sxd,plainD,stays,↓prim_pick,doOp,get,ins,del,dels,Nat.reduceLT,Nat.reduceEqDiff,↓reduceIte,reduceCtorEq,ne_eq,implies_true,prim,YLD,mkA,V.cells,Nat.reduceAdd,Nat.reduceSub,Nat.reduceMul,Nat.reduceLeDiff,loadA,cellsAt,nAg,packA,List.drop,List.take,List.head?,binA,unA,eqCells,eqCell,negB,fillA,storeA,Ob.with,indexedI,V.oneCell,intOf?,resA,resA1,packR,sealDepth,Int.reduceLT,Int.reduceLE,Int.reduceToNat,Int.reduceNeg,Int.reduceAdd,Int.reduceSub,Int.reduceMul,cond_true,cond_false,Int.reduceBNe,Int.reduceBEq,eq_self,deads,List.replicate,argsF,am31,isNil,app_get0,app_get,app_set0,app_set,c50,pm50,lw0,hbm',c37,hlen,g01',g4,hwm,zi,zd,zw,eqCells,eqCell,q3,lw,lB,lr,w1,-loadA]
     exact ⟨_,_,stay⟩
end Go.Am.T


set_option linter.unusedVariables false
set_option linter.unusedSimpArgs false
set_option linter.unusedSectionVars false
set_option maxRecDepth 10000
namespace Go.Am.T
attribute [local congr] selV_congr impB_congr
theorem dur_zero (w:Int × Int):∀ l,dur w 0 l = l
 | [] => rfl
 | x :: l => by
  unfold dur
  split
  ·rfl
  ·rw [dur_zero w l]
theorem volL_cons (w:Int × Int) (x:Wr) (l:List Wr):volL w (x :: l) = if vol w x = true then x :: volL w l else volL w l:=by
 unfold volL
 rw [List.filter_cons]
theorem dur_app (w:Int × Int):∀ (a b:List Wr) (n:Nat),dur w n (a ++ b) = dur w n a ++ dur w (n - (volL w a).length) b
 | [],b,n => by simp [dur,volL]
 | x :: a,b,n => by
  rw [volL_cons]
  simp only [List.cons_append,dur]
  by_cases hv:vol w x = true
  ·rw [if_pos hv,if_pos hv,if_pos hv]
   cases n with
   | zero => simp [dur_zero]
   | succ n =>
    simp only [List.length_cons,List.cons_append,dur_app w a b n]
    rw [show n + 1 - ((volL w a).length + 1) = n - (volL w a).length by omega]
  ·rw [if_neg hv,if_neg hv,if_neg hv,dur_app w a b n]
   rfl
theorem am32_wp {N n:Nat} {args:List V} {h:Heap} {C:V → Heap → Prop} (ha:args.length = 3) (H:sx ⟨pureOf am,callA am N n,N,h.length⟩ am32.body (fr am32.nt (argsF 0 args)) (h ++ deads am32.sites) (retQ am32.res C)):∃ v h',callA am N (n + 1) 32 args h = some (v,h') ∧ C v h' :=
 call_keep at32 rfl ha (by decide) (sx_wp H)
structure DurR (H:Heap) (r:Nat) (pages:Int) (W:V) (R:List Nat) (w:Int × Int) (l:List Wr) (h:Heap):Prop where
 ref:RefAt h r pages l W R
 len:h.length = H.length + 1
 who:h[H.length]? = some ⟨1,.var (pcs w)⟩
 oth:∀ x,x < H.length → x ≠ r → x ∉ R → h[x]? = H[x]?
 low:∀ o ∈ R,o < H.length
set_option maxHeartbeats 2000000 in
theorem durable_ref {N n:Nat} (hN:5000 ≤ N) (hn:3 ≤ n) {H:Heap} {r:Nat} {pages:Int} {L:List Wr} {W:V} {R:List Nat} (h:RefAt H r pages L W R) (hk:LOk pages L) (hp:1 ≤ pages) (hL:L.length ≤ 4000) (w:Int × Int) (k:Int) :
  ∃ v' H',callA am N n 32 [.ptr r 1 0,.agg (pcs w),.int .i64 k] H = some (v',H') ∧ v' = .tup [.int .i64 (opD pages L w k).1.1,.int .i64 (opD pages L w k).1.2] ∧ RefAt H' r pages (opD pages L w k).2 W R ∧ RBey H H' r R R:=by
 obtain ⟨n,rfl⟩:∃ m,n = m + 1:=⟨n - 1,by omega⟩
 have c50:=@may_spec N n (by omega) w
 have hbm:=badA_may pages w 0 k
 have ob:∀ l:Heap,(H ++ l)[r]? = some ⟨1,.var [.int .i64 pages,W]⟩:=fun l => (h.app l).ob
 obtain ⟨w1,w2,w3,w4,w5,w6⟩:=h.row.shape
 have hpl:=(plOf_val w L [] fun x hx => (hk.pg x (by simpa using hx)).1).1
 unfold opD
 have e1:decide ((0:Int) < 0) = false:=rfl
 have e2:decide ((0:Int) ≥ pages) = false:=decide_eq_false (by omega)
 rw [e1,e2,Bool.false_or,Bool.false_or] at hbm
 by_cases hb:badA pages w 0 k = true
 ·rw [if_pos hb]
  rw [hb] at hbm
  have hbm':=hbm.symm
  obtain ⟨nd,ep⟩:=w
  unfold pcs at c50 ⊢
  simp only at c50 ⊢
  generalize mayB (nd,ep) = mb at *
  refine am32_wp rfl ?_
  simp +contextual -implicitDefEqProofs (maxSteps:=10000000) only [sxb,↓sxd,plainD,stays,↓prim_pick,doOp,get,ins,del,dels,Nat.reduceLT,Nat.reduceEqDiff,↓reduceIte,reduceCtorEq,ne_eq,implies_true,prim,YLD,mkA,V.cells,Nat.reduceAdd,Nat.reduceSub,Nat.reduceMul,Nat.reduceLeDiff,loadA,cellsAt,nAg,packA,List.drop,List.take,List.head?,binA,unA,eqCells,eqCell,negB,fillA,storeA,Ob.with,indexedI,V.oneCell,intOf?,resA,resA1,packR,sealDepth,Int.reduceLT,Int.reduceLE,Int.reduceToNat,Int.reduceNeg,Int.reduceAdd,Int.reduceSub,Int.reduceMul,cond_true,cond_false,Int.reduceBNe,Int.reduceBEq,eq_self,deads,List.replicate,argsF,am32,isNil,app_get0,app_get,app_set0,app_set,c50,pm50,ob,hbm']
  exact ⟨h.app _,⟨by simp,fun x hx _ _ => List.getElem?_append_left hx,fun x hx => .inl hx⟩⟩
 ·rw [if_neg hb]
  have hb':badA pages w 0 k = false:=by simpa using hb
  rw [hb'] at hbm
  have hbm':=hbm.symm
  obtain ⟨k0,-,-⟩:=badA_k hb'
  obtain ⟨k,rfl⟩:∃ k':Nat,k = (k':Int):=⟨k.toNat,by omega⟩
  simp only [Int.toNat_natCast]
  rw [hpl]
  have hvl:(volL w L).length ≤ L.length:=List.length_filter_le _ _
  obtain ⟨nd,ep⟩:=w
  have D0:DurR H r pages W R (nd,ep) L (H ++ [⟨1,.var [.int .i64 nd,.int .i64 ep]⟩]):=⟨h.app _,by simp,by rw [app_get0]; rfl,fun x hx _ _ => List.getElem?_append_left hx,h.row.lt⟩
  unfold pcs at c50 ⊢
  simp only at c50 ⊢
  refine am32_wp rfl ?_
  generalize hmb:mayB (nd,ep) = mb at *
  simp +contextual -implicitDefEqProofs (maxSteps:=10000000) only [sxb,↓sxd,plainD,stays,↓prim_pick,doOp,get,ins,del,dels,Nat.reduceLT,Nat.reduceEqDiff,↓reduceIte,reduceCtorEq,ne_eq,implies_true,prim,YLD,mkA,V.cells,Nat.reduceAdd,Nat.reduceSub,Nat.reduceMul,Nat.reduceLeDiff,loadA,cellsAt,nAg,packA,List.drop,List.take,List.head?,binA,unA,eqCells,eqCell,negB,fillA,storeA,Ob.with,indexedI,V.oneCell,intOf?,resA,resA1,packR,sealDepth,Int.reduceLT,Int.reduceLE,Int.reduceToNat,Int.reduceNeg,Int.reduceAdd,Int.reduceSub,Int.reduceMul,cond_true,cond_false,Int.reduceBNe,Int.reduceBEq,eq_self,deads,List.replicate,argsF,am32,isNil,app_get0,app_get,app_set0,app_set,c50,pm50,ob,hbm']
  refine sx_loop (fun i t h' => ∃ j,j = (volL (nd,ep) (L.take i)).length ∧ j ≤ k ∧ t = fr 64 [(0,.ptr r 1 0),(2,.int .i64 (k:Int)),(4,.ptr H.length 1 0),(8,.int .i64 (j:Nat)),(9,.int .i64 (i:Nat))] ∧ i ≤ L.length ∧ DurR H r pages W R (nd,ep) (dur (nd,ep) k (L.take i) ++ L.drop i) h') 4096 (by show 4096 < N; omega) ⟨0,by simp [volL],Nat.zero_le _,rfl,Nat.zero_le _,by simpa [dur] using D0⟩ ?_
  rintro i t h' hi ⟨j,ej,hjk,rfl,hiL,D⟩
  have hr:=D.ref
  have hob:=hr.ob
  have l1:loadA (fun o => h'[o]?) 1 (.ptr r 1 1) = some [W]:=by simp [loadA,cellsAt,hob]
  have hlen:=hr.row.len
  have hll:(dur (nd,ep) k (L.take i) ++ L.drop i).length = L.length:=by
   rw [List.length_append,(dur_mk _ _ _).len,← List.length_append,List.take_append_drop]
  rw [hll] at hlen
  have hjL:j ≤ L.length:=by
   rw [ej]
   have:=List.length_filter_le (vol (nd,ep)) (L.take i)
   unfold volL
   rw [List.length_take] at this
   omega
  by_cases hlt:i < L.length
  case neg =>
   have:i = L.length:=by omega
   subst this
   have g1:decide ((L.length:Int) < (L.length:Int)) = false:=decide_eq_false (by omega)
   rw [List.take_length] at ej D
   have hmin:min k (volL (nd,ep) L).length = j:=by omega
   rw [List.drop_length,List.append_nil] at D
   simp +contextual -implicitDefEqProofs (maxSteps:=10000000) only [sxb,↓sxd,plainD,stays,↓prim_pick,doOp,get,ins,del,dels,Nat.reduceLT,Nat.reduceEqDiff,↓reduceIte,reduceCtorEq,ne_eq,implies_true,prim,YLD,mkA,V.cells,Nat.reduceAdd,Nat.reduceSub,Nat.reduceMul,Nat.reduceLeDiff,loadA,cellsAt,nAg,packA,List.drop,List.take,List.head?,binA,unA,eqCells,eqCell,negB,fillA,storeA,Ob.with,indexedI,V.oneCell,intOf?,resA,resA1,packR,sealDepth,Int.reduceLT,Int.reduceLE,Int.reduceToNat,Int.reduceNeg,Int.reduceAdd,Int.reduceSub,Int.reduceMul,cond_true,cond_false,Int.reduceBNe,Int.reduceBEq,eq_self,deads,List.replicate,argsF,l1,hlen,g1,hmin,-loadA]
   exact ⟨D.ref,⟨by rw [D.len]; omega,D.oth,fun x hx => .inl hx⟩⟩
  have g1:decide ((i:Int) < (L.length:Int)) = true:=decide_eq_true (by omega)
  by_cases hjl:j < k
  case neg =>
   have hjk':j = k:=by omega
   have g2:decide ((j:Int) < (k:Int)) = false:=decide_eq_false (by omega)
   have hdur:dur (nd,ep) k L = dur (nd,ep) k (L.take i) ++ L.drop i:=by
    have:=dur_app (nd,ep) (L.take i) (L.drop i) k
    rw [List.take_append_drop] at this
    rw [this,← ej,hjk',Nat.sub_self,dur_zero]
   have htot:j ≤ (volL (nd,ep) L).length:=by
    rw [ej]
    unfold volL
    conv => rhs; rw [← List.take_append_drop i L]
    rw [List.filter_append,List.length_append]
    omega
   have hmin:min k (volL (nd,ep) L).length = j:=by omega
   rw [← hdur] at D
   simp +contextual -implicitDefEqProofs (maxSteps:=10000000) only [sxb,↓sxd,plainD,stays,↓prim_pick,doOp,get,ins,del,dels,Nat.reduceLT,Nat.reduceEqDiff,↓reduceIte,reduceCtorEq,ne_eq,implies_true,prim,YLD,mkA,V.cells,Nat.reduceAdd,Nat.reduceSub,Nat.reduceMul,Nat.reduceLeDiff,loadA,cellsAt,nAg,packA,List.drop,List.take,List.head?,binA,unA,eqCells,eqCell,negB,fillA,storeA,Ob.with,indexedI,V.oneCell,intOf?,resA,resA1,packR,sealDepth,Int.reduceLT,Int.reduceLE,Int.reduceToNat,Int.reduceNeg,Int.reduceAdd,Int.reduceSub,Int.reduceMul,cond_true,cond_false,Int.reduceBNe,Int.reduceBEq,eq_self,deads,List.replicate,argsF,l1,hlen,g1,g2,hmin,-loadA]
   exact ⟨D.ref,⟨by rw [D.len]; omega,D.oth,fun x hx => .inl hx⟩⟩
  have g2:decide ((j:Int) < (k:Int)) = true:=decide_eq_true (by omega)
  have hwr:IntKind.i64.wrap ((i:Int) + 1) = ((i + 1:Nat):Int):=(wrap64 (by omega) (by omega)).trans (by omega)
  have hwj:IntKind.i64.wrap ((j:Int) + 1) = ((j + 1:Nat):Int):=(wrap64 (by omega) (by omega)).trans (by omega)
  have hx:L[i]? = some L[i]:=List.getElem?_eq_getElem hlt
  generalize L[i] = x at hx
  have htl:(L.take i).length = i:=by rw [List.length_take]; omega
  have hdl:(dur (nd,ep) k (L.take i)).length = i:=by rw [(dur_mk _ _ _).len,htl]
  have hdrop:L.drop i = x :: L.drop (i + 1):=by
   rw [List.drop_eq_getElem_cons hlt]
   have:=(List.getElem?_eq_some_iff.1 hx).2
   rw [this]
  have hcur:(dur (nd,ep) k (L.take i) ++ L.drop i)[i]? = some x:=by
   rw [List.getElem?_append_right (by omega),hdl,Nat.sub_self,hdrop]
   rfl
  have hts:L.take (i + 1) = L.take i ++ [x]:=by rw [List.take_add_one,hx]; rfl
  obtain ⟨o1,ver1,rd⟩:=hr.row.read (by intro e; rw [e] at hcur; simp at hcur)
  obtain ⟨xok,xi,xr⟩:=rd i x hcur
  have x0:=(xr 0 2 (by decide)).trans (congrArg some x.c0)
  have xd:=(xr 100 1 (by decide)).trans (congrArg some (Wr.cd xok))
  rw [Nat.add_zero] at x0
  have l2:loadA (fun o => h'[o]?) 2 (.ptr H.length 1 0) = some [.int .i64 nd,.int .i64 ep]:=by simp [loadA,cellsAt,D.who,pcs]
  have hi2:i < 4096:=by omega
  have hdur1:dur (nd,ep) k (L.take (i + 1)) = dur (nd,ep) k (L.take i) ++ dur (nd,ep) (k - j) [x]:=by rw [hts,dur_app,← ej]
  by_cases hv:vol (nd,ep) x = true
  ·obtain ⟨q1,q2⟩:=vol_iff.1 hv
   unfold Wr.who at q2
   simp only [Prod.mk.injEq] at q2
   rw [q1] at xd
   rw [q2.1,q2.2] at x0
   obtain ⟨oo,ver,cap,A,hRo,hWo,hAo,hAl,hPm⟩:=hr.row.mark (i:=i) (by rw [hll]; exact hlt)
   have hmk:markL (dur (nd,ep) k (L.take i) ++ L.drop i) i = dur (nd,ep) k (L.take (i + 1)) ++ L.drop (i + 1):=by
    unfold markL
    rw [hcur,hdur1,hdrop]
    simp only
    rw [List.set_append_right _ _ (by omega),hdl,Nat.sub_self]
    obtain ⟨d,hd⟩:∃ d,k - j = d + 1:=⟨k - j - 1,by omega⟩
    rw [hd]
    simp [dur,hv]
   rw [hmk] at hPm
   have hxi:(V.ptr o1 ver1 (i * 101)) = .ptr oo ver (i * 101):=by
    rw [hWo] at xi
    have g0:(0:Int) ≤ (i:Int):=by omega
    have g1:(i:Int) < ((dur (nd,ep) k (L.take i) ++ L.drop i).length:Int):=by rw [hll]; omega
    simp [iaddrSA,indexedI,intOf?,g0,g1] at xi
    obtain ⟨-,e1,e2⟩:=xi
    rw [e1,e2]
   simp only [V.ptr.injEq] at hxi
   obtain ⟨rfl,rfl,-⟩:=hxi
   have ho1R:o1 ∈ R:=by rw [hRo]; simp
   have ho1l:=D.low o1 ho1R
   have no1:o1 ≠ r:=fun e => hr.nr (e ▸ ho1R)
   obtain ⟨h2,eh2⟩:∃ h2,h2 = h'.set o1 ⟨ver1,.arr (setRange A (i * 101 + 100) [.bool true])⟩:=⟨_,rfl⟩
   have eh2':=eh2.symm
   rw [← eh2] at hPm
   have D2:DurR H r pages W R (nd,ep) (dur (nd,ep) k (L.take (i + 1)) ++ L.drop (i + 1)) h2:=by
    refine ⟨⟨by rw [eh2,List.getElem?_set_ne no1]; exact hob,hPm,hr.nr⟩,by rw [eh2]; simp [D.len],by rw [eh2,List.getElem?_set_ne (by omega)]; exact D.who,fun y hy h1 h2' => ?_,D.low⟩
    rw [eh2,List.getElem?_set_ne (fun e:o1 = y => h2' (e ▸ ho1R))]
    exact D.oth y hy h1 h2'
   have hAl':i * 101 + 100 + 1 ≤ A.length:=by omega
   have hj2:j + 1 = (volL (nd,ep) (L.take (i + 1))).length:=by rw [hts,volL_snoc,if_pos hv,List.length_append,← ej]; rfl
   have l1':loadA (fun o => h'[o]?) 1 (.ptr r 1 1) = some [W]:=l1
   simp +contextual -implicitDefEqProofs (maxSteps:=10000000) only [sxb,↓sxd,plainD,stays,↓prim_pick,doOp,get,ins,del,dels,Nat.reduceLT,Nat.reduceEqDiff,↓reduceIte,reduceCtorEq,ne_eq,implies_true,prim,YLD,mkA,V.cells,Nat.reduceAdd,Nat.reduceSub,Nat.reduceMul,Nat.reduceLeDiff,loadA,cellsAt,nAg,packA,List.drop,List.take,List.head?,binA,unA,eqCells,eqCell,negB,fillA,storeA,Ob.with,indexedI,V.oneCell,intOf?,resA,resA1,packR,sealDepth,Int.reduceLT,Int.reduceLE,Int.reduceToNat,Int.reduceNeg,Int.reduceAdd,Int.reduceSub,Int.reduceMul,cond_true,cond_false,Int.reduceBNe,Int.reduceBEq,eq_self,deads,List.replicate,argsF,l1,hlen,g1,g2,hwr,hwj,xi,x0,xd,l2,eqCells,eqCell,beq_self_eq_true,hAo,hAl',eh2',hi2,w1,-loadA]
   exact ⟨j + 1,hj2,by omega,rfl,by omega,D2⟩
  ·have hvf:vol (nd,ep) x = false:=by simpa using hv
   have D2:DurR H r pages W R (nd,ep) (dur (nd,ep) k (L.take (i + 1)) ++ L.drop (i + 1)) h':=by
    have:dur (nd,ep) k (L.take (i + 1)) ++ L.drop (i + 1) = dur (nd,ep) k (L.take i) ++ L.drop i:=by
     rw [hdur1,hdrop]
     simp [dur,hv]
    rw [this]
    exact D
   have hj2:j = (volL (nd,ep) (L.take (i + 1))).length:=by rw [hts,volL_snoc,if_neg hv]; exact ej
   have hvq:((x.nd == nd && x.ep == ep) && !x.du) = false:=by
    rw [← hvf]
    unfold vol Wr.who
    rw [Bool.and_comm]
    rfl
   cases hw:(x.nd == nd && x.ep == ep) with
   | false =>
    simp +contextual -implicitDefEqProofs (maxSteps:=10000000) only [sxb,↓sxd,plainD,stays,↓prim_pick,doOp,get,ins,del,dels,Nat.reduceLT,Nat.reduceEqDiff,↓reduceIte,reduceCtorEq,ne_eq,implies_true,prim,YLD,mkA,V.cells,Nat.reduceAdd,Nat.reduceSub,Nat.reduceMul,Nat.reduceLeDiff,loadA,cellsAt,nAg,packA,List.drop,List.take,List.head?,binA,unA,eqCells,eqCell,negB,fillA,storeA,Ob.with,indexedI,V.oneCell,intOf?,resA,resA1,packR,sealDepth,Int.reduceLT,Int.reduceLE,Int.reduceToNat,Int.reduceNeg,Int.reduceAdd,Int.reduceSub,Int.reduceMul,cond_true,cond_false,Int.reduceBNe,Int.reduceBEq,eq_self,deads,List.replicate,argsF,l1,hlen,g1,g2,hwr,xi,x0,xd,l2,eqCells,eqCell,hw,hi2,w1,-loadA]
    exact ⟨j,hj2,by omega,rfl,by omega,D2⟩
   | true =>
    rw [hw] at hvq
    have hdu:x.du = true:=by simpa using hvq
    rw [hdu] at xd
    simp +contextual -implicitDefEqProofs (maxSteps:=10000000) only [sxb,↓sxd,plainD,stays,↓prim_pick,doOp,get,ins,del,dels,Nat.reduceLT,Nat.reduceEqDiff,↓reduceIte,reduceCtorEq,ne_eq,implies_true,prim,YLD,mkA,V.cells,Nat.reduceAdd,Nat.reduceSub,Nat.reduceMul,Nat.reduceLeDiff,loadA,cellsAt,nAg,packA,List.drop,List.take,List.head?,binA,unA,eqCells,eqCell,negB,fillA,storeA,Ob.with,indexedI,V.oneCell,intOf?,resA,resA1,packR,sealDepth,Int.reduceLT,Int.reduceLE,Int.reduceToNat,Int.reduceNeg,Int.reduceAdd,Int.reduceSub,Int.reduceMul,cond_true,cond_false,Int.reduceBNe,Int.reduceBEq,eq_self,deads,List.replicate,argsF,l1,hlen,g1,g2,hwr,xi,x0,xd,l2,eqCells,eqCell,hw,hi2,w1,-loadA]
    exact ⟨j,hj2,by omega,rfl,by omega,D2⟩
end Go.Am.T


set_option linter.unusedVariables false
set_option linter.unusedSimpArgs false
set_option linter.unusedSectionVars false
set_option maxRecDepth 10000
namespace Go.Am.T
attribute [local congr] selV_congr impB_congr
theorem los_vol_len (w:Int × Int):∀ l:List Wr,(los w l).length + (volL w l).length = l.length
 | [] => rfl
 | x :: l => by
  have ih:=los_vol_len w l
  unfold los at ih ⊢
  rw [volL_cons,List.filter_cons]
  cases hv:vol w x <;> simp only [Bool.not_true,Bool.not_false,Bool.false_eq_true,↓reduceIte,List.length_cons] <;> omega
theorem los_snoc (w:Int × Int) (l:List Wr) (x:Wr):los w (l ++ [x]) = if vol w x = true then los w l else los w l ++ [x]:=by
 unfold los
 rw [List.filter_append,List.filter_cons]
 cases hv:vol w x <;> simp
theorem am33_wp {N n:Nat} {args:List V} {h:Heap} {C:V → Heap → Prop} (ha:args.length = 3) (H:sx ⟨pureOf am,callA am N n,N,h.length⟩ am33.body (fr am33.nt (argsF 0 args)) (h ++ deads am33.sites) (retQ am33.res C)):∃ v h',callA am N (n + 1) 33 args h = some (v,h') ∧ C v h' :=
 call_keep at33 rfl ha (by decide) (sx_wp H)
structure CollS (Hb:Heap) (s:Nat) (l:List Wr) (W:V) (R:List Nat) (h:Heap):Prop where
 len:h.length = Hb.length
 low:∀ o,o ≠ s → h[o]? = Hb[o]?
 row:PRow h W l R
 new:∀ o ∈ R,o = s
theorem CollS.add {Hb:Heap} {s:Nat} {l:List Wr} {W:V} {R:List Nat} {h:Heap} (C:CollS Hb s l W R h) (hs:s < Hb.length) {x:Wr} (hx:x.Ok) (hl:l.length ≤ 4096) :
  ∃ y W',appendA (fun o => h[o]?) s 101 136 W (.sl [.agg x.cs] 101 (some 1)) = some (.set s y W') ∧ CollS Hb s (l ++ [x]) W' [s] (h.set s y):=by
 have hlt:s < h.length:=by rw [C.len]; exact hs
 obtain ⟨o1,y,W',h1,h2,h3,h4⟩:=C.row.append (x:=x) hx (List.getElem?_eq_getElem hlt) (by omega)
 obtain rfl:o1 = s:=by
  rcases h3 with h | h
  ·exact h
  ·exact C.new o1 h
 exact ⟨y,W',h1,⟨by simp [C.len],fun o ho => by rw [List.getElem?_set_ne (Ne.symm ho)]; exact C.low o ho,h2,fun o ho' => by simpa using ho'⟩⟩
set_option maxHeartbeats 2000000 in
theorem lose_ref {N n:Nat} (hN:5000 ≤ N) (hn:5 ≤ n) {H:Heap} {r:Nat} {pages:Int} {L:List Wr} {W:V} {R:List Nat} (h:RefAt H r pages L W R) (hk:LOk pages L) (hp:1 ≤ pages) (hL:L.length ≤ 4000) (w:Int × Int) (k:Int) :
  ∃ v' H',callA am N n 33 [.ptr r 1 0,.agg (pcs w),.int .i64 k] H = some (v',H') ∧ v' = .tup [.int .i64 (opL pages L w k).1.1,.int .i64 (opL pages L w k).1.2] ∧ ∃ W' R',RefAt H' r pages (opL pages L w k).2 W' R' ∧ RBey H H' r R R':=by
 obtain ⟨n,rfl⟩:∃ m,n = m + 1:=⟨n - 1,by omega⟩
 obtain ⟨v1,H1,c32,rfl,h1,B1⟩:=@durable_ref N n hN (by omega) (H ++ [⟨1,.var (pcs w)⟩,⟨0,.dead⟩]) r pages L W R (h.app _) hk hp hL w k
 have rl:=h.lt
 have low1:∀ x,x < H.length → x ≠ r → x ∉ R → H1[x]? = H[x]?:=fun x hx a b => by rw [B1.oth x (by simp; omega) a b,List.getElem?_append_left hx]
 have nsite:∀ j,j < 2 → H.length + j ≠ r ∧ H.length + j ∉ R:=fun j hj => ⟨by omega,fun e => by have:=h.row.lt _ e; omega⟩
 have s0:H1[H.length]? = some ⟨1,.var (pcs w)⟩:=by
  have e:=nsite 0 (by omega)
  rw [B1.oth H.length (by simp) e.1 e.2,app_get0]
  rfl
 have s1:H1[H.length + 1]? = some ⟨0,.dead⟩:=by
  have e:=nsite 1 (by omega)
  rw [B1.oth _ (by simp) e.1 e.2,app_get]
  rfl
 have l1:H.length + 2 ≤ H1.length:=by have:=B1.len; simpa using this
 unfold opL
 unfold opD at c32 h1
 obtain ⟨nd,ep⟩:=w
 by_cases hb:badA pages (nd,ep) 0 k = true
 ·rw [if_pos hb]
  rw [if_pos hb] at c32 h1
  unfold pcs at c32 ⊢
  simp only at c32 ⊢
  refine am33_wp rfl ?_
  simp +contextual -implicitDefEqProofs (maxSteps:=10000000) only [sxb,↓sxd,plainD,stays,↓prim_pick,doOp,get,ins,del,dels,Nat.reduceLT,Nat.reduceEqDiff,↓reduceIte,reduceCtorEq,ne_eq,implies_true,prim,YLD,mkA,V.cells,Nat.reduceAdd,Nat.reduceSub,Nat.reduceMul,Nat.reduceLeDiff,loadA,cellsAt,nAg,packA,List.drop,List.take,List.head?,binA,unA,eqCells,eqCell,negB,fillA,storeA,Ob.with,indexedI,V.oneCell,intOf?,resA,resA1,packR,sealDepth,Int.reduceLT,Int.reduceLE,Int.reduceToNat,Int.reduceNeg,Int.reduceAdd,Int.reduceSub,Int.reduceMul,cond_true,cond_false,Int.reduceBNe,Int.reduceBEq,eq_self,deads,List.replicate,argsF,am33,app_get0,app_get,app_set0,app_set,c32]
  exact ⟨W,R,h1,⟨by omega,low1,fun x hx => .inl hx⟩⟩
 ·rw [if_neg hb]
  rw [if_neg hb] at c32 h1
  simp only at h1
  obtain ⟨L1,eL1⟩:∃ L1,L1 = dur (nd,ep) k.toNat L:=⟨_,rfl⟩
  rw [← eL1] at h1 ⊢
  have hl1:L1.length = L.length:=by rw [eL1]; exact (dur_mk _ _ _).len
  have hk1:LOk pages L1:=by rw [eL1]; exact hk.dur _ _
  have hplL:=(plOf_val (nd,ep) L1 [] fun x hx => (hk1.pg x (by simpa using hx)).1).1
  rw [eL1,plOf_dur,List.length_drop] at hplL
  have hcount:(plOf (nd,ep) [] L).length - min k.toNat (plOf (nd,ep) [] L).length = (volL (nd,ep) L1).length:=by rw [eL1]; omega
  rw [hcount]
  have hlv:=los_vol_len (nd,ep) L1
  have hok:=h1.row.1
  obtain ⟨w1,w2,w3,w4,w5,w6⟩:=h1.row.shape
  unfold pcs at c32 s0 ⊢
  simp only at c32 s0 ⊢
  refine am33_wp rfl ?_
  simp +contextual -implicitDefEqProofs (maxSteps:=10000000) only [sxb,↓sxd,plainD,stays,↓prim_pick,doOp,get,ins,del,dels,Nat.reduceLT,Nat.reduceEqDiff,↓reduceIte,reduceCtorEq,ne_eq,implies_true,prim,YLD,mkA,V.cells,Nat.reduceAdd,Nat.reduceSub,Nat.reduceMul,Nat.reduceLeDiff,loadA,cellsAt,nAg,packA,List.drop,List.take,List.head?,binA,unA,eqCells,eqCell,negB,fillA,storeA,Ob.with,indexedI,V.oneCell,intOf?,resA,resA1,packR,sealDepth,Int.reduceLT,Int.reduceLE,Int.reduceToNat,Int.reduceNeg,Int.reduceAdd,Int.reduceSub,Int.reduceMul,cond_true,cond_false,Int.reduceBNe,Int.reduceBEq,eq_self,deads,List.replicate,argsF,am33,app_get0,app_get,app_set0,app_set,c32,bne_self_eq_false]
  refine sx_loop (fun i t h' => ∃ Wa Ra,t = fr 75 [(0,.ptr r 1 0),(4,.ptr H.length 1 0),(10,Wa),(11,.int .i64 (i:Nat))] ∧ i ≤ L1.length ∧ CollS H1 (H.length + 1) (los (nd,ep) (L1.take i)) Wa Ra h') 4096 (by show 4096 < N; omega)
   ⟨.nils,[],rfl,Nat.zero_le _,⟨rfl,fun _ _ => rfl,⟨by simp [los],.inl ⟨by simp [los],.inl rfl,rfl⟩⟩,by simp⟩⟩ ?_
  rintro i t h' hi ⟨Wa,Ra,rfl,hiL,C⟩
  have hrR:∀ o ∈ R,o ≠ H.length + 1:=fun o ho e => (nsite 1 (by omega)).2 (e ▸ ho)
  have hr:RefAt h' r pages L1 W R:=h1.keep (C.low r (by omega)) (fun o ho => C.low o (hrR o ho))
  have hob:=hr.ob
  have k1:loadA (fun o => h'[o]?) 1 (.ptr r 1 1) = some [W]:=by simp [loadA,cellsAt,hob]
  have hlen:=hr.row.len
  have hlenA:=C.row.len
  obtain ⟨v1,v2,v3,v4,v5,v6⟩:=C.row.shape
  have hsl:(los (nd,ep) (L1.take i)).length ≤ i:=by
   have:=List.length_filter_le (fun x => !vol (nd,ep) x) (L1.take i)
   rw [List.length_take] at this
   unfold los
   omega
  by_cases hlt:i < L1.length
  case neg =>
   have:i = L1.length:=by omega
   subst this
   have g1:decide ((L1.length:Int) < (L1.length:Int)) = false:=decide_eq_false (by omega)
   rw [List.take_length] at C hlenA
   have hw:IntKind.i64.wrap ((L1.length:Int) - ((los (nd,ep) L1).length:Int)) = ((volL (nd,ep) L1).length:Int):=(wrap64 (by omega) (by omega)).trans (by omega)
   have hrl:r < h'.length:=lt_of_get hob
   simp +contextual -implicitDefEqProofs (maxSteps:=10000000) only [sxb,↓sxd,plainD,stays,↓prim_pick,doOp,get,ins,del,dels,Nat.reduceLT,Nat.reduceEqDiff,↓reduceIte,reduceCtorEq,ne_eq,implies_true,prim,YLD,mkA,V.cells,Nat.reduceAdd,Nat.reduceSub,Nat.reduceMul,Nat.reduceLeDiff,loadA,cellsAt,nAg,packA,List.drop,List.take,List.head?,binA,unA,eqCells,eqCell,negB,fillA,storeA,Ob.with,indexedI,V.oneCell,intOf?,resA,resA1,packR,sealDepth,Int.reduceLT,Int.reduceLE,Int.reduceToNat,Int.reduceNeg,Int.reduceAdd,Int.reduceSub,Int.reduceMul,cond_true,cond_false,Int.reduceBNe,Int.reduceBEq,eq_self,deads,List.replicate,argsF,k1,hob,hrl,hlen,hlenA,g1,hw,v1,-loadA]
   refine ⟨Wa,Ra,⟨List.getElem?_set_self hrl,C.row.keep fun o ho => List.getElem?_set_ne (by have:=C.new o ho; omega),fun e => by have:=C.new r e; omega⟩,⟨by simp [C.len]; omega,fun x hx a b => ?_,fun x hx => .inr (by have:=C.new x hx; omega)⟩⟩
   rw [List.getElem?_set_ne (Ne.symm a),C.low x (by omega)]
   exact low1 x hx a b
  have g1:decide ((i:Int) < (L1.length:Int)) = true:=decide_eq_true (by omega)
  have hwr:IntKind.i64.wrap ((i:Int) + 1) = ((i + 1:Nat):Int):=(wrap64 (by omega) (by omega)).trans (by omega)
  have hx:L1[i]? = some L1[i]:=List.getElem?_eq_getElem hlt
  generalize L1[i] = x at hx
  obtain ⟨o1,ver1,rd⟩:=hr.row.read (by intro e; rw [e] at hlt; simp at hlt)
  obtain ⟨xok,xi,xr⟩:=rd i x hx
  have x0:=(xr 0 2 (by decide)).trans (congrArg some x.c0)
  have xd:=(xr 100 1 (by decide)).trans (congrArg some (Wr.cd xok))
  rw [Nat.add_zero] at x0
  have hcl:=Wr.len xok
  have htk:List.take 101 x.cs = x.cs:=List.take_of_length_le (by omega)
  have xall:=xr 0 101 (by decide)
  rw [List.drop_zero,htk,Nat.add_zero] at xall
  have hone:=x.one
  have hts:L1.take (i + 1) = L1.take i ++ [x]:=by rw [List.take_add_one,hx]; rfl
  have r1:List.range 1 = [0]:=rfl
  have wr:wrapV x.cs = .agg x.cs:=rfl
  have s0':h'[H.length]? = some ⟨1,.var [.int .i64 nd,.int .i64 ep]⟩:=by rw [C.low _ (by omega)]; exact s0
  have l2:loadA (fun o => h'[o]?) 2 (.ptr H.length 1 0) = some [.int .i64 nd,.int .i64 ep]:=by simp [loadA,cellsAt,s0']
  have hi2:i < 4096:=by omega
  by_cases hv:vol (nd,ep) x = true
  ·obtain ⟨q1,q2⟩:=vol_iff.1 hv
   unfold Wr.who at q2
   simp only [Prod.mk.injEq] at q2
   rw [q1] at xd
   rw [q2.1,q2.2] at x0
   have e:los (nd,ep) (L1.take (i + 1)) = los (nd,ep) (L1.take i):=by rw [hts,los_snoc,if_pos hv]
   rw [← e] at C
   simp +contextual -implicitDefEqProofs (maxSteps:=10000000) only [sxb,↓sxd,plainD,stays,↓prim_pick,doOp,get,ins,del,dels,Nat.reduceLT,Nat.reduceEqDiff,↓reduceIte,reduceCtorEq,ne_eq,implies_true,prim,YLD,mkA,V.cells,Nat.reduceAdd,Nat.reduceSub,Nat.reduceMul,Nat.reduceLeDiff,loadA,cellsAt,nAg,packA,List.drop,List.take,List.head?,binA,unA,eqCells,eqCell,negB,fillA,storeA,Ob.with,indexedI,V.oneCell,intOf?,resA,resA1,packR,sealDepth,Int.reduceLT,Int.reduceLE,Int.reduceToNat,Int.reduceNeg,Int.reduceAdd,Int.reduceSub,Int.reduceMul,cond_true,cond_false,Int.reduceBNe,Int.reduceBEq,eq_self,deads,List.replicate,argsF,k1,hlen,g1,hwr,xi,x0,xd,l2,eqCells,eqCell,beq_self_eq_true,hi2,-loadA]
   exact ⟨Wa,Ra,rfl,by omega,C⟩
  ·have hvf:vol (nd,ep) x = false:=by simpa using hv
   have hvq:((x.nd == nd && x.ep == ep) && !x.du) = false:=by
    rw [← hvf]
    unfold vol Wr.who
    rw [Bool.and_comm]
    rfl
   obtain ⟨y,W',hA,C2⟩:=C.add (by omega) xok (by omega)
   have e:los (nd,ep) (L1.take (i + 1)) = los (nd,ep) (L1.take i) ++ [x]:=by rw [hts,los_snoc,if_neg hv]
   rw [← e] at C2
   obtain ⟨u1,u2,u3,u4,u5,u6⟩:=C2.row.shape
   cases hw:(x.nd == nd && x.ep == ep) with
   | false =>
    simp +contextual -implicitDefEqProofs (maxSteps:=10000000) only [sxb,↓sxd,plainD,stays,↓prim_pick,doOp,get,ins,del,dels,Nat.reduceLT,Nat.reduceEqDiff,↓reduceIte,reduceCtorEq,ne_eq,implies_true,prim,YLD,mkA,V.cells,Nat.reduceAdd,Nat.reduceSub,Nat.reduceMul,Nat.reduceLeDiff,loadA,cellsAt,nAg,packA,List.drop,List.take,List.head?,binA,unA,eqCells,eqCell,negB,fillA,storeA,Ob.with,indexedI,V.oneCell,intOf?,resA,resA1,packR,sealDepth,Int.reduceLT,Int.reduceLE,Int.reduceToNat,Int.reduceNeg,Int.reduceAdd,Int.reduceSub,Int.reduceMul,cond_true,cond_false,Int.reduceBNe,Int.reduceBEq,eq_self,deads,List.replicate,argsF,k1,hlen,g1,hwr,xi,x0,xd,xall,l2,eqCells,eqCell,hw,r1,wr,htk,hcl,hone,hA,hi2,-loadA]
    exact ⟨W',_,rfl,by omega,C2⟩
   | true =>
    rw [hw] at hvq
    have hdu:x.du = true:=by simpa using hvq
    rw [hdu] at xd
    simp +contextual -implicitDefEqProofs (maxSteps:=10000000) only [sxb,↓sxd,plainD,stays,↓prim_pick,doOp,get,ins,del,dels,Nat.reduceLT,Nat.reduceEqDiff,↓reduceIte,reduceCtorEq,ne_eq,implies_true,prim,YLD,mkA,V.cells,Nat.reduceAdd,Nat.reduceSub,Nat.reduceMul,Nat.reduceLeDiff,loadA,cellsAt,nAg,packA,List.drop,List.take,List.head?,binA,unA,eqCells,eqCell,negB,fillA,storeA,Ob.with,indexedI,V.oneCell,intOf?,resA,resA1,packR,sealDepth,Int.reduceLT,Int.reduceLE,Int.reduceToNat,Int.reduceNeg,Int.reduceAdd,Int.reduceSub,Int.reduceMul,cond_true,cond_false,Int.reduceBNe,Int.reduceBEq,eq_self,deads,List.replicate,argsF,k1,hlen,g1,hwr,xi,x0,xd,xall,l2,eqCells,eqCell,hw,r1,wr,htk,hcl,hone,hA,hi2,-loadA]
    exact ⟨W',_,rfl,by omega,C2⟩
end Go.Am.T


set_option linter.unusedVariables false
set_option linter.unusedSimpArgs false
set_option linter.unusedSectionVars false
set_option maxRecDepth 10000
namespace Go.Am.T
attribute [local congr] selV_congr impB_congr
theorem pages_md {N n:Nat} (hn:2 ≤ n) {H:Heap} {a m:Nat} {nn:Int} {L:List Wr} {Q:List Pg} {O:List Od} (M:Md H a m nn L Q O):callA am N n 39 [.ptr a 1 0] H = some (.int .i64 nn,H):=by
 obtain ⟨n,rfl⟩:∃ m,n = m + 1:=⟨n - 1,by omega⟩
 have c26:=@there_spec N n (by omega) _ a m nn Q M.at_.q16 M.n1 M.at_.ob'
 have oa:=M.at_.ob'
 have q1:=@mcs_n Q nn m M.at_.q16
 have ql:=@mcs_len Q nn m M.at_.q16
 refine call_keep_eq at39 rfl rfl (by decide) (sx_wp ?_)
 generalize mcs Q nn m = cs at *
 simp +contextual -implicitDefEqProofs (maxSteps:=10000000) only [sxb,↓sxd,plainD,stays,↓prim_pick,doOp,get,ins,del,dels,Nat.reduceLT,Nat.reduceEqDiff,↓reduceIte,reduceCtorEq,ne_eq,implies_true,prim,YLD,mkA,V.cells,Nat.reduceAdd,Nat.reduceSub,Nat.reduceMul,Nat.reduceLeDiff,loadA,cellsAt,nAg,packA,List.drop,List.take,List.head?,binA,unA,eqCells,eqCell,negB,fillA,storeA,Ob.with,indexedI,V.oneCell,intOf?,resA,resA1,packR,sealDepth,Int.reduceLT,Int.reduceLE,Int.reduceToNat,Int.reduceNeg,Int.reduceAdd,Int.reduceSub,Int.reduceMul,cond_true,cond_false,Int.reduceBNe,Int.reduceBEq,eq_self,deads,List.replicate,argsF,am39,c26,oa,q1,ql,List.append_nil]
theorem badP_out (nn p:Int):badA nn (0,1) p 0 = outP nn p:=by
 rw [Bool.eq_iff_iff]
 unfold badA outP
 simp only [Bool.or_eq_true,decide_eq_true_eq]
 omega
theorem holds_y {g:Nat} (hg:g = 46 ∨ g = 48):holdsF g = yF (g == 46):=by
 funext x
 rcases hg with rfl | rfl
 ·simp [holdsF,yF]
 ·simp [holdsF,yF]
theorem top_all {N n:Nat} (hN:5000 ≤ N) (hn:8 ≤ n) {g:Nat} (hg:g = 46 ∨ g = 48) {H:Heap} {a m:Nat} {nn:Int} {L:List Wr} {Q:List Pg} {O:List Od} (M:Md H a m nn L Q O) (p:Int) (hL:L.length ≤ 4096) :
  ∃ v' H',callA am N n 45 [.ptr a 1 0,.int .i64 p,.func g [] []] H = some (v',H') ∧ v' = yV nn L p (yF (g == 46)) ∧ ∃ tl,H' = H ++ tl:=by
 unfold yV
 by_cases hb:outP nn p = true
 ·rw [if_pos hb]
  refine @top_bad N n (by omega) (.ptr a 1 0) H 2 (by decide) (.int .i64 p) g fun T => ?_
  have c29:=@ask_spec N (n - 1) (by omega) (H ++ T) a m nn Q M.at_.q16 M.n1 (M.app T).at_.ob' (0,1) p 0
  have eA:askE nn (0,1) p 0 = 2:=by unfold askE; rw [badP_out,hb]; rfl
  rw [eA] at c29
  exact c29
 ·rw [if_neg hb]
  have hb':badA nn (0,1) p 0 = false:=by rw [badP_out]; simpa using hb
  obtain ⟨-,p0,-⟩:=badA_k hb'
  obtain ⟨p,rfl⟩:∃ p':Nat,p = (p':Int):=⟨p.toNat,by omega⟩
  have:=@top_spec N n hN (by omega) g hg H a m nn L Q O M p hb' hL
  rw [holds_y hg] at this
  exact this
theorem yV_parts {nn:Int} {L:List Wr} (h:∀ x ∈ L,x.Ok) (p:Int) (f:Wr → Bool):∃ vv e,yV nn L p f = .tup [.agg vv,.int .i64 e] ∧ vv.length = 97 ∧ vv.all V.oneCell = true ∧ List.take 97 vv = vv ∧ setRange zV 0 vv = vv:=by
 unfold yV
 split
 ·exact ⟨zV,2,rfl,rfl,rfl,rfl,rfl⟩
 ·obtain ⟨k1,k2,k3,k4,-⟩:=verCs_ok (topW_ok (f:=f) (pgOf_ok h p))
  exact ⟨_,0,rfl,k1,k2,k3,k4⟩
theorem base_all {N n:Nat} (hN:5000 ≤ N) (hn:9 ≤ n) {H:Heap} {a m:Nat} {nn:Int} {L:List Wr} {Q:List Pg} {O:List Od} (M:Md H a m nn L Q O) (p:Int) (hL:L.length ≤ 4096) :
  ∃ v' H',callA am N n 21 [.ptr a 1 0,.int .i64 p] H = some (v',H') ∧ v' = yV nn L p (yF true) ∧ ∃ tl,H' = H ++ tl:=by
 obtain ⟨n,rfl⟩:∃ m,n = m + 1:=⟨n - 1,by omega⟩
 obtain ⟨v',H',c,rfl,tl,rfl⟩:=@top_all N n hN (by omega) 46 (.inl rfl) _ a m nn L Q O (M.app [⟨1,.var zV⟩]) p hL
 obtain ⟨vv,e,ev,k1,k2,k3,k4⟩:=@yV_parts nn L M.ab.ok.ok p (yF true)
 have e46:((46:Nat) == 46) = true:=rfl
 rw [e46,ev] at c
 rw [ev]
 unfold zV at k4 c
 refine am21_wp rfl ?_
 simp +contextual -implicitDefEqProofs (maxSteps:=10000000) only [sxb,↓sxd,plainD,stays,↓prim_pick,doOp,get,ins,del,dels,Nat.reduceLT,Nat.reduceEqDiff,↓reduceIte,reduceCtorEq,ne_eq,implies_true,prim,YLD,mkA,V.cells,Nat.reduceAdd,Nat.reduceSub,Nat.reduceMul,Nat.reduceLeDiff,loadA,cellsAt,nAg,packA,List.drop,List.take,List.head?,binA,unA,eqCells,eqCell,negB,fillA,storeA,Ob.with,indexedI,V.oneCell,intOf?,resA,resA1,packR,sealDepth,Int.reduceLT,Int.reduceLE,Int.reduceToNat,Int.reduceNeg,Int.reduceAdd,Int.reduceSub,Int.reduceMul,cond_true,cond_false,Int.reduceBNe,Int.reduceBEq,eq_self,deads,List.replicate,argsF,am21,app_get0,app_get,app_set0,app_set,c,List.append_assoc,k1,k2,k3,k4]
 exact ⟨_,rfl⟩
theorem young_all {N n:Nat} (hN:5000 ≤ N) (hn:9 ≤ n) {H:Heap} {a m:Nat} {nn:Int} {L:List Wr} {Q:List Pg} {O:List Od} (M:Md H a m nn L Q O) (p:Int) (hL:L.length ≤ 4096) :
  ∃ v' H',callA am N n 23 [.ptr a 1 0,.int .i64 p] H = some (v',H') ∧ v' = yV nn L p (yF false) ∧ ∃ tl,H' = H ++ tl:=by
 obtain ⟨n,rfl⟩:∃ m,n = m + 1:=⟨n - 1,by omega⟩
 obtain ⟨v',H',c,rfl,tl,rfl⟩:=@top_all N n hN (by omega) 48 (.inr rfl) _ a m nn L Q O (M.app [⟨1,.var zV⟩]) p hL
 obtain ⟨vv,e,ev,k1,k2,k3,k4⟩:=@yV_parts nn L M.ab.ok.ok p (yF false)
 have e46:((48:Nat) == 46) = false:=rfl
 rw [e46,ev] at c
 rw [ev]
 unfold zV at k4 c
 refine am23_wp rfl ?_
 simp +contextual -implicitDefEqProofs (maxSteps:=10000000) only [sxb,↓sxd,plainD,stays,↓prim_pick,doOp,get,ins,del,dels,Nat.reduceLT,Nat.reduceEqDiff,↓reduceIte,reduceCtorEq,ne_eq,implies_true,prim,YLD,mkA,V.cells,Nat.reduceAdd,Nat.reduceSub,Nat.reduceMul,Nat.reduceLeDiff,loadA,cellsAt,nAg,packA,List.drop,List.take,List.head?,binA,unA,eqCells,eqCell,negB,fillA,storeA,Ob.with,indexedI,V.oneCell,intOf?,resA,resA1,packR,sealDepth,Int.reduceLT,Int.reduceLE,Int.reduceToNat,Int.reduceNeg,Int.reduceAdd,Int.reduceSub,Int.reduceMul,cond_true,cond_false,Int.reduceBNe,Int.reduceBEq,eq_self,deads,List.replicate,argsF,am23,app_get0,app_get,app_set0,app_set,c,List.append_assoc,k1,k2,k3,k4]
 exact ⟨_,rfl⟩
def VRow (H:Heap) (W:V) (l:List (List V)) (R:List Nat):Prop :=
 (∀ v ∈ l,v.length = 97 ∧ v.all V.oneCell = true) ∧ ((l = [] ∧ W = .nils ∧ R = []) ∨ ∃ o ver,R = [o] ∧ W = .view o ver 0 l.length 97 none ∧ H[o]? = some ⟨ver,.arr (l.flatMap id)⟩)
theorem VRow.keep {H H':Heap} {W:V} {l:List (List V)} {R:List Nat} (h:VRow H W l R) (hk:∀ o ∈ R,H'[o]? = H[o]?):VRow H' W l R:=by
 obtain ⟨h0,h | ⟨o,ver,rfl,hw,ho⟩⟩:=h
 ·exact ⟨h0,.inl h⟩
 ·exact ⟨h0,.inr ⟨o,ver,rfl,hw,by rw [hk o (by simp)]; exact ho⟩⟩
theorem VRow.len {H:Heap} {W:V} {l:List (List V)} {R:List Nat} (h:VRow H W l R):lenA W = some l.length:=by
 obtain ⟨-,⟨rfl,rfl,-⟩ | ⟨o,ver,rfl,rfl,ho⟩⟩:=h <;> rfl
theorem VRow.lt {H:Heap} {W:V} {l:List (List V)} {R:List Nat} (h:VRow H W l R):∀ o ∈ R,o < H.length:=by
 obtain ⟨-,⟨-,-,rfl⟩ | ⟨o,ver,rfl,-,ho⟩⟩:=h
 ·intro o ho; cases ho
 ·intro o' h'
  obtain rfl:o' = o:=by simpa using h'
  exact lt_of_get ho
theorem VRow.shape {H:Heap} {W:V} {l:List (List V)} {R:List Nat} (h:VRow H W l R):W.cells = [W] ∧ W.oneCell = true ∧ (∀ s,W ≠ .str s) ∧ (∀ s,W ≠ .agg s) ∧ (∀ s,W ≠ .tup s) ∧ W ≠ .junk:=by
 obtain ⟨-,⟨rfl,rfl,-⟩ | ⟨o,ver,rfl,rfl,ho⟩⟩:=h <;> exact ⟨rfl,rfl,fun _ => V.noConfusion,fun _ => V.noConfusion,fun _ => V.noConfusion,V.noConfusion⟩
theorem flat97:∀ {l:List (List V)},(∀ v ∈ l,v.length = 97) → (l.flatMap id).length = l.length * 97
 | [],_ => rfl
 | v :: l,h => by
  rw [List.flatMap_cons,List.length_append,flat97 fun u hu => h u (by simp [hu])]
  have:=h v (by simp)
  simp only [id,this,List.length_cons]
  omega
theorem VRow.append {H:Heap} {W:V} {l:List (List V)} {R:List Nat} {o0:Nat} {x0:Ob} {x:List V} (h:VRow H W l R) (hx:x.length = 97) (ha1:x.all V.oneCell = true) (h0:H[o0]? = some x0) (hL:l.length ≤ 100000) :
  ∃ o1 y W',appendA (fun o => H[o]?) o0 97 104 W (.sl [.agg x] 97 (some 1)) = some (.set o1 y W') ∧ VRow (H.set o1 y) W' (l ++ [x]) [o1] ∧ (o1 = o0 ∨ o1 ∈ R) ∧ o1 < H.length:=by
 have hl1:lenA (.sl [.agg x] 97 (some 1)) = some 1:=rfl
 have hf1:firstA (fun o => H[o]?) 97 1 (.sl [.agg x] 97 (some 1)) = some x:=firstA_sl1
 obtain ⟨hall,⟨rfl,rfl,rfl⟩ | ⟨o,ver,rfl,rfl,ho⟩⟩:=h
 ·refine ⟨o0,⟨x0.ver + 1,.arr x⟩,.view o0 (x0.ver + 1) 0 1 97 none,?_,⟨fun v hv => by obtain rfl:v = x:=(by simpa using hv); exact ⟨hx,ha1⟩,.inr ⟨o0,x0.ver + 1,rfl,rfl,?_⟩⟩,.inl rfl,lt_of_get h0⟩
  ·unfold appendA
   simp [hl1,hf1,ha1,mkA,h0,maxBytes]
  ·rw [List.getElem?_set_self (lt_of_get h0)]; simp
 ·have hlen:=flat97 fun v hv => (hall v hv).1
  refine ⟨o,⟨ver + 1,.arr ((l ++ [x]).flatMap id)⟩,.view o (ver + 1) 0 (l.length + 1) 97 none,?_,⟨fun v hv => ?_,.inr ⟨o,ver + 1,rfl,by simp,?_⟩⟩,.inr (by simp),lt_of_get ho⟩
  ·have hbig:(l.length + 1) * 104 ≤ maxBytes:=by unfold maxBytes; omega
   unfold appendA
   simp only [hl1,hf1,ha1,cellsAt,ho,↓reduceIte,Nat.zero_add,hlen,Nat.le_refl]
   rw [if_neg (by omega),if_pos hbig,List.drop_zero]
   simp
  ·rcases List.mem_append.1 hv with hv | hv
   ·exact hall v hv
   ·obtain rfl:v = x:=by simpa using hv
    exact ⟨hx,ha1⟩
  ·rw [List.getElem?_set_self (lt_of_get ho)]
theorem VRow.read {H:Heap} {W:V} {l:List (List V)} {R:List Nat} (h:VRow H W l R) (hne:l ≠ []):∃ o ver,∀ (k:Nat) (x:List V),l[k]? = some x → iaddrSA 97 W (.int .i64 (k:Int)) = some (.ret (.ptr o ver (k * 97))) ∧ loadA (fun o => H[o]?) 97 (.ptr o ver (k * 97)) = some x:=by
 obtain ⟨hall,⟨h0,-⟩ | ⟨o,ver,-,hW,ho⟩⟩:=h
 ·exact absurd h0 hne
 ·refine ⟨o,ver,fun k x hk => ?_⟩
  have hkl:=(List.getElem?_eq_some_iff.1 hk).1
  have hl:=flat97 fun v hv => (hall v hv).1
  refine ⟨?_,?_⟩
  ·rw [hW]
   have g0:(0:Int) ≤ (k:Int):=by omega
   have g1:(k:Int) < (l.length:Int):=by omega
   simp [iaddrSA,indexedI,intOf?,g0,g1]
  ·simp only [loadA,cellsAt,ho,↓reduceIte]
   rw [if_pos (by rw [hl]; omega),flat_at id 97 (fun v hv => (hall v hv).1) hk]
   rfl
def bsL (nn:Int) (L:List Wr) (k:Nat):List (List V):=(List.range k).map fun p:Nat => verCs (topW (yF true) (pgOf L (p:Int)))
theorem am47_wp {N n:Nat} {args:List V} {h:Heap} {C:V → Heap → Prop} (ha:args.length = 1) (H:sx ⟨pureOf am,callA am N n,N,h.length⟩ am47.body (fr am47.nt (argsF 0 args)) (h ++ deads am47.sites) (retQ am47.res C)):∃ v h',callA am N (n + 1) 47 args h = some (v,h') ∧ C v h' :=
 call_keep at47 rfl ha (by decide) (sx_wp H)
set_option maxHeartbeats 1000000 in
theorem bases_md {N n:Nat} (hN:5000 ≤ N) (hn:11 ≤ n) {H:Heap} {a m:Nat} {nn:Int} {L:List Wr} {Q:List Pg} {O:List Od} (M:Md H a m nn L Q O) (hL:L.length ≤ 4096) :
  ∃ v' H',callA am N n 47 [.ptr a 1 0] H = some (v',H') ∧ ∃ R tl,H' = H ++ tl ∧ VRow H' v' (bsL nn L nn.toNat) R ∧ ∀ o ∈ R,o = H.length + 1:=by
 obtain ⟨n,rfl⟩:∃ m,n = m + 1:=⟨n - 1,by omega⟩
 have n1:=M.n1
 have n16:=M.n16
 have c39:=fun l => @pages_md N n (by omega) _ _ _ _ _ _ _ (M.app l)
 refine am47_wp rfl ?_
 simp +contextual -implicitDefEqProofs (maxSteps:=10000000) only [sxb,↓sxd,plainD,stays,↓prim_pick,doOp,get,ins,del,dels,Nat.reduceLT,Nat.reduceEqDiff,↓reduceIte,reduceCtorEq,ne_eq,implies_true,prim,YLD,mkA,V.cells,Nat.reduceAdd,Nat.reduceSub,Nat.reduceMul,Nat.reduceLeDiff,loadA,cellsAt,nAg,packA,List.drop,List.take,List.head?,binA,unA,eqCells,eqCell,negB,fillA,storeA,Ob.with,indexedI,V.oneCell,intOf?,resA,resA1,packR,sealDepth,Int.reduceLT,Int.reduceLE,Int.reduceToNat,Int.reduceNeg,Int.reduceAdd,Int.reduceSub,Int.reduceMul,cond_true,cond_false,Int.reduceBNe,Int.reduceBEq,eq_self,deads,List.replicate,argsF,am47,app_get0,app_get,app_set0,app_set,c39]
 refine sx_loop (fun i t h' => ∃ Wa Ra s0 s1 tl,t = fr 24 [(0,.ptr a 1 0),(3,Wa),(8,.int .i64 nn),(9,.int .i64 (i:Nat))] ∧ (i:Int) ≤ nn ∧ h' = H ++ (s0 :: s1 :: tl) ∧ VRow h' Wa (bsL nn L i) Ra ∧ (∀ o ∈ Ra,o = H.length + 1)) 16 (by show 16 < N; omega)
  ⟨.nils,[],_,_,[],rfl,by omega,rfl,⟨by simp [bsL],.inl ⟨rfl,rfl,rfl⟩⟩,by simp⟩ ?_
 rintro i t h' hi ⟨Wa,Ra,s0,s1,tl,rfl,hin,rfl,hV,hRa⟩
 by_cases hlt:(i:Int) < nn
 case neg =>
  have e:i = nn.toNat:=by omega
  have g1:decide ((i:Int) < nn) = false:=decide_eq_false hlt
  rw [e] at hV
  simp +contextual -implicitDefEqProofs (maxSteps:=10000000) only [sxb,↓sxd,plainD,stays,↓prim_pick,doOp,get,ins,del,dels,Nat.reduceLT,Nat.reduceEqDiff,↓reduceIte,reduceCtorEq,ne_eq,implies_true,prim,YLD,mkA,V.cells,Nat.reduceAdd,Nat.reduceSub,Nat.reduceMul,Nat.reduceLeDiff,loadA,cellsAt,nAg,packA,List.drop,List.take,List.head?,binA,unA,eqCells,eqCell,negB,fillA,storeA,Ob.with,indexedI,V.oneCell,intOf?,resA,resA1,packR,sealDepth,Int.reduceLT,Int.reduceLE,Int.reduceToNat,Int.reduceNeg,Int.reduceAdd,Int.reduceSub,Int.reduceMul,cond_true,cond_false,Int.reduceBNe,Int.reduceBEq,eq_self,deads,List.replicate,argsF,g1]
  exact ⟨Ra,_,rfl,hV,hRa⟩
 have g1:decide ((i:Int) < nn) = true:=decide_eq_true hlt
 have hwr:IntKind.i64.wrap ((i:Int) + 1) = ((i + 1:Nat):Int):=(wrap64 (by omega) (by omega)).trans (by omega)
 obtain ⟨v',H',c21,rfl,tl2,rfl⟩:=@base_all N n hN (by omega) _ _ _ _ _ _ _ (M.app (s0 :: s1 :: tl)) (i:Int) hL
 have hno:outP nn (i:Int) = false:=by
  unfold outP
  simp
  omega
 unfold yV at c21
 rw [if_neg (by rw [hno]; simp)] at c21
 obtain ⟨k1,k2,k3,k4,-⟩:=verCs_ok (topW_ok (f:=yF true) (pgOf_ok M.ab.ok.ok (i:Int)))
 have hbs:bsL nn L (i + 1) = bsL nn L i ++ [verCs (topW (yF true) (pgOf L i))]:=by simp [bsL,List.range_succ]
 generalize verCs (topW (yF true) (pgOf L i)) = vv at *
 unfold zV at k4
 rw [List.append_assoc,List.cons_append,List.cons_append] at c21
 have hV2:VRow (H ++ (⟨s0.ver + 1,.var vv⟩ :: s1 :: (tl ++ tl2))) Wa (bsL nn L i) Ra:=hV.keep fun o ho => by
  rw [hRa o ho,app_get,app_get]
  rfl
 have hs1:(H ++ (⟨s0.ver + 1,.var vv⟩ :: s1 :: (tl ++ tl2)))[H.length + 1]? = some s1:=by rw [app_get]; rfl
 have hbl:(bsL nn L i).length = i:=by simp [bsL]
 obtain ⟨o1,y,W',hA,hV3,ho1,hol⟩:=hV2.append k1 k2 hs1 (by omega)
 obtain rfl:o1 = H.length + 1:=by
  rcases ho1 with h | h
  ·exact h
  ·exact hRa _ h
 rw [app_set] at hV3
 simp only [List.set_cons_succ,List.set_cons_zero] at hV3
 rw [← hbs] at hV3
 obtain ⟨u1,u2,u3,u4,u5,u6⟩:=hV3.shape
 obtain ⟨w1,w2,w3,w4,w5,w6⟩:=hV2.shape
 have r1:List.range 1 = [0]:=rfl
 have hvne:vv ≠ []:=by intro e; rw [e] at k1; simp at k1
 have wr:wrapV vv = .agg vv:=by
  match vv,k1 with
  | a :: b :: l,_ => rfl
 have hi16:i < 16:=by omega
 simp +contextual -implicitDefEqProofs (maxSteps:=10000000) only [sxb,↓sxd,plainD,stays,↓prim_pick,doOp,get,ins,del,dels,Nat.reduceLT,Nat.reduceEqDiff,↓reduceIte,reduceCtorEq,ne_eq,implies_true,prim,YLD,mkA,V.cells,Nat.reduceAdd,Nat.reduceSub,Nat.reduceMul,Nat.reduceLeDiff,loadA,cellsAt,nAg,packA,List.drop,List.take,List.head?,binA,unA,eqCells,eqCell,negB,fillA,storeA,Ob.with,indexedI,V.oneCell,intOf?,resA,resA1,packR,sealDepth,Int.reduceLT,Int.reduceLE,Int.reduceToNat,Int.reduceNeg,Int.reduceAdd,Int.reduceSub,Int.reduceMul,cond_true,cond_false,Int.reduceBNe,Int.reduceBEq,eq_self,deads,List.replicate,argsF,g1,hwr,app_get0,app_get,app_set0,app_set,c21,k1,k2,k3,k4,r1,wr,hA,hi16,w1]
 exact ⟨W',_,_,_,_,rfl,by omega,rfl,hV3,by simp⟩
end Go.Am.T


set_option linter.unusedVariables false
set_option linter.unusedSimpArgs false
set_option linter.unusedSectionVars false
set_option maxRecDepth 10000
namespace Go.Am.T
attribute [local congr] selV_congr impB_congr
theorem am40_wp {N n:Nat} {args:List V} {h:Heap} {C:V → Heap → Prop} (ha:args.length = 2) (H:sx ⟨pureOf am,callA am N n,N,h.length⟩ am40.body (fr am40.nt (argsF 0 args)) (h ++ deads am40.sites) (retQ am40.res C)):∃ v h',callA am N (n + 1) 40 args h = some (v,h') ∧ C v h' :=
 call_keep at40 rfl ha (by decide) (sx_wp H)
theorem eq97 {x:Option Wr} (h:∀ y,x = some y → y.Ok):eqCells [.i .i64,.i .u8,.i .u8,.i .u8,.i .u8,.i .u8,.i .u8,.i .u8,.i .u8,.i .u8,.i .u8,.i .u8,.i .u8,.i .u8,.i .u8,.i .u8,.i .u8,.i .u8,.i .u8,.i .u8,.i .u8,.i .u8,.i .u8,.i .u8,.i .u8,.i .u8,.i .u8,.i .u8,.i .u8,.i .u8,.i .u8,.i .u8,.i .u8,.i .u8,.i .u8,.i .u8,.i .u8,.i .u8,.i .u8,.i .u8,.i .u8,.i .u8,.i .u8,.i .u8,.i .u8,.i .u8,.i .u8,.i .u8,.i .u8,.i .u8,.i .u8,.i .u8,.i .u8,.i .u8,.i .u8,.i .u8,.i .u8,.i .u8,.i .u8,.i .u8,.i .u8,.i .u8,.i .u8,.i .u8,.i .u8,.i .u8,.i .u8,.i .u8,.i .u8,.i .u8,.i .u8,.i .u8,.i .u8,.i .u8,.i .u8,.i .u8,.i .u8,.i .u8,.i .u8,.i .u8,.i .u8,.i .u8,.i .u8,.i .u8,.i .u8,.i .u8,.i .u8,.i .u8,.i .u8,.i .u8,.i .u8,.i .u8,.i .u8,.i .u8,.i .u8,.i .u8,.i .u8] (verCs x) (verCs x) = some true:=by
 have key:∀ (a:Int) (b:List Int),b.length = 96 → eqCells [.i .i64,.i .u8,.i .u8,.i .u8,.i .u8,.i .u8,.i .u8,.i .u8,.i .u8,.i .u8,.i .u8,.i .u8,.i .u8,.i .u8,.i .u8,.i .u8,.i .u8,.i .u8,.i .u8,.i .u8,.i .u8,.i .u8,.i .u8,.i .u8,.i .u8,.i .u8,.i .u8,.i .u8,.i .u8,.i .u8,.i .u8,.i .u8,.i .u8,.i .u8,.i .u8,.i .u8,.i .u8,.i .u8,.i .u8,.i .u8,.i .u8,.i .u8,.i .u8,.i .u8,.i .u8,.i .u8,.i .u8,.i .u8,.i .u8,.i .u8,.i .u8,.i .u8,.i .u8,.i .u8,.i .u8,.i .u8,.i .u8,.i .u8,.i .u8,.i .u8,.i .u8,.i .u8,.i .u8,.i .u8,.i .u8,.i .u8,.i .u8,.i .u8,.i .u8,.i .u8,.i .u8,.i .u8,.i .u8,.i .u8,.i .u8,.i .u8,.i .u8,.i .u8,.i .u8,.i .u8,.i .u8,.i .u8,.i .u8,.i .u8,.i .u8,.i .u8,.i .u8,.i .u8,.i .u8,.i .u8,.i .u8,.i .u8,.i .u8,.i .u8,.i .u8,.i .u8,.i .u8] (.int .i64 a :: b.map (V.int .u8)) (.int .i64 a :: b.map (V.int .u8)) = some true:=fun a b hb => by
  have:=@eqCells_ints .u8 96 b b hb hb
  have e:eqCells (.i .i64 :: List.replicate 96 (.i .u8)) (.int .i64 a :: b.map (V.int .u8)) (.int .i64 a :: b.map (V.int .u8)) = some true:=by
   simp only [eqCells,eqCell,↓reduceIte,this]
   simp
  exact e
 cases x with
 | none => exact key 0 (List.replicate 96 0) rfl
 | some y => exact key y.ps y.b (h y rfl)
set_option maxHeartbeats 1000000 in
theorem bases_law {N n:Nat} (hN:5000 ≤ N) (hn:13 ≤ n) {H:Heap} {a m r:Nat} {nn:Int} {L:List Wr} {Q:List Pg} {O:List Od} {W:V} {R:List Nat} (M:Md H a m nn L Q O) (h:RefAt H r nn L W R) (hL:L.length ≤ 4096) :
  ∃ v' H',callA am N n 40 [.ptr a 1 0,.ptr r 1 0] H = some (v',H') ∧ v' = .bool true ∧ ∃ tl,H' = H ++ tl:=by
 obtain ⟨n,rfl⟩:∃ m,n = m + 1:=⟨n - 1,by omega⟩
 have n1:=M.n1
 have n16:=M.n16
 obtain ⟨v0,H0,c47,Rv,tl0,rfl,hV,hRv⟩:=@bases_md N n hN (by omega) _ _ _ _ _ _ _ (M.app [⟨0,.dead⟩]) hL
 rw [List.append_assoc] at c47 hV
 have hlen:=hV.len
 have hbl:(bsL nn L nn.toNat).length = nn.toNat:=by simp [bsL]
 rw [hbl] at hlen
 have ob:∀ l:Heap,(H ++ l)[r]? = some ⟨1,.var [.int .i64 nn,W]⟩:=fun l => (h.app l).ob
 have l0:∀ l:Heap,loadA (fun o => (H ++ l)[o]?) 1 (.ptr r 1 0) = some [.int .i64 nn]:=fun l => by simp [loadA,cellsAt,ob l]
 have hnn:((nn.toNat:Nat):Int) = nn:=by omega
 obtain ⟨w1,w2,w3,w4,w5,w6⟩:=hV.shape
 refine am40_wp rfl ?_
 simp +contextual -implicitDefEqProofs (maxSteps:=10000000) only [sxb,↓sxd,plainD,stays,↓prim_pick,doOp,get,ins,del,dels,Nat.reduceLT,Nat.reduceEqDiff,↓reduceIte,reduceCtorEq,ne_eq,implies_true,prim,YLD,mkA,V.cells,Nat.reduceAdd,Nat.reduceSub,Nat.reduceMul,Nat.reduceLeDiff,loadA,cellsAt,nAg,packA,List.drop,List.take,List.head?,binA,unA,eqCells,eqCell,negB,fillA,storeA,Ob.with,indexedI,V.oneCell,intOf?,resA,resA1,packR,sealDepth,Int.reduceLT,Int.reduceLE,Int.reduceToNat,Int.reduceNeg,Int.reduceAdd,Int.reduceSub,Int.reduceMul,cond_true,cond_false,Int.reduceBNe,Int.reduceBEq,eq_self,deads,List.replicate,argsF,am40,app_get0,app_get,app_set0,app_set,c47,hlen,hnn,l0,bne_self_eq_false,-loadA]
 refine sx_loop (fun i t h' => ∃ s0,t = fr 36 [(1,.ptr r 1 0),(5,v0),(6,.int .i64 (i:Nat))] ∧ (i:Int) ≤ nn ∧ h' = H ++ (s0 :: tl0)) 16 (by show 16 < N; omega) ⟨_,rfl,by omega,rfl⟩ ?_
 rintro i t h' hi ⟨s0,rfl,hin,rfl⟩
 by_cases hlt:(i:Int) < nn
 case neg =>
  have g1:decide ((i:Int) < nn) = false:=decide_eq_false hlt
  simp +contextual -implicitDefEqProofs (maxSteps:=10000000) only [sxb,↓sxd,plainD,stays,↓prim_pick,doOp,get,ins,del,dels,Nat.reduceLT,Nat.reduceEqDiff,↓reduceIte,reduceCtorEq,ne_eq,implies_true,prim,YLD,mkA,V.cells,Nat.reduceAdd,Nat.reduceSub,Nat.reduceMul,Nat.reduceLeDiff,loadA,cellsAt,nAg,packA,List.drop,List.take,List.head?,binA,unA,eqCells,eqCell,negB,fillA,storeA,Ob.with,indexedI,V.oneCell,intOf?,resA,resA1,packR,sealDepth,Int.reduceLT,Int.reduceLE,Int.reduceToNat,Int.reduceNeg,Int.reduceAdd,Int.reduceSub,Int.reduceMul,cond_true,cond_false,Int.reduceBNe,Int.reduceBEq,eq_self,deads,List.replicate,argsF,hlen,hnn,g1]
  exact ⟨_,rfl⟩
 have g1:decide ((i:Int) < nn) = true:=decide_eq_true hlt
 have hwr:IntKind.i64.wrap ((i:Int) + 1) = ((i + 1:Nat):Int):=(wrap64 (by omega) (by omega)).trans (by omega)
 have c42:=@yref_spec N n hN (by omega) _ _ _ _ _ _ (h.app (s0 :: tl0)) hL (i:Int) true
 have hno:outP nn (i:Int) = false:=by
  unfold outP
  simp
  omega
 unfold yV at c42
 rw [if_neg (by rw [hno]; simp)] at c42
 have hok:=topW_ok (f:=yF true) (pgOf_ok M.ab.ok.ok (i:Int))
 obtain ⟨k1,k2,k3,k4,-⟩:=verCs_ok hok
 have heq:=eq97 hok
 have hb:(bsL nn L nn.toNat)[i]? = some (verCs (topW (yF true) (pgOf L i))):=by
  unfold bsL
  rw [List.getElem?_map,List.getElem?_range (by omega)]
  rfl
 generalize verCs (topW (yF true) (pgOf L i)) = vv at *
 unfold zV at k4
 have hV2:VRow (H ++ (⟨s0.ver + 1,.var vv⟩ :: tl0)) v0 (bsL nn L nn.toNat) Rv:=hV.keep fun o ho => by
  have:=hRv o ho
  rw [List.length_append,List.length_singleton] at this
  rw [this,show H.length + 1 + 1 = H.length + 2 from rfl,app_get,app_get]
  rfl
 obtain ⟨o1,ver1,rd⟩:=hV2.read (by intro e; rw [e] at hb; simp at hb)
 obtain ⟨xi,xl⟩:=rd i vv hb
 have ls:loadA (fun o => (H ++ (⟨s0.ver + 1,.var vv⟩ :: tl0))[o]?) 97 (.ptr H.length (s0.ver + 1) 0) = some vv:=by
  simp [loadA,cellsAt,app_get0,k1,k3]
 have hi16:i < 16:=by omega
 simp +contextual -implicitDefEqProofs (maxSteps:=10000000) only [sxb,↓sxd,plainD,stays,↓prim_pick,doOp,get,ins,del,dels,Nat.reduceLT,Nat.reduceEqDiff,↓reduceIte,reduceCtorEq,ne_eq,implies_true,prim,YLD,mkA,V.cells,Nat.reduceAdd,Nat.reduceSub,Nat.reduceMul,Nat.reduceLeDiff,loadA,cellsAt,nAg,packA,List.drop,List.take,List.head?,binA,unA,eqCells,eqCell,negB,fillA,storeA,Ob.with,indexedI,V.oneCell,intOf?,resA,resA1,packR,sealDepth,Int.reduceLT,Int.reduceLE,Int.reduceToNat,Int.reduceNeg,Int.reduceAdd,Int.reduceSub,Int.reduceMul,cond_true,cond_false,Int.reduceBNe,Int.reduceBEq,eq_self,deads,List.replicate,argsF,hlen,hnn,g1,hwr,app_get0,app_get,app_set0,app_set,c42,pm42,k1,k2,k3,k4,xi,xl,ls,heq,hi16,-loadA]
 exact ⟨_,by omega,rfl⟩
end Go.Am.T


set_option linter.unusedVariables false
set_option linter.unusedSimpArgs false
set_option linter.unusedSectionVars false
set_option maxRecDepth 10000
namespace Go.Am.T
attribute [local congr] selV_congr impB_congr
def lwH (H:Heap) (Wv:V) (lv:Int) (a:Nat) (p:Int) (k:Nat) (n:Int) (T:List V) (x5 x6:Ob) (st:Nat) (pd:Option (Option Nat)) (tl:Heap):Heap :=
 H ++ (⟨1,.var [Wv]⟩ :: ⟨1,.var [.int .i64 lv]⟩ :: ⟨1,.var [.bool false]⟩ :: ⟨k + 1,.var [.int .i64 k]⟩ :: ⟨k + 1,.var [.int .i64 n]⟩ :: x5 :: x6 :: ⟨k + 1,.loop st pd T H.length 44 0⟩ :: ⟨1,.var [.ptr a 1 0]⟩ :: ⟨1,.var [.int .i64 p]⟩ :: tl)
def stopK (k:Nat) (lv:Int) (j:Nat):Bool:=(k == 0) && (((j + 1:Nat):Int) == lv)
def lwTT (H:Heap) (k:Nat):List V:=fr 69 [(6,.ptr H.length 1 0),(7,.ptr (H.length + 1) 1 0),(8,.ptr (H.length + 2) 1 0),(9,.func 49 [] [.ptr (H.length + 8) 1 0,.ptr (H.length + 9) 1 0]),(10,.ptr (H.length + 3) (k + 1) 0),(11,.ptr (H.length + 4) (k + 1) 0),(22,.func 49 [] [.ptr (H.length + 8) 1 0,.ptr (H.length + 9) 1 0])]
def lwI (H:Heap) (Wv:V) (lv:Int) (a:Nat) (p:Int) (k:Nat) (tl:Heap) (b:Bool) (n:Nat) (h:Heap):Prop :=
 ∃ x5 x6 y,h = lwH H Wv lv a p k (n:Int) (lwTT H k) x5 x6 (if b = true then 0 else 2) (if b = true then none else some (some 2)) (tl ++ [y,⟨1,.var (pcs (0,1))⟩])
theorem eqWr {x:Wr} (hok:x.Ok):eqCells [.i .i64,.i .i64,.i .i64,.i .i64,.i .u8,.i .u8,.i .u8,.i .u8,.i .u8,.i .u8,.i .u8,.i .u8,.i .u8,.i .u8,.i .u8,.i .u8,.i .u8,.i .u8,.i .u8,.i .u8,.i .u8,.i .u8,.i .u8,.i .u8,.i .u8,.i .u8,.i .u8,.i .u8,.i .u8,.i .u8,.i .u8,.i .u8,.i .u8,.i .u8,.i .u8,.i .u8,.i .u8,.i .u8,.i .u8,.i .u8,.i .u8,.i .u8,.i .u8,.i .u8,.i .u8,.i .u8,.i .u8,.i .u8,.i .u8,.i .u8,.i .u8,.i .u8,.i .u8,.i .u8,.i .u8,.i .u8,.i .u8,.i .u8,.i .u8,.i .u8,.i .u8,.i .u8,.i .u8,.i .u8,.i .u8,.i .u8,.i .u8,.i .u8,.i .u8,.i .u8,.i .u8,.i .u8,.i .u8,.i .u8,.i .u8,.i .u8,.i .u8,.i .u8,.i .u8,.i .u8,.i .u8,.i .u8,.i .u8,.i .u8,.i .u8,.i .u8,.i .u8,.i .u8,.i .u8,.i .u8,.i .u8,.i .u8,.i .u8,.i .u8,.i .u8,.i .u8,.i .u8,.i .u8,.i .u8,.i .u8,.b] x.cs x.cs = some true:=by
 have:=eq_bytes_b x.b x.du 96 hok
 simp only [List.replicate,List.cons_append,List.nil_append] at this
 simp only [Wr.cs,Wr.hd,List.cons_append,List.nil_append,eqCells,eqCell,↓reduceIte,this]
 simp
set_option maxHeartbeats 2000000 in
theorem lw_taker {N n:Nat} {H:Heap} {Wv:V} {lv:Int} {a:Nat} {p:Int} {k:Nat} (hk:k ≤ 1) {tl:Heap} {l:List Wr} {W:V} {R R2:List Nat} (hl:l.length ≤ 4096) (hr:PRow H W l R) (hw:PRow H Wv l R2) :
  WTaker l W R N (n + 2) (H.length + 7) (k + 1) (H.length + 10 + tl.length) (stopK k lv) (lwI H Wv lv a p k tl):=by
 refine ⟨?_,?_,?_,?_⟩
 ·rintro b j h ⟨x5,x6,y,rfl⟩
  simp [lwH]
  omega
 ·rintro b j h ⟨x5,x6,y,rfl⟩
  exact hr.keep fun o ho => List.getElem?_append_left (hr.lt o ho)
 ·rintro b j h x ⟨x5,x6,y,rfl⟩
  refine ⟨x5,x6,x,?_⟩
  unfold lwH
  rw [show H.length + 10 + tl.length = H.length + (10 + tl.length) by omega,app_set]
  congr 1
  simp only [List.set_cons_succ,show 10 + tl.length = tl.length + 10 by omega]
  rw [List.set_append_right _ _ (Nat.le_refl _),Nat.sub_self]
  rfl
 ·rintro j h x hj ⟨x5,x6,y,rfl⟩
  have hjl:=(List.getElem?_eq_some_iff.1 hj).1
  have hx:=hr.1 x (List.mem_of_getElem? hj)
  have hxl:=Wr.len hx
  have hone:=x.one
  have tk:List.take 101 x.cs = x.cs:=List.take_of_length_le (by omega)
  have heq:=eqWr hx
  have hwl:=hw.len
  obtain ⟨w1,w2,w3,w4,w5,w6⟩:=hw.shape
  have g1:decide ((j:Int) ≥ (l.length:Int)) = false:=decide_eq_false (by omega)
  have hwr:IntKind.i64.wrap ((j:Int) + 1) = ((j + 1:Nat):Int):=(wrap64 (by omega) (by omega)).trans (by omega)
  have hrd:∀ T:Heap,∃ o ver,iaddrSA 101 Wv (.int .i64 (j:Int)) = some (.ret (.ptr o ver (j * 101))) ∧ loadA (fun o => (H ++ T)[o]?) 101 (.ptr o ver (j * 101)) = some x.cs:=fun T => by
   have hw':PRow (H ++ T) Wv l R2:=hw.keep fun o ho => List.getElem?_append_left (hw.lt o ho)
   obtain ⟨o,ver,rd⟩:=hw'.read (by intro e; rw [e] at hj; simp at hj)
   obtain ⟨-,xi,xr⟩:=rd j x hj
   have xall:=xr 0 101 (by decide)
   rw [List.drop_zero,tk,Nat.add_zero] at xall
   exact ⟨o,ver,xi,xall⟩
  obtain ⟨o0,ver0,xi,-⟩:=hrd []
  have xl:∀ T:Heap,loadA (fun o => (H ++ T)[o]?) 101 (.ptr o0 ver0 (j * 101)) = some x.cs:=fun T => by
   obtain ⟨o,ver,e1,e2⟩:=hrd T
   rw [xi] at e1
   simp only [Option.some.injEq,Eff.ret.injEq,V.ptr.injEq] at e1
   obtain ⟨rfl,rfl,-⟩:=e1
   exact e2
  refine ⟨lwH H Wv lv a p k ((j + 1:Nat):Int) (lwTT H k) ⟨x5.ver + 1,.var x.cs⟩ x6 (if (!stopK k lv j) = true then 0 else 2) (if (!stopK k lv j) = true then none else some (some 2)) (tl ++ [y,⟨1,.var (pcs (0,1))⟩]),?_,⟨_,_,_,rfl⟩⟩
  unfold lwH
  simp only [↓reduceIte]
  refine call_yld (ho:=by rw [app_get]; rfl) (hp:=at44) (hr:=rfl) (hl:=rfl) ?_
  have l6:∀ (T:Heap),loadA (fun o => (H ++ (⟨1,.var [Wv]⟩ :: T))[o]?) 1 (.ptr H.length 1 0) = some [Wv]:=fun T => by simp [loadA,cellsAt,app_get0]
  have l11:∀ (a0 a1 a2 a3:Ob) (v:V) (T:Heap),loadA (fun o => (H ++ (a0 :: a1 :: a2 :: a3 :: ⟨k + 1,.var [v]⟩ :: T))[o]?) 1 (.ptr (H.length + 4) (k + 1) 0) = some [v]:=fun a0 a1 a2 a3 v T => by simp [loadA,cellsAt,app_get]
  have l10:∀ (a0 a1 a2:Ob) (v:V) (T:Heap),loadA (fun o => (H ++ (a0 :: a1 :: a2 :: ⟨k + 1,.var [v]⟩ :: T))[o]?) 1 (.ptr (H.length + 3) (k + 1) 0) = some [v]:=fun a0 a1 a2 v T => by simp [loadA,cellsAt,app_get]
  have l7:∀ (a0:Ob) (v:V) (T:Heap),loadA (fun o => (H ++ (a0 :: ⟨1,.var [v]⟩ :: T))[o]?) 1 (.ptr (H.length + 1) 1 0) = some [v]:=fun a0 v T => by simp [loadA,cellsAt,app_get]
  have l12:∀ (a0 a1 a2 a3 a4:Ob) (T:Heap),loadA (fun o => (H ++ (a0 :: a1 :: a2 :: a3 :: a4 :: ⟨x5.ver + 1,.var x.cs⟩ :: T))[o]?) 101 (.ptr (H.length + 5) (x5.ver + 1) 0) = some x.cs:=fun a0 a1 a2 a3 a4 T => by simp [loadA,cellsAt,app_get,hxl,tk]
  unfold lwTT
  have hk01:k = 0 ∨ k = 1:=by omega
  have hst:∀ b,stopK k lv j = b → (((k:Int) == 0) && (((j + 1:Nat):Int) == lv)) = b:=fun b h => by
   rw [← h]
   unfold stopK
   rcases hk01 with rfl | rfl <;> rfl
  obtain ⟨sb,hsb⟩:∃ sb,stopK k lv j = sb:=⟨_,rfl⟩
  have hst':=hst sb hsb
  rw [hsb]
  generalize hX:x.cs = X at *
  cases sb with
  | true =>
   simp +contextual -implicitDefEqProofs (maxSteps:=10000000) only [sxb,↓sxd,plainD,stays,↓prim_pick,doOp,get,ins,del,dels,Nat.reduceLT,Nat.reduceEqDiff,↓reduceIte,reduceCtorEq,ne_eq,implies_true,prim,YLD,mkA,V.cells,Nat.reduceAdd,Nat.reduceSub,Nat.reduceMul,Nat.reduceLeDiff,loadA,cellsAt,nAg,packA,List.drop,List.take,List.head?,binA,unA,eqCells,eqCell,negB,fillA,storeA,Ob.with,indexedI,V.oneCell,intOf?,resA,resA1,packR,sealDepth,Int.reduceLT,Int.reduceLE,Int.reduceToNat,Int.reduceNeg,Int.reduceAdd,Int.reduceSub,Int.reduceMul,cond_true,cond_false,Int.reduceBNe,Int.reduceBEq,eq_self,deads,List.replicate,argsF,setPs_cons,setPs_nil,app_get0,app_get,app_set0,app_set,hxl,hone,tk,l6,l11,l10,l7,l12,hwl,g1,hwr,xi,xl,heq,hst',w1,-loadA]
   exact ⟨_,_,_,_,_,rfl,_,_,_,_,_,_,rfl,rfl,rfl⟩
  | false =>
   simp +contextual -implicitDefEqProofs (maxSteps:=10000000) only [sxb,↓sxd,plainD,stays,↓prim_pick,doOp,get,ins,del,dels,Nat.reduceLT,Nat.reduceEqDiff,↓reduceIte,reduceCtorEq,ne_eq,implies_true,prim,YLD,mkA,V.cells,Nat.reduceAdd,Nat.reduceSub,Nat.reduceMul,Nat.reduceLeDiff,loadA,cellsAt,nAg,packA,List.drop,List.take,List.head?,binA,unA,eqCells,eqCell,negB,fillA,storeA,Ob.with,indexedI,V.oneCell,intOf?,resA,resA1,packR,sealDepth,Int.reduceLT,Int.reduceLE,Int.reduceToNat,Int.reduceNeg,Int.reduceAdd,Int.reduceSub,Int.reduceMul,cond_true,cond_false,Int.reduceBNe,Int.reduceBEq,eq_self,deads,List.replicate,argsF,setPs_cons,setPs_nil,app_get0,app_get,app_set0,app_set,hxl,hone,tk,l6,l11,l10,l7,l12,hwl,g1,hwr,xi,xl,heq,hst',w1,-loadA]
   exact ⟨_,_,_,_,_,rfl,_,_,_,_,_,_,rfl,rfl,rfl⟩
theorem am44_wp {N n:Nat} {args:List V} {h:Heap} {C:V → Heap → Prop} (ha:args.length = 4) (H:sx ⟨pureOf am,callA am N n,N,h.length⟩ am44.body (fr am44.nt (argsF 0 args)) (h ++ deads am44.sites) (retQ am44.res C)):∃ v h',callA am N (n + 1) 44 args h = some (v,h') ∧ C v h' :=
 call_keep at44 rfl ha (by decide) (sx_wp H)
theorem pgOf_out {nn:Int} {L:List Wr} (h:LOk nn L) {p:Int} (hp:outP nn p = true):pgOf L p = []:=by
 unfold pgOf
 rw [List.filter_eq_nil_iff]
 intro x hx
 have:=h.pg x hx
 unfold outP at hp
 simp only [Bool.or_eq_true,decide_eq_true_eq] at hp
 simp only [beq_iff_eq]
 omega
theorem lw_turn {N n:Nat} (hN:5000 ≤ N) {H:Heap} {a m:Nat} {nn:Int} {L:List Wr} {Q:List Pg} {O:List Od} (M:Md H a m nn L Q O) (hL:L.length ≤ 4096) {Wv:V} {R2:List Nat} {lv p:Int} (hw:PRow H Wv (pgOf L p) R2) {k:Nat} (hk:k ≤ 1) (x5 x6:Ob) (tl:Heap) :
  ∃ h2,callA am N (n + 5) 49 [.yld (H.length + 7) (k + 1),.ptr (H.length + 8) 1 0,.ptr (H.length + 9) 1 0] (lwH H Wv lv a p k 0 (lwTT H k) x5 x6 0 none tl) = some (.tup [],h2) ∧
   ∃ (K:Nat) (st:Nat) (pd:Option (Option Nat)) (y5 y6:Ob) (tl2:Heap),h2 = lwH H Wv lv a p k K (lwTT H k) y5 y6 st pd tl2 ∧ st ≠ 1 ∧ (pd = none ∨ pd = some (some 2)) ∧ (K = (pgOf L p).length ∨ k = 0 ∧ (K:Int) = lv):=by
 have ha:(lwH H Wv lv a p k 0 (lwTT H k) x5 x6 0 none tl)[a]? = some ⟨1,.var (mcs Q nn m)⟩:=(M.app _).at_.ob'
 have hb1:(lwH H Wv lv a p k 0 (lwTT H k) x5 x6 0 none tl)[H.length + 8]? = some ⟨1,.var [.ptr a 1 0]⟩:=by unfold lwH; rw [app_get]; rfl
 have hb2:(lwH H Wv lv a p k 0 (lwTT H k) x5 x6 0 none tl)[H.length + 9]? = some ⟨1,.var [.int .i64 p]⟩:=by unfold lwH; rw [app_get]; rfl
 have happ:∀ (j:Int) (st:Nat) (pd:Option (Option Nat)) (tl2:Heap),lwH H Wv lv a p k j (lwTT H k) x5 x6 st pd tl ++ tl2 = lwH H Wv lv a p k j (lwTT H k) x5 x6 st pd (tl ++ tl2):=fun j st pd tl2 => by simp [lwH]
 cases hb:badA nn (0,1) p 0 with
 | true =>
  have c:=@iter_bad N (n + 5) (by omega) _ a m _ _ nn Q M.at_.q16 M.n1 ha hb1 p hb2 hb (.yld (H.length + 7) (k + 1))
  rw [happ] at c
  exact ⟨_,c,0,0,none,x5,x6,_,rfl,by decide,.inl rfl,.inl (by rw [pgOf_out M.ab.ok (by rw [← badP_out]; exact hb)]; rfl)⟩
 | false =>
  obtain ⟨-,p0,pn⟩:=badA_k hb
  obtain ⟨p,rfl⟩:∃ p':Nat,p = (p':Int):=⟨p.toNat,by omega⟩
  have n16:=M.n16
  obtain ⟨q,hq,eq⟩:=M.page (p:=p) (by omega)
  have pl:=pgOf_len L p
  have hrow:=M.at_.pg q (List.mem_of_getElem? hq)
  rw [eq] at hrow
  have T:=@lw_taker N (n + 2) H Wv lv a (p:Int) k hk tl (pgOf L p) q.W q.R R2 (by omega) hrow hw
  have hF:(lwH H Wv lv a p k 0 (lwTT H k) x5 x6 0 none tl).length = H.length + 10 + tl.length:=by simp [lwH]; omega
  rw [← hF] at T
  rw [← eq] at T
  obtain ⟨v0,h2,c49,rfl,b,K,hI,hall,hleft⟩:=@iter_spec N (n + 4) (by omega) (by omega) _ a m _ _ nn Q M.at_.q16 M.n1 ha hb1 p hb2 hb q hq (by rw [eq]; omega) (H.length + 7) (k + 1) (stopK k lv) (lwI H Wv lv a p k tl) T ⟨x5,x6,⟨0,.dead⟩,by rw [happ]; rfl⟩
  obtain ⟨y5,y6,y,rfl⟩:=hI
  refine ⟨_,c49,K,_,_,y5,y6,_,rfl,by split <;> decide,by cases b <;> simp,?_⟩
  cases b with
  | true => exact .inl (by rw [(hall rfl).1,eq])
  | false =>
   obtain ⟨j,e,-,hs,-⟩:=hleft rfl
   unfold stopK at hs
   simp only [Bool.and_eq_true,beq_iff_eq] at hs
   exact .inr ⟨hs.1,by rw [e]; exact hs.2⟩
set_option maxHeartbeats 2000000 in
theorem writes_law {N n:Nat} (hN:5000 ≤ N) (hn:10 ≤ n) {H:Heap} {a m:Nat} {nn:Int} {L:List Wr} {Q:List Pg} {O:List Od} (M:Md H a m nn L Q O) (hL:L.length ≤ 4096) {Wv:V} {R2:List Nat} (lv p:Int) (hw:PRow H Wv (pgOf L p) R2) :
  ∃ v' H',callA am N n 44 [.ptr a 1 0,.int .i64 p,Wv,.int .i64 lv] H = some (v',H') ∧ v' = .bool true ∧ ∃ tl,H' = H ++ tl:=by
 obtain ⟨n,rfl⟩:∃ m,n = m + 6:=⟨n - 6,by omega⟩
 have c30:=fun H => @writes_spec N (n + 5) (by omega) a p H
 have hwl:=hw.len
 obtain ⟨w1,w2,w3,w4,w5,w6⟩:=hw.shape
 refine am44_wp rfl ?_
 simp +contextual -implicitDefEqProofs (maxSteps:=10000000) only [sxb,↓sxd,plainD,stays,↓prim_pick,doOp,get,ins,del,dels,Nat.reduceLT,Nat.reduceEqDiff,↓reduceIte,reduceCtorEq,ne_eq,implies_true,prim,YLD,mkA,V.cells,Nat.reduceAdd,Nat.reduceSub,Nat.reduceMul,Nat.reduceLeDiff,loadA,cellsAt,nAg,packA,List.drop,List.take,List.head?,binA,unA,eqCells,eqCell,negB,fillA,storeA,Ob.with,indexedI,V.oneCell,intOf?,resA,resA1,packR,sealDepth,Int.reduceLT,Int.reduceLE,Int.reduceToNat,Int.reduceNeg,Int.reduceAdd,Int.reduceSub,Int.reduceMul,cond_true,cond_false,Int.reduceBNe,Int.reduceBEq,eq_self,deads,List.replicate,argsF,am44,isNil,app_get0,app_get,app_set0,app_set,c30,List.length_append,List.append_assoc,w1]
 refine sx_loop (fun k t h' => ∃ b4 x5 x6 tl J,(J = [] ∨ ∃ v,J = [(22,v)]) ∧ t = fr 69 ((6,.ptr H.length 1 0) :: (7,.ptr (H.length + 1) 1 0) :: (8,.ptr (H.length + 2) 1 0) :: (9,.func 49 [] [.ptr (H.length + 8) 1 0,.ptr (H.length + 9) 1 0]) :: (10,.ptr (H.length + 3) (k + 1) 0) :: J) ∧ k ≤ 2 ∧
   h' = H ++ (⟨1,.var [Wv]⟩ :: ⟨1,.var [.int .i64 lv]⟩ :: ⟨1,.var [.bool false]⟩ :: ⟨k + 1,.var [.int .i64 (k:Nat)]⟩ :: ⟨k,b4⟩ :: x5 :: x6 :: ⟨k,.dead⟩ :: ⟨1,.var [.ptr a 1 0]⟩ :: ⟨1,.var [.int .i64 p]⟩ :: tl)) 2 (by show 2 < N; omega) ⟨_,_,_,[],[],.inl rfl,rfl,by omega,rfl⟩ ?_
 rintro k t h' hi ⟨b4,x5,x6,tl,J,hJ,rfl,hk2,rfl⟩
 have lk:∀ (a0 a1 a2:Ob) (v:V) (T:Heap),loadA (fun o => (H ++ (a0 :: a1 :: a2 :: ⟨k + 1,.var [v]⟩ :: T))[o]?) 1 (.ptr (H.length + 3) (k + 1) 0) = some [v]:=fun a0 a1 a2 v T => by simp [loadA,cellsAt,app_get]
 by_cases hlt:k < 2
 case neg =>
  have:k = 2:=by omega
  subst this
  have g1:decide (((2:Nat):Int) < 2) = false:=rfl
  rcases hJ with rfl | ⟨v22,rfl⟩ <;>
  ·simp +contextual -implicitDefEqProofs (maxSteps:=10000000) only [sxb,↓sxd,plainD,stays,↓prim_pick,doOp,get,ins,del,dels,Nat.reduceLT,Nat.reduceEqDiff,↓reduceIte,reduceCtorEq,ne_eq,implies_true,prim,YLD,mkA,V.cells,Nat.reduceAdd,Nat.reduceSub,Nat.reduceMul,Nat.reduceLeDiff,loadA,cellsAt,nAg,packA,List.drop,List.take,List.head?,binA,unA,eqCells,eqCell,negB,fillA,storeA,Ob.with,indexedI,V.oneCell,intOf?,resA,resA1,packR,sealDepth,Int.reduceLT,Int.reduceLE,Int.reduceToNat,Int.reduceNeg,Int.reduceAdd,Int.reduceSub,Int.reduceMul,cond_true,cond_false,Int.reduceBNe,Int.reduceBEq,eq_self,deads,List.replicate,argsF,lk,g1,app_get0,app_get,app_set0,app_set,-loadA]
   exact ⟨_,rfl⟩
 have g1:decide ((k:Int) < 2) = true:=decide_eq_true (by omega)
 have hwr:IntKind.i64.wrap ((k:Int) + 1) = ((k + 1:Nat):Int):=(wrap64 (by omega) (by omega)).trans (by omega)
 obtain ⟨h2,c49,K,st,pd,y5,y6,tl2,rfl,hst,hpd,hK⟩:=@lw_turn N n hN H a m nn L Q O M hL Wv R2 lv p hw k (by omega) x5 x6 tl
 have hck:(((k:Int) == 1) && ((K:Int) != ((pgOf L p).length:Int))) = false ∧ (((k:Int) == 0) && (((K:Int) != ((pgOf L p).length:Int)) && ((K:Int) != lv))) = false:=by
  rcases hK with h | ⟨h1,h2⟩
  ·rw [h]; simp
  ·rw [h1,h2]; simp
 have l6:∀ (T:Heap),loadA (fun o => (H ++ (⟨1,.var [Wv]⟩ :: T))[o]?) 1 (.ptr H.length 1 0) = some [Wv]:=fun T => by simp [loadA,cellsAt,app_get0]
 have l11:∀ (a0 a1 a2 a3:Ob) (v:V) (T:Heap),loadA (fun o => (H ++ (a0 :: a1 :: a2 :: a3 :: ⟨k + 1,.var [v]⟩ :: T))[o]?) 1 (.ptr (H.length + 4) (k + 1) 0) = some [v]:=fun a0 a1 a2 a3 v T => by simp [loadA,cellsAt,app_get]
 have l7:∀ (a0:Ob) (v:V) (T:Heap),loadA (fun o => (H ++ (a0 :: ⟨1,.var [v]⟩ :: T))[o]?) 1 (.ptr (H.length + 1) 1 0) = some [v]:=fun a0 v T => by simp [loadA,cellsAt,app_get]
 have lk2:∀ (a0 a1 a2:Ob) (v:V) (T:Heap),loadA (fun o => (H ++ (a0 :: a1 :: a2 :: ⟨k + 1 + 1,.var [v]⟩ :: T))[o]?) 1 (.ptr (H.length + 3) (k + 1 + 1) 0) = some [v]:=fun a0 a1 a2 v T => by simp [loadA,cellsAt,app_get]
 obtain ⟨e1,e2⟩:=hck
 rcases hJ with rfl | ⟨v22,rfl⟩ <;>
 ·simp +contextual -implicitDefEqProofs (maxSteps:=10000000) only [sxb,↓sxd,plainD,stays,↓prim_pick,doOp,get,ins,del,dels,Nat.reduceLT,Nat.reduceEqDiff,↓reduceIte,reduceCtorEq,ne_eq,implies_true,prim,YLD,mkA,V.cells,Nat.reduceAdd,Nat.reduceSub,Nat.reduceMul,Nat.reduceLeDiff,loadA,cellsAt,nAg,packA,List.drop,List.take,List.head?,binA,unA,eqCells,eqCell,negB,fillA,storeA,Ob.with,indexedI,V.oneCell,intOf?,resA,resA1,packR,sealDepth,Int.reduceLT,Int.reduceLE,Int.reduceToNat,Int.reduceNeg,Int.reduceAdd,Int.reduceSub,Int.reduceMul,cond_true,cond_false,Int.reduceBNe,Int.reduceBEq,eq_self,deads,List.replicate,argsF,lk,g1,app_get0,app_get,app_set0,app_set,-loadA]
  refine sx_rangeF (x:=⟨k,.dead⟩) (g:=49) (xs:=[]) (ys:=[.ptr (H.length + 8) 1 0,.ptr (H.length + 9) 1 0]) (by rw [app_get]; rfl) rfl (by rw [app_set]; exact c49) (by unfold lwH; rw [app_get]; rfl) hst ?_
  unfold lwH
  rcases hpd with rfl | rfl <;>
  ·simp +contextual -implicitDefEqProofs (maxSteps:=10000000) only [sxb,↓sxd,plainD,stays,↓prim_pick,doOp,get,ins,del,dels,Nat.reduceLT,Nat.reduceEqDiff,↓reduceIte,reduceCtorEq,ne_eq,implies_true,prim,YLD,mkA,V.cells,Nat.reduceAdd,Nat.reduceSub,Nat.reduceMul,Nat.reduceLeDiff,loadA,cellsAt,nAg,packA,List.drop,List.take,List.head?,binA,unA,eqCells,eqCell,negB,fillA,storeA,Ob.with,indexedI,V.oneCell,intOf?,resA,resA1,packR,sealDepth,Int.reduceLT,Int.reduceLE,Int.reduceToNat,Int.reduceNeg,Int.reduceAdd,Int.reduceSub,Int.reduceMul,cond_true,cond_false,Int.reduceBNe,Int.reduceBEq,eq_self,deads,List.replicate,argsF,app_get0,app_get,app_set0,app_set,jumpE,l6,l11,lk,lk2,l7,hwl,e1,e2,hwr,hlt,w1,-loadA]
   exact ⟨_,_,_,_,_,.inr ⟨_,rfl⟩,rfl,by omega,rfl⟩
end Go.Am.T


set_option linter.unusedVariables false
set_option linter.unusedSimpArgs false
set_option linter.unusedSectionVars false
set_option maxRecDepth 10000
namespace Go.Am.T
attribute [local congr] selV_congr impB_congr
theorem addNew_mem:∀ (r l:List Nat) (o:Nat),o ∈ addNew l r ↔ o ∈ l ∨ o ∈ r
 | [],l,o => by simp [addNew]
 | x :: r,l,o => by
  unfold addNew
  cases hc:l.contains x with
  | true =>
   simp only
   rw [addNew_mem r l o]
   have:x ∈ l:=by simpa using hc
   constructor
   ·rintro (h | h)
    ·exact .inl h
    ·exact .inr (by simp [h])
   ·rintro (h | h)
    ·exact .inl h
    ·rcases List.mem_cons.1 h with rfl | h
     ·exact .inl this
     ·exact .inr h
  | false =>
   simp only
   rw [addNew_mem r (l ++ [x]) o]
   simp [or_assoc]
theorem reachN_in {h:Heap} {S:Nat → Prop} (hcl:∀ o,S o → ∀ i ∈ namedBy h o,S i):∀ (k:Nat) (l:List Nat),(∀ o ∈ l,S o) → ∀ o ∈ reachN h k l,S o
 | 0,l,hl,o,ho => hl o ho
 | k + 1,l,hl,o,ho => by
  refine reachN_in hcl k _ (fun i hi => ?_) o ho
  rcases (addNew_mem _ _ _).1 hi with hi | hi
  ·exact hl i hi
  ·obtain ⟨j,hj,hi⟩:=List.mem_flatMap.1 hi
   exact hcl j (hl j hj) i hi
theorem reachC_in {h:Heap} {S:Nat → Prop} (hcl:∀ o,S o → ∀ i ∈ namedBy h o,S i) {l:List Nat} (hl:∀ o ∈ l,S o):∀ o ∈ reachC h l,S o:=by
 cases l with
 | nil => intro o ho; cases ho
 | cons x l => exact reachN_in hcl 6 _ hl
theorem reach1 {h:Heap} {l:List Nat} {o i:Nat} (ho:o ∈ l) (hi:i ∈ namedBy h o):i ∈ reachC h l:=by
 cases l with
 | nil => cases ho
 | cons x l => exact reachN_sub h 5 _ i ((addNew_mem _ _ _).2 (.inr (List.mem_flatMap.2 ⟨o,ho,hi⟩)))
theorem reach2 {h:Heap} {l:List Nat} {o i j:Nat} (ho:o ∈ l) (hi:i ∈ namedBy h o) (hj:j ∈ namedBy h i):j ∈ reachC h l:=by
 cases l with
 | nil => cases ho
 | cons x l => exact reachN_sub h 4 _ j ((addNew_mem _ _ _).2 (.inr (List.mem_flatMap.2 ⟨i,(addNew_mem _ _ _).2 (.inr (List.mem_flatMap.2 ⟨o,ho,hi⟩)),hj⟩)))
theorem PRow.flat {H:Heap} {W:V} {l:List Wr} {R:List Nat} (h:PRow H W l R):∀ o ∈ R,namedBy H o = [] ∧ ∀ y,H[o]? = some y → y.bd.plainBd = true:=by
 obtain ⟨-,⟨-,-,rfl⟩ | ⟨o,ver,cap,rest,hrs,rfl,-,ho,-⟩⟩:=h
 ·intro o ho; cases ho
 ·intro o' h'
  obtain rfl:o' = o:=by simpa using h'
  refine ⟨?_,fun y hy => by rw [ho] at hy; cases hy; rfl⟩
  unfold namedBy
  rw [ho]
  exact objsL_flat fun v hv => by
   rcases List.mem_append.1 hv with h | h
   ·exact flatW_obj _ v h
   ·exact hrs v h
theorem ORow.flat {H:Heap} {W:V} {l:List (Int × Int)} {R:List Nat} (h:ORow H W l R):∀ o ∈ R,namedBy H o = [] ∧ ∀ y,H[o]? = some y → y.bd.plainBd = true:=by
 rcases h with ⟨-,-,rfl⟩ | ⟨o,ver,pre,hpre,rfl,-,ho⟩
 ·intro o ho; cases ho
 ·intro o' h'
  obtain rfl:o' = o:=by simpa using h'
  refine ⟨?_,fun y hy => by rw [ho] at hy; cases hy; rfl⟩
  unfold namedBy
  rw [ho]
  exact objsL_flat fun v hv => by
   rcases List.mem_append.1 hv with h | h
   ·exact hpre v h
   ·exact flatP_obj _ v h
theorem mem_objsL_iff:∀ (l:List V) (i:Nat),i ∈ V.objsL l ↔ ∃ v ∈ l,i ∈ v.objs
 | [],i => by simp [V.objsL]
 | v :: l,i => by
  simp only [V.objsL,List.mem_append,mem_objsL_iff l i,List.mem_cons]
  constructor
  ·rintro (h | ⟨u,hu,h⟩)
   ·exact ⟨v,.inl rfl,h⟩
   ·exact ⟨u,.inr hu,h⟩
  ·rintro ⟨u,rfl | hu,h⟩
   ·exact .inl h
   ·exact .inr ⟨u,hu,h⟩
section
variable {H:Heap} {a m:Nat} {nn:Int} {Q:List Pg} {O:List Od} (M:MdAt H a m nn Q O)
include M
theorem named_a (i:Nat):i ∈ namedBy H a ↔ i = m ∨ ∃ q ∈ Q,i ∈ q.R:=by
 unfold namedBy
 rw [M.ob]
 show i ∈ V.objsL _ ↔ _
 rw [mem_objsL_iff]
 constructor
 ·rintro ⟨v,hv,hi⟩
  rcases List.mem_append.1 hv with hv | hv
  ·obtain ⟨q,hq,rfl⟩:=List.mem_map.1 hv
   rw [(M.pg q hq).objs] at hi
   exact .inr ⟨q,hq,hi⟩
  ·simp only [List.mem_cons,List.not_mem_nil,or_false] at hv
   rcases hv with rfl | rfl
   ·cases hi
   ·exact .inl (by simpa [V.objs] using hi)
 ·rintro (rfl | ⟨q,hq,hi⟩)
  ·exact ⟨.map i 1,by simp,by simp [V.objs]⟩
  ·exact ⟨q.W,List.mem_append.2 (.inl (List.mem_map_of_mem hq)),by rw [(M.pg q hq).objs]; exact hi⟩
theorem named_m (i:Nat):i ∈ namedBy H m ↔ ∃ o ∈ O,i ∈ o.R:=by
 unfold namedBy
 rw [M.mp]
 show i ∈ (O.map Od.e).flatMap _ ↔ _
 rw [List.mem_flatMap]
 constructor
 ·rintro ⟨e,he,hi⟩
  obtain ⟨o,ho,rfl⟩:=List.mem_map.1 he
  rcases List.mem_append.1 hi with hi | hi
  ·have:(Od.e o).1.objs = []:=rfl
   rw [this] at hi
   cases hi
  ·have:(Od.e o).2.objs = o.R:=(M.od o ho).objs
   rw [this] at hi
   exact ⟨o,ho,hi⟩
 ·rintro ⟨o,ho,hi⟩
  refine ⟨o.e,List.mem_map_of_mem ho,List.mem_append.2 (.inr ?_)⟩
  have:(Od.e o).2.objs = o.R:=(M.od o ho).objs
  rw [this]
  exact hi
theorem own_closed (o:Nat) (ho:Own a m Q O o):(∀ i ∈ namedBy H o,Own a m Q O i) ∧ ∀ y,H[o]? = some y → y.bd.plainBd = true:=by
 rcases ho with rfl | rfl | ⟨q,hq,hx⟩ | ⟨r,hr,hx⟩
 ·refine ⟨fun i hi => ?_,fun y hy => by rw [M.ob] at hy; cases hy; rfl⟩
  rcases (named_a M i).1 hi with rfl | h
  ·exact .inr (.inl rfl)
  ·exact .inr (.inr (.inl h))
 ·exact ⟨fun i hi => .inr (.inr (.inr ((named_m M i).1 hi))),fun y hy => by rw [M.mp] at hy; cases hy; rfl⟩
 ·obtain ⟨h1,h2⟩:=(M.pg q hq).flat o hx
  exact ⟨fun i hi => (by rw [h1] at hi; cases hi),h2⟩
 ·obtain ⟨h1,h2⟩:=(M.od r hr).flat o hx
  exact ⟨fun i hi => (by rw [h1] at hi; cases hi),h2⟩
theorem own_reach {l:List Nat} (ha:a ∈ l) {o:Nat} (ho:Own a m Q O o):o ∈ reachC H l:=by
 rcases ho with rfl | rfl | h | h
 ·exact reachC_sub H l _ ha
 ·exact reach1 ha ((named_a M _).2 (.inl rfl))
 ·exact reach1 ha ((named_a M _).2 (.inr h))
 ·exact reach2 ha ((named_a M _).2 (.inl rfl)) ((named_m M _).2 h)
end
theorem ref_closed {H:Heap} {r:Nat} {pages:Int} {L:List Wr} {W:V} {R:List Nat} (h:RefAt H r pages L W R) (o:Nat) (ho:o = r ∨ o ∈ R):(∀ i ∈ namedBy H o,i = r ∨ i ∈ R) ∧ ∀ y,H[o]? = some y → y.bd.plainBd = true:=by
 rcases ho with rfl | ho
 ·refine ⟨fun i hi => ?_,fun y hy => by rw [h.ob] at hy; cases hy; rfl⟩
  unfold namedBy at hi
  rw [h.ob] at hi
  have hi:i ∈ V.objsL [.int .i64 pages,W]:=hi
  rw [mem_objsL_iff] at hi
  obtain ⟨v,hv,hi⟩:=hi
  simp only [List.mem_cons,List.not_mem_nil,or_false] at hv
  rcases hv with hv | hv
  ·rw [hv] at hi
   cases hi
  ·rw [hv,h.row.objs] at hi
   exact .inr hi
 ·obtain ⟨h1,h2⟩:=h.row.flat o ho
  exact ⟨fun i hi => (by rw [h1] at hi; cases hi),h2⟩
theorem ref_reach {H:Heap} {r:Nat} {pages:Int} {L:List Wr} {W:V} {R:List Nat} (h:RefAt H r pages L W R) {l:List Nat} (hr:r ∈ l) {o:Nat} (ho:o = r ∨ o ∈ R):o ∈ reachC H l:=by
 rcases ho with rfl | ho
 ·exact reachC_sub H l _ hr
 ·refine reach1 hr ?_
  unfold namedBy
  rw [h.ob]
  show o ∈ V.objsL _
  rw [mem_objsL_iff]
  exact ⟨W,by simp,by rw [h.row.objs]; exact ho⟩
theorem frame_cl {N n:Nat} {f:FuncId} {args:List V} {v:V} {K T:Heap} {S:Nat → Prop} (hm:pureOf am f = .keep) (hS:∀ o ∈ V.objsL args,S o) (hcl:∀ o,S o → (∀ i ∈ namedBy K o,S i) ∧ ∀ y,K[o]? = some y → y.bd.plainBd = true)
  (hc:callA am N n f args (keepOnly (reachC K (V.objsL args)) K) = some (v,keepOnly (reachC K (V.objsL args)) K ++ T)) (hr:∀ o,S o → o ∈ reachC K (V.objsL args)) (hy:f ≠ YLD:=by decide):frameC (pureOf am) (callA am N n) f args K = some (v,K ++ T):=by
 refine frame_app hm rfl (fun o ho y hy' => ?_) hc hy
 have hSo:=reachC_in (fun o h => (hcl o h).1) hS o ho
 obtain ⟨h1,h2⟩:=hcl o hSo
 refine ⟨fun i hi => hr i (h1 i ?_),h2 y hy'⟩
 unfold namedBy
 rw [hy']
 exact hi
theorem only_keep {K:Heap} {R:List Nat} {o:Nat} (h:o ∈ R):(keepOnly R K)[o]? = K[o]?:=keepOnly_in h
theorem PRow.past {K K' T:Heap} {W:V} {l:List Wr} {R:List Nat} (h:PRow (K' ++ T) W l R) (hl:K'.length = K.length) (hR:∀ o ∈ R,K.length ≤ o):PRow (K ++ T) W l R:=h.keep fun o ho => by
 rw [List.getElem?_append_right (hR o ho),List.getElem?_append_right (by rw [hl]; exact hR o ho),hl]
end Go.Am.T


set_option linter.unusedVariables false
set_option linter.unusedSimpArgs false
set_option linter.unusedSectionVars false
set_option maxRecDepth 10000
namespace Go.Am.T
attribute [local congr] selV_congr impB_congr
section
variable {N n:Nat} {K:Heap} {a m r:Nat} {nn:Int} {L:List Wr} {Q:List Pg} {O:List Od} {W:V} {R:List Nat}
theorem Md.only (M:Md K a m nn L Q O) {l:List Nat} (ha:a ∈ l):Md (keepOnly (reachC K l) K) a m nn L Q O:=M.keep fun x hx => only_keep (own_reach M.at_ ha hx)
theorem RefAt.only (h:RefAt K r nn L W R) {l:List Nat} (hr:r ∈ l):RefAt (keepOnly (reachC K l) K) r nn L W R :=
 h.keep (only_keep (ref_reach h hr (.inl rfl))) fun o ho => only_keep (ref_reach h hr (.inr ho))
theorem fr39 (hn:2 ≤ n) (M:Md K a m nn L Q O):frameC (pureOf am) (callA am N n) 39 [.ptr a 1 0] K = some (.int .i64 nn,K):=by
 have:=@frame_cl N n 39 [.ptr a 1 0] (.int .i64 nn) K [] (Own a m Q O) pm39 (fun o ho => by
  obtain rfl:o = a:=by simpa [V.objsL,V.objs] using ho
  exact .inl rfl) (own_closed M.at_) (by rw [List.append_nil]; exact pages_md hn (M.only (by simp [V.objsL,V.objs]))) (fun o ho => own_reach M.at_ (by simp [V.objsL,V.objs]) ho) (by decide)
 rwa [List.append_nil] at this
theorem fr40 (hN:5000 ≤ N) (hn:13 ≤ n) (M:Md K a m nn L Q O) (h:RefAt K r nn L W R) (hL:L.length ≤ 4096):∃ tl,frameC (pureOf am) (callA am N n) 40 [.ptr a 1 0,.ptr r 1 0] K = some (.bool true,K ++ tl):=by
 have e:V.objsL [V.ptr a 1 0,.ptr r 1 0] = [a,r]:=rfl
 obtain ⟨v',H',c,rfl,tl,rfl⟩:=@bases_law N n hN hn _ a m r nn L Q O W R (M.only (l:=[a,r]) (by simp)) (h.only (l:=[a,r]) (by simp)) hL
 refine ⟨tl,@frame_cl N n 40 [.ptr a 1 0,.ptr r 1 0] (.bool true) K tl (fun o => Own a m Q O o ∨ (o = r ∨ o ∈ R)) pm40 (fun o ho => ?_) (fun o ho => ?_) (by rw [e]; exact c) (fun o ho => ?_) (by decide)⟩
 ·rw [e] at ho
  simp only [List.mem_cons,List.not_mem_nil,or_false] at ho
  rcases ho with rfl | rfl
  ·exact .inl (.inl rfl)
  ·exact .inr (.inl rfl)
 ·rcases ho with ho | ho
  ·obtain ⟨h1,h2⟩:=own_closed M.at_ o ho
   exact ⟨fun i hi => .inl (h1 i hi),h2⟩
  ·obtain ⟨h1,h2⟩:=ref_closed h o ho
   exact ⟨fun i hi => .inr (h1 i hi),h2⟩
 ·rcases ho with ho | ho
  ·exact own_reach M.at_ (by rw [e]; simp) ho
  ·exact ref_reach h (by rw [e]; simp) ho
theorem fr41 (hN:5000 ≤ N) (hn:3 ≤ n) (M:Md K a m nn L Q O) (hL:L.length ≤ 4096) (w:Int × Int):∃ v T R',frameC (pureOf am) (callA am N n) 41 [.ptr a 1 0,.agg (pcs w)] K = some (v,K ++ T) ∧ PRow (K ++ T) v (volL w L) R' ∧ ∀ o ∈ R',K.length ≤ o:=by
 have e:V.objsL [V.ptr a 1 0,.agg (pcs w)] = [a]:=rfl
 obtain ⟨v',H',c,R',C⟩:=@vola_md N n hN hn _ a m nn L Q O (M.only (l:=[a]) (by simp)) hL w
 obtain ⟨T,rfl⟩:=C.tl
 have hnew:=C.new
 rw [keepOnly_length] at hnew
 refine ⟨v',T,R',@frame_cl N n 41 [.ptr a 1 0,.agg (pcs w)] v' K T (Own a m Q O) pm41 (fun o ho => ?_) (own_closed M.at_) (by rw [e]; exact c) (fun o ho => own_reach M.at_ (by rw [e]; simp) ho) (by decide),C.row.past (keepOnly_length _ _) hnew,hnew⟩
 rw [e] at ho
 obtain rfl:o = a:=by simpa using ho
 exact .inl rfl
theorem fr38 (hN:5000 ≤ N) (hn:1 ≤ n) (h:RefAt K r nn L W R) (hL:L.length ≤ 4096) (w:Int × Int):∃ v T R',frameC (pureOf am) (callA am N n) 38 [.ptr r 1 0,.agg (pcs w)] K = some (v,K ++ T) ∧ PRow (K ++ T) v (volL w L) R' ∧ ∀ o ∈ R',K.length ≤ o:=by
 have e:V.objsL [V.ptr r 1 0,.agg (pcs w)] = [r]:=rfl
 obtain ⟨v',H',c,R',C⟩:=@vref_spec N n hN hn _ r nn L W R (h.only (l:=[r]) (by simp)) hL w
 obtain ⟨T,rfl⟩:=C.tl
 have hnew:=C.new
 rw [keepOnly_length] at hnew
 refine ⟨v',T,R',@frame_cl N n 38 [.ptr r 1 0,.agg (pcs w)] v' K T (fun o => o = r ∨ o ∈ R) pm38 (fun o ho => ?_) (ref_closed h) (by rw [e]; exact c) (fun o ho => ref_reach h (by rw [e]; simp) ho) (by decide),C.row.past (keepOnly_length _ _) hnew,hnew⟩
 rw [e] at ho
 obtain rfl:o = r:=by simpa using ho
 exact .inl rfl
theorem fr36 (hN:5000 ≤ N) (hn:1 ≤ n) {u v:V} {l:List Wr} {R1 R2:List Nat} (r1:PRow K u l R1) (r2:PRow K v l R2) (hl:l.length ≤ 4096):frameC (pureOf am) (callA am N n) 36 [u,v] K = some (.bool true,K):=by
 have c:=@sameW_spec N n hN hn u v l R1 R2 K r1 r2 hl
 have hflat:∀ o ∈ V.objsL [u,v],namedBy K o = []:=fun o ho => by
  have:o ∈ u.objs ∨ o ∈ v.objs:=by simpa [V.objsL] using ho
  rw [r1.objs,r2.objs] at this
  rcases this with h | h
  ·exact (r1.flat o h).1
  ·exact (r2.flat o h).1
 have e:frameC (pureOf am) (callA am N n) 36 [u,v] K = if shutIn (reachC K (V.objsL [u,v])) K then callA am N n 36 [u,v] K else none:=by
  unfold frameC
  rw [if_neg (by decide),show pureOf am 36 = .look from pm36]
 rw [e,reachC_flat hflat,if_pos,c]
 unfold shutIn
 rw [List.all_eq_true]
 intro o ho
 rw [hflat o ho]
 rfl
end
theorem whose_all {N n:Nat} (hN:5000 ≤ N) (hn:7 ≤ n) {H:Heap} {a m:Nat} {nn:Int} {L:List Wr} {Q:List Pg} {O:List Od} (M:Md H a m nn L Q O) (p:Int) (hL:L.length ≤ 4096) :
  ∃ v' H',callA am N n 24 [.ptr a 1 0,.int .i64 p] H = some (v',H') ∧ v' = wV (whoseW (pgOf L p)) ∧ ∃ tl,H' = H ++ tl:=by
 unfold wV
 cases hb:badA nn (0,1) p 0 with
 | false =>
  obtain ⟨-,p0,pn⟩:=badA_k hb
  obtain ⟨p,rfl⟩:∃ p':Nat,p = (p':Int):=⟨p.toNat,by omega⟩
  have n16:=M.n16
  obtain ⟨q,hq,eq⟩:=M.page (p:=p) (by omega)
  have pl:=pgOf_len L p
  rw [← eq]
  exact @whose_spec N n hN (by omega) H a m nn Q O M.at_ M.n1 p hb q hq (by rw [eq]; omega)
 | true =>
  rw [pgOf_out M.ab.ok (by rw [← badP_out]; exact hb)]
  obtain ⟨n,rfl⟩:∃ m,n = m + 1:=⟨n - 1,by omega⟩
  have c30:=fun H => @writes_spec N n (by omega) a p H
  have c49:=fun (x1 x2 x3 x4:Ob) (y:V) => @iter_bad N n (by omega) (H ++ [x1,x2,x3,x4,⟨1,.var [.ptr a 1 0]⟩,⟨1,.var [.int .i64 p]⟩]) a m (H.length + 4) (H.length + 5) nn Q M.at_.q16 M.n1 (M.app _).at_.ob' (by rw [app_get]; rfl) p (by rw [app_get]; rfl) hb y
  have e0:whoseW [] = ((0,0),false):=rfl
  rw [e0]
  unfold pcs at *
  refine am24_wp rfl ?_
  simp +contextual -implicitDefEqProofs (maxSteps:=10000000) only [sxb,↓sxd,plainD,stays,↓prim_pick,doOp,get,ins,del,dels,Nat.reduceLT,Nat.reduceEqDiff,↓reduceIte,reduceCtorEq,ne_eq,implies_true,prim,YLD,mkA,V.cells,Nat.reduceAdd,Nat.reduceSub,Nat.reduceMul,Nat.reduceLeDiff,loadA,cellsAt,nAg,packA,List.drop,List.take,List.head?,binA,unA,eqCells,eqCell,negB,fillA,storeA,Ob.with,indexedI,V.oneCell,intOf?,resA,resA1,packR,sealDepth,Int.reduceLT,Int.reduceLE,Int.reduceToNat,Int.reduceNeg,Int.reduceAdd,Int.reduceSub,Int.reduceMul,cond_true,cond_false,Int.reduceBNe,Int.reduceBEq,eq_self,deads,List.replicate,argsF,am24,app_get0,app_get,app_set0,app_set,c30,List.length_append,List.append_assoc]
  refine sx_rangeF (x:=⟨0,.dead⟩) (g:=49) (xs:=[]) (ys:=[.ptr (H.length + 4) 1 0,.ptr (H.length + 5) 1 0]) (by rw [app_get]; rfl) rfl (by rw [app_set]; exact c49 _ _ _ _ _) (by rw [List.append_assoc,app_get]; rfl) (by decide) ?_
  simp +contextual -implicitDefEqProofs (maxSteps:=10000000) only [sxb,↓sxd,plainD,stays,↓prim_pick,doOp,get,ins,del,dels,Nat.reduceLT,Nat.reduceEqDiff,↓reduceIte,reduceCtorEq,ne_eq,implies_true,prim,YLD,mkA,V.cells,Nat.reduceAdd,Nat.reduceSub,Nat.reduceMul,Nat.reduceLeDiff,loadA,cellsAt,nAg,packA,List.drop,List.take,List.head?,binA,unA,eqCells,eqCell,negB,fillA,storeA,Ob.with,indexedI,V.oneCell,intOf?,resA,resA1,packR,sealDepth,Int.reduceLT,Int.reduceLE,Int.reduceToNat,Int.reduceNeg,Int.reduceAdd,Int.reduceSub,Int.reduceMul,cond_true,cond_false,Int.reduceBNe,Int.reduceBEq,eq_self,deads,List.replicate,argsF,app_get0,app_get,app_set0,app_set,jumpE,List.append_assoc]
  exact ⟨_,rfl⟩
theorem yV_eq {nn:Int} {L:List Wr} (h:∀ x ∈ L,x.Ok) (p:Int) (f:Wr → Bool):∃ vv e,yV nn L p f = .tup [.agg vv,.int .i64 e] ∧ vv.length = 97 ∧ vv.all V.oneCell = true ∧ List.take 97 vv = vv ∧ setRange zV 0 vv = vv ∧ eqCells [.i .i64,.i .u8,.i .u8,.i .u8,.i .u8,.i .u8,.i .u8,.i .u8,.i .u8,.i .u8,.i .u8,.i .u8,.i .u8,.i .u8,.i .u8,.i .u8,.i .u8,.i .u8,.i .u8,.i .u8,.i .u8,.i .u8,.i .u8,.i .u8,.i .u8,.i .u8,.i .u8,.i .u8,.i .u8,.i .u8,.i .u8,.i .u8,.i .u8,.i .u8,.i .u8,.i .u8,.i .u8,.i .u8,.i .u8,.i .u8,.i .u8,.i .u8,.i .u8,.i .u8,.i .u8,.i .u8,.i .u8,.i .u8,.i .u8,.i .u8,.i .u8,.i .u8,.i .u8,.i .u8,.i .u8,.i .u8,.i .u8,.i .u8,.i .u8,.i .u8,.i .u8,.i .u8,.i .u8,.i .u8,.i .u8,.i .u8,.i .u8,.i .u8,.i .u8,.i .u8,.i .u8,.i .u8,.i .u8,.i .u8,.i .u8,.i .u8,.i .u8,.i .u8,.i .u8,.i .u8,.i .u8,.i .u8,.i .u8,.i .u8,.i .u8,.i .u8,.i .u8,.i .u8,.i .u8,.i .u8,.i .u8,.i .u8,.i .u8,.i .u8,.i .u8,.i .u8,.i .u8] vv vv = some true:=by
 unfold yV
 split
 ·exact ⟨zV,2,rfl,rfl,rfl,rfl,rfl,eq97 (x:=none) (fun y hy => by cases hy)⟩
 ·obtain ⟨k1,k2,k3,k4,-⟩:=verCs_ok (topW_ok (f:=f) (pgOf_ok h p))
  exact ⟨_,0,rfl,k1,k2,k3,k4,eq97 (topW_ok (f:=f) (pgOf_ok h p))⟩
end Go.Am.T


set_option linter.unusedVariables false
set_option linter.unusedSimpArgs false
set_option linter.unusedSectionVars false
set_option maxRecDepth 10000
namespace Go.Am.T
attribute [local congr] selV_congr impB_congr
structure Stp where
 kind:Int
 pg:Int
 n:Int
 nd:Int
 ep:Int
 b:List Int
def Stp.cs (x:Stp):List V:=.int .i64 x.kind :: .int .i64 x.pg :: .int .i64 x.n :: .int .i64 x.nd :: .int .i64 x.ep :: x.b.map (V.int .u8)
theorem am19_wp {N n:Nat} {args:List V} {h:Heap} {C:V → Heap → Prop} (ha:args.length = 4) (H:sx ⟨pureOf am,callA am N n,N,h.length⟩ am19.body (fr am19.nt (argsF 0 args)) (h ++ deads am19.sites) (retQ am19.res C)):∃ v h',callA am N (n + 1) 19 args h = some (v,h') ∧ C v h' :=
 call_keep at19 rfl ha (by decide) (sx_wp H)
structure Pair (H:Heap) (a m r:Nat) (nn:Int) (L:List Wr) (Q:List Pg) (O:List Od) (W:V) (R:List Nat):Prop where
 M:Md H a m nn L Q O
 F:RefAt H r nn L W R
 ap:∀ x,Own a m Q O x → x ≠ r ∧ x ∉ R
theorem Pair.app {H:Heap} {a m r:Nat} {nn:Int} {L:List Wr} {Q:List Pg} {O:List Od} {W:V} {R:List Nat} (h:Pair H a m r nn L Q O W R) (l:Heap):Pair (H ++ l) a m r nn L Q O W R:=⟨h.M.app l,h.F.app l,h.ap⟩
theorem okT_tag {n r:Nat} {R:List Nat} {h h':Heap} (hr:r ∉ R) (hn:r < n):(tagP false (.call R) h h').ok n (.io [r] []) = true:=by
 have hd:disj R [] = true:=by unfold disj; simp
 have hd2:disj R [r] = true:=by
  unfold disj
  rw [List.all_eq_true]
  intro x hx
  simp only [List.contains_cons,List.contains_nil,Bool.or_false,Bool.not_eq_true',beq_eq_false_iff_ne]
  exact fun e => hr (e ▸ hx)
 cases hs:sameR R h h' with
 | true => simp only [tagP,hs,FpT.ok,hd,List.append_nil,List.all_cons,List.all_nil,decide_eq_true hn,Bool.and_self]
 | false => simp only [tagP,hs,FpT.ok,Fp.ok,hd2,List.append_nil,List.all_cons,List.all_nil,decide_eq_true hn,Bool.and_self]
theorem okT_nil {n:Nat} {R:List Nat} {h h':Heap}:(tagP false (.call R) h h').ok n (.io [] []) = true:=by
 have hd:disj R [] = true:=by unfold disj; simp
 cases hs:sameR R h h' with
 | true => simp only [tagP,hs,FpT.ok,hd,List.append_nil,List.all_nil,Bool.and_self]
 | false => simp only [tagP,hs,FpT.ok,Fp.ok,hd,List.append_nil,List.all_nil,Bool.and_self]
theorem Pair.nreach {H:Heap} {a m r:Nat} {nn:Int} {L:List Wr} {Q:List Pg} {O:List Od} {W:V} {R:List Nat} (h:Pair H a m r nn L Q O W R):r ∉ reachC H [a]:=fun hr =>
 (h.ap r (reachC_in (fun o ho => (own_closed h.M.at_ o ho).1) (fun o ho => by
  obtain rfl:o = a:=by simpa using ho
  exact .inl rfl) r hr)).1 rfl
theorem ext6 {o:Option (V × Heap)} {x:V} {H:Heap} {s0 s1 s2 s3 s4 s5:Ob} {tl:Heap} (h:∃ v' H',o = some (v',H') ∧ v' = x ∧ ∃ t,H' = (H ++ (s0 :: s1 :: s2 :: s3 :: s4 :: s5 :: tl)) ++ t):∃ tl',o = some (x,H ++ (s0 :: s1 :: s2 :: s3 :: s4 :: s5 :: tl')):=by
 obtain ⟨v',H',rfl,rfl,t,rfl⟩:=h
 exact ⟨tl ++ t,by simp⟩
set_option maxHeartbeats 4000000 in
theorem stands_spec {N n:Nat} (hN:5000 ≤ N) (hn:20 ≤ n) {H:Heap} {a m r:Nat} {nn:Int} {L:List Wr} {Q:List Pg} {O:List Od} {W:V} {R:List Nat} (P:Pair H a m r nn L Q O W R) (hL:L.length ≤ 4000) (u:V) (M:List Stp) (hM:IsL u 101 (M.map Stp.cs)) (hB:∀ x ∈ M,x.b.length = 96) (lv:Int) :
  ∃ v' H',callA am N n 19 [.ptr a 1 0,.ptr r 1 0,u,.int .i64 lv] H = some (v',H') ∧ v' = .bool true ∧ ∃ tl,H' = H ++ tl:=by
 obtain ⟨n,rfl⟩:∃ m,n = m + 1:=⟨n - 1,by omega⟩
 have n1:=P.M.n1
 have n16:=P.M.n16
 have c39:=@fr39 N n _ a m nn L Q O (by omega) (P.app [⟨0,.dead⟩,⟨0,.dead⟩,⟨0,.dead⟩,⟨0,.dead⟩,⟨0,.dead⟩,⟨0,.dead⟩]).M
 obtain ⟨tl0,c40⟩:=@fr40 N n _ a m r nn L Q O W R hN (by omega) (P.app [⟨0,.dead⟩,⟨0,.dead⟩,⟨0,.dead⟩,⟨0,.dead⟩,⟨0,.dead⟩,⟨0,.dead⟩]).M (P.app [⟨0,.dead⟩,⟨0,.dead⟩,⟨0,.dead⟩,⟨0,.dead⟩,⟨0,.dead⟩,⟨0,.dead⟩]).F (by omega)
 have f39:({ pureF:=pureOf am,call:=callA am N n,N:=N,fb:=H.length }:Env).framed.call 39 [.ptr a 1 0] (H ++ [⟨0,.dead⟩,⟨0,.dead⟩,⟨0,.dead⟩,⟨0,.dead⟩,⟨0,.dead⟩,⟨0,.dead⟩]) = _:=c39
 have f40:({ pureF:=pureOf am,call:=callA am N n,N:=N,fb:=H.length }:Env).framed.call 40 [.ptr a 1 0,.ptr r 1 0] (H ++ [⟨0,.dead⟩,⟨0,.dead⟩,⟨0,.dead⟩,⟨0,.dead⟩,⟨0,.dead⟩,⟨0,.dead⟩]) = _:=c40
 have ob:∀ l:Heap,(H ++ l)[r]? = some ⟨1,.var [.int .i64 nn,W]⟩:=fun l => (P.F.app l).ob
 have lr0:∀ l:Heap,loadA (fun o => (H ++ l)[o]?) 1 (.ptr r 1 0) = some [.int .i64 nn]:=fun l => by simp [loadA,cellsAt,ob l]
 have rlt:=P.F.lt
 have la:=hM.len
 rw [List.length_map] at la
 have lnstr:=hM.nstr
 refine am19_wp rfl ?_
 have okK:=okT_tag (h:=H ++ [⟨0,.dead⟩,⟨0,.dead⟩,⟨0,.dead⟩,⟨0,.dead⟩,⟨0,.dead⟩,⟨0,.dead⟩]) (h':=H ++ [⟨0,.dead⟩,⟨0,.dead⟩,⟨0,.dead⟩,⟨0,.dead⟩,⟨0,.dead⟩,⟨0,.dead⟩]) (P.app [⟨0,.dead⟩,⟨0,.dead⟩,⟨0,.dead⟩,⟨0,.dead⟩,⟨0,.dead⟩,⟨0,.dead⟩]).nreach (P.app [⟨0,.dead⟩,⟨0,.dead⟩,⟨0,.dead⟩,⟨0,.dead⟩,⟨0,.dead⟩,⟨0,.dead⟩]).F.lt
 simp +contextual -implicitDefEqProofs (maxSteps:=10000000) only [sxb,↓sxd,plainD,stays,↓prim_pick,doOp,get,ins,del,dels,Nat.reduceLT,Nat.reduceEqDiff,↓reduceIte,reduceCtorEq,ne_eq,implies_true,prim,YLD,mkA,V.cells,Nat.reduceAdd,Nat.reduceSub,Nat.reduceMul,Nat.reduceLeDiff,loadA,cellsAt,nAg,packA,List.drop,List.take,List.head?,binA,unA,eqCells,eqCell,negB,fillA,storeA,Ob.with,indexedI,V.oneCell,intOf?,resA,resA1,packR,sealDepth,Int.reduceLT,Int.reduceLE,Int.reduceToNat,Int.reduceNeg,Int.reduceAdd,Int.reduceSub,Int.reduceMul,cond_true,cond_false,Int.reduceBNe,Int.reduceBEq,eq_self,deads,List.replicate,argsF,am19,sx_drawd,reachC_nil,wpd_nil,wpd_cons,wpd_gt,wpd_gf,wpd_gu,wdK_def,fpOf,fpV,fpCall,Fp.ok,okT_of,okT_rd_io,okT_rd_call,okT_rd_bar,tagP_io,tagP_bar,tagP_call,tagF,AOp.rds,disj,List.contains_cons,List.contains_nil,Nat.reduceBEq,List.all_append,V.objsL,V.objs, List.getD_cons_zero,List.getD_cons_succ,List.append_nil,pm39,pm40,f39,f40,lr0,okK,bne_self_eq_false,List.append_assoc,-loadA]
 refine sx_loop (fun i t h' => ∃ tl,t = fr 146 [(0,.ptr a 1 0),(1,.ptr r 1 0),(2,u),(3,.int .i64 lv),(9,.int .i64 (i:Nat))] ∧ i ≤ M.length ∧ i ≤ 8 ∧ h' = H ++ (⟨0,.dead⟩ :: ⟨0,.dead⟩ :: ⟨0,.dead⟩ :: ⟨0,.dead⟩ :: ⟨0,.dead⟩ :: ⟨0,.dead⟩ :: tl)) 8 (by show 8 < N; omega) ⟨tl0,rfl,Nat.zero_le _,Nat.zero_le _,rfl⟩ ?_
 rintro i t h' hi ⟨tl,rfl,hi1,hi2,rfl⟩
 have w4:IntKind.i64.wrap ((i:Int) + 1) = ((i + 1:Nat):Int):=(wrap64 (by omega) (by omega)).trans (by omega)
 by_cases hgo:i < M.length ∧ i < 8
 case pos =>
  obtain ⟨h1,h2⟩:=hgo
  have g1:decide ((i:Int) < (M.length:Int)) = true:=decide_eq_true (by omega)
  have g2:decide ((i:Int) < 8) = true:=decide_eq_true (by omega)
  have hk:M[i]? = some M[i]:=List.getElem?_eq_getElem h1
  have hxb:=hB M[i] (List.getElem_mem h1)
  generalize M[i] = x at hk hxb
  have hat:=hM.at_ i
  rw [List.getElem?_map,hk] at hat
  simp only [Option.map_some] at hat
  have s3:∀ g,loadA g 2 (.iptr x.cs 3) = some [.int .i64 x.nd,.int .i64 x.ep]:=fun g => by simp [loadA,Stp.cs]
  obtain ⟨K,eK⟩:∃ K,K = H ++ (⟨0,.dead⟩ :: ⟨0,.dead⟩ :: ⟨0,.dead⟩ :: ⟨0,.dead⟩ :: ⟨0,.dead⟩ :: ⟨0,.dead⟩ :: tl):=⟨_,rfl⟩
  have PK:Pair K a m r nn L Q O W R:=by rw [eK]; exact P.app _
  obtain ⟨v1,T1,R1,c41,p1,q1⟩:=@fr41 N n K a m nn L Q O hN (by omega) PK.M (by omega) (x.nd,x.ep)
  obtain ⟨v2,T2,R2,c38,p2,q2⟩:=@fr38 N n (K ++ T1) r nn L W R hN (by omega) (PK.app T1).F (by omega) (x.nd,x.ep)
  have hvl:(volL (x.nd,x.ep) L).length ≤ L.length:=List.length_filter_le _ _
  have c36:=@fr36 N n (K ++ T1 ++ T2) hN (by omega) v1 v2 _ R1 R2 (p1.keep fun o ho => List.getElem?_append_left (p1.lt o ho)) p2 (by omega)
  unfold pcs at c41 c38
  simp only at c41 c38
  have f41:({ pureF:=pureOf am,call:=callA am N n,N:=N,fb:=H.length }:Env).framed.call 41 [.ptr a 1 0,.agg [.int .i64 x.nd,.int .i64 x.ep]] K = _:=c41
  have f38:({ pureF:=pureOf am,call:=callA am N n,N:=N,fb:=H.length }:Env).framed.call 38 [.ptr r 1 0,.agg [.int .i64 x.nd,.int .i64 x.ep]] (K ++ T1) = _:=c38
  have f36:({ pureF:=pureOf am,call:=callA am N n,N:=N,fb:=H.length }:Env).framed.call 36 [v1,v2] (K ++ T1 ++ T2) = _:=c36
  obtain ⟨z1,z2,z3,z4,z5,z6⟩:=p1.shape
  obtain ⟨y1,y2,y3,y4,y5,y6⟩:=p2.shape
  have o1:=p1.objs
  have o2:=p2.objs
  rw [← eK]
  simp +contextual -implicitDefEqProofs (maxSteps:=10000000) only [sxb,↓sxd,plainD,stays,↓prim_pick,doOp,get,ins,del,dels,Nat.reduceLT,Nat.reduceEqDiff,↓reduceIte,reduceCtorEq,ne_eq,implies_true,prim,YLD,mkA,V.cells,Nat.reduceAdd,Nat.reduceSub,Nat.reduceMul,Nat.reduceLeDiff,loadA,cellsAt,nAg,packA,List.drop,List.take,List.head?,binA,unA,eqCells,eqCell,negB,fillA,storeA,Ob.with,indexedI,V.oneCell,intOf?,resA,resA1,packR,sealDepth,Int.reduceLT,Int.reduceLE,Int.reduceToNat,Int.reduceNeg,Int.reduceAdd,Int.reduceSub,Int.reduceMul,cond_true,cond_false,Int.reduceBNe,Int.reduceBEq,eq_self,deads,List.replicate,argsF,la,g1,g2,hat,s3,sx_drawd,reachC_nil,wpd_nil,wpd_cons,wpd_gt,wpd_gf,wpd_gu,wdK_def,fpOf,fpV,fpCall,Fp.ok,okT_of,okT_rd_io,okT_rd_call,okT_rd_bar,tagP_io,tagP_bar,tagP_call,tagF,AOp.rds,disj,List.contains_cons,List.contains_nil,Nat.reduceBEq,List.all_append,V.objsL,V.objs, List.getD_cons_zero,List.getD_cons_succ,List.append_nil,pm41,pm38,pm36,f41,f38,f36,o1,o2,w4,okT_nil,-loadA]
  exact ⟨h2,tl ++ T1 ++ T2,by omega,by omega,by rw [eK]; simp⟩
 case neg =>
  have hg:(decide ((i:Int) < (M.length:Int)) && decide ((i:Int) < 8)) = false:=by
   rw [Bool.and_eq_false_iff,decide_eq_false_iff_not,decide_eq_false_iff_not]
   omega
  simp +contextual -implicitDefEqProofs (maxSteps:=10000000) only [sxb,↓sxd,plainD,stays,↓prim_pick,doOp,get,ins,del,dels,Nat.reduceLT,Nat.reduceEqDiff,↓reduceIte,reduceCtorEq,ne_eq,implies_true,prim,YLD,mkA,V.cells,Nat.reduceAdd,Nat.reduceSub,Nat.reduceMul,Nat.reduceLeDiff,loadA,cellsAt,nAg,packA,List.drop,List.take,List.head?,binA,unA,eqCells,eqCell,negB,fillA,storeA,Ob.with,indexedI,V.oneCell,intOf?,resA,resA1,packR,sealDepth,Int.reduceLT,Int.reduceLE,Int.reduceToNat,Int.reduceNeg,Int.reduceAdd,Int.reduceSub,Int.reduceMul,cond_true,cond_false,Int.reduceBNe,Int.reduceBEq,eq_self,deads,List.replicate,argsF,la,hg]
  clear hg hgo w4
  refine sx_loop (fun j t h' => ∃ s0 s1 s2 s3 s4 s5 tl,t = fr 146 [(0,.ptr a 1 0),(1,.ptr r 1 0),(3,.int .i64 lv),(10,.int .i64 ((j:Int) - 1))] ∧ (j:Int) ≤ nn + 2 ∧ h' = H ++ (s0 :: s1 :: s2 :: s3 :: s4 :: s5 :: tl)) 18 (by show 18 < N; omega) ⟨_,_,_,_,_,_,tl,rfl,by omega,rfl⟩ ?_
  rintro j t h' hj ⟨s0,s1,s2,s3,s4,s5,tl,rfl,hjn,rfl⟩
  by_cases hlt:(j:Int) - 1 ≤ nn
  case neg =>
   have g1:decide ((j:Int) - 1 ≤ nn) = false:=decide_eq_false hlt
   simp +contextual -implicitDefEqProofs (maxSteps:=10000000) only [sxb,↓sxd,plainD,stays,↓prim_pick,doOp,get,ins,del,dels,Nat.reduceLT,Nat.reduceEqDiff,↓reduceIte,reduceCtorEq,ne_eq,implies_true,prim,YLD,mkA,V.cells,Nat.reduceAdd,Nat.reduceSub,Nat.reduceMul,Nat.reduceLeDiff,loadA,cellsAt,nAg,packA,List.drop,List.take,List.head?,binA,unA,eqCells,eqCell,negB,fillA,storeA,Ob.with,indexedI,V.oneCell,intOf?,resA,resA1,packR,sealDepth,Int.reduceLT,Int.reduceLE,Int.reduceToNat,Int.reduceNeg,Int.reduceAdd,Int.reduceSub,Int.reduceMul,cond_true,cond_false,Int.reduceBNe,Int.reduceBEq,eq_self,deads,List.replicate,argsF,lr0,g1,-loadA]
   exact ⟨_,rfl⟩
  have g1:decide ((j:Int) - 1 ≤ nn) = true:=decide_eq_true hlt
  have w4:IntKind.i64.wrap ((j:Int) - 1 + 1) = ((j + 1:Nat):Int) - 1:=(wrap64 (by omega) (by omega)).trans (by omega)
  obtain ⟨p,ep⟩:∃ p:Int,p = (j:Int) - 1:=⟨_,rfl⟩
  rw [← ep] at g1 w4
  have hok:=P.M.ab.ok.ok
  -- the youngest version
  obtain ⟨va,ea,eva,a1,a2,a3,a4,a5⟩:=@yV_eq nn L hok p (yF false)
  obtain ⟨vb,eb,evb,b1,b2,b3,b4,b5⟩:=@yV_eq nn L hok p (yF true)
  obtain ⟨tl1,c23⟩:=ext6 (@young_all N n hN (by omega) _ _ _ _ _ _ _ (P.app (s0 :: s1 :: s2 :: s3 :: s4 :: s5 :: tl)).M p (by omega))
  have c42a:=@yref_spec N n hN (by omega) _ _ _ _ _ _ (P.app (⟨s0.ver + 1,.var va⟩ :: s1 :: s2 :: s3 :: s4 :: s5 :: tl1)).F (by omega) p false
  obtain ⟨tl2,c21⟩:=ext6 (@base_all N n hN (by omega) _ _ _ _ _ _ _ (P.app (⟨s0.ver + 1,.var va⟩ :: ⟨s1.ver + 1,.var va⟩ :: s2 :: s3 :: s4 :: s5 :: tl1)).M p (by omega))
  have c42b:=@yref_spec N n hN (by omega) _ _ _ _ _ _ (P.app (⟨s0.ver + 1,.var va⟩ :: ⟨s1.ver + 1,.var va⟩ :: ⟨s2.ver + 1,.var vb⟩ :: s3 :: s4 :: s5 :: tl2)).F (by omega) p true
  obtain ⟨tl3,c24⟩:=ext6 (@whose_all N n hN (by omega) _ _ _ _ _ _ _ (P.app (⟨s0.ver + 1,.var va⟩ :: ⟨s1.ver + 1,.var va⟩ :: ⟨s2.ver + 1,.var vb⟩ :: ⟨s3.ver + 1,.var vb⟩ :: s4 :: s5 :: tl2)).M p (by omega))
  obtain ⟨w1,w2,wb,hww⟩:∃ w1 w2 wb,whoseW (pgOf L p) = ((w1,w2),wb):=⟨_,_,_,rfl⟩
  have c43:=@wref_spec N n hN (by omega) _ _ _ _ _ _ (P.app (⟨s0.ver + 1,.var va⟩ :: ⟨s1.ver + 1,.var va⟩ :: ⟨s2.ver + 1,.var vb⟩ :: ⟨s3.ver + 1,.var vb⟩ :: ⟨s4.ver + 1,.var [.int .i64 w1,.int .i64 w2]⟩ :: s5 :: tl3)).F P.M.ab.ok (by omega) p
  obtain ⟨v7,H7,c37,R7,C7⟩:=@of_spec N n hN (by omega) _ _ _ _ _ _ (P.app (⟨s0.ver + 1,.var va⟩ :: ⟨s1.ver + 1,.var va⟩ :: ⟨s2.ver + 1,.var vb⟩ :: ⟨s3.ver + 1,.var vb⟩ :: ⟨s4.ver + 1,.var [.int .i64 w1,.int .i64 w2]⟩ :: ⟨s5.ver + 1,.var [.int .i64 w1,.int .i64 w2]⟩ :: tl3)).F (by omega) p
  obtain ⟨T7,rfl⟩:=C7.tl
  have r7:=C7.row
  rw [List.append_assoc] at c37 r7
  simp only [List.cons_append] at c37 r7
  obtain ⟨tl8,c44⟩:=ext6 (@writes_law N n hN (by omega) _ _ _ _ _ _ _ (P.app (⟨s0.ver + 1,.var va⟩ :: ⟨s1.ver + 1,.var va⟩ :: ⟨s2.ver + 1,.var vb⟩ :: ⟨s3.ver + 1,.var vb⟩ :: ⟨s4.ver + 1,.var [.int .i64 w1,.int .i64 w2]⟩ :: ⟨s5.ver + 1,.var [.int .i64 w1,.int .i64 w2]⟩ :: (tl3 ++ T7))).M (by omega) v7 R7 lv p r7)
  rw [eva] at c23 c42a
  rw [evb] at c21 c42b
  rw [hww] at c24 c43
  unfold wV pcs at c24 c43
  simp only at c24 c43
  unfold zV at a4 b4
  have c9:=@num_spec N n (by omega)
  have ld:∀ (k v:Nat) (c:List V) (T:Heap) (nn:Nat),T[k]? = some ⟨v,.var c⟩ → c.length = nn → loadA (fun o => (H ++ T)[o]?) nn (.ptr (H.length + k) v 0) = some c:=fun k v c T nn h1 h2 => by
   simp [loadA,cellsAt,app_get,h1,h2,List.take_of_length_le]
  rw [← ep]
  obtain ⟨x1,x2,x3,x4,x5,x6⟩:=r7.shape
  simp +contextual -implicitDefEqProofs (maxSteps:=10000000) only [sxb,↓sxd,plainD,stays,↓prim_pick,doOp,get,ins,del,dels,Nat.reduceLT,Nat.reduceEqDiff,↓reduceIte,reduceCtorEq,ne_eq,implies_true,prim,YLD,mkA,V.cells,Nat.reduceAdd,Nat.reduceSub,Nat.reduceMul,Nat.reduceLeDiff,loadA,cellsAt,nAg,packA,List.drop,List.take,List.head?,binA,unA,eqCells,eqCell,negB,fillA,storeA,Ob.with,indexedI,V.oneCell,intOf?,resA,resA1,packR,sealDepth,Int.reduceLT,Int.reduceLE,Int.reduceToNat,Int.reduceNeg,Int.reduceAdd,Int.reduceSub,Int.reduceMul,cond_true,cond_false,Int.reduceBNe,Int.reduceBEq,eq_self,deads,List.replicate,argsF,lr0,g1,app_get0,app_get,app_set0,app_set,c23,a1,a2,a3,a4,c42a,pm42,c21,b1,b2,b3,b4,c42b,c24,c43,pm43,a5,b5,c9,pm9,bne_self_eq_false,beq_self_eq_true,eqCells,eqCell,pm37,c37,pm44,c44,x1,w4,-loadA]
  exact ⟨by omega,_,_,_,_,_,_,_,by omega,rfl⟩
end Go.Am.T


set_option linter.unusedVariables false
set_option linter.unusedSimpArgs false
set_option linter.unusedSectionVars false
set_option maxRecDepth 10000
namespace Go.Am.T
attribute [local congr] selV_congr impB_congr
section
variable {K K1 K2:Heap} {a m r:Nat} {nn:Int} {L L':List Wr} {Q Q':List Pg} {O O':List Od} {W W':V} {R R':List Nat}
theorem Pair.ref1 (P:Pair K a m r nn L Q O W R) (B:Bey K K1 a m Q Q' O O'):RefAt K1 r nn L W R :=
 P.F.keep (B.oth r P.F.lt fun h => (P.ap r h).1 rfl) fun o ho => B.oth o (P.F.row.lt o ho) fun h => (P.ap o h).2 ho
theorem Pair.step (P:Pair K a m r nn L Q O W R) (M1:Md K1 a m nn L' Q' O') (B1:Bey K K1 a m Q Q' O O') (F2:RefAt K2 r nn L' W' R') (B2:RBey K1 K2 r R R'):Pair K2 a m r nn L' Q' O' W' R':=by
 have hr:=P.F.lt
 have hap:∀ x,Own a m Q' O' x → x ≠ r ∧ x ∉ R:=fun x hx => by
  rcases B1.new x hx with h | h
  ·exact P.ap x h
  ·exact ⟨by omega,fun e => by have:=P.F.row.lt x e; omega⟩
 refine ⟨M1.keep fun x hx => B2.oth x (M1.at_.lt x hx) (hap x hx).1 (hap x hx).2,F2,fun x hx => ⟨(hap x hx).1,fun e => ?_⟩⟩
 rcases B2.new x e with h | h
 ·exact (hap x hx).2 h
 ·have:=M1.at_.lt x hx
  omega
end
theorem ref_beside {K K1:Heap} {a m r:Nat} {nn:Int} {L:List Wr} {Q Q':List Pg} {O O':List Od} {W:V} {R:List Nat} (F:RefAt K r nn L W R) (ap:∀ x,Own a m Q O x → x ≠ r ∧ x ∉ R) (B:Bey K K1 a m Q Q' O O'):RefAt K1 r nn L W R ∧ ∀ x,Own a m Q' O' x → x ≠ r ∧ x ∉ R:=by
 refine ⟨F.keep (B.oth r F.lt fun h => (ap r h).1 rfl) fun o ho => B.oth o (F.row.lt o ho) fun h => (ap o h).2 ho,fun x hx => ?_⟩
 have hr:=F.lt
 rcases B.new x hx with h | h
 ·exact ap x h
 ·exact ⟨by omega,fun e => by have:=F.row.lt x e; omega⟩
theorem am16_wp {N n:Nat} {args:List V} {h:Heap} {C:V → Heap → Prop} (ha:args.length = 3) (H:sx ⟨pureOf am,callA am N n,N,h.length⟩ am16.body (fr am16.nt (argsF 0 args)) (h ++ deads am16.sites) (retQ am16.res C)):∃ v h',callA am N (n + 1) 16 args h = some (v,h') ∧ C v h' :=
 call_keep at16 rfl ha (by decide) (sx_wp H)
theorem self_od {O:List Od} (hk:(O.map Od.w).Nodup):∀ o ∈ O,o.l = ordOf O o.w:=fun o ho => by
 obtain ⟨i,hi⟩:=List.getElem?_of_mem ho
 unfold ordOf
 cases hf:O.find? (fun x => o.w == x.w) with
 | none =>
  rw [List.find?_eq_none] at hf
  exact absurd (hf o ho) (by simp)
 | some r =>
  have hr:=List.mem_of_find?_eq_some hf
  have hw:=List.find?_some hf
  obtain ⟨j,hj⟩:=List.getElem?_of_mem hr
  have:=same_od hk hi hj (by simpa using hw)
  subst this
  rw [hi] at hj
  cases hj
  rfl
theorem copy_md2 {N n:Nat} (hN:5000 ≤ N) (hn:8 ≤ n) {H:Heap} {a m:Nat} {nn:Int} {L:List Wr} {Q:List Pg} {O:List Od} (h:Md H a m nn L Q O) (hL:L.length ≤ 4096) :
  ∃ tl Q' O',callA am N n 10 [.ptr a 1 0] H = some (.ptr (H.length + 1) 1 0,H ++ tl) ∧ Md (H ++ tl) (H.length + 1) H.length nn L Q' O' ∧ (∀ x,Own (H.length + 1) H.length Q' O' x → H.length ≤ x) ∧ O'.length = O.length:=by
 obtain ⟨v',H',c,tl,Q',O',rfl,rfl,M,e1,rfl,own⟩:=@copy_spec N n hN (by omega) H a m nn Q O h.at_ h.n1 (fun q hq => by
  obtain ⟨p,hp⟩:=List.getElem?_of_mem hq
  have:=pgOf_len L p
  rw [h.ab.pg p q hp]; omega) (fun o ho => ⟨h.ab.ne o ho,by
  have hol:=plOf_len o.w L []
  rw [self_od h.at_.ks o ho,h.ab.od]; omega⟩)
 exact ⟨tl,Q',_,c,⟨M,h.ab.copy e1 _,h.n1,h.n16⟩,own,cpO_len _ _⟩
set_option maxHeartbeats 8000000 in
theorem do_spec {N n:Nat} (hN:5000 ≤ N) (hn:20 ≤ n) {H:Heap} {a m r:Nat} {nn:Int} {L:List Wr} {Q:List Pg} {O:List Od} {W:V} {R:List Nat} (P:Pair H a m r nn L Q O W R) (hL:L.length ≤ 3000) (x:Stp) (hB:x.b.length = 96) :
  ∃ v' H',callA am N n 16 [.ptr a 1 0,.ptr r 1 0,.agg x.cs] H = some (v',H') ∧ ∃ a' m' L' Q' O' W' R',v' = .tup [.ptr a' 1 0,.ptr r 1 0,.bool true] ∧ Pair H' a' m' r nn L' Q' O' W' R' ∧ L'.length ≤ L.length + 1:=by
 obtain ⟨n,rfl⟩:∃ m,n = m + 1:=⟨n - 1,by omega⟩
 have c9:=@num_spec N n (by omega)
 obtain ⟨K,eK⟩:∃ K,K = H ++ [⟨1,.var x.cs⟩,⟨0,.dead⟩]:=⟨_,rfl⟩
 have eK':=eK.symm
 have PK:Pair K a m r nn L Q O W R:=by rw [eK]; exact P.app _
 have kl:K.length = H.length + 2:=by rw [eK]; simp
 have k0:K[H.length]? = some ⟨1,.var x.cs⟩:=by rw [eK,app_get0]; rfl
 have k1:K[H.length + 1]? = some ⟨0,.dead⟩:=by rw [eK,app_get]; rfl
 have nown:∀ j,¬ Own a m Q O (H.length + j):=fun j e => by have:=P.M.at_.lt _ e; omega
 have nR:∀ j,H.length + j ≠ r ∧ H.length + j ∉ R:=fun j => ⟨by have:=P.F.lt; omega,fun e => by have:=P.F.row.lt _ e; omega⟩
 have hcl:x.cs.length = 101:=by simp [Stp.cs,hB]
 have ld:∀ J:Heap,J[H.length]? = some ⟨1,.var x.cs⟩ → loadA (fun o => J[o]?) 1 (.ptr H.length 1 0) = some [.int .i64 x.kind] ∧ loadA (fun o => J[o]?) 1 (.ptr H.length 1 1) = some [.int .i64 x.pg] ∧ loadA (fun o => J[o]?) 1 (.ptr H.length 1 2) = some [.int .i64 x.n] ∧ loadA (fun o => J[o]?) 2 (.ptr H.length 1 3) = some [.int .i64 x.nd,.int .i64 x.ep] ∧ loadA (fun o => J[o]?) 96 (.ptr H.length 1 5) = some (x.b.map (V.int .u8)):=fun J hJ => by
  refine ⟨?_,?_,?_,?_,?_⟩
  ·simp [loadA,cellsAt,hJ,Stp.cs]
  ·simp [loadA,cellsAt,hJ,Stp.cs]
  ·simp [loadA,cellsAt,hJ,Stp.cs]
  ·simp [loadA,cellsAt,hJ,Stp.cs]
  ·simp [loadA,cellsAt,hJ,Stp.cs,hB,List.take_of_length_le]
 obtain ⟨q0,q1,q2,q3,q5⟩:=ld K k0
 have hcells:(V.agg x.cs).cells = x.cs:=rfl
 have hLw:=P.M.ab.ok
 have n1:=P.M.n1
 cases t1:(x.kind == 1) with
 | true =>
  obtain ⟨K1,Q1,O1,c11,M1,B1⟩:=@write_md N n hN (by omega) _ _ _ _ _ _ _ PK.M (by omega) (x.nd,x.ep) x.pg x.b hB
  have s1:K1[H.length]? = some ⟨1,.var x.cs⟩:=by rw [B1.oth _ (by omega) (by have:=nown 0; rwa [Nat.add_zero] at this)]; exact k0
  obtain ⟨p0,p1,p2,p3,p5⟩:=ld K1 s1
  obtain ⟨v',K2,c31,rfl,W2,R2,F2,B2⟩:=@write_ref N n hN (by omega) K1 r nn L W R (PK.ref1 B1) hLw (by omega) (x.nd,x.ep) x.pg x.b hB
  have hl:=opW_len nn L (x.nd,x.ep) x.pg x.b
  have Pf:=PK.step M1 B1 F2 B2
  unfold pcs at c11 c31
  simp only at c11 c31
  generalize hB':x.b.map (V.int .u8) = BV at *
  generalize x.cs = X at *
  refine am16_wp rfl ?_
  simp +contextual -implicitDefEqProofs (maxSteps:=10000000) only [sxb,↓sxd,plainD,stays,↓prim_pick,doOp,get,ins,del,dels,Nat.reduceLT,Nat.reduceEqDiff,↓reduceIte,reduceCtorEq,ne_eq,implies_true,prim,YLD,mkA,V.cells,Nat.reduceAdd,Nat.reduceSub,Nat.reduceMul,Nat.reduceLeDiff,loadA,cellsAt,nAg,packA,List.drop,List.take,List.head?,binA,unA,eqCells,eqCell,negB,fillA,storeA,Ob.with,indexedI,V.oneCell,intOf?,resA,resA1,packR,sealDepth,Int.reduceLT,Int.reduceLE,Int.reduceToNat,Int.reduceNeg,Int.reduceAdd,Int.reduceSub,Int.reduceMul,cond_true,cond_false,Int.reduceBNe,Int.reduceBEq,eq_self,deads,List.replicate,argsF,am16,app_get0,app_get,app_set0,app_set,eK',q0,q1,q2,q3,q5,t1,c11,p1,p2,p3,p5,c31,c9,pm9,beq_self_eq_true,-loadA]
  exact ⟨_,_,_,_,_,_,_,rfl,Pf,hl⟩
 | false =>
 cases t2:(x.kind == 2) with
 | true =>
  obtain ⟨K1,Q1,O1,c12,M1,B1⟩:=@durable_md N n hN (by omega) _ _ _ _ _ _ _ PK.M (by omega) (x.nd,x.ep) x.n
  have s1:K1[H.length]? = some ⟨1,.var x.cs⟩:=by rw [B1.oth _ (by omega) (by have:=nown 0; rwa [Nat.add_zero] at this)]; exact k0
  obtain ⟨p0,p1,p2,p3,p5⟩:=ld K1 s1
  obtain ⟨v',K2,c32,rfl,F2,B2⟩:=@durable_ref N n hN (by omega) K1 r nn L W R (PK.ref1 B1) hLw n1 (by omega) (x.nd,x.ep) x.n
  have hl:=opD_len nn L (x.nd,x.ep) x.n
  have Pf:=PK.step M1 B1 F2 B2
  unfold pcs at c12 c32
  simp only at c12 c32
  generalize x.cs = X at *
  refine am16_wp rfl ?_
  simp +contextual -implicitDefEqProofs (maxSteps:=10000000) only [sxb,↓sxd,plainD,stays,↓prim_pick,doOp,get,ins,del,dels,Nat.reduceLT,Nat.reduceEqDiff,↓reduceIte,reduceCtorEq,ne_eq,implies_true,prim,YLD,mkA,V.cells,Nat.reduceAdd,Nat.reduceSub,Nat.reduceMul,Nat.reduceLeDiff,loadA,cellsAt,nAg,packA,List.drop,List.take,List.head?,binA,unA,eqCells,eqCell,negB,fillA,storeA,Ob.with,indexedI,V.oneCell,intOf?,resA,resA1,packR,sealDepth,Int.reduceLT,Int.reduceLE,Int.reduceToNat,Int.reduceNeg,Int.reduceAdd,Int.reduceSub,Int.reduceMul,cond_true,cond_false,Int.reduceBNe,Int.reduceBEq,eq_self,deads,List.replicate,argsF,am16,app_get0,app_get,app_set0,app_set,eK',q0,q1,q2,q3,t1,t2,c12,p1,p2,p3,c32,c9,pm9,beq_self_eq_true,-loadA]
  exact ⟨_,_,_,_,_,_,_,rfl,Pf,by omega⟩
 | false =>
 cases t3:(x.kind == 3) with
 | true =>
  obtain ⟨K1,Q1,O1,c13,M1,B1⟩:=@lose_md N n hN (by omega) _ _ _ _ _ _ _ PK.M (by omega) (x.nd,x.ep) x.n
  have s1:K1[H.length]? = some ⟨1,.var x.cs⟩:=by rw [B1.oth _ (by omega) (by have:=nown 0; rwa [Nat.add_zero] at this)]; exact k0
  obtain ⟨p0,p1,p2,p3,p5⟩:=ld K1 s1
  obtain ⟨v',K2,c33,rfl,W2,R2,F2,B2⟩:=@lose_ref N n hN (by omega) K1 r nn L W R (PK.ref1 B1) hLw n1 (by omega) (x.nd,x.ep) x.n
  have hl:=opL_len nn L (x.nd,x.ep) x.n
  have Pf:=PK.step M1 B1 F2 B2
  unfold pcs at c13 c33
  simp only at c13 c33
  generalize x.cs = X at *
  refine am16_wp rfl ?_
  simp +contextual -implicitDefEqProofs (maxSteps:=10000000) only [sxb,↓sxd,plainD,stays,↓prim_pick,doOp,get,ins,del,dels,Nat.reduceLT,Nat.reduceEqDiff,↓reduceIte,reduceCtorEq,ne_eq,implies_true,prim,YLD,mkA,V.cells,Nat.reduceAdd,Nat.reduceSub,Nat.reduceMul,Nat.reduceLeDiff,loadA,cellsAt,nAg,packA,List.drop,List.take,List.head?,binA,unA,eqCells,eqCell,negB,fillA,storeA,Ob.with,indexedI,V.oneCell,intOf?,resA,resA1,packR,sealDepth,Int.reduceLT,Int.reduceLE,Int.reduceToNat,Int.reduceNeg,Int.reduceAdd,Int.reduceSub,Int.reduceMul,cond_true,cond_false,Int.reduceBNe,Int.reduceBEq,eq_self,deads,List.replicate,argsF,am16,app_get0,app_get,app_set0,app_set,eK',q0,q1,q2,q3,t1,t2,t3,c13,p1,p2,p3,c33,c9,pm9,beq_self_eq_true,-loadA]
  exact ⟨_,_,_,_,_,_,_,rfl,Pf,by omega⟩
 | false =>
 cases t4:(x.kind == 4) with
 | true =>
  obtain ⟨tl,Qc,Oc,c10,Mc,ownc,hlen⟩:=@copy_md2 N n hN (by omega) _ _ _ _ _ _ _ PK.M (by omega)
  have hml:=P.M.at_.ltm
  have hal:=P.M.at_.lta
  have hrl:=P.F.lt
  obtain ⟨v',H',c17,rfl,tl2,rfl⟩:=@same_md N n hN (by omega) (K ++ tl) (K.length + 1) K.length a m nn L L Qc Q Oc O Mc (PK.app tl).M (fun _ => rfl) (by omega) hlen (by omega) true (.inl ⟨rfl,fun o ho => by
   rw [self_od Mc.at_.ks o ho,Mc.ab.od,P.M.ab.od]⟩) (fun o ho => by
   have hol:=plOf_len o.w L []
   rw [self_od Mc.at_.ks o ho,Mc.ab.od]; omega)
  obtain ⟨K2,eK2⟩:∃ K2,K2 = K ++ tl ++ tl2:=⟨_,rfl⟩
  rw [← eK2] at c17
  have P2:Pair K2 a m r nn L Q O W R:=by rw [eK2]; exact (PK.app tl).app tl2
  have Mc2:Md K2 (K.length + 1) K.length nn L Qc Oc:=by rw [eK2]; exact Mc.app tl2
  have k2l:K.length ≤ K2.length:=by rw [eK2]; simp
  have k20:K2[H.length]? = some ⟨1,.var x.cs⟩:=by rw [eK2,List.append_assoc,List.getElem?_append_left (by omega)]; exact k0
  have k21:K2[H.length + 1]? = some ⟨0,.dead⟩:=by rw [eK2,List.append_assoc,List.getElem?_append_left (by omega)]; exact k1
  obtain ⟨K3,eK3⟩:∃ K3,K3 = K2.set (H.length + 1) ⟨1,.var [.int .i64 7,.int .i64 77]⟩:=⟨_,rfl⟩
  have eK3':=eK3.symm
  have M3:Md K3 a m nn L Q O:=by rw [eK3]; exact P2.M.set _ (nown 1)
  have Mc3:Md K3 (K.length + 1) K.length nn L Qc Oc:=by rw [eK3]; exact Mc2.set _ fun e => by have:=ownc _ e; omega
  have F3:RefAt K3 r nn L W R:=by
   rw [eK3]
   exact P2.F.keep (List.getElem?_set_ne (nR 1).1) fun o ho => List.getElem?_set_ne fun e:H.length + 1 = o => (nR 1).2 (e ▸ ho)
  have k30:K3[H.length]? = some ⟨1,.var x.cs⟩:=by rw [eK3,List.getElem?_set_ne (by omega)]; exact k20
  have k31:K3[H.length + 1]? = some ⟨1,.var [.int .i64 7,.int .i64 77]⟩:=by rw [eK3,List.getElem?_set_self (by omega)]
  have A3:Apart a m Q O (K.length + 1) K.length Qc Oc:=fun y hy hy2 => by
   have:=P.M.at_.lt y hy
   have:=ownc y hy2
   omega
  have k3l:K3.length = K2.length:=by rw [eK3]; simp
  -- the old one goes its own way
  obtain ⟨K4,Q4,O4,c11,M4,B4⟩:=@write_md N n hN (by omega) _ _ _ _ _ _ _ M3 (by omega) (7,77) 0 (B:=bdL 9) rfl
  have hl4:=opW_len nn L (7,77) 0 (bdL 9)
  obtain ⟨F4,ap4⟩:=ref_beside F3 P.ap B4
  obtain ⟨Mc4,A4⟩:=Mc3.beside B4 A3
  have nown3:∀ j,¬ Own a m Q O (H.length + j):=nown
  have k40:K4[H.length]? = some ⟨1,.var x.cs⟩:=by rw [B4.oth _ (by omega) (by have:=nown 0; rwa [Nat.add_zero] at this)]; exact k30
  have k41:K4[H.length + 1]? = some ⟨1,.var [.int .i64 7,.int .i64 77]⟩:=by rw [B4.oth _ (by omega) (nown 1)]; exact k31
  have nown4:∀ j,j < 2 → ¬ Own a m Q4 O4 (H.length + j):=fun j hj e => by
   rcases B4.new _ e with h | h
   ·exact nown j h
   ·omega
  obtain ⟨K5,Q5,O5,c12,M5,B5⟩:=@durable_md N n hN (by omega) _ _ _ _ _ _ _ M4 (by omega) (x.nd,x.ep) 1
  have hl5:=opD_len nn (opW nn L (7,77) 0 (bdL 9)).2 (x.nd,x.ep) 1
  obtain ⟨F5,ap5⟩:=ref_beside F4 ap4 B5
  obtain ⟨Mc5,A5⟩:=Mc4.beside B5 A4
  have k4l:=B4.len
  have k51:K5[H.length + 1]? = some ⟨1,.var [.int .i64 7,.int .i64 77]⟩:=by rw [B5.oth _ (by omega) (nown4 1 (by omega))]; exact k41
  obtain ⟨K6,Q6,O6,c13,M6,B6⟩:=@lose_md N n hN (by omega) _ _ _ _ _ _ _ M5 (by omega) (7,77) 1
  obtain ⟨F6,ap6⟩:=ref_beside F5 ap5 B6
  obtain ⟨Mc6,A6⟩:=Mc5.beside B6 A5
  have Pf:Pair K6 (K.length + 1) K.length r nn L Qc Oc W R:=⟨Mc6,F6,fun y hy => by
   have:=ownc y hy
   exact ⟨by omega,fun e => by have:=P.F.row.lt y e; omega⟩⟩
  obtain ⟨p0,p1,p2,p3,p5⟩:=ld K4 k40
  have w3:loadA (fun o => K3[o]?) 2 (.ptr (H.length + 1) 1 0) = some [.int .i64 7,.int .i64 77]:=by simp [loadA,cellsAt,k31]
  have w5:loadA (fun o => K5[o]?) 2 (.ptr (H.length + 1) 1 0) = some [.int .i64 7,.int .i64 77]:=by simp [loadA,cellsAt,k51]
  have c20:=@body_spec N n (by omega)
  have b9:(bdL 9).map (V.int .u8) = .int .u8 9 :: [.int .u8 0,.int .u8 0,.int .u8 0,.int .u8 0,.int .u8 0,.int .u8 0,.int .u8 0,.int .u8 0,.int .u8 0,.int .u8 0,.int .u8 0,.int .u8 0,.int .u8 0,.int .u8 0,.int .u8 0,.int .u8 0,.int .u8 0,.int .u8 0,.int .u8 0,.int .u8 0,.int .u8 0,.int .u8 0,.int .u8 0,.int .u8 0,.int .u8 0,.int .u8 0,.int .u8 0,.int .u8 0,.int .u8 0,.int .u8 0,.int .u8 0,.int .u8 0,.int .u8 0,.int .u8 0,.int .u8 0,.int .u8 0,.int .u8 0,.int .u8 0,.int .u8 0,.int .u8 0,.int .u8 0,.int .u8 0,.int .u8 0,.int .u8 0,.int .u8 0,.int .u8 0,.int .u8 0,.int .u8 0,.int .u8 0,.int .u8 0,.int .u8 0,.int .u8 0,.int .u8 0,.int .u8 0,.int .u8 0,.int .u8 0,.int .u8 0,.int .u8 0,.int .u8 0,.int .u8 0,.int .u8 0,.int .u8 0,.int .u8 0,.int .u8 0,.int .u8 0,.int .u8 0,.int .u8 0,.int .u8 0,.int .u8 0,.int .u8 0,.int .u8 0,.int .u8 0,.int .u8 0,.int .u8 0,.int .u8 0,.int .u8 0,.int .u8 0,.int .u8 0,.int .u8 0,.int .u8 0,.int .u8 0,.int .u8 0,.int .u8 0,.int .u8 0,.int .u8 0,.int .u8 0,.int .u8 0,.int .u8 0,.int .u8 0,.int .u8 0,.int .u8 0,.int .u8 0,.int .u8 0,.int .u8 0,.int .u8 0]:=rfl
  simp only [b9] at c11
  unfold pcs at c11 c12 c13
  simp only at c11 c12 c13
  have l21:H.length + 1 < K2.length:=by omega
  have sg:∀ z,(K2.set (H.length + 1) z)[H.length + 1]? = some z:=fun z => List.getElem?_set_self l21
  generalize x.cs = X at *
  refine am16_wp rfl ?_
  simp +contextual -implicitDefEqProofs (maxSteps:=10000000) only [sxb,↓sxd,plainD,stays,↓prim_pick,doOp,get,ins,del,dels,Nat.reduceLT,Nat.reduceEqDiff,↓reduceIte,reduceCtorEq,ne_eq,implies_true,prim,YLD,mkA,V.cells,Nat.reduceAdd,Nat.reduceSub,Nat.reduceMul,Nat.reduceLeDiff,loadA,cellsAt,nAg,packA,List.drop,List.take,List.head?,binA,unA,eqCells,eqCell,negB,fillA,storeA,Ob.with,indexedI,V.oneCell,intOf?,resA,resA1,packR,sealDepth,Int.reduceLT,Int.reduceLE,Int.reduceToNat,Int.reduceNeg,Int.reduceAdd,Int.reduceSub,Int.reduceMul,cond_true,cond_false,Int.reduceBNe,Int.reduceBEq,eq_self,deads,List.replicate,argsF,am16,app_get0,app_get,app_set0,app_set,eK',q0,t1,t2,t3,t4,c10,isNil,c17,pm17,k21,sg,l21,List.length_set,List.set_set,eK3',w3,c20,pm20,c11,p3,c12,w5,c13,-loadA]
  exact ⟨_,_,_,_,_,_,_,rfl,Pf,by omega⟩
 | false =>
  generalize x.cs = X at *
  refine am16_wp rfl ?_
  simp +contextual -implicitDefEqProofs (maxSteps:=10000000) only [sxb,↓sxd,plainD,stays,↓prim_pick,doOp,get,ins,del,dels,Nat.reduceLT,Nat.reduceEqDiff,↓reduceIte,reduceCtorEq,ne_eq,implies_true,prim,YLD,mkA,V.cells,Nat.reduceAdd,Nat.reduceSub,Nat.reduceMul,Nat.reduceLeDiff,loadA,cellsAt,nAg,packA,List.drop,List.take,List.head?,binA,unA,eqCells,eqCell,negB,fillA,storeA,Ob.with,indexedI,V.oneCell,intOf?,resA,resA1,packR,sealDepth,Int.reduceLT,Int.reduceLE,Int.reduceToNat,Int.reduceNeg,Int.reduceAdd,Int.reduceSub,Int.reduceMul,cond_true,cond_false,Int.reduceBNe,Int.reduceBEq,eq_self,deads,List.replicate,argsF,am16,app_get0,app_get,app_set0,app_set,eK',q0,t1,t2,t3,t4,-loadA]
  exact ⟨_,_,_,_,_,_,_,rfl,PK,by omega⟩
end Go.Am.T


set_option linter.unusedVariables false
set_option linter.unusedSimpArgs false
set_option linter.unusedSectionVars false
set_option maxRecDepth 10000
namespace Go.Am.T
attribute [local congr] selV_congr impB_congr
theorem newref_bad {N n:Nat} (hn:1 ≤ n) {nn:Int} (h:nn < 1 ∨ nn > 16) (H:Heap):∃ tl,callA am N n 15 [.int .i64 nn] H = some (.nilp,H ++ tl):=by
 obtain ⟨n,rfl⟩:∃ m,n = m + 1:=⟨n - 1,by omega⟩
 refine ⟨[⟨0,.dead⟩],call_keep_eq at15 rfl rfl (by decide) (sx_wp ?_)⟩
 by_cases h1:nn < 1
 ·have g1:decide (nn < 1) = true:=decide_eq_true h1
  simp +contextual -implicitDefEqProofs (maxSteps:=10000000) only [sxb,↓sxd,plainD,stays,↓prim_pick,doOp,get,ins,del,dels,Nat.reduceLT,Nat.reduceEqDiff,↓reduceIte,reduceCtorEq,ne_eq,implies_true,prim,YLD,mkA,V.cells,Nat.reduceAdd,Nat.reduceSub,Nat.reduceMul,Nat.reduceLeDiff,loadA,cellsAt,nAg,packA,List.drop,List.take,List.head?,binA,unA,eqCells,eqCell,negB,fillA,storeA,Ob.with,indexedI,V.oneCell,intOf?,resA,resA1,packR,sealDepth,Int.reduceLT,Int.reduceLE,Int.reduceToNat,Int.reduceNeg,Int.reduceAdd,Int.reduceSub,Int.reduceMul,cond_true,cond_false,Int.reduceBNe,Int.reduceBEq,eq_self,deads,List.replicate,argsF,am15,g1]
 ·have g1:decide (nn < 1) = false:=decide_eq_false h1
  have g2:decide (nn > 16) = true:=decide_eq_true (by omega)
  simp +contextual -implicitDefEqProofs (maxSteps:=10000000) only [sxb,↓sxd,plainD,stays,↓prim_pick,doOp,get,ins,del,dels,Nat.reduceLT,Nat.reduceEqDiff,↓reduceIte,reduceCtorEq,ne_eq,implies_true,prim,YLD,mkA,V.cells,Nat.reduceAdd,Nat.reduceSub,Nat.reduceMul,Nat.reduceLeDiff,loadA,cellsAt,nAg,packA,List.drop,List.take,List.head?,binA,unA,eqCells,eqCell,negB,fillA,storeA,Ob.with,indexedI,V.oneCell,intOf?,resA,resA1,packR,sealDepth,Int.reduceLT,Int.reduceLE,Int.reduceToNat,Int.reduceNeg,Int.reduceAdd,Int.reduceSub,Int.reduceMul,cond_true,cond_false,Int.reduceBNe,Int.reduceBEq,eq_self,deads,List.replicate,argsF,am15,g1,g2]
theorem newref_ok {N n:Nat} (hn:1 ≤ n) {nn:Int} (h1:1 ≤ nn) (h2:nn ≤ 16) (H:Heap):callA am N n 15 [.int .i64 nn] H = some (.ptr H.length 1 0,H ++ [⟨1,.var [.int .i64 nn,.nils]⟩]):=by
 obtain ⟨n,rfl⟩:∃ m,n = m + 1:=⟨n - 1,by omega⟩
 have g1:decide (nn < 1) = false:=decide_eq_false (by omega)
 have g2:decide (nn > 16) = false:=decide_eq_false (by omega)
 refine call_keep_eq at15 rfl rfl (by decide) (sx_wp ?_)
 simp +contextual -implicitDefEqProofs (maxSteps:=10000000) only [sxb,↓sxd,plainD,stays,↓prim_pick,doOp,get,ins,del,dels,Nat.reduceLT,Nat.reduceEqDiff,↓reduceIte,reduceCtorEq,ne_eq,implies_true,prim,YLD,mkA,V.cells,Nat.reduceAdd,Nat.reduceSub,Nat.reduceMul,Nat.reduceLeDiff,loadA,cellsAt,nAg,packA,List.drop,List.take,List.head?,binA,unA,eqCells,eqCell,negB,fillA,storeA,Ob.with,indexedI,V.oneCell,intOf?,resA,resA1,packR,sealDepth,Int.reduceLT,Int.reduceLE,Int.reduceToNat,Int.reduceNeg,Int.reduceAdd,Int.reduceSub,Int.reduceMul,cond_true,cond_false,Int.reduceBNe,Int.reduceBEq,eq_self,deads,List.replicate,argsF,am15,g1,g2,app_get0,app_get,app_set0,app_set]
theorem am5_wp {N n:Nat} {args:List V} {h:Heap} {v:V} (ha:args.length = 3) (hfree:V.freeL args = true)
  (H:sx ⟨pureOf am,callA am N n,N,0⟩ am5.body (fr am5.nt (argsF 0 args)) (deads am5.sites) (retQ am5.res fun x h' => V.shut (fun o => h'[o]?) sealDepth x = some v)):callA am N (n + 1) 5 args h = some (v,h) :=
 call_auto at5 rfl ha (by decide) hfree (sx_wp H)
set_option maxHeartbeats 4000000 in
theorem steps_spec {N n:Nat} (hN:5000 ≤ N) (hn:25 ≤ n) (nn:Int) (u:V) (M:List Stp) (hM:IsL u 101 (M.map Stp.cs)) (hB:∀ x ∈ M,x.b.length = 96) (lv:Int) (h:Heap):callA am N n 5 [.int .i64 nn,u,.int .i64 lv] h = some (.bool true,h):=by
 obtain ⟨n,rfl⟩:∃ m,n = m + 1:=⟨n - 1,by omega⟩
 have c7:=@known_spec N n (by omega) (by omega)
 have c9:=@num_spec N n (by omega)
 have la:=hM.len
 rw [List.length_map] at la
 have ln:=hM.nstr
 have hfree:V.freeL [V.int .i64 nn,u,.int .i64 lv] = true:=by simp only [freeL_cons,freeL_nil,free_int,hM.free,Bool.and_self]
 by_cases hbad:nn < 1 ∨ nn > 16
 ·obtain ⟨t1,c8⟩:=@new_bad N n (by omega) nn hbad []
  obtain ⟨t2,c15⟩:=@newref_bad N n (by omega) nn hbad ([] ++ t1)
  rw [List.nil_append] at c8 c15
  refine am5_wp rfl hfree ?_
  simp +contextual -implicitDefEqProofs (maxSteps:=10000000) only [sxb,↓sxd,plainD,stays,↓prim_pick,doOp,get,ins,del,dels,Nat.reduceLT,Nat.reduceEqDiff,↓reduceIte,reduceCtorEq,ne_eq,implies_true,prim,YLD,mkA,V.cells,Nat.reduceAdd,Nat.reduceSub,Nat.reduceMul,Nat.reduceLeDiff,loadA,cellsAt,nAg,packA,List.drop,List.take,List.head?,binA,unA,eqCells,eqCell,negB,fillA,storeA,Ob.with,indexedI,V.oneCell,intOf?,resA,resA1,packR,sealDepth,Int.reduceLT,Int.reduceLE,Int.reduceToNat,Int.reduceNeg,Int.reduceAdd,Int.reduceSub,Int.reduceMul,cond_true,cond_false,Int.reduceBNe,Int.reduceBEq,eq_self,deads,List.replicate,argsF,am5,c8,c15,isNil,c9,pm9,c7,pm7,beq_self_eq_true]
 ·have n1:1 ≤ nn:=by omega
  have n16:nn ≤ 16:=by omega
  obtain ⟨t1,c8,M0,own0⟩:=@new_md N n (by omega) nn n1 n16 []
  have c15:=@newref_ok N n (by omega) nn n1 n16 ([] ++ t1)
  rw [List.nil_append] at c8 c15 M0
  simp only [List.length_nil,Nat.zero_add] at c8 M0 own0
  have P0:Pair (t1 ++ [⟨1,.var [.int .i64 nn,.nils]⟩]) 1 0 t1.length nn [] noQ [] .nils []:=by
   refine ⟨M0.app _,⟨by rw [app_get0]; rfl,⟨by simp,.inl ⟨rfl,.inl rfl,rfl⟩⟩,by simp⟩,fun x hx => ⟨?_,by simp⟩⟩
   have:=M0.at_.lt x hx
   omega
  have g0:((0:Int) != 0) = false:=rfl
  refine am5_wp rfl hfree ?_
  simp +contextual -implicitDefEqProofs (maxSteps:=10000000) only [sxb,↓sxd,plainD,stays,↓prim_pick,doOp,get,ins,del,dels,Nat.reduceLT,Nat.reduceEqDiff,↓reduceIte,reduceCtorEq,ne_eq,implies_true,prim,YLD,mkA,V.cells,Nat.reduceAdd,Nat.reduceSub,Nat.reduceMul,Nat.reduceLeDiff,loadA,cellsAt,nAg,packA,List.drop,List.take,List.head?,binA,unA,eqCells,eqCell,negB,fillA,storeA,Ob.with,indexedI,V.oneCell,intOf?,resA,resA1,packR,sealDepth,Int.reduceLT,Int.reduceLE,Int.reduceToNat,Int.reduceNeg,Int.reduceAdd,Int.reduceSub,Int.reduceMul,cond_true,cond_false,Int.reduceBNe,Int.reduceBEq,eq_self,deads,List.replicate,argsF,am5,c8,c15,isNil,c9,pm9,g0]
  refine sx_loop (fun i t H => ∃ a m r L Q O W R,t = fr 70 [(1,u),(2,.int .i64 lv),(7,.ptr a 1 0),(9,.ptr r 1 0),(10,.int .i64 (i:Nat))] ∧ i ≤ M.length ∧ i ≤ 80 ∧ Pair H a m r nn L Q O W R ∧ L.length ≤ i) 80 (by show 80 < N; omega) ⟨1,0,t1.length,[],noQ,[],.nils,[],rfl,Nat.zero_le _,Nat.zero_le _,P0,Nat.le_refl _⟩ ?_
  rintro i t H hi ⟨a,m,r,L,Q,O,W,R,rfl,hi1,hi2,P,hL⟩
  have w4:IntKind.i64.wrap ((i:Int) + 1) = ((i + 1:Nat):Int):=(wrap64 (by omega) (by omega)).trans (by omega)
  by_cases hgo:i < M.length ∧ i < 80
  case neg =>
   have hg:(decide ((i:Int) < (M.length:Int)) && decide ((i:Int) < 80)) = false:=by
    rw [Bool.and_eq_false_iff,decide_eq_false_iff_not,decide_eq_false_iff_not]
    omega
   simp +contextual -implicitDefEqProofs (maxSteps:=10000000) only [sxb,↓sxd,plainD,stays,↓prim_pick,doOp,get,ins,del,dels,Nat.reduceLT,Nat.reduceEqDiff,↓reduceIte,reduceCtorEq,ne_eq,implies_true,prim,YLD,mkA,V.cells,Nat.reduceAdd,Nat.reduceSub,Nat.reduceMul,Nat.reduceLeDiff,loadA,cellsAt,nAg,packA,List.drop,List.take,List.head?,binA,unA,eqCells,eqCell,negB,fillA,storeA,Ob.with,indexedI,V.oneCell,intOf?,resA,resA1,packR,sealDepth,Int.reduceLT,Int.reduceLE,Int.reduceToNat,Int.reduceNeg,Int.reduceAdd,Int.reduceSub,Int.reduceMul,cond_true,cond_false,Int.reduceBNe,Int.reduceBEq,eq_self,deads,List.replicate,argsF,la,hg,c7,pm7]
  obtain ⟨h1,h2⟩:=hgo
  have g1:decide ((i:Int) < (M.length:Int)) = true:=decide_eq_true (by omega)
  have g2:decide ((i:Int) < 80) = true:=decide_eq_true (by omega)
  have hk:M[i]? = some M[i]:=List.getElem?_eq_getElem h1
  have hxb:=hB M[i] (List.getElem_mem h1)
  generalize M[i] = x at hk hxb
  have hat:=hM.at_ i
  rw [List.getElem?_map,hk] at hat
  simp only [Option.map_some] at hat
  have hcl:x.cs.length = 101:=by simp [Stp.cs,hxb]
  have sall:∀ g,loadA g 101 (.iptr x.cs 0) = some x.cs:=fun g => by simp [loadA,hcl,List.take_of_length_le]
  obtain ⟨v',H1,c16,a',m',L',Q',O',W',R',rfl,P1,hL1⟩:=@do_spec N n hN (by omega) _ _ _ _ _ _ _ _ _ _ P (by omega) x hxb
  obtain ⟨v',H2,c19,rfl,tl,rfl⟩:=@stands_spec N n hN (by omega) _ _ _ _ _ _ _ _ _ _ P1 (by omega) u M hM hB lv
  simp +contextual -implicitDefEqProofs (maxSteps:=10000000) only [sxb,↓sxd,plainD,stays,↓prim_pick,doOp,get,ins,del,dels,Nat.reduceLT,Nat.reduceEqDiff,↓reduceIte,reduceCtorEq,ne_eq,implies_true,prim,YLD,mkA,V.cells,Nat.reduceAdd,Nat.reduceSub,Nat.reduceMul,Nat.reduceLeDiff,loadA,cellsAt,nAg,packA,List.drop,List.take,List.head?,binA,unA,eqCells,eqCell,negB,fillA,storeA,Ob.with,indexedI,V.oneCell,intOf?,resA,resA1,packR,sealDepth,Int.reduceLT,Int.reduceLE,Int.reduceToNat,Int.reduceNeg,Int.reduceAdd,Int.reduceSub,Int.reduceMul,cond_true,cond_false,Int.reduceBNe,Int.reduceBEq,eq_self,deads,List.replicate,argsF,la,g1,g2,hat,sall,c16,c19,pm19,w4,-loadA]
  exact ⟨h2,a',m',r,L',Q',O',W',R',rfl,by omega,by omega,P1.app tl,by omega⟩
def stSh:Sh:=.pair (.int .i64) (.pair (.int .i64) (.pair (.int .i64) (.pair (.pair (.int .i64) (.pair (.int .i64) .unit)) (.pair (.arr 96 (.int .u8)) .unit))))
theorem st_in {u:List V} (h:InSh stSh u):∃ r:Stp,u = r.cs ∧ r.b.length = 96:=by
 obtain ⟨u1,v1,rfl,h1,u2,v2,rfl,h2,u3,v3,rfl,h3,u4,v4,rfl,⟨u5,v5,rfl,h5,u6,v6,rfl,h6,rfl⟩,u7,v7,rfl,h7,rfl⟩:=h
 obtain ⟨a,rfl,ha⟩:=in_i64 h1
 obtain ⟨b,rfl,hb⟩:=in_i64 h2
 obtain ⟨c,rfl,hc⟩:=in_i64 h3
 obtain ⟨d,rfl,hd⟩:=in_i64 h5
 obtain ⟨e,rfl,he⟩:=in_i64 h6
 obtain ⟨l,rfl,hl,hby⟩:=in_bytes h7
 exact ⟨⟨a,b,c,d,e,l⟩,by simp [Stp.cs],hl⟩
theorem runsModelSteps {u0 u1 u2:V} (h0:InP false (.int .i64) u0) (h1:InP false (.sl true 101 stSh) u1) (h2:InP false (.int .i64) u2):∃ N n,callA am N n 5 [u0,u1,u2] [] = some (.bool true,[]):=by
 obtain ⟨a,ha,-⟩:=in_i64 h0
 cases ha
 obtain ⟨b,hb,-⟩:=in_i64 h2
 cases hb
 obtain ⟨A,hl,hA⟩:=slice_in (f:=Stp.cs) (fun u hu => st_in hu) h1
 exact ⟨6000,40,steps_spec (by omega) (by omega) a u1 A hl (fun r hr => hA r hr) b []⟩
end Go.Am.T

