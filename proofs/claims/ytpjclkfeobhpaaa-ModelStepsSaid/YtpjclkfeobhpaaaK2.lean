import Derived.Test.YtpjclkfeobhpaaaK1
import Derived.Scope
set_option linter.unusedVariables false
set_option linter.unusedSimpArgs false
namespace Go.Am
variable {P:Program}
def pairsOf (pureF:FuncId → FMode) (ops:Array Oper) (as:List AOper):List (AOper × List Nat) :=
 as.zipIdx.map fun (a,m) => (a,(List.range m).filter fun q =>
  match as[q]? with
  | some aq => !edge ops m q && !statOk pureF aq a
  | _ => true)
def cutRegion (P:Program) (pureF:FuncId → FMode) (al:List Nat) (ops:Array Oper):Option (List AOper) :=
 match tail5 P al ops (ops.toList.drop (ops.size - 5)),trOps P al ops (ops.toList.take (ops.size - 5)) with
 | some bs,some as0 =>
  if (cutOk ops (ops.size - 5) && drawOk pureF ops (pairsOf pureF ops (as0 ++ List.replicate 5 nopA)) && noPairs (pairsOf pureF ops (as0 ++ List.replicate 5 nopA))) = true then some (as0 ++ bs) else none
 | _,_ => none
theorem runOps_app {call:Caller} {fb:Nat}:∀ {as bs:List AOper} {t:List V} {h:Heap} {r:List V × Heap},runOps call fb (as ++ bs) t h = some r → ∃ t1 h1,runOps call fb as t h = some (t1,h1) ∧ runOps call fb bs t1 h1 = some r
 | [],bs,t,h,r,hr => ⟨t,h,rfl,hr⟩
 | a :: as,bs,t,h,r,hr => by
  obtain ⟨t1,h1,hs,hr⟩:=runOps_cons hr
  obtain ⟨t2,h2,p1,p2⟩:=runOps_app hr
  exact ⟨t2,h2,by simp only [runOps,hs,p1],p2⟩
theorem runOps_nops {call:Caller} {fb:Nat}:∀ {as:List AOper} {t:List V} {h:Heap} {t1:List V} {h1:Heap},runOps call fb as t h = some (t1,h1) → runOps call fb (as ++ List.replicate 5 nopA) t h = some (t1,h1)
 | [],t,h,t1,h1,hr => by cases hr; rfl
 | a :: as,t,h,t1,h1,hr => by
  obtain ⟨t2,h2,hs,hr⟩:=runOps_cons hr
  simp only [List.cons_append,runOps,hs]
  exact runOps_nops hr
def trRegion (P:Program) (pureF:FuncId → FMode) (al:List Nat) (ops:Array Oper) (draw:Bool):Option ACode :=
 match draw with
 | false => match trOpsE P al ops ops.toList with | none => none | some as => some (.region as)
 | true =>
  match cutRegion P pureF al ops with
  | some as => some (.region as)
  | none =>
  match trOps P al ops ops.toList with
  | none => none
  | some as => if drawOk pureF ops (pairsOf pureF ops as) then (match noPairs (pairsOf pureF ops as) with | true => some (.region as) | false => some (.draw (pairsOf pureF ops as))) else none
inductive LT where
 | nil
 | node (l:List Nat) (a b:LT)
def LT.here:LT → List Nat
 | .nil => []
 | .node l _ _ => l
def LT.fst:LT → LT
 | .nil => .nil
 | .node _ a _ => a
def LT.snd:LT → LT
 | .nil => .nil
 | .node _ _ b => b
def withClr (l:List Nat) (c:ACode):ACode:=match l with | [] => c | l => .seq c (.clr l)
def freshC (l:List Nat) (c:ACode):ACode:=match l with | [] => c | n :: _ => .fresh n c
def preClr (l:List Nat) (c:ACode):ACode:=match l with | [] => c | l => .seq (.clr l) c
def makes (P:Program):Op → Bool
 | .alloc _ | .box .. | .makeSlice .. | .makeMap .. | .range .. => true
 | .convert src dst _ => match P.underlying src,P.underlying dst with | some .string,some (.slice _) => true | _,_ => false
 | .buildSlice t .. => match P.underlying t with | some (.slice e) => isByte P e | _ => false
 | .call { callee:=.builtin .append,.. } => true
 | _ => false
def siteDsts (P:Program):Code → List Nat
 | .region _ ops _ => ops.toList.filterMap fun o => if makes P o.op then o.dst else none
 | .seq a b => siteDsts P a ++ siteDsts P b
 | .cond _ a b => siteDsts P a ++ siteDsts P b
 | .block _ b | .loop b | .scope b => siteDsts P b
 | .rangeFunc _ _ a b => siteDsts P a ++ siteDsts P b
 | _ => []
structure MRi where
 ops1:Array Oper
 ops3:Array Oper
 init:List Oper
 rest:List Oper
 it:Nat
 nx:Nat
 ok:Nat
 en:Nat
 id:Nat
 id2:Nat
 mt:TypeId
 mo:Operand
def dropLast1:List Oper → List Oper
 | [] => []
 | [_] => []
 | a :: b :: l => a :: dropLast1 (b :: l)
def last1:List Oper → Option Oper
 | [] => none
 | [o] => some o
 | _ :: b :: l => last1 (b :: l)
theorem last1_spec:∀ {l:List Oper} {o:Oper},last1 l = some o → l = dropLast1 l ++ [o]
 | [],o,h => by cases h
 | [x],o,h => by cases h; rfl
 | a :: b :: l,o,h => by
  have:=last1_spec (l:=b :: l) (o:=o) h
  simp only [dropLast1,List.cons_append]
  rw [← this]
def noG (o:Oper):Bool:=match o.guard with | none => true | some _ => false
theorem noG_spec {o:Oper} (h:noG o = true):o.guard = none:=by
 unfold noG at h
 split at h
 ·assumption
 ·cases h
def mrOps (ops1 ops2 ops3:Array Oper) (c:Operand) (id id' id2:Nat):Option MRi :=
 match last1 ops1.toList,ops2.toList,ops3.toList,c with
 | some o1,[o2,o3],o4 :: rest,.tmp ok =>
  match o1.dst,o1.op,o2.dst,o2.op,o3.dst,o3.op,o4.dst,o4.op with
  | some it,.range mt mo,some nx,.next (.tmp it') false,some ok',.extract (.tmp nx') 0,some en,.entry (.tmp it'') =>
   match (Nat.beq it' it && (Nat.beq it'' it && (Nat.beq nx' nx && (Nat.beq ok' ok && (Nat.beq id' id && (!Nat.beq it nx && (!Nat.beq it ok && (noG o1 && (noG o2 && (noG o3 && noG o4)))))))))) with
   | true => some { ops1:=ops1,ops3:=ops3,init:=dropLast1 ops1.toList,rest:=rest,it:=it,nx:=nx,ok:=ok,en:=en,id:=id,id2:=id2,mt:=mt,mo:=mo }
   | false => none
  | _,_,_,_,_,_,_,_ => none
 | _,_,_,_ => none
def notBlk:Code → Bool | .block _ _ => false | _ => true
def mrParts:Code → Code → Option (MRi × Code)
 | .region _ ops1 false,.block id (.loop (.seq (.region _ ops2 false) (.seq (.cond c .skip (.exit id')) (.block id2 (.seq (.region _ ops3 false) B2))))) => match notBlk B2,mrOps ops1 ops2 ops3 c id id' id2 with | true,some i => some (i,B2) | _,_ => none
 | _,_ => none
def innerM:ACode → Option ACode
 | .block _ (.loop _ _ (.fresh _ (.seq _ (.seq _ (.block _ (.seq _ B)))))) => some B
 | .block _ (.loop _ _ (.seq _ (.seq _ (.block _ (.seq _ B))))) => some B
 | _ => none
def isMap (P:Program) (t:TypeId):Bool:=match P.underlying t with | some (.map _ _) => true | _ => false
def mrCode (P:Program) (al clr:List Nat) (a b:Code) (x y:ACode):ACode :=
 match mrParts a b,innerM y with
 | some (i,_),some B2A =>
  match trOps P al i.ops1 i.init,trOps P al i.ops3 i.rest,trOpd i.mo,isMap P i.mt with
  | some A0,some A3,some m,true => .seq (.region A0) (.block i.id (.rangeM m i.it i.nx i.ok i.en (al.idxOf i.it) clr ((siteDsts P b).map al.idxOf) (.block i.id2 (.seq (.region A3) B2A))))
  | _,_,_,_ => .seq x y
 | _,_ => .seq x y
theorem mrOps_some {ops1 ops2 ops3:Array Oper} {c:Operand} {id id' id2:Nat} {i:MRi} (h:mrOps ops1 ops2 ops3 c id id' id2 = some i) :
  ∃ o1 o2 o3 o4,ops1.toList = i.init ++ [o1] ∧ ops2.toList = [o2,o3] ∧ ops3.toList = o4 :: i.rest ∧ c = .tmp i.ok ∧ id' = id ∧ i.id = id ∧ i.id2 = id2 ∧ i.ops1 = ops1 ∧ i.ops3 = ops3 ∧ (o1.dst = some i.it ∧ o1.op = .range i.mt i.mo) ∧ o1.guard = none ∧
   (o2.dst = some i.nx ∧ o2.op = .next (.tmp i.it) false ∧ o2.guard = none) ∧ (o3.dst = some i.ok ∧ o3.op = .extract (.tmp i.nx) 0 ∧ o3.guard = none) ∧ o4.op = .entry (.tmp i.it) ∧ o4.dst = some i.en ∧ o4.guard = none ∧ i.it ≠ i.nx ∧ i.it ≠ i.ok:=by
 unfold mrOps at h
 split at h
 case h_2 => cases h
 rename_i o1 o2 o3 o4 rest ok h1 h2 h3
 split at h
 case h_2 => cases h
 rename_i it mt mo nx it' ok' nx' en it'' e1 e2 e3 e4 e5 e6 e7 e8
 split at h
 case h_2 => cases h
 rename_i hb
 cases h
 simp only [Bool.and_eq_true,Bool.not_eq_true',Nat.beq_eq_true_eq] at hb
 obtain ⟨b1,b2,b3,b4,b5,b6,b7,b8,b9,b10,b11⟩:=hb
 have c1:=Nat.eq_of_beq_eq_true b1
 have c2:=Nat.eq_of_beq_eq_true b2
 have c3:=Nat.eq_of_beq_eq_true b3
 have c4:=Nat.eq_of_beq_eq_true b4
 have c5:=Nat.eq_of_beq_eq_true b5
 subst c1 c2 c3 c4 c5
 exact ⟨o1,o2,o3,o4,last1_spec h1,h2,h3,rfl,rfl,rfl,rfl,rfl,rfl,⟨e1,e2⟩,noG_spec b8,⟨e3,e4,noG_spec b9⟩,⟨e5,e6,noG_spec b10⟩,e8,e7,noG_spec b11,Nat.ne_of_beq_eq_false b6,Nat.ne_of_beq_eq_false b7⟩
def trCode (P:Program) (pureF:FuncId → FMode) (al:List Nat) (fid:Nat):Bool → Nat → LT → Code → Option ACode
 | _,_,_,.skip | _,_,_,.label _ => some .skip
 | _,_,lt,.region _ ops draw => (trRegion P pureF al ops draw).map (withClr lt.here)
 | r,k,lt,.seq a b => match trCode P pureF al fid r k lt.fst a,trCode P pureF al fid r (k + (rangesOf a).length) lt.snd b with | some x,some y => some (mrCode P al lt.here a b x y) | _,_ => none
 | r,k,lt,.cond c a b => match trOpd c,trCode P pureF al fid r k lt.fst.fst a,trCode P pureF al fid r (k + (rangesOf a).length) lt.snd.fst b with | some c,some a,some b => some (.cond c (preClr lt.fst.here a) (preClr lt.snd.here b)) | _,_,_ => none
 | r,k,lt,.block id b => (trCode P pureF al fid r k lt.fst b).map (.block id)
 | r,k,lt,.loop b => (trCode P pureF al fid r k lt.fst b).map fun b => .loop lt.here [] (freshC lt.snd.here b)
 | r,k,lt,.scope b => trCode P pureF al fid r k lt b
 | _,_,_,.exit id => some (.exit id)
 | _,_,_,.ret => some .ret
 | false,k,lt,.rangeFunc g ps a b => match trOpd g,trCode P pureF al fid true (k + 1) lt.fst a,trCode P pureF al fid true (k + 1 + (rangesOf a).length) lt.snd b with | some g,some a,some b => some (.rangeF g ps.toList a b fid k (al.length + k)) | _,_,_ => none
 | _,_,_,_ => none
theorem rangesA_withClr (l:List Nat) (c:ACode):rangesA (withClr l c) = rangesA c:=by
 cases l <;> simp [withClr,rangesA]
theorem rangesA_freshC (l:List Nat) (c:ACode):rangesA (freshC l c) = rangesA c:=by
 cases l <;> simp [freshC,rangesA]
theorem rangesA_preClr (l:List Nat) (c:ACode):rangesA (preClr l c) = rangesA c:=by
 cases l <;> simp [preClr,rangesA]
theorem rangesA_region {pureF:FuncId → FMode} {al:List Nat} {ops:Array Oper} {draw:Bool} {a0:ACode} (h:trRegion P pureF al ops draw = some a0):rangesA a0 = []:=by
 simp only [trRegion] at h
 split at h
 ·split at h <;> cases h
  rfl
 ·split at h
  ·cases h; rfl
  ·split at h
   ·cases h
   ·split at h
    ·split at h <;> cases h <;> rfl
    ·cases h
theorem mr_shape {pureF:FuncId → FMode} {al:List Nat} {fid:Nat} {r:Bool} {k k2:Nat} {lt lt2:LT} {a b:Code} {x y:ACode} {i:MRi} {B2:Code} (h:mrParts a b = some (i,B2)) (hx:trCode P pureF al fid r k lt a = some x) (hy:trCode P pureF al fid r k2 lt2 b = some y) :
  rangesA x = [] ∧ rangesOf a = [] ∧ ∃ lt' B2A,trCode P pureF al fid r k2 lt' B2 = some B2A ∧ innerM y = some B2A ∧ rangesA y = rangesA B2A ∧ rangesOf b = rangesOf B2 ∧
   ∃ r1 r2 r3 ops1 ops2 ops3 c id id' id2,mrOps ops1 ops2 ops3 c id id' id2 = some i ∧ a = .region r1 ops1 false ∧ b = .block id (.loop (.seq (.region r2 ops2 false) (.seq (.cond c .skip (.exit id')) (.block id2 (.seq (.region r3 ops3 false) B2))))):=by
 unfold mrParts at h
 split at h
 case h_2 => cases h
 rename_i r1 ops1 id r2 ops2 c id' id2 r3 ops3 B
 split at h
 case h_2 => cases h
 rename_i i' hnb hi
 simp only [Option.some.injEq,Prod.mk.injEq] at h
 obtain ⟨rfl,rfl⟩:=h
 have hB:∀ (z1 z2:ACode) (l:List Nat),mrCode P al l (.region r3 ops3 false) B z1 z2 = .seq z1 z2:=by
  intro z1 z2 l
  have:mrParts (.region r3 ops3 false) B = none:=by
   cases B <;> first | rfl | (cases hnb)
  unfold mrCode
  rw [this]
 have hr:∀ {ops:Array Oper} {z:ACode},trRegion P pureF al ops false = some z → ∃ as,z = .region as:=by
  intro ops z hz
  simp only [trRegion] at hz
  split at hz
  ·cases hz
  ·cases hz; exact ⟨_,rfl⟩
 simp only [trCode,Option.map_eq_some_iff] at hx
 obtain ⟨a0,hx0,rfl⟩:=hx
 refine ⟨by rw [rangesA_withClr]; exact rangesA_region hx0,rfl,?_⟩
 simp only [trCode,rangesOf,List.length_nil,List.append_nil,Nat.add_zero,Option.map_eq_some_iff] at hy
 obtain ⟨y1,⟨y2,hy2,rfl⟩,rfl⟩:=hy
 cases h1:trRegion P pureF al ops2 false with
 | none => simp [h1] at hy2
 | some R2 =>
 cases h2:trOpd c with
 | none => simp [h1,h2] at hy2
 | some c2 =>
 cases h3:trRegion P pureF al ops3 false with
 | none => simp [h1,h2,h3] at hy2
 | some R3 =>
 simp only [h1,h2,h3,Option.map_some] at hy2
 cases h4:trCode P pureF al fid r k2 lt2.fst.fst.snd.snd.fst.snd B with
 | none => simp [h4] at hy2
 | some B2A =>
 simp only [h4,hB,Option.map_some,Option.some.injEq] at hy2
 refine ⟨_,B2A,h4,?_,?_,rfl,r1,r2,r3,ops1,ops2,ops3,c,id,id',id2,hi,rfl,rfl⟩
 ·subst hy2
  cases lt2.fst.snd.here <;> rfl
 ·subst hy2
  obtain ⟨_,rfl⟩:=hr h1
  obtain ⟨_,rfl⟩:=hr h3
  simp only [rangesA,rangesA_freshC]
  have n1:∀ (l:List Nat) (x y:ACode),mrCode P al l (.cond c .skip (.exit id')) (.block id2 ((Code.region r3 ops3 false).seq B)) x y = .seq x y:=fun l x y => rfl
  have n2:∀ (l:List Nat) (x y:ACode),mrCode P al l (.region r2 ops2 false) ((Code.cond c .skip (.exit id')).seq (.block id2 ((Code.region r3 ops3 false).seq B))) x y = .seq x y:=fun l x y => rfl
  simp only [n1,n2,rangesA,rangesA_withClr,rangesA_preClr,List.nil_append]
theorem mrCode_ranges {pureF:FuncId → FMode} {al:List Nat} {fid:Nat} {r:Bool} {k k2:Nat} {lt lt2:LT} {a b:Code} {x y:ACode} {clr:List Nat} (hx:trCode P pureF al fid r k lt a = some x) (hy:trCode P pureF al fid r k2 lt2 b = some y) :
  rangesA (mrCode P al clr a b x y) = rangesA x ++ rangesA y:=by
 unfold mrCode
 split
 ·rename_i i B2 B2A h1 h2
  obtain ⟨e1,-,lt',B3,-,e2,e3,-⟩:=mr_shape h1 hx hy
  rw [h2] at e2
  cases e2
  split
  ·simp only [rangesA,e1,e3,List.nil_append]
  ·rfl
 ·rfl
theorem trCode_ranges {pureF:FuncId → FMode} {al:List Nat} {fid:Nat}:∀ (c:Code) (r:Bool) (k:Nat) (lt:LT) (ac:ACode),trCode P pureF al fid r k lt c = some ac →
  (r = true → rangesOf c = []) ∧ (rangesA ac).length = (rangesOf c).length ∧ ∀ (i:Nat) (lc:LoopCode),(rangesOf c)[i]? = some lc → ∃ ra lt1 lt2 k1 k2,(rangesA ac)[i]? = some ra ∧ lc.params.toList = ra.1 ∧ trCode P pureF al fid true k1 lt1 lc.assign = some ra.2.1 ∧ trCode P pureF al fid true k2 lt2 lc.body = some ra.2.2:=by
 have two:∀ {a b:Code} {x y:ACode} {r:Bool},((r = true → rangesOf a = []) ∧ (rangesA x).length = (rangesOf a).length ∧ ∀ (i:Nat) (lc:LoopCode),(rangesOf a)[i]? = some lc → ∃ ra lt1 lt2 k1 k2,(rangesA x)[i]? = some ra ∧ lc.params.toList = ra.1 ∧ trCode P pureF al fid true k1 lt1 lc.assign = some ra.2.1 ∧ trCode P pureF al fid true k2 lt2 lc.body = some ra.2.2) →
   ((r = true → rangesOf b = []) ∧ (rangesA y).length = (rangesOf b).length ∧ ∀ (i:Nat) (lc:LoopCode),(rangesOf b)[i]? = some lc → ∃ ra lt1 lt2 k1 k2,(rangesA y)[i]? = some ra ∧ lc.params.toList = ra.1 ∧ trCode P pureF al fid true k1 lt1 lc.assign = some ra.2.1 ∧ trCode P pureF al fid true k2 lt2 lc.body = some ra.2.2) →
   ((r = true → rangesOf a ++ rangesOf b = []) ∧ (rangesA x ++ rangesA y).length = (rangesOf a ++ rangesOf b).length ∧ ∀ (i:Nat) (lc:LoopCode),(rangesOf a ++ rangesOf b)[i]? = some lc → ∃ ra lt1 lt2 k1 k2,(rangesA x ++ rangesA y)[i]? = some ra ∧ lc.params.toList = ra.1 ∧ trCode P pureF al fid true k1 lt1 lc.assign = some ra.2.1 ∧ trCode P pureF al fid true k2 lt2 lc.body = some ra.2.2):=by
  rintro a b x y r ⟨a0,a1,a2⟩ ⟨b0,b1,b2⟩
  refine ⟨fun h => by rw [a0 h,b0 h]; rfl,by simp [a1,b1],fun i lc hi => ?_⟩
  rcases Nat.lt_or_ge i (rangesOf a).length with h | h
  ·rw [List.getElem?_append_left h] at hi
   rw [List.getElem?_append_left (by omega)]
   exact a2 i lc hi
  ·rw [List.getElem?_append_right h] at hi
   rw [List.getElem?_append_right (by omega),a1]
   exact b2 _ lc hi
 intro c
 induction c with
 | skip => intro r k lt ac h; simp only [trCode,Option.some.injEq] at h; subst h; exact ⟨fun _ => rfl,rfl,fun i lc hi => by simp [rangesOf] at hi⟩
 | label l => intro r k lt ac h; simp only [trCode,Option.some.injEq] at h; subst h; exact ⟨fun _ => rfl,rfl,fun i lc hi => by simp [rangesOf] at hi⟩
 | exit l => intro r k lt ac h; simp only [trCode,Option.some.injEq] at h; subst h; exact ⟨fun _ => rfl,rfl,fun i lc hi => by simp [rangesOf] at hi⟩
 | ret => intro r k lt ac h; simp only [trCode,Option.some.injEq] at h; subst h; exact ⟨fun _ => rfl,rfl,fun i lc hi => by simp [rangesOf] at hi⟩
 | region id ops draw =>
  intro r k lt ac h
  simp only [trCode,Option.map_eq_some_iff] at h
  obtain ⟨a0,h,rfl⟩:=h
  have:rangesA a0 = []:=by
   exact rangesA_region h
  refine ⟨fun _ => rfl,by rw [rangesA_withClr,this]; rfl,fun i lc hi => by simp [rangesOf] at hi⟩
 | seq a b iha ihb =>
  intro r k lt ac h
  simp only [trCode] at h
  split at h
  case h_2 => cases h
  rename_i x y hx hy
  cases h
  rw [mrCode_ranges hx hy]
  exact two (iha _ _ _ _ hx) (ihb _ _ _ _ hy)
 | cond cd a b iha ihb =>
  intro r k lt ac h
  simp only [trCode] at h
  split at h
  case h_2 => cases h
  rename_i o x y ho hx hy
  cases h
  simp only [rangesA,rangesA_preClr,rangesOf]
  exact two (iha _ _ _ _ hx) (ihb _ _ _ _ hy)
 | block id b ih =>
  intro r k lt ac h
  simp only [trCode,Option.map_eq_some_iff] at h
  obtain ⟨x,hx,rfl⟩:=h
  simp only [rangesA,rangesOf]
  exact ih _ _ _ _ hx
 | loop b ih =>
  intro r k lt ac h
  simp only [trCode,Option.map_eq_some_iff] at h
  obtain ⟨x,hx,rfl⟩:=h
  simp only [rangesA,rangesA_freshC,rangesOf]
  exact ih _ _ _ _ hx
 | scope b ih =>
  intro r k lt ac h
  simp only [trCode] at h
  exact ih _ _ _ _ h
 | rangeFunc g ps a b iha ihb =>
  intro r k lt ac h
  cases r with
  | true => simp [trCode] at h
  | false =>
   simp only [trCode] at h
   split at h
   case h_2 => cases h
   rename_i o x y ho hx hy
   cases h
   obtain ⟨a0,a1,a2⟩:=iha _ _ _ _ hx
   obtain ⟨b0,b1,b2⟩:=ihb _ _ _ _ hy
   refine ⟨fun h => (by cases h),by simp [rangesA,rangesOf,a1,b1],fun i lc hi => ?_⟩
   cases i with
   | zero =>
    simp only [rangesOf,List.getElem?_cons_zero,Option.some.injEq] at hi
    subst hi
    exact ⟨_,_,_,_,_,rfl,rfl,hx,hy⟩
   | succ i =>
    simp only [rangesOf,a0 rfl,b0 rfl,List.getElem?_cons_succ,List.append_nil] at hi
    simp at hi
 | _ => intro r k lt ac h; cases r <;> simp [trCode] at h
section scope
variable {F:Fence} {n:Nat} {b:Frame} {a:Act} {k:List Item} {cs:List Frame} {w:World} {Q:Exit → Act → World → Prop}
theorem stepR_scope {c:Code}:step P (lone (b.atR a (.code (.scope c) :: k)) cs w) = .next (lone (b.atR a (.code c :: .inScope c :: k)) cs w) :=
 step_lone_go (by simp [stepG,stepG.exec,Frame.atR])
theorem stepR_inScope {c:Code}:step P (lone (b.atR a (.inScope c :: k)) cs w) = .next (lone (b.atR a k) cs w) :=
 step_lone_go (by simp [stepG,stepG.exec,Frame.atR])
theorem wpIn_scope_straight {c:Code} (h:c.wpIn F n P (Exit.noGoto Q) a w):(Code.scope c).wpIn F n P Q a w:=by
 intro b k cs hro hb hr
 have h0:(lone (b.atR a (.code (.scope c) :: k)) cs w).fenced P F:=fenced_calm hb hr rfl
 obtain ⟨e,a₁,w₁,hq,harr⟩:=h b (.inScope c :: k) cs hro hb hr
 cases e with
 | normal => exact ⟨.normal,a₁,w₁,hq,.head h0 stepR_scope (StepsIn.trans harr (.one (fenced_calm hb hr rfl) stepR_inScope))⟩
 | exit id =>
  have hx:exitTo id (.inScope c :: k) = exitTo id k:=by simp [exitTo]
  exact ⟨.exit id,a₁,w₁,hq,fun k' hk => .head h0 stepR_scope (harr.1 k' (by rw [hx]; exact hk)),
   fun hr' hk => let ⟨k₁,h1,h2⟩:=harr.2 hr' (by rw [hx]; exact hk); ⟨k₁,h1,.head h0 stepR_scope h2⟩⟩
 | goto l => exact hq.elim
 | ret => exact ⟨_,a₁,w₁,hq,.of_steps (.one h0 stepR_scope) harr⟩
 | panic ch => exact ⟨_,a₁,w₁,hq,.of_steps (.one h0 stepR_scope) harr⟩
 | outgrown => exact ⟨_,a₁,w₁,hq,.of_steps (.one h0 stepR_scope) harr⟩
end scope
theorem sim_any {call:Caller} (hcall:CallOk P call) {fb:Nat} {al:List Nat} {ops:Array Oper} {as:List AOper} (has:trOps P al ops ops.toList = some as) {rd:Option Nat} {nn:Nat} {Q:Exit → Act → World → Prop} {d0:List Deferred} {fin:List V × Heap → Prop} {C:Nat → List V × Heap → Prop} :
  ∀ (fuel:Nat) (listed:Array Bool) (g:G) (h:Heap) (w:World) (t:List V) (a:Act),AnyA call fb ops as fin C fuel listed (t,h) → g.code = codesOf P → Sim g h w → TRel g w t a.tmps → a.defers = d0 →
  (∀ t' h' g' w' a',fin (t',h') → Sim g' h' w' → Ext g h w g' h' w' → TRel g' w' t' a'.tmps → a'.defers = d0 → Q .normal a' w') → wpAnyIn (FR rd) nn P .any ops Q fuel listed a w
 | 0,listed,g,h,w,t,a,H,hgc,s,r,hd,hQ => ⟨H.1,hQ _ _ g w a H.2 s (Ext.refl _ _ _) r hd⟩
 | fuel + 1,listed,g,h,w,t,a,H,hgc,s,r,hd,hQ => by
  refine ⟨fun h0 => hQ _ _ g w a (H.1 h0) s (Ext.refl _ _ _) r hd,fun i hi => ?_⟩
  obtain ⟨-,ao,⟨t1,k1⟩,hao,hst,H'⟩:=H.2 i hi
  obtain ⟨o,ho,hto⟩:=(trOps_get has).2 i ao hao
  have ho':ops[i]? = some o:=by simpa using ho
  have:=sim_step hcall (fb:=fb) hgc s r hto hst (rd:=rd) (n:=nn) (K:=wpAnyIn (FR rd) nn P .any ops Q fuel (listed.setIfInBounds i true)) (Q:=Q) (fun g' w' a' q1 q2 q3 q4 =>
   sim_any hcall has fuel _ g' k1 w' t1 a' H' (q2.code.trans hgc) q1 q3 (q4.trans hd) (fun t2 h2 g2 w2 a2 p0 p1 p2 p3 p4 => hQ t2 h2 g2 w2 a2 p0 p1 (q2.trans p2) p3 p4))
  unfold wpOpIn
  simp only [ho']
  exact this
theorem rel_app {g:G} {w:World} {l l':List V} {zs zs':Array Value} (h1:zs.size = l.length ∧ ∀ i c,l[i]? = some c → VRel g w c (zs.getD i undef)) (h2:zs'.size = l'.length ∧ ∀ i c,l'[i]? = some c → VRel g w c (zs'.getD i undef)) :
  (zs ++ zs').size = (l ++ l').length ∧ ∀ i c,(l ++ l')[i]? = some c → VRel g w c ((zs ++ zs').getD i undef):=by
 refine ⟨by simp [h1.1,h2.1],fun i c hi => ?_⟩
 rcases Nat.lt_or_ge i l.length with hlt | hge
 ·rw [List.getElem?_append_left hlt] at hi
  have:=h1.2 i c hi
  rw [Array.getD_eq_getD_getElem?] at this ⊢
  rw [Array.getElem?_append_left (by rw [h1.1]; exact hlt)]
  exact this
 ·rw [List.getElem?_append_right hge] at hi
  have:=h2.2 _ c hi
  rw [Array.getD_eq_getD_getElem?] at this ⊢
  rw [Array.getElem?_append_right (by rw [h1.1]; exact hge),h1.1]
  exact this
theorem sim_rangeF {call:Caller} (hcall:CallOk P call) {N fb:Nat} {pureF:FuncId → FMode} {fid k site:Nat} {nn m:Nat} {g0:Operand} {f:Opd} {ps:Array Tmp} {asn body:Code} {A B:ACode} (hf:trOpd g0 = some f)
  (hcode:codesOf P fid k = some ⟨ps,asn,body⟩) {g:G} {h:Heap} {w:World} {t:List V} {a:Act} {x:Ex} {t':List V} {h':Heap} {Q:Exit → Act → World → Prop}
  (he:exec pureF call N fb (.rangeF f ps.toList A B fid k site) t h = some (x,t',h')) (hgc:g.code = codesOf P) (s:Sim g h w) (r:TRel g w t a.tmps) (hd:Mk m g h w a.defers)
  (hQ:∀ g' w' a',Sim g' h' w' → Ext g h w g' h' w' → TRel g' w' t' a'.tmps → Mk m g' h' w' a'.defers → Q x.to a' w'):(Code.rangeFunc g0 ps asn body).wpIn (FR none) nn P Q a w:=by
 simp only [exec] at he
 split at he
 case h_2 => cases he
 rename_i x0 hx0
 split at he
 case h_2 => cases he
 rename_i gf xs ys hv
 split at he
 case isTrue => cases he
 rename_i hny
 split at he
 case h_2 => cases he
 rename_i vv h2 hc
 split at he
 case h_2 => cases he
 rename_i v st pend t2 fb2 f2 k2 hx2
 split at he
 case isFalse => cases he
 rename_i hver
 split at he
 case isTrue => cases he
 rename_i hst
 simp only [Option.some.injEq,Prod.mk.injEq] at he
 obtain ⟨rfl,rfl,rfl⟩:=he
 subst hver
 have hro:=r.opd _ _ hf
 rw [hv] at hro
 refine wpIn_rangeFunc (fun fn _ => ?_)
 obtain ⟨s1,e1⟩:=sim_lay s (.deferred (some []))
 have hsz:(w.alloc (.deferred (some []))).heap.size = w.heap.size + 1:=World.size_alloc w _
 obtain ⟨s2,e2⟩:=sim_newloop s1 hx0 (t:=t) (fb:=fb) (f:=fid) (k:=k) (rec:={ state:=.ready,pending:=none,fn,tmps:=a.tmps,params:=ps,assign:=asn,body,defers:=w.heap.size }) rfl rfl
  (by rw [hgc]; exact hcode) r.1 (fun i u hi => ((r.2 i u hi).ext e1 s))
 generalize hg1:g.put (fb + site) (x0.ver + 1) ((w.alloc (.deferred (some []))).heap.size,0) = g1 at s2 e2
 generalize hw1:(w.alloc (.deferred (some []))).alloc (.loop { state:=.ready,pending:=none,fn,tmps:=a.tmps,params:=ps,assign:=asn,body,defers:=w.heap.size }) = w1 at s2 e2
 have hloc:g1.loc (fb + site) (x0.ver + 1) = some (w.heap.size + 1,0):=by rw [← hg1,← hsz]; simp [G.put]
 have hent:(Instr.enterLoop fn a.tmps ps asn body (FR none).round).run P w = .ok (w.heap.size + 1,[{ target:=.collected w.heap.size,args:=#[] }]) w1:=by
  rw [← hw1]; exact run_enterLoop_outer fn a.tmps ps asn body
 have e12:=e1.trans e2
 have hro1:VRel g1 w1 (.func gf xs ys) (a.eval g0):=hro.ext e12 s
 generalize hX:a.eval g0 = X at hro1
 cases hro1 with
 | func _ _ _ us vs k1 k2' k3 k4 =>
 obtain ⟨⟨fnc,hfn,hbd,hnm⟩,hcl⟩:=hcall.fn gf _ _ vv h2 hny hc
 have hargs:=rel_app (g:=g1) (w:=w1) (rel_app (l:=xs) (l':=[.yld (fb + site) (x0.ver + 1)]) (zs:=us) (zs':=#[.func (.yield (w.heap.size + 1)) #[] #[]]) ⟨k1,k3⟩ ⟨rfl,fun i c hi => by
  cases i with
  | zero => simp at hi; subst hi; exact .yld _ _ _ hloc
  | succ i => simp at hi⟩) (l':=ys) (zs':=vs) ⟨k2',k4⟩
 have hgc1:g1.code = codesOf P:=e12.code.trans hgc
 obtain ⟨AR,hAR⟩:∃ AR,AR = us ++ #[.func (.yield (w.heap.size + 1)) #[] #[]] ++ vs:=⟨_,rfl⟩
 rw [← hAR] at hargs
 have hres:(resolve a.eval (rangeCall g0 (w.heap.size + 1)) 0).run P w1 = .ok { target:=.fn (.func gf) vs,args:=us ++ #[.func (.yield (w.heap.size + 1)) #[] #[]] } w1:=by
  have hev:a.eval (.const (.func (.yield (w.heap.size + 1)) #[] #[])) = .func (.yield (w.heap.size + 1)) #[] #[]:=rfl
  simp [resolve,Deferred.ofValue,hX,hev]
 have hcalls:=hcl g1 w1 AR hgc1 s2 hargs.1 hargs.2
 clear hargs
 refine ⟨w.heap.size + 1,_,w1,_,w1,gf,AR,w1,hent,hres,fun _ _ => trivial,?_,fun h => by simp [FR,Fence.wide] at h,callsIn_FR (hcalls.mono ?_)⟩
 ·rw [hAR]
  simp [invoke,run_callFunc hfn hbd hnm]
 ·rintro e w3 ⟨y,g3,rfl,s3,e3,r3⟩
  obtain ⟨b,rec3,q1,q2,q3,q4,q5,q6,q7,q8,q9⟩:=sim_loop s3 hx2
  have hb:b = w.heap.size + 1:=by
   have:=e3.loc _ _ _ hloc
   rw [q1] at this
   cases this
   rfl
  subst hb
  obtain ⟨s4,e4⟩:=sim_turn s3 hx2 q1 q4 (rec':={ rec3 with state:=.exhausted }) (st':=3) (pend':=pend) rfl q6 rfl rfl rfl rfl
  have hget:(h2.set (fb + site) ⟨x0.ver + 1,.loop 3 pend t2 fb2 f2 k2⟩)[fb + site]? = some ⟨x0.ver + 1,.loop 3 pend t2 fb2 f2 k2⟩:=List.getElem?_set_self (List.getElem?_eq_some_iff.1 hx2).1
  obtain ⟨s5,e5⟩:=sim_kill1 s4 hget
  simp only [List.set_set] at s5 e5
  refine ⟨rec3.pending,_,run_endLoop q4 (fun e => hst (by rw [← q5,e]; rfl)),?_⟩
  generalize w3.putObj (w.heap.size + 1) (.loop { rec3 with state:=.exhausted }) = w4 at s4 e4 s5 e5 ⊢
  have eall:=((e12.trans e3).trans e4).trans e5
  have hmk:Mk m g h (w.alloc (.deferred (some []))) ([{ target:=.collected w.heap.size,args:=#[] }] ++ a.defers):=by
   have hd1:=hd.ext e1
   obtain ⟨m0,L,hL,hn,hall⟩:=hd1
   obtain ⟨m0',L',hL',hn',hall'⟩:=hd
   have eLL:L = L':=by
    have:=hL.symm.trans hL'
    have inj:∀ (A B:List Nat),A.map (fun r => ({ target:=.collected r,args:=#[] }:Deferred)) = B.map (fun r => ({ target:=.collected r,args:=#[] }:Deferred)) → A = B:=by
     intro A
     induction A with
     | nil => intro B hB; cases B with | nil => rfl | cons b B => simp at hB
     | cons a A ih => intro B hB; cases B with
      | nil => simp at hB
      | cons b B => simp only [List.map_cons,List.cons.injEq,Deferred.mk.injEq,Target.collected.injEq,and_true] at hB; rw [hB.1,ih B hB.2]
    exact inj L L' this
   subst eLL
   refine ⟨by rw [hsz]; omega,w.heap.size :: L,by rw [List.map_cons,← hL]; rfl,?_,fun r hr => ?_⟩
   ·rw [List.nodup_cons]
    refine ⟨fun hm => ?_,hn⟩
    have:=(hall' _ hm).2.1
    omega
   ·rcases List.mem_cons.1 hr with rfl | hr
    ·refine ⟨m0',by rw [hsz]; omega,World.alloc_heap_new w _,fun o ho => ?_,fun hi => ?_⟩
     ·obtain ⟨z,base,hz,hlv,hgz⟩:=blk_some ho
      obtain ⟨b',base',hg',hlt,-⟩:=s.obs o z hz hlv
      rw [hgz] at hg'
      cases hg'
      omega
     ·have:=s.immlt _ hi
      omega
    ·exact hall r hr
  have hmk5:=((hmk.ext e2).ext e3 |>.ext e4).ext e5
  have hr5:TRel g3 w4 t ({ a with defers:=[{ target:=.collected w.heap.size,args:=#[] }] ++ a.defers }:Act).tmps:=r.ext eall s
  rw [q6]
  cases pend with
  | none => exact hQ g3 _ _ s5 eall hr5 hmk5
  | some j =>
   cases j with
   | none => exact wpIn_ret (hQ g3 _ _ s5 eall hr5 hmk5)
   | some id => exact wpIn_exit (hQ g3 _ _ s5 eall hr5 hmk5)
theorem sim_code {pureF:FuncId → FMode} {call:Caller} (hm:P.follows .mixedOrders = true) (hcall:CallOk P call) (hpure:PureOk pureF call) {N:Nat} {al:List Nat} {fid:Nat} {rd:Option Nat} {nn m:Nat} {inR:Bool} (hrd:inR = false → rd = none) :
  ∀ (c:Code) (kk:Nat) (lt:LT) (ac:ACode),trCode P pureF al fid inR kk lt c = some ac → (∀ i lc,(rangesOf c)[i]? = some lc → codesOf P fid (kk + i) = some lc) → ∀ (fb:Nat) (g:G) (h:Heap) (w:World) (t:List V) (a:Act) (x:Ex) (t':List V) (h':Heap) (Q:Exit → Act → World → Prop),
  exec pureF call N fb ac t h = some (x,t',h') → g.code = codesOf P → Sim g h w → TRel g w t a.tmps → Mk m g h w a.defers →
  (∀ g' w' a',Sim g' h' w' → Ext g h w g' h' w' → TRel g' w' t' a'.tmps → Mk m g' h' w' a'.defers → Q x.to a' w') → c.wpIn (FR rd) nn P Q a w:=by
 intro c
 generalize hsz:SizeOf.sizeOf c = sz
 induction sz using Nat.strongRecOn generalizing c with
 | ind sz IH =>
 have ihall:=fun (c':Code) (h:SizeOf.sizeOf c' < SizeOf.sizeOf c) => IH (SizeOf.sizeOf c') (by omega) c' rfl
 clear IH
 cases c with
 | skip =>
  intro kk lt ac ht hcd fb g h w t a x t' h' Q he hgc s r hd hQ
  simp only [trCode,Option.some.injEq] at ht
  subst ht
  simp only [exec,Option.some.injEq,Prod.mk.injEq] at he
  obtain ⟨rfl,rfl,rfl⟩:=he
  exact wpIn_skip (hQ g w a s (Ext.refl _ _ _) r hd)
 | label l =>
  intro kk lt ac ht hcd fb g h w t a x t' h' Q he hgc s r hd hQ
  simp only [trCode,Option.some.injEq] at ht
  subst ht
  simp only [exec,Option.some.injEq,Prod.mk.injEq] at he
  obtain ⟨rfl,rfl,rfl⟩:=he
  exact wpIn_label (hQ g w a s (Ext.refl _ _ _) r hd)
 | exit id =>
  intro kk lt ac ht hcd fb g h w t a x t' h' Q he hgc s r hd hQ
  simp only [trCode,Option.some.injEq] at ht
  subst ht
  simp only [exec,Option.some.injEq,Prod.mk.injEq] at he
  obtain ⟨rfl,rfl,rfl⟩:=he
  exact wpIn_exit (hQ g w a s (Ext.refl _ _ _) r hd)
 | ret =>
  intro kk lt ac ht hcd fb g h w t a x t' h' Q he hgc s r hd hQ
  simp only [trCode,Option.some.injEq] at ht
  subst ht
  simp only [exec,Option.some.injEq,Prod.mk.injEq] at he
  obtain ⟨rfl,rfl,rfl⟩:=he
  exact wpIn_ret (hQ g w a s (Ext.refl _ _ _) r hd)
 | region id ops draw =>
  intro kk lt ac ht hcd fb g h w t a x t' h' Q he hgc s r hd hQ
  simp only [trCode,Option.map_eq_some_iff] at ht
  obtain ⟨a0,ht,rfl⟩:=ht
  have main:∀ (t1:List V) (k1:Heap),exec pureF call N fb a0 t h = some (.norm,t1,k1) → ∀ (Q:Exit → Act → World → Prop),
    (∀ g' w' a',Sim g' k1 w' → Ext g h w g' k1 w' → TRel g' w' t1 a'.tmps → a'.defers = a.defers → Q .normal a' w') → (Code.region id ops draw).wpIn (FR rd) nn P Q a w:=by
   intro t1 k1 he Q hQ
   simp only [trRegion] at ht
   cases draw with
   | false =>
    simp only at ht
    split at ht
    ·cases ht
    rename_i as has
    simp only [Option.some.injEq] at ht
    subst ht
    simp only [exec] at he
    split at he
    ·rename_i t2 k2 hr
     simp only [Option.some.injEq,Prod.mk.injEq,true_and] at he
     obtain ⟨rfl,rfl⟩:=he
     exact wpIn_region_list (sim_opsE hcall ops.toList as g h w t a _ _ has hr hgc s r rfl hQ)
    ·cases he
   | true =>
    simp only at ht
    split at ht
    ·rename_i as hcr
     simp only [Option.some.injEq] at ht
     subst ht
     simp only [exec] at he
     split at he
     ·rename_i t2 k2 hr
      simp only [Option.some.injEq,Prod.mk.injEq,true_and] at he
      obtain ⟨rfl,rfl⟩:=he
      unfold cutRegion at hcr
      split at hcr
      case h_2 => cases hcr
      rename_i bs as0 hbs has
      split at hcr
      case isFalse => cases hcr
      rename_i hck
      cases hcr
      simp only [Bool.and_eq_true] at hck
      obtain ⟨⟨hcut,hok⟩,hnp⟩:=hck
      obtain ⟨t3,k3,hr1,hr2⟩:=runOps_app hr
      have e1:(pairsOf pureF ops (as0 ++ List.replicate 5 nopA)).map (·.1) = as0 ++ List.replicate 5 nopA:=by
       unfold pairsOf
       rw [List.map_map]
       apply List.ext_getElem?
       intro i
       simp only [List.getElem?_map,List.getElem?_zipIdx]
       cases (as0 ++ List.replicate 5 nopA)[i]? <;> rfl
      have e2:firstB ops.size 0 = Array.replicate ops.size false:=by
       apply Array.ext'
       simp only [firstB,Nat.not_lt_zero,decide_false,Array.toList_replicate]
       rw [List.map_const',List.length_range]
      have hA:=drawP (fb:=fb) hpure hok hnp (pairsOf pureF ops (as0 ++ List.replicate 5 nopA)) 0 (t,h) rfl (Nat.zero_le _) (by rw [e1]; exact runOps_nops hr1)
      rw [e1,e2,Nat.sub_zero] at hA
      have hn:ops.size = ops.size - 5 + 5:=by
       have:=hcut
       simp only [cutOk,Bool.and_eq_true] at this
       exact of_decide_eq_true this.1.1.1.1
      have hl0:as0.length = ops.size - 5:=by
       rw [(trOps_get has).1,List.length_take,Array.length_toList]
       omega
      refine wpIn_region_any hm (sim_any_cut hcall hcut has ops.size _ g h { w with drawn:=w.drawn + 1 } t a hA (by simp) (fun i h1 h2 => by simp [Array.getD_eq_getD_getElem?,h2]) hgc (s.drew _) (r.ext (Ext.drew g h w _) s) rfl ?_)
      intro t4 k4 g4 w4 a4 p1 p2 p3 p4 f H
      have hf:=nop_fin hl0 hcut H
      cases hf
      have get:∀ j,j < 5 → ops[ops.size - 5 + j]? = (ops.toList.drop (ops.size - 5))[j]?:=fun j hj => by simp
      obtain ⟨A,B,X,D,E,hd5⟩:∃ A B X D E,ops.toList.drop (ops.size - 5) = [A,B,X,D,E]:=by
       unfold tail5 at hbs
       split at hbs
       ·rename_i heq; exact ⟨_,_,_,_,_,heq⟩
       ·cases hbs
      rw [hd5] at hbs get
      exact tail_any hl0 hcut (by simpa using get 0 (by omega)) (by simpa using get 1 (by omega)) (by simpa using get 2 (by omega)) (by simpa using get 3 (by omega)) (by simpa using get 4 (by omega)) hbs hr2 p1 p3 p4
       (fun g5 w5 a5 y1 y2 y3 y4 => hQ g5 w5 a5 y1 ((Ext.drew g h w _).trans (p2.trans y2)) y3 y4) H
     ·cases he
    split at ht
    ·cases ht
    rename_i as has
    split at ht
    ·rename_i hok
     have e1:(pairsOf pureF ops as).map (·.1) = as:=by
      unfold pairsOf
      rw [List.map_map]
      apply List.ext_getElem?
      intro i
      simp [List.getElem?_zipIdx]
      cases as[i]? <;> rfl
     have e2:firstB ops.size 0 = Array.replicate ops.size false:=by
      apply Array.ext'
      simp only [firstB,Nat.not_lt_zero,decide_false,Array.toList_replicate]
      rw [List.map_const',List.length_range]
     cases hnp:noPairs (pairsOf pureF ops as) with
     | true =>
      simp only [hnp,Option.some.injEq] at ht
      subst ht
      simp only [exec] at he
      split at he
      ·rename_i t2 k2 hr
       simp only [Option.some.injEq,Prod.mk.injEq,true_and] at he
       obtain ⟨rfl,rfl⟩:=he
       have hA:=drawP (fb:=fb) hpure hok hnp (pairsOf pureF ops as) 0 (t,h) rfl (Nat.zero_le _) (by rw [e1]; exact hr)
       rw [e1,e2,Nat.sub_zero] at hA
       refine wpIn_region_any hm (sim_any hcall has ops.size _ g h { w with drawn:=w.drawn + 1 } t a hA hgc (s.drew _) ?_ rfl ?_)
       ·exact r.ext (Ext.drew g h w _) s
       ·rintro t2 h2 g2 w2 a2 hf p1 p2 p3 p4
        cases hf
        exact hQ g2 w2 a2 p1 ((Ext.drew g h w _).trans p2) p3 p4
      ·cases he
     | false =>
      simp only [hnp,Option.some.injEq] at ht
      subst ht
      simp only [exec] at he
      split at he
      ·rename_i t2 k2 hr
       simp only [Option.some.injEq,Prod.mk.injEq,true_and] at he
       obtain ⟨rfl,rfl⟩:=he
       have hA:=drawA (fb:=fb) (frameC_pure hpure) (frameC_look hpure) frameC_frame frameC_grow hok (pairsOf pureF ops as) 0 [] (t,h) rfl (Nat.zero_le _) rfl (fun q _ _ hq => by omega) (Nat.le_refl _) hr
       have e1:(pairsOf pureF ops as).map (·.1) = as:=by
        unfold pairsOf
        rw [List.map_map]
        apply List.ext_getElem?
        intro i
        simp [List.getElem?_zipIdx]
        cases as[i]? <;> rfl
       have e2:firstB ops.size 0 = Array.replicate ops.size false:=by
        apply Array.ext'
        simp only [firstB,Nat.not_lt_zero,decide_false,Array.toList_replicate]
        rw [List.map_const',List.length_range]
       rw [e1,e2,Nat.sub_zero] at hA
       refine wpIn_region_any hm (sim_any (frameC_ok hcall) has ops.size _ g h { w with drawn:=w.drawn + 1 } t a hA hgc (s.drew _) ?_ rfl ?_)
       ·exact r.ext (Ext.drew g h w _) s
       ·rintro t2 h2 g2 w2 a2 hf p1 p2 p3 p4
        cases hf
        exact hQ g2 w2 a2 p1 ((Ext.drew g h w _).trans p2) p3 p4
      ·cases he
    ·cases ht
  have norm:∀ {x t1 k1},exec pureF call N fb a0 t h = some (x,t1,k1) → x = .norm:=by
   intro x t1 k1 he
   simp only [trRegion] at ht
   cases draw with
   | false =>
    simp only at ht
    split at ht
    ·cases ht
    simp only [Option.some.injEq] at ht
    subst ht
    simp only [exec] at he
    split at he <;> cases he
    rfl
   | true =>
    simp only at ht
    split at ht
    ·simp only [Option.some.injEq] at ht
     subst ht
     simp only [exec] at he
     split at he <;> cases he
     rfl
    split at ht
    ·cases ht
    split at ht
    ·split at ht
     ·simp only [Option.some.injEq] at ht
      subst ht
      simp only [exec] at he
      split at he <;> cases he
      rfl
     ·simp only [Option.some.injEq] at ht
      subst ht
      simp only [exec] at he
      split at he <;> cases he
      rfl
    ·cases ht
  cases hl:lt.here with
  | nil =>
   simp only [hl,withClr] at he
   have:=norm he
   subst this
   exact main t' h' he Q (fun g' w' a' q1 q2 q3 q4 => hQ g' w' a' q1 q2 q3 (by rw [q4]; exact hd.ext q2))
  | cons d ds =>
   simp only [hl,withClr,exec] at he
   split at he
   ·rename_i t1 k1 hr
    simp only [Option.some.injEq,Prod.mk.injEq] at he
    obtain ⟨rfl,rfl,rfl⟩:=he
    exact main t1 k1 hr Q (fun g' w' a' q1 q2 q3 q4 => hQ g' w' a' q1 q2 (q3.clear _) (by rw [q4]; exact hd.ext q2))
   ·rename_i hne
    have:=norm he
    subst this
    exact absurd he (hne _ _)
 | seq c1 c2 =>
  have ih1:=ihall c1 (by simp only [Code.seq.sizeOf_spec]; omega)
  have ih2:=ihall c2 (by simp only [Code.seq.sizeOf_spec]; omega)
  intro kk lt ac ht hcd fb g h w t a x t' h' Q he hgc s r hd hQ
  simp only [trCode] at ht
  split at ht
  case h_2 => cases ht
  rename_i a1 a2 h1 h2
  cases ht
  have plain:exec pureF call N fb (.seq a1 a2) t h = some (x,t',h') → (Code.seq c1 c2).wpIn (FR rd) nn P Q a w:=by
   intro he
   simp only [exec] at he
   have hcA:∀ i lc,(rangesOf c1)[i]? = some lc → codesOf P fid (kk + i) = some lc:=fun i lc hi => hcd i lc (by
    simp only [rangesOf]; rw [List.getElem?_append_left (List.getElem?_eq_some_iff.1 hi).1]; exact hi)
   have hcB:∀ i lc,(rangesOf c2)[i]? = some lc → codesOf P fid (kk + (rangesOf c1).length + i) = some lc:=fun i lc hi => by
    rw [Nat.add_assoc]
    exact hcd _ lc (by simp only [rangesOf]; rw [List.getElem?_append_right (by omega),Nat.add_sub_cancel_left]; exact hi)
   refine wpIn_seq ?_
   split at he
   ·rename_i t1 k1 hr
    exact ih1 _ _ a1 h1 hcA fb g h w t a _ _ _ _ hr hgc s r hd (fun g' w' a' q1 q2 q3 q4 => ih2 _ _ a2 h2 hcB fb g' k1 w' t1 a' x t' h' Q he (q2.code.trans hgc) q1 q3 q4 (fun g2 w2 a3 p1 p2 p3 p4 => hQ g2 w2 a3 p1 (q2.trans p2) p3 p4))
   ·rename_i hne
    refine ih1 _ _ a1 h1 hcA fb g h w t a x t' h' _ he hgc s r hd (fun g' w' a' q1 q2 q3 q4 => ?_)
    cases x with
    | norm => exact absurd he (hne _ _)
    | exit id => exact hQ g' w' a' q1 q2 q3 q4
    | ret => exact hQ g' w' a' q1 q2 q3 q4
  unfold mrCode at he
  split at he
  case h_2 => exact plain he
  rename_i i B2 B2A hparts hin
  split at he
  case h_2 => exact plain he
  rename_i A0 A3 mA hA0 hA3 hmA hmt
  obtain ⟨-,hr0,lt',B3,hB3,hin',-,hr2,r1,r2,r3,ops1,ops2,ops3,c,id,id',id2,hops,rfl,rfl⟩:=mr_shape hparts h1 h2
  rw [hin] at hin'
  cases hin'
  obtain ⟨o1,o2,o3,o4,e1,e2,e3,rfl,rfl,e4,e5,e6,e7,q1,g1,q2,q3,q4,q5,g4,d1,d2⟩:=mrOps_some hops
  rw [e6] at hA0
  rw [e7] at hA3
  rw [e4,e5] at he
  obtain ⟨kt,et,hmt⟩:∃ kt et,P.underlying i.mt = some (.map kt et):=by
   unfold isMap at hmt
   split at hmt
   ·exact ⟨_,_,by assumption⟩
   ·cases hmt
  have ihB:=ihall B2 (by simp only [Code.seq.sizeOf_spec,Code.block.sizeOf_spec,Code.loop.sizeOf_spec,Code.region.sizeOf_spec,Code.cond.sizeOf_spec]; omega)
  have hcB:∀ j lc,(rangesOf B2)[j]? = some lc → codesOf P fid (kk + (rangesOf (Code.region r1 ops1 false)).length + j) = some lc:=fun j lc hj => by
   have:=hcd j lc (by simp only [rangesOf,List.nil_append,List.append_nil]; simpa [rangesOf] using hj)
   simpa [rangesOf] using this
  simp only [exec] at he
  split at he
  case h_2 hne =>
   cases hr:runOps call fb A0 t h with
   | none => simp [hr] at he
   | some q => exact absurd (by rw [hr]) (hne q.1 q.2)
  rename_i t1 k1 hr1
  split at hr1
  case h_2 => cases hr1
  rename_i t2 k2 hr
  cases hr1
  refine wpIn_seq (wpIn_region_list ?_)
  rw [e1]
  refine sim_ops_app hcall i.init A0 g h w t a t1 k1 hA0 hr hgc s r rfl (fun g1' w1 a1' p1 p2 p3 p4 => ?_)
  simp only [wpListIn,wanted_none g1,if_true]
  have hB:∀ (g:G) (h:Heap) (w:World) (t:List V) (a a0:Act) (v:Value) (x:Ex) (t':List V) (h':Heap) (Q:Exit → Act → World → Prop),(execOp a0.eval o4).run P w = .ok (.value v) w → a = a0.put (some i.en) v →
    exec pureF call N fb (.block id2 (.seq (.region A3) B2A)) t h = some (x,t',h') → g.code = codesOf P → Sim g h w → TRel g w t a.tmps → Mk m g h w a.defers →
    (∀ g' w' a',Sim g' h' w' → Ext g h w g' h' w' → TRel g' w' t' a'.tmps → Mk m g' h' w' a'.defers → Q x.to a' w') → (Code.block id2 ((Code.region r3 ops3 false).seq B2)).wpIn (FR rd) nn P Q a0 w:=by
   intro g h w t a a0 v x t' h' Q hrun ha he hgc s r hd hQ
   subst ha
   simp only [exec] at he
   refine wpIn_block (wpIn_seq (wpIn_region_list ?_))
   rw [e3]
   simp only [wpListIn,wanted_none g4,if_true]
   refine wpIn_value (by simp [q4]) hrun ?_
   rw [q5]
   cases hr3:runOps call fb A3 t h with
   | none => simp [hr3] at he
   | some q =>
    obtain ⟨t3,k3⟩:=q
    simp only [hr3] at he
    refine sim_ops hcall i.rest A3 g h w t _ t3 k3 hA3 hr3 hgc s r rfl (fun g3 w3 a3 u1 u2 u3 u4 => ?_)
    show B2.wpIn (FR rd) nn P (Exit.inBlock id2 Q) a3 w3
    have hd3:Mk m g3 k3 w3 a3.defers:=by rw [u4]; exact hd.ext u2
    cases hb:exec pureF call N fb B2A t3 k3 with
    | none => simp [hb] at he
    | some z =>
     obtain ⟨x4,t4,k4⟩:=z
     refine ihB _ _ _ hB3 hcB fb g3 k3 w3 t3 a3 x4 t4 k4 _ hb (u2.code.trans hgc) u1 u3 hd3 (fun g5 w5 a5 v1 v2 v3 v4 => ?_)
     simp only [hb] at he
     cases x4 with
     | norm => cases he; exact hQ g5 w5 a5 v1 (u2.trans v2) v3 v4
     | ret => cases he; exact hQ g5 w5 a5 v1 (u2.trans v2) v3 v4
     | exit j =>
      show Exit.inBlock id2 Q (.exit j) a5 w5
      simp only [Exit.inBlock]
      simp only at he
      split at he
      ·rename_i hj; cases he; rw [if_pos hj]; exact hQ g5 w5 a5 v1 (u2.trans v2) v3 v4
      ·rename_i hj; cases he; rw [if_neg hj]; exact hQ g5 w5 a5 v1 (u2.trans v2) v3 v4
  have hdm:Mk m g1' k1 w1 a1'.defers:=by rw [p4]; exact hd.ext p2
  generalize hkill:List.map (fun x => List.idxOf x al) (siteDsts P (Code.block id' (Code.loop ((Code.region r2 ops2 false).seq ((Code.cond (Operand.tmp i.ok) Code.skip (Code.exit id')).seq (Code.block id2 ((Code.region r3 ops3 false).seq B2))))))) = kill at he
  have use:∀ (x0:Ex),exec pureF call N fb (.rangeM mA i.it i.nx i.ok i.en (al.idxOf i.it) lt.here kill (.block id2 (.seq (.region A3) B2A))) t1 k1 = some (x0,t',h') → (∀ g' w' a',Sim g' h' w' → Ext g1' k1 w1 g' h' w' → TRel g' w' t' a'.tmps → Mk m g' h' w' a'.defers → Exit.inBlock id' Q (endE x0 id') a' w') →
    o1.wpIn (FR rd) nn P a1' w1 (fun a1 w1 => (Code.block id' (.loop (.seq (.region r2 ops2 false) (.seq (.cond (.tmp i.ok) .skip (.exit id')) (Code.block id2 ((Code.region r3 ops3 false).seq B2)))))).wpIn (FR rd) nn P Q a1 w1) (Exit.then (fun a1 w1 => (Code.block id' (.loop (.seq (.region r2 ops2 false) (.seq (.cond (.tmp i.ok) .skip (.exit id')) (Code.block id2 ((Code.region r3 ops3 false).seq B2)))))).wpIn (FR rd) nn P Q a1 w1) Q) :=
   fun x0 hz hQ' => sim_mapRange q1 hmA hmt q2 q3 q4 e2 d1 d2 hB hz (p2.code.trans hgc) p1 p3 hdm hQ'
  split at he
  ·rename_i i0 t5 k5 hz
   split at he
   ·rename_i hi0
    cases he
    exact use _ hz (fun g' w' a' u1 u2 u3 u4 => by simp only [endE,Ex.to,Exit.inBlock,hi0,if_true]; exact hQ g' w' a' u1 (p2.trans u2) u3 u4)
   ·rename_i hi0
    cases he
    exact use _ hz (fun g' w' a' u1 u2 u3 u4 => by simp only [endE,Ex.to,Exit.inBlock,hi0,if_false]; exact hQ g' w' a' u1 (p2.trans u2) u3 u4)
  ·rename_i hne
   refine use x he (fun g' w' a' u1 u2 u3 u4 => ?_)
   cases x with
   | norm => simp only [endE,Exit.inBlock,if_true]; exact hQ g' w' a' u1 (p2.trans u2) u3 u4
   | exit j => exact absurd he (hne _ _ _)
   | ret => simp only [endE,Ex.to,Exit.inBlock]; exact hQ g' w' a' u1 (p2.trans u2) u3 u4
 | cond cnd c1 c2 =>
  have ih1:=ihall c1 (by simp only [Code.cond.sizeOf_spec]; omega)
  have ih2:=ihall c2 (by simp only [Code.cond.sizeOf_spec]; omega)
  intro kk lt ac ht hcd fb g h w t a x t' h' Q he hgc s r hd hQ
  simp only [trCode] at ht
  split at ht
  case h_2 => cases ht
  rename_i o a1 a2 h0 h1 h2
  cases ht
  have pre:∀ (l:List Nat) (ac:ACode),exec pureF call N fb (preClr l ac) t h = some (x,t',h') → ∃ t0,exec pureF call N fb ac t0 h = some (x,t',h') ∧ TRel g w t0 a.tmps:=by
   intro l ac he
   cases l with
   | nil => exact ⟨t,he,r⟩
   | cons d ds => exact ⟨_,he,r.clear _⟩
  simp only [exec] at he
  have hcA:∀ i lc,(rangesOf c1)[i]? = some lc → codesOf P fid (kk + i) = some lc:=fun i lc hi => hcd i lc (by
   simp only [rangesOf]; rw [List.getElem?_append_left (List.getElem?_eq_some_iff.1 hi).1]; exact hi)
  have hcB:∀ i lc,(rangesOf c2)[i]? = some lc → codesOf P fid (kk + (rangesOf c1).length + i) = some lc:=fun i lc hi => by
   rw [Nat.add_assoc]
   exact hcd _ lc (by simp only [rangesOf]; rw [List.getElem?_append_right (by omega),Nat.add_sub_cancel_left]; exact hi)
  have hr:=r.opd _ _ h0
  split at he
  ·rename_i hv
   rw [hv] at hr
   obtain ⟨t0,he,r0⟩:=pre _ _ he
   refine wpIn_cond_true ?_ (ih1 _ _ a1 h1 hcA fb g h w t0 a x t' h' Q he hgc s r0 hd hQ)
   generalize a.eval cnd = X at hr
   cases hr
   rfl
  ·rename_i hv
   rw [hv] at hr
   obtain ⟨t0,he,r0⟩:=pre _ _ he
   refine wpIn_cond_false ?_ (ih2 _ _ a2 h2 hcB fb g h w t0 a x t' h' Q he hgc s r0 hd hQ)
   generalize a.eval cnd = X at hr
   cases hr
   rfl
  ·cases he
 | block id c =>
  have ih:=ihall c (by simp only [Code.block.sizeOf_spec]; omega)
  intro kk lt ac ht hcd fb g h w t a x t' h' Q he hgc s r hd hQ
  simp only [trCode,Option.map_eq_some_iff] at ht
  obtain ⟨a1,h1,rfl⟩:=ht
  simp only [exec] at he
  refine wpIn_block ?_
  split at he
  ·rename_i i t1 k1 hr
   refine ih _ _ a1 h1 hcd fb g h w t a _ _ _ _ hr hgc s r hd (fun g' w' a' q1 q2 q3 q4 => ?_)
   show Exit.inBlock id Q (.exit i) a' w'
   simp only [Exit.inBlock]
   split at he
   ·rename_i hi
    simp only [Option.some.injEq,Prod.mk.injEq] at he
    obtain ⟨rfl,rfl,rfl⟩:=he
    rw [if_pos hi]
    exact hQ g' w' a' q1 q2 q3 q4
   ·rename_i hi
    simp only [Option.some.injEq,Prod.mk.injEq] at he
    obtain ⟨rfl,rfl,rfl⟩:=he
    rw [if_neg hi]
    exact hQ g' w' a' q1 q2 q3 q4
  ·rename_i hne
   refine ih _ _ a1 h1 hcd fb g h w t a x t' h' _ he hgc s r hd (fun g' w' a' q1 q2 q3 q4 => ?_)
   cases x with
   | norm => exact hQ g' w' a' q1 q2 q3 q4
   | exit i => exact absurd he (hne _ _ _)
   | ret => exact hQ g' w' a' q1 q2 q3 q4
 | scope c =>
  have ih:=ihall c (by simp only [Code.scope.sizeOf_spec]; omega)
  intro kk lt ac ht hcd fb g h w t a x t' h' Q he hgc s r hd hQ
  simp only [trCode] at ht
  refine wpIn_scope_straight (ih kk lt ac ht hcd fb g h w t a x t' h' _ he hgc s r hd (fun g' w' a' q1 q2 q3 q4 => ?_))
  cases x <;> exact hQ g' w' a' q1 q2 q3 q4
 | loop c =>
  have ih:=ihall c (by simp only [Code.loop.sizeOf_spec]; omega)
  intro kk lt ac ht hcd fb g h w t a x t' h' Q he hgc s r hd hQ
  simp only [trCode,Option.map_eq_some_iff] at ht
  obtain ⟨a1,h1,rfl⟩:=ht
  simp only [exec] at he
  have key:∀ (n:Nat) (g0:G) (h0:Heap) (w0:World) (t0:List V) (a0:Act),loopN (exec pureF call N fb (freshC lt.snd.here a1)) (fun t h => (clear lt.here t,killA fb [] h)) n t0 h0 = some (x,t',h') → Sim g0 h0 w0 → Ext g h w g0 h0 w0 → TRel g0 w0 t0 a0.tmps → Mk m g0 h0 w0 a0.defers →
    Code.roundsIn (FR rd) nn P c Q n a0 w0:=by
   intro n
   induction n with
   | zero => intro g0 h0 w0 t0 a0 he0; simp [loopN] at he0
   | succ n ihn =>
    intro g0 h0 w0 t0 a0 he0 s0 x0 r0 d0'
    have hg:∃ fb' hk,Sim g0 hk w0 ∧ Ext g0 h0 w0 g0 hk w0 ∧ exec pureF call N fb (freshC lt.snd.here a1) (clear lt.here t0) h0 = exec pureF call N fb' a1 (clear lt.here t0) hk:=by
     cases lt.snd.here with
     | nil => exact ⟨fb,h0,s0,Ext.refl _ _ _,rfl⟩
     | cons k l =>
      obtain ⟨q1,q2⟩:=sim_grow s0 k
      exact ⟨h0.length,h0 ++ deads k,q1,q2,rfl⟩
    obtain ⟨fb',hk,sk,xk,hx⟩:=hg
    have hkill:killA fb [] h0 = h0:=rfl
    simp only [loopN,hkill,hx] at he0
    have hgk:=(x0.trans xk).code.trans hgc
    have dk:=d0'.ext xk
    rw [roundsIn_succ]
    split at he0
    ·rename_i t1 k1 hr
     exact ih _ _ a1 h1 hcd fb' g0 _ w0 _ a0 _ _ _ _ hr hgk sk (r0.clear _) dk (fun g' w' a' q1 q2 q3 q4 => ihn g' k1 w' t1 a' he0 q1 ((x0.trans xk).trans q2) q3 q4)
    ·rename_i hne
     refine ih _ _ a1 h1 hcd fb' g0 _ w0 _ a0 x t' h' _ he0 hgk sk (r0.clear _) dk (fun g' w' a' q1 q2 q3 q4 => ?_)
     cases x with
     | norm => exact absurd he0 (hne _ _)
     | exit i => exact hQ g' w' a' q1 ((x0.trans xk).trans q2) q3 q4
     | ret => exact hQ g' w' a' q1 ((x0.trans xk).trans q2) q3 q4
  exact wpIn_loop_rounds N (key N g h w t a he s (Ext.refl _ _ _) r hd)
 | rangeFunc g0 ps asn body =>
  intro kk lt ac ht hcd fb g h w t a x t' h' Q he hgc s r hd hQ
  cases inR with
  | true => simp [trCode] at ht
  | false =>
   cases hrd rfl
   simp only [trCode] at ht
   split at ht
   case h_2 => cases ht
   rename_i f A B hf hA hB
   cases ht
   exact sim_rangeF hcall hf (hcd 0 _ rfl) he hgc s r hd hQ
 | _ => intro kk lt ac ht; cases inR <;> simp [trCode] at ht
end Go.Am


set_option linter.unusedVariables false
set_option linter.unusedSimpArgs false
namespace Go.Am
variable {P:Program}
mutual
def V.free:(v:V) → Bool
 | .ptr .. | .view .. | .vend .. | .map .. | .yld .. => false
 | .iptr cs _ => V.freeL cs
 | .sl L _ _ => V.freeL L
 | .func _ xs ys => V.freeL xs && V.freeL ys
 | .iface _ v => V.free v
 | .agg cs => V.freeL cs
 | .tup cs => V.freeL cs
 | _ => true
 termination_by structural v => v
def V.freeL:(l:List V) → Bool
 | [] => true
 | v :: l => V.free v && V.freeL l
 termination_by structural l => l
end
theorem freeL_get:∀ {l:List V},V.freeL l = true → ∀ (i:Nat) (c:V),l[i]? = some c → c.free = true
 | [],_,i,c,h => by simp at h
 | v :: l,hf,i,c,h => by
  simp only [V.freeL,Bool.and_eq_true] at hf
  cases i with
  | zero => simp at h; subst h; exact hf.1
  | succ i => simp at h; exact freeL_get hf.2 i c h
theorem freeL_of:∀ {l:List V},(∀ c ∈ l,c.free = true) → V.freeL l = true
 | [],_ => rfl
 | v :: l,h => by
  have h1:=h v (by simp)
  have h2:=freeL_of (l:=l) (fun c hc => h c (by simp [hc]))
  simp [V.freeL,h1,h2]
theorem free_cells {e:V} (h:e.free = true):∀ (j:Nat) (c:V),e.cells[j]? = some c → c.free = true:=by
 have one:∀ (j:Nat) (c:V),[e][j]? = some c → c.free = true:=fun j c hc => by
  cases j with
  | zero => simp at hc; subst hc; exact h
  | succ j => simp at hc
 cases e with
 | agg cs => exact fun j c hc => freeL_get (l:=cs) (by simpa [V.free] using h) j c hc
 | _ => exact one
theorem VRel.free {g g':G} {w:World} {v:V} {x:Value} (h:VRel g w v x) (hi:∀ b,g.imm b → g'.imm b):v.free = true → VRel g' w v x:=by
 induction h with
 | junk x => exact fun _ => .junk x
 | bool b => exact fun _ => .bool b
 | int k n => exact fun _ => .int k n
 | str s => exact fun _ => .str s
 | nilp => exact fun _ => .nilp
 | ptr o t off b base h => intro hf; simp [V.free] at hf
 | iptr cs off b base f h1 hc hv ih => exact fun hf => .iptr cs off b base f (hi _ h1) hc (fun j c hj => ih j c hj (freeL_get (by simpa [V.free] using hf) j c hj))
 | nils => exact fun _ => .nils
 | view o t off len s cap b base c n e h hl hk hs hn => intro hf; simp [V.free] at hf
 | vend o t s b base x c n e h hs hn => intro hf; simp [V.free] at hf
 | sl L s cap b off c f h1 hl hk hz hc hv ih =>
  exact fun hf => .sl L s cap b off c f (fun h => hi _ (h1 h)) hl hk hz hc (fun i e j x he hx => ih i e j x he hx (free_cells (freeL_get (by simpa [V.free] using hf) i e he) j x hx))
 | sl0 s cap a hk => exact fun _ => .sl0 s cap a hk
 | nilm => exact fun _ => .nilm
 | map o t b h => intro hf; simp [V.free] at hf
 | nilf => exact fun _ => .nilf
 | func f xs ys xs' ys' hx hy h1 h2 i1 i2 =>
  intro hf
  simp only [V.free,Bool.and_eq_true] at hf
  exact .func f xs ys xs' ys' hx hy (fun i x hi => i1 i x hi (freeL_get hf.1 i x hi)) (fun i x hi => i2 i x hi (freeL_get hf.2 i x hi))
 | yld o t b h => intro hf; simp [V.free] at hf
 | nili => exact fun _ => .nili
 | iface t v x h ih => exact fun hf => .iface t v x (ih (by simpa [V.free] using hf))
 | agg cs xs hx h ih => exact fun hf => .agg cs xs hx (fun i c hc => ih i c hc (freeL_get (by simpa [V.free] using hf) i c hc))
 | tup cs xs hx h ih => exact fun hf => .tup cs xs hx (fun i c hc => ih i c hc (freeL_get (by simpa [V.free] using hf) i c hc))
def V.shut (get:Nat → Option Ob):Nat → V → Option V
 | 0,_ => none
 | d + 1,v =>
  if v.free then some v else
  match v with
  | .view o ver off len s cap =>
   match loadA get (len * s) (.ptr o ver off) with
   | some cs => match cs.mapM (V.shut get d) with
    | some cs => if cs.all V.oneCell then some (.sl ((List.range len).map fun i => wrapV ((cs.drop (i * s)).take s)) s cap) else none
    | none => none
   | none => none
  | .vend o ver s => match cellsAt get o ver with | some _ => some (.sl [] s none) | none => none
  | .agg cs => (cs.mapM (V.shut get d)).map .agg
  | .tup cs => (cs.mapM (V.shut get d)).map .tup
  | .iface t v => (V.shut get d v).map (.iface t)
  | .ptr o ver off => match cellsAt get o ver with
   | some all => (all.mapM (V.shut get d)).map fun cs => .iptr cs off
   | none => none
  | .func f xs ys => match xs.mapM (V.shut get d),ys.mapM (V.shut get d) with
   | some xs,some ys => some (.func f xs ys)
   | _,_ => none
  | _ => none
theorem mapM_get {f:V → Option V}:∀ {l l':List V},l.mapM f = some l' → l'.length = l.length ∧ ∀ (i:Nat) (c:V),l'[i]? = some c → ∃ b,l[i]? = some b ∧ f b = some c
 | [],l',h => by simp at h; subst h; simp
 | x :: l,l',h => by
  simp only [List.mapM_cons,Option.bind_eq_bind,Option.bind_eq_some_iff,Option.pure_def,Option.some.injEq] at h
  obtain ⟨y,hy,l2,hl,rfl⟩:=h
  obtain ⟨h1,h2⟩:=mapM_get hl
  refine ⟨by simp [h1],fun i c hi => ?_⟩
  cases i with
  | zero => simp at hi; subst hi; exact ⟨x,rfl,hy⟩
  | succ i => simp at hi ⊢; exact h2 i c hi
def sealG (g:G) (h:Heap):G:=⟨fun _ _ => none,fun b => g.imm b ∨ ∃ o,blk g h o = some b,g.code⟩
theorem wrapV_free {l:List V} (h:∀ c ∈ l,c.free = true):(wrapV l).free = true:=by
 match l with
 | [] => rfl
 | [x] => exact h x (by simp)
 | x :: y :: l => exact freeL_of h
theorem sim_seal {g:G} {h:Heap} {w:World} (s:Sim g h w):∀ (d:Nat) (v v':V) (x:Value),V.shut (fun o => h[o]?) d v = some v' → VRel g w v x → VRel (sealG g h) w v' x ∧ v'.free = true
 | 0,v,v',x,hs,_ => by simp [V.shut] at hs
 | d + 1,v,v',x,hs,hv => by
  have IH:=sim_seal s d
  unfold V.shut at hs
  split at hs
  ·rename_i hf
   cases hs
   exact ⟨hv.free (fun b hb => .inl hb) hf,hf⟩
  ·rename_i hf
   split at hs
   ·rename_i o ver off len sz cap
    split at hs
    case h_2 => cases hs
    rename_i cs hl
    split at hs
    case h_2 => cases hs
    rename_i cs' hm
    split at hs
    case isFalse => cases hs
    rename_i h1
    cases hs
    cases hv with
    | view _ _ _ _ _ _ b base c n e hg hlc hk hsh hn =>
     obtain ⟨b1,o1,xs,he,l1,l2,l3,l4⟩:=goes_loads s (.ptr o ver off b base hg) hl
     cases he
     obtain ⟨m1,m2⟩:=mapM_get hm
     have hlive:∃ o,blk g h o = some b:=by
      have:∃ all,cellsAt (fun o => h[o]?) o ver = some all:=by
       simp only [loadA] at hl
       split at hl
       ·rename_i all ha; exact ⟨all,ha⟩
       ·cases hl
      obtain ⟨all,ha⟩:=this
      obtain ⟨_,b',base',-,-,-,hg',hb,-⟩:=sim_cells s ha
      rw [hg] at hg'
      cases hg'
      exact ⟨o,hb⟩
     have hone:∀ c ∈ cs',c.oneCell = true:=fun c hc => by simpa using List.all_eq_true.1 h1 c hc
     have hcell:∀ (i:Nat) (c:V),cs'[i]? = some c → ∃ y,xs[i]? = some y ∧ VRel (sealG g h) w c y ∧ c.free = true:=by
      intro i c hc
      obtain ⟨b0,hb0,hsl⟩:=m2 i c hc
      have hlt:i < xs.length:=by
       have:i < cs.length:=by rcases Nat.lt_or_ge i cs.length with k | k; exact k; simp [List.getElem?_eq_none k] at hb0
       omega
      have hr:=l4.2 i b0 _ hb0 (List.getElem?_eq_getElem hlt)
      obtain ⟨q1,q2⟩:=IH b0 c _ hsl hr
      exact ⟨_,List.getElem?_eq_getElem hlt,q1,q2⟩
     have hget:∀ (i:Nat) (el:V),((List.range len).map fun i => wrapV ((cs'.drop (i * sz)).take sz))[i]? = some el → i < len ∧ el = wrapV ((cs'.drop (i * sz)).take sz) ∧ el.cells = (cs'.drop (i * sz)).take sz ∧ ((cs'.drop (i * sz)).take sz).length = sz:=by
      intro i el hel
      rcases Nat.lt_or_ge i len with hlt | hge
      ·rw [List.getElem?_map,List.getElem?_range hlt] at hel
       simp only [Option.map_some,Option.some.injEq] at hel
       have hmul:(i + 1) * sz ≤ len * sz:=Nat.mul_le_mul_right _ hlt
       rw [Nat.add_mul,Nat.one_mul] at hmul
       refine ⟨hlt,hel.symm,?_,by simp; omega⟩
       rw [← hel]
       exact wrap_cells ((cs'.drop (i * sz)).take sz) (fun c hc => hone c (List.mem_of_mem_drop (List.mem_of_mem_take hc)))
      ·rw [List.getElem?_eq_none (by simpa using hge)] at hel
       cases hel
     refine ⟨?_,?_⟩
     ·have:=VRel.sl (g:=sealG g h) (w:=w) ((List.range len).map fun i => wrapV ((cs'.drop (i * sz)).take sz)) sz cap b (base + off) c (fun j => (xs[j]?).getD undef) (fun _ => .inr hlive) (by simpa using hlc) hk
       (fun i el hel => by rw [(hget i el hel).2.2.1]; exact (hget i el hel).2.2.2)
       (fun j hj => by
        simp only [List.length_map,List.length_range] at hj
        have hlt:j < xs.length:=by omega
        rw [List.getElem?_eq_getElem hlt]
        exact l3 j _ (List.getElem?_eq_getElem hlt))
       (fun i el j x hel hx => by
        obtain ⟨hi1,-,hi2,hi3⟩:=hget i el hel
        rw [hi2,List.getElem?_take] at hx
        split at hx
        case isFalse => cases hx
        rw [List.getElem?_drop] at hx
        obtain ⟨y,hy,hr,-⟩:=hcell _ _ hx
        rw [hy]
        exact hr)
      simpa using this
     ·refine freeL_of (fun el hel => ?_)
      obtain ⟨i,hi,rfl⟩:=List.getElem_of_mem hel
      obtain ⟨-,e1,-,-⟩:=hget i _ (List.getElem?_eq_getElem hi)
      rw [e1]
      refine wrapV_free (fun c hc => ?_)
      obtain ⟨k,hk',rfl⟩:=List.getElem_of_mem (List.mem_of_mem_drop (List.mem_of_mem_take hc))
      exact (hcell k _ (List.getElem?_eq_getElem hk')).choose_spec.2.2
   ·rename_i o ver sz
    split at hs
    case h_2 => cases hs
    rename_i all ha
    cases hs
    cases hv with
    | vend _ _ _ b base x c n e hg hsh hn =>
     obtain ⟨_,b',base',-,-,-,hg',hb,-⟩:=sim_cells s ha
     rw [hg] at hg'
     cases hg'
     refine ⟨?_,rfl⟩
     have:=VRel.sl (g:=sealG g h) (w:=w) [] sz none b x c (fun _ => undef) (fun _ => .inr ⟨o,hb⟩) (Nat.zero_le _) (fun k hk => by cases hk) (fun i e h => by simp at h) (fun j hj => by simp at hj) (fun i e j x h => by simp at h)
     exact this
   ·rename_i cs
    simp only [Option.map_eq_some_iff] at hs
    obtain ⟨cs',hm,rfl⟩:=hs
    obtain ⟨m1,m2⟩:=mapM_get hm
    cases hv with
    | agg _ xs hx hc =>
     refine ⟨.agg cs' xs (by omega) (fun i c hi => ?_),freeL_of (fun c hc' => ?_)⟩
     ·obtain ⟨b,hb,hsl⟩:=m2 i c hi
      exact (IH b c _ hsl (hc i b hb)).1
     ·obtain ⟨i,hi,rfl⟩:=List.getElem_of_mem hc'
      obtain ⟨b,hb,hsl⟩:=m2 i _ (List.getElem?_eq_getElem hi)
      exact (IH b _ _ hsl (hc i b hb)).2
   ·rename_i cs
    simp only [Option.map_eq_some_iff] at hs
    obtain ⟨cs',hm,rfl⟩:=hs
    obtain ⟨m1,m2⟩:=mapM_get hm
    cases hv with
    | tup _ xs hx hc =>
     refine ⟨.tup cs' xs (by omega) (fun i c hi => ?_),freeL_of (fun c hc' => ?_)⟩
     ·obtain ⟨b,hb,hsl⟩:=m2 i c hi
      exact (IH b c _ hsl (hc i b hb)).1
     ·obtain ⟨i,hi,rfl⟩:=List.getElem_of_mem hc'
      obtain ⟨b,hb,hsl⟩:=m2 i _ (List.getElem?_eq_getElem hi)
      exact (IH b _ _ hsl (hc i b hb)).2
   ·rename_i t v
    simp only [Option.map_eq_some_iff] at hs
    obtain ⟨v2,hm,rfl⟩:=hs
    cases hv with
    | iface _ _ x h =>
     obtain ⟨q1,q2⟩:=IH _ _ _ hm h
     exact ⟨.iface _ _ _ q1,q2⟩
   ·rename_i o ver off
    split at hs
    case h_2 => cases hs
    rename_i all ha
    simp only [Option.map_eq_some_iff] at hs
    obtain ⟨cs',hm,rfl⟩:=hs
    obtain ⟨m1,m2⟩:=mapM_get hm
    cases hv with
    | ptr _ _ _ b base hg =>
     obtain ⟨_,b',base',-,-,-,hg',hb,-,-,-,hlies⟩:=sim_cells s ha
     rw [hg] at hg'
     cases hg'
     have hcell:∀ j,j < cs'.length → ∃ y,w.cell? (at_ b (base + j)) = some y ∧ ∀ c,cs'[j]? = some c → VRel (sealG g h) w c y ∧ c.free = true:=by
      intro j hj
      obtain ⟨y,hy,hr⟩:=hlies j _ (List.getElem?_eq_getElem (by omega))
      refine ⟨y,hy,fun c hc => ?_⟩
      obtain ⟨b0,hb0,hsl⟩:=m2 j c hc
      rw [List.getElem?_eq_getElem (by omega)] at hb0
      cases hb0
      exact IH _ c _ hsl hr
     refine ⟨.iptr cs' off b base (fun j => (w.cell? (at_ b (base + j))).getD undef) (.inr ⟨o,hb⟩) (fun j hj => ?_) (fun j c hj => ?_),freeL_of (fun c hc => ?_)⟩
     ·obtain ⟨y,hy,-⟩:=hcell j hj
      rw [hy]; rfl
     ·have hlt:j < cs'.length:=by rcases Nat.lt_or_ge j cs'.length with k | k; exact k; simp [List.getElem?_eq_none k] at hj
      obtain ⟨y,hy,hr⟩:=hcell j hlt
      rw [hy]
      exact (hr c hj).1
     ·obtain ⟨j,hj,rfl⟩:=List.getElem_of_mem hc
      obtain ⟨y,hy,hr⟩:=hcell j hj
      exact (hr _ (List.getElem?_eq_getElem hj)).2
   ·rename_i f xs ys
    split at hs
    case h_2 => cases hs
    rename_i xs' ys' hm1 hm2
    cases hs
    obtain ⟨m1,m2⟩:=mapM_get hm1
    obtain ⟨n1,n2⟩:=mapM_get hm2
    cases hv with
    | func _ _ _ X Y hX hY h1 h2 =>
     refine ⟨.func f xs' ys' X Y (by omega) (by omega) (fun i c hi => ?_) (fun i c hi => ?_),?_⟩
     ·obtain ⟨b,hb,hsl⟩:=m2 i c hi
      exact (IH b c _ hsl (h1 i b hb)).1
     ·obtain ⟨b,hb,hsl⟩:=n2 i c hi
      exact (IH b c _ hsl (h2 i b hb)).1
     ·simp only [V.free,Bool.and_eq_true]
      refine ⟨freeL_of (fun c hc' => ?_),freeL_of (fun c hc' => ?_)⟩
      ·obtain ⟨i,hi,rfl⟩:=List.getElem_of_mem hc'
       obtain ⟨b,hb,hsl⟩:=m2 i _ (List.getElem?_eq_getElem hi)
       exact (IH b _ _ hsl (h1 i b hb)).2
      ·obtain ⟨i,hi,rfl⟩:=List.getElem_of_mem hc'
       obtain ⟨b,hb,hsl⟩:=n2 i _ (List.getElem?_eq_getElem hi)
       exact (IH b _ _ hsl (h2 i b hb)).2
   ·cases hs
mutual
def V.plain:(v:V) → Bool
 | .bool _ | .int .. | .str _ | .nilp | .nils | .nilm | .nilf | .nili => true
 | .agg cs => V.plainL cs
 | .tup cs => V.plainL cs
 | .iface _ v => V.plain v
 | _ => false
 termination_by structural v => v
def V.plainL:(l:List V) → Bool
 | [] => true
 | v :: l => V.plain v && V.plainL l
 termination_by structural l => l
end
theorem plainL_get:∀ {l:List V},V.plainL l = true → ∀ (i:Nat) (c:V),l[i]? = some c → c.plain = true
 | [],_,i,c,h => by simp at h
 | v :: l,hf,i,c,h => by
  simp only [V.plainL,Bool.and_eq_true] at hf
  cases i with
  | zero => simp at h; subst h; exact hf.1
  | succ i => simp at h; exact plainL_get hf.2 i c h
theorem VRel.plain {g g':G} {w w':World} {v:V} {x:Value} (h:VRel g w v x):v.plain = true → VRel g' w' v x:=by
 induction h with
 | bool b => exact fun _ => .bool b
 | int k n => exact fun _ => .int k n
 | str s => exact fun _ => .str s
 | nilp => exact fun _ => .nilp
 | nils => exact fun _ => .nils
 | nilm => exact fun _ => .nilm
 | nilf => exact fun _ => .nilf
 | nili => exact fun _ => .nili
 | iface t v x h ih => exact fun hf => .iface t v x (ih (by simpa [V.plain] using hf))
 | agg cs xs hx h ih => exact fun hf => .agg cs xs hx (fun i c hc => ih i c hc (plainL_get (by simpa [V.plain] using hf) i c hc))
 | tup cs xs hx h ih => exact fun hf => .tup cs xs hx (fun i c hc => ih i c hc (plainL_get (by simpa [V.plain] using hf) i c hc))
 | _ => intro hf; simp [V.plain] at hf
mutual
theorem objs_free:∀ (v:V),v.objs = [] → v.free = true
 | .ptr ..,h | .view ..,h | .vend ..,h | .map ..,h | .yld ..,h => by simp [V.objs] at h
 | .iptr cs _,h => objsL_free cs (by simpa [V.objs] using h)
 | .sl L _ _,h => objsL_free L (by simpa [V.objs] using h)
 | .func _ xs ys,h => by
  simp only [V.objs,List.append_eq_nil_iff] at h
  simp only [V.free,Bool.and_eq_true]
  exact ⟨objsL_free xs h.1,objsL_free ys h.2⟩
 | .iface _ v,h => objs_free v (by simpa [V.objs] using h)
 | .agg cs,h => objsL_free cs (by simpa [V.objs] using h)
 | .tup cs,h => objsL_free cs (by simpa [V.objs] using h)
 | .junk,_ | .bool _,_ | .int ..,_ | .str _,_ | .nilp,_ | .nils,_ | .nilm,_ | .nilf,_ | .nili,_ => rfl
 termination_by structural v => v
theorem objsL_free:∀ (l:List V),V.objsL l = [] → V.freeL l = true
 | [],_ => rfl
 | v :: l,h => by
  simp only [V.objsL,List.append_eq_nil_iff] at h
  simp only [V.freeL,Bool.and_eq_true]
  exact ⟨objs_free v h.1,objsL_free l h.2⟩
 termination_by structural l => l
end
theorem mapM_congr {f f':V → Option V}:∀ {l:List V},(∀ c ∈ l,f c = f' c) → l.mapM f = l.mapM f'
 | [],_ => rfl
 | x :: l,h => by
  rw [List.mapM_cons,List.mapM_cons,h x (by simp),mapM_congr (l:=l) (fun c hc => h c (by simp [hc]))]
theorem mem_objsL {l:List V} {c:V} (hc:c ∈ l):∀ o ∈ c.objs,o ∈ V.objsL l:=by
 obtain ⟨i,hi,rfl⟩:=List.getElem_of_mem hc
 exact objsL_get (List.getElem?_eq_getElem hi)
theorem shut_local {get get':Nat → Option Ob} {S:List Nat} (ha:∀ o ∈ S,get o = get' o) (hf:∀ o ∈ S,∀ x,get o = some x → ∀ i ∈ x.bd.objs,i ∈ S):∀ (d:Nat) (v:V),(∀ o ∈ v.objs,o ∈ S) → V.shut get d v = V.shut get' d v
 | 0,v,_ => rfl
 | d + 1,v,hv => by
  have IH:=shut_local (get:=get) (get':=get') ha hf d
  have cells:∀ o ver cs,o ∈ v.objs → cellsAt get o ver = some cs → ∀ c ∈ cs,∀ i ∈ c.objs,i ∈ S:=by
   intro o ver cs ho hc c hm i hi
   obtain ⟨x,hx,hbd⟩:∃ x,get o = some x ∧ (x.bd = .var cs ∨ x.bd = .arr cs):=by
    unfold cellsAt at hc
    split at hc
    ·rename_i v' cs' he
     split at hc
     ·cases hc; exact ⟨_,he,.inl rfl⟩
     ·cases hc
    ·rename_i v' cs' he
     split at hc
     ·cases hc; exact ⟨_,he,.inr rfl⟩
     ·cases hc
    ·cases hc
   refine hf o (hv o ho) x hx i ?_
   have:=mem_objsL hm i hi
   rcases hbd with e | e <;> simpa [e,Bd.objs] using this
  have rec_:∀ (cs:List V),(∀ o,o ∈ V.objsL cs → o ∈ S) → cs.mapM (V.shut get d) = cs.mapM (V.shut get' d):=fun cs hs =>
   mapM_congr (fun c hc => IH c (fun o ho => hs o (mem_objsL hc o ho)))
  unfold V.shut
  cases v with
  | view o ver off len s cap =>
   have e:cellsAt get o ver = cellsAt get' o ver:=cellsAt_local (ha o (hv o (by simp [V.objs])))
   simp only [loadA,← e]
   cases hc:cellsAt get o ver with
   | none => rfl
   | some all =>
    have hfr:=cells o ver all (by simp [V.objs]) hc
    simp only
    rcases Nat.lt_or_ge all.length (off + len * s) with hlt | hge
    ·simp only [if_neg (show ¬ off + len * s ≤ all.length by omega)]
    ·simp only [if_pos hge]
     rw [mapM_congr (f':=V.shut get' d) (fun c hc => IH c (hfr c (List.mem_of_mem_drop (List.mem_of_mem_take hc))))]
  | vend o ver s =>
   have e:cellsAt get o ver = cellsAt get' o ver:=cellsAt_local (ha o (hv o (by simp [V.objs])))
   simp only [← e]
  | ptr o ver off =>
   have e:cellsAt get o ver = cellsAt get' o ver:=cellsAt_local (ha o (hv o (by simp [V.objs])))
   simp only [← e]
   cases hc:cellsAt get o ver with
   | none => rfl
   | some all =>
    simp only
    rw [mapM_congr (f':=V.shut get' d) (fun c hm => IH c (cells o ver all (by simp [V.objs]) hc c hm))]
  | func f xs ys =>
   simp only
   rw [rec_ xs (fun o ho => hv o (by simp [V.objs,ho])),rec_ ys (fun o ho => hv o (by simp [V.objs,ho]))]
  | agg cs => simp only; rw [rec_ cs (fun o ho => hv o (by simp only [V.objs]; exact ho))]
  | tup cs => simp only; rw [rec_ cs (fun o ho => hv o (by simp only [V.objs]; exact ho))]
  | iface t v => simp only; rw [IH v (fun o ho => hv o (by simpa [V.objs] using ho))]
  | _ => rfl
end Go.Am


set_option linter.unusedVariables false
set_option linter.unusedSimpArgs false
namespace Go.Am
variable {P:Program}
def resA1 (get:Nat → Option Ob) (t:List V):ARes → Option V
 | .tmp i => some (t.getD i .junk)
 | .cell i ag => (loadA get (nAg ag) (t.getD i .junk)).bind (packA ag)
def resA (get:Nat → Option Ob) (t:List V):List ARes → Option (List V)
 | [] => some []
 | r :: rs => match resA1 get t r,resA get t rs with | some v,some vs => some (v :: vs) | _,_ => none
def packR:List V → V
 | [v] => v
 | vs => .tup vs
abbrev AProg:=List (Option AFunc)
def pureOf (p:AProg) (f:FuncId):FMode:=match p[f]? with | some (some fn) => fn.mode | _ => .keep
noncomputable def bodyA (p:AProg) (call:Caller) (N fb:Nat) (fn:AFunc) (args:List V) (h:Heap):Option (V × Heap) :=
 match exec (pureOf p) call N fb fn.body (args ++ List.replicate (fn.nt - args.length) .junk) h with
 | some (.norm,t,h') => match resA (fun o => h'[o]?) t fn.res with | some vs => some (packR vs,h') | none => none
 | some (.ret,t,h') => match resA (fun o => h'[o]?) t fn.res with | some vs => some (packR vs,h') | none => none
 | _ => none
def sealDepth:Nat:=64
noncomputable def yieldA (p:AProg) (call:Caller) (N:Nat) (args:List V) (h:Heap):Option (V × Heap) :=
 match args with
 | .yld o ver :: xs =>
  match h[o]? with
  | some ⟨v,.loop _ _ t fb f k⟩ =>
   if v = ver then
    match p[f]? with
    | some (some af) =>
     match (rangesA af.body)[k]? with
     | some (ps,asn,body) =>
      if xs.length = ps.length then
       match exec (pureOf p) call N fb asn (setPs ps xs t) h with
       | some (.norm,t1,h1) =>
        match h1[o]? with
        | some ⟨v1,.loop 0 p1 t2 fb2 f2 k2⟩ =>
         if v1 = ver then
          match exec (pureOf p) call N fb body t1 (h1.set o ⟨ver,.loop 1 p1 t2 fb2 f2 k2⟩) with
          | some (x,_,h2) =>
           match h2[o]? with
           | some ⟨v2,.loop _ _ t3 fb3 f3 k3⟩ =>
            if v2 = ver then
             match x with
             | .norm => some (.bool true,h2.set o ⟨ver,.loop 0 none t3 fb3 f3 k3⟩)
             | .exit id => some (.bool false,h2.set o ⟨ver,.loop 2 (some (some id)) t3 fb3 f3 k3⟩)
             | .ret => some (.bool false,h2.set o ⟨ver,.loop 2 (some none) t3 fb3 f3 k3⟩)
            else none
           | _ => none
          | none => none
         else none
        | _ => none
       | _ => none
      else none
     | none => none
    | _ => none
   else none
  | _ => none
 | _ => none
noncomputable def callA (p:AProg) (N:Nat):Nat → Caller
 | 0,_,_,_ => none
 | n + 1,f,args,h =>
  if f = YLD then yieldA p (callA p N n) N args h else
  match p[f]? with
  | some (some fn) =>
   if args.length = fn.nargs then
    match fn.mode with
    | .keep => bodyA p (callA p N n) N h.length fn args (h ++ deads fn.sites)
    | .auto =>
     if V.freeL args then
      match bodyA p (callA p N n) N 0 fn args (deads fn.sites) with
      | some (v,h') => match V.shut (fun o => h'[o]?) sealDepth v with | some v' => some (v',h) | none => none
      | none => none
     else bodyA p (callA p N n) N h.length fn args (h ++ deads fn.sites)
    | .pure =>
     if V.freeL args then
      match bodyA p (callA p N n) N 0 fn args (deads fn.sites) with
      | some (v,h') => match V.shut (fun o => h'[o]?) sealDepth v with | some v' => some (v',h) | none => none
      | none => none
     else none
    | .look =>
     match args.mapM (V.shut (fun o => h[o]?) sealDepth) with
     | some args' =>
      match bodyA p (callA p N n) N 0 fn args' (deads fn.sites) with
      | some (v,_) => if v.plain then some (v,h) else none
      | none => none
     | none => none
   else none
  | _ => none
def trRes (P:Program):ResultVar → Option ARes
 | .tmp t => some (.tmp t)
 | .cell a t => (agOf P t).map (.cell a)
structure TrFunc (P:Program) (p:AProg) (f:Nat) (fn:Func) (af:AFunc):Prop where
 named : (fn.name == "runtime.NumGoroutine") = false
 body:∃ c al lt,fn.body = some c ∧ trCode P (pureOf p) al f false 0 lt c = some af.body
 nt:af.nt = fn.ntmps
 res:fn.results.toList.mapM (trRes P) = some af.res
def TrProg (P:Program) (p:AProg):Prop:=∀ (f:Nat) (af:AFunc),p[f]? = some (some af) → ∃ fn,P.funcs[f]? = some fn ∧ TrFunc P p f fn af
theorem sim_empty {g:G} {h:Heap} {w:World} (s:Sim g h w) (n:Nat):Sim ⟨fun _ _ => none,g.imm,g.code⟩ (deads n) w:=by
 have hd:∀ (o:Nat) (x:Ob),(deads n)[o]? = some x → x.bd.lives = false:=fun o x hx => by
  simp only [deads,List.getElem?_replicate] at hx
  split at hx
  ·cases hx; rfl
  ·cases hx
 refine ⟨fun o x hx hl => ?_,fun o o' b h1 => ?_,fun o b h1 => ?_,s.immlt,fun o t b h1 => by cases h1⟩
 ·rw [hd o x hx] at hl; cases hl
 ·obtain ⟨x,base,hx,hl,-⟩:=blk_some h1
  rw [hd o x hx] at hl; cases hl
 ·obtain ⟨x,base,hx,hl,-⟩:=blk_some h1
  rw [hd o x hx] at hl; cases hl
theorem blk_deads (g:G) (n o b:Nat):blk g (deads n) o ≠ some b:=by
 intro h
 obtain ⟨x,base,hx,hl,-⟩:=blk_some h
 simp only [deads,List.getElem?_replicate] at hx
 split at hx
 ·cases hx; cases hl
 ·cases hx
theorem sim_back {g:G} {h:Heap} {w:World} (s:Sim g h w) {n:Nat} {g1:G} {h1:Heap} {w1:World} (s1:Sim g1 h1 w1) (e:Ext ⟨fun _ _ => none,g.imm,g.code⟩ (deads n) w g1 h1 w1) :
  let g2:G:=⟨g.loc,fun b => g.imm b ∨ (w.heap.size ≤ b ∧ (sealG g1 h1).imm b),g.code⟩
  Sim g2 h w1 ∧ Ext g h w g2 h w1 ∧ ∀ b,(sealG g1 h1).imm b → g2.imm b:=by
 intro g2
 have hsame:∀ b,b < w.heap.size → w1.heap[b]? = w.heap[b]?:=fun b hb => e.frame b hb (fun o => blk_deads _ _ _ _)
 have hL:Later g w g2 w1:=⟨rfl,fun _ _ _ h => h,fun _ h => .inl h,fun b hb => hsame b (s.immlt b hb),e.shape⟩
 have hlt:∀ o b,blk g h o = some b → b < w.heap.size:=fun o b hb => by
  obtain ⟨x,base,hx,hl,hg⟩:=blk_some hb
  obtain ⟨b',base',hg',hlt,-⟩:=s.obs o x hx hl
  rw [hg] at hg'
  cases hg'
  exact hlt
 have himm:∀ b,(sealG g1 h1).imm b → g2.imm b:=by
  intro b hb
  rcases hb with hb | ⟨o,hb⟩
  ·rcases e.imm' b hb with h' | h'
   ·exact .inl h'
   ·exact .inr ⟨h',.inl hb⟩
  ·rcases Nat.lt_or_ge b w.heap.size with h' | h'
   ·obtain ⟨o',ho'⟩:=e.own o b hb h'
    exact absurd ho' (blk_deads _ _ _ _)
   ·exact .inr ⟨h',.inr ⟨o,hb⟩⟩
 refine ⟨⟨fun o x hx hl => ?_,s.inj,fun o b hb hi => ?_,fun b hb => ?_,s.loclt⟩,
  ⟨rfl,fun _ _ _ h => h,fun _ h => .inl h,fun b hb => ?_,e.size,e.shape,fun b hb _ => hsame b hb,fun o b hb _ => ⟨o,hb⟩,e.os,e.tape,e.output⟩,himm⟩
 ·obtain ⟨b,base,h1,h2,h3⟩:=s.obs o x hx hl
  exact ⟨b,base,h1,Nat.lt_of_lt_of_le h2 e.size,h3.later hL (hsame b h2)⟩
 ·rcases hi with hi | ⟨hi,-⟩
  ·exact s.imm o b hb hi
  ·have:=hlt o b hb; omega
 ·rcases hb with hb | ⟨-,hb⟩
  ·exact Nat.lt_of_lt_of_le (s.immlt b hb) e.size
  ·rcases hb with hb | ⟨o,hb⟩
   ·exact s1.immlt b hb
   ·obtain ⟨x,base,hx,hl,hg⟩:=blk_some hb
    obtain ⟨b',base',hg',hlt,-⟩:=s1.obs o x hx hl
    rw [hg] at hg'
    cases hg'
    exact hlt
 ·rcases hb with hb | ⟨hb,-⟩
  ·exact .inl hb
  ·exact .inr hb
theorem load_runs {g:G} {h:Heap} {w:World} (s:Sim g h w) {p v:V} {x:Value} {t:TypeId} {ag:Option Nat} (ht:agOf P t = some ag) (hp:VRel g w p x)
  {cs:List V} (hl:loadA (fun o => h[o]?) (nAg ag) p = some cs) (hv:packA ag cs = some v):∃ a y,x = .pointer (some a) ∧ (loadVar t a).run P w = .ok y w ∧ VRel g w v y:=by
 obtain ⟨b,off,xs,rfl,hxl,hcl,hcell,hrel⟩:=goes_loads s hp hl
 cases ag with
 | some n =>
  simp only [packA,Option.some.injEq] at hv
  subst hv
  have hxl':xs.length = n:=hxl
  refine ⟨_,_,rfl,?_,hrel.agg⟩
  simp only [nAg,loadVar,Sem.run_bind,Result.andThen_ok,run_isAgg ht,Option.isSome_some,if_true,run_sizeOf_ag ht,run_loads hxl' hcell,Sem.run_pure]
 | none =>
  simp only [nAg] at hxl hcl
  obtain ⟨c,rfl⟩:∃ c,cs = [c]:=by
   cases cs with
   | nil => simp at hcl
   | cons c cs => cases cs with
    | nil => exact ⟨c,rfl⟩
    | cons d cs => simp at hcl
  obtain ⟨y,rfl⟩:∃ y,xs = [y]:=by
   cases xs with
   | nil => simp at hxl
   | cons c cs => cases cs with
    | nil => exact ⟨c,rfl⟩
    | cons d cs => simp at hxl
  simp only [packA,List.head?_cons,Option.some.injEq] at hv
  subst hv
  refine ⟨_,y,rfl,?_,hrel.2 0 _ _ rfl rfl⟩
  have hc:=hcell 0 y rfl
  simp only [Nat.add_zero] at hc
  simp [loadVar,run_isAgg ht,run_load,hc]
theorem run_results {g:G} {h:Heap} {w:World} (s:Sim g h w) {t:List V} {tmps:Array Value} (r:TRel g w t tmps) {fn:Func} {rs:List ARes} (hrs:fn.results.toList.mapM (trRes P) = some rs) {vs:List V} (hv:resA (fun o => h[o]?) t rs = some vs) :
  ∃ x,(results fn tmps).run P w = .ok x w ∧ VRel g w (packR vs) x:=by
 have hslot:∀ i,VRel g w (t.getD i .junk) (tmps.getD i undef):=fun i => by
  rcases Nat.lt_or_ge i t.length with h | h
  ·rw [List.getD_eq_getElem?_getD,List.getElem?_eq_getElem h]
   exact r.2 i _ (List.getElem?_eq_getElem h)
  ·rw [List.getD_eq_getElem?_getD,List.getElem?_eq_none h]
   exact .junk _
 have key:∀ (F:ResultVar → Sem Value),(∀ i,F (.tmp i) = pure (tmps.getD i undef)) → (∀ i ty,F (.cell i ty) = do loadVar ty (← asAddr (tmps.getD i undef))) → ∀ (l:List ResultVar) (rs:List ARes) (vs:List V),l.mapM (trRes P) = some rs → resA (fun o => h[o]?) t rs = some vs →
   ∃ xs:List Value,(l.mapM F).run P w = .ok xs w ∧ Cells g w vs xs:=by
  intro F F1 F2 l
  induction l with
  | nil =>
   intro rs vs h1 h2
   simp at h1
   subst h1
   simp [resA] at h2
   subst h2
   exact ⟨[],rfl,rfl,by simp⟩
  | cons a l ih =>
   intro rs vs h1 h2
   simp only [List.mapM_cons,Option.bind_eq_bind,Option.bind_eq_some_iff,Option.pure_def,Option.some.injEq] at h1
   obtain ⟨ra,hra,rl,hrl,rfl⟩:=h1
   simp only [resA] at h2
   split at h2
   case h_2 => cases h2
   rename_i v vs' e1 e2
   cases h2
   obtain ⟨xs,q1,q2⟩:=ih rl vs' hrl e2
   have one:∃ x,(F a).run P w = .ok x w ∧ VRel g w v x:=by
    cases a with
    | tmp i =>
     simp only [trRes,Option.some.injEq] at hra
     subst hra
     simp only [resA1,Option.some.injEq] at e1
     subst e1
     exact ⟨_,by rw [F1]; rfl,hslot i⟩
    | cell i ty =>
     simp only [trRes,Option.map_eq_some_iff] at hra
     obtain ⟨ag,hag,rfl⟩:=hra
     simp only [resA1,Option.bind_eq_some_iff] at e1
     obtain ⟨cs,hl,hp⟩:=e1
     obtain ⟨ad,x,hx,hrun,hr⟩:=load_runs (P:=P) s hag (hslot i) hl hp
     refine ⟨x,?_,hr⟩
     rw [F2,hx]
     simp [asAddr,hrun]
   obtain ⟨x,hx,hr⟩:=one
   refine ⟨x :: xs,?_,⟨by simp [q2.1],fun i c y hc hy => ?_⟩⟩
   ·rw [List.mapM_cons]
    simp only [Sem.run_bind,hx,Result.andThen_ok,q1,Sem.run_pure]
   ·cases i with
    | zero => simp at hc hy; subst hc; subst hy; exact hr
    | succ i => simp at hc hy; exact q2.2 i c y hc hy
 have hex:∃ xs:List Value,(results fn tmps).run P w = .ok (if h:xs.toArray.size = 1 then xs.toArray[0] else .tuple xs.toArray) w ∧ Cells g w vs xs:=by
  unfold results
  rw [Array.mapM_eq_mapM_toList]
  obtain ⟨xs,h1,h2⟩:=key (fun | .tmp t => pure (tmps.getD t undef) | .cell a t => do loadVar t (← asAddr (tmps.getD a undef))) (fun i => rfl) (fun i ty => rfl) _ _ _ hrs hv
  refine ⟨xs,?_,h2⟩
  have e:∀ (m:Sem (List Value)),(List.toArray <$> m).run P w = (m.run P w).andThen fun a w' => .ok a.toArray w':=fun m => by
   show ((m >>= fun a => pure a.toArray).run P w) = _
   rw [Sem.run_bind]
   congr 1
  rw [Sem.run_bind,e]
  erw [h1]
  rfl
 obtain ⟨xs,hrun,h2⟩:=hex
 refine ⟨_,hrun,?_⟩
 have tup:∀ (vs:List V) (xs:List Value),Cells g w vs xs → VRel g w (.tup vs) (.tuple xs.toArray):=by
  intro vs xs h
  have:=h.agg
  cases this with
  | agg _ _ hx hc => exact .tup _ _ hx hc
 cases vs with
 | nil =>
  have hx:xs = []:=List.length_eq_zero_iff.1 h2.1
  subst hx
  exact tup [] [] h2
 | cons v vs =>
  cases vs with
  | nil =>
   obtain ⟨y,rfl⟩:∃ y,xs = [y]:=by
    have:=h2.1
    cases xs with
    | nil => simp at this
    | cons y ys => cases ys with
     | nil => exact ⟨y,rfl⟩
     | cons z zs => simp at this
   exact h2.2 0 v y rfl rfl
  | cons v' vs =>
   have hne:¬ xs.toArray.size = 1:=by have:=h2.1; simp at this ⊢; omega
   rw [dif_neg hne]
   exact tup _ _ h2
theorem sim_shutm {g:G} {h:Heap} {w:World} (s:Sim g h w) {r:Nat} (hr:w.heap[r]? = some (.deferred (some []))) (ho:∀ o,blk g h o ≠ some r) (hi:¬ g.imm r) :
  Sim g h (w.putObj r (.deferred none)) ∧ Later g w g (w.putObj r (.deferred none)):=by
 have hshape:∀ k y,w.shape? k = some y → (w.putObj r (.deferred none)).shape? k = some y:=by
  intro k y hk
  by_cases e:k = r
  ·subst e
   simp [World.shape?,hr] at hk
  ·unfold World.shape? at hk ⊢
   rw [World.putObj_heap_other e]
   exact hk
 have hL:Later g w g (w.putObj r (.deferred none)):=⟨rfl,fun _ _ _ h => h,fun _ h => h,fun k hk => World.putObj_heap_other (fun e => hi (e ▸ hk)),hshape⟩
 refine ⟨⟨fun o x hx hl => ?_,s.inj,s.imm,fun b hb => by rw [World.putObj_size]; exact s.immlt b hb,s.loclt⟩,hL⟩
 obtain ⟨b,base,h1,h2,h3⟩:=s.obs o x hx hl
 refine ⟨b,base,h1,by rw [World.putObj_size]; exact h2,h3.later hL (World.putObj_heap_other ?_)⟩
 rintro rfl
 exact ho o (blk_of hx hl h1)
theorem Ext.shutm {g0 g:G} {h0 h:Heap} {w0 w:World} (e:Ext g0 h0 w0 g h w) {r:Nat} (hr:w.heap[r]? = some (.deferred (some []))) (hm:w0.heap.size ≤ r):Ext g0 h0 w0 g h (w.putObj r (.deferred none)):=by
 refine ⟨e.code,e.loc,e.imm,e.imm',by rw [World.putObj_size]; exact e.size,fun k y hk => ?_,fun b hb hno => ?_,e.own,e.os,e.tape,e.output⟩
 ·have:=e.shape k y hk
  by_cases ek:k = r
  ·subst ek
   simp [World.shape?,hr] at this
  ·unfold World.shape? at this ⊢
   rw [World.putObj_heap_other ek]
   exact this
 ·rw [World.putObj_heap_other (by omega)]
  exact e.frame b hb hno
theorem leaves_marks {g0:G} {h0:Heap} {w0:World} {fn:Func} {F:Fence} {n:Nat} {tmps:Array Value} {t:List V} {rs:List ARes} (hrs:fn.results.toList.mapM (trRes P) = some rs) {g:G} {h:Heap} {vs:List V} (hv:resA (fun o => h[o]?) t rs = some vs)
  {R:Ending → World → Prop} (hR:∀ w x,Sim g h w → Ext g0 h0 w0 g h w → VRel g w (packR vs) x → R (.returned x) w) :
  ∀ (L:List Nat) (w:World),Sim g h w → Ext g0 h0 w0 g h w → TRel g w t tmps → L.Nodup → (∀ r ∈ L,w0.heap.size ≤ r ∧ r < w.heap.size ∧ w.heap[r]? = some (.deferred (some [])) ∧ (∀ o,blk g h o ≠ some r) ∧ ¬ g.imm r) →
   LeavesInM F n P fn tmps R (L.map (fun r => ({ target:=.collected r,args:=#[] }:Deferred))) .returning w
 | [],w,s,e,r,_,_ => by
  obtain ⟨y,hy,hyr⟩:=run_results s r hrs hv
  exact ⟨y,hy,hR w y s e hyr⟩
 | d :: L,w,s,e,r,hn,hall => by
  obtain ⟨h1,h2,h3,h4,h5⟩:=hall d (by simp)
  obtain ⟨s',hL⟩:=sim_shutm s h3 h4 h5
  rw [List.nodup_cons] at hn
  refine ⟨by simp,.inl ⟨d,_,rfl,run_takeDeferred h3,leaves_marks hrs hv hR L _ s' (e.shutm h3 h1) ⟨r.1,fun i v hi => (r.2 i v hi).later hL⟩ hn.2 fun r' hr' => ?_⟩⟩
  obtain ⟨k1,k2,k3,k4,k5⟩:=hall r' (by simp [hr'])
  refine ⟨k1,by rw [World.putObj_size]; exact k2,?_,k4,k5⟩
  have hne:r' ≠ d:=by rintro rfl; exact hn.1 hr'
  rw [World.putObj_heap_other hne]
  exact k3
theorem sim_body {p:AProg} (hm:P.follows .mixedOrders = true) {call:Caller} (hcall:CallOk P call) (hpure:PureOk (pureOf p) call) {N fb:Nat} {f:FuncId} {fn:Func} {af:AFunc} (hf:P.funcs[f]? = some fn) (ht:TrFunc P p f fn af)
  {args:List V} {h:Heap} {v:V} {h':Heap} (hb:bodyA p call N fb af args h = some (v,h')) {g:G} {w:World} {xs:Array Value} (hgc:g.code = codesOf P) (s:Sim g h w) (hl:xs.size = args.length) (hx:∀ i c,args[i]? = some c → VRel g w c (xs.getD i undef)) :
  Calls P f xs w fun e w' => ∃ x g',e = .returned x ∧ Sim g' h' w' ∧ Ext g h w g' h' w' ∧ VRel g' w' v x:=by
 obtain ⟨c,al,hint,hc,htc⟩:=ht.body
 have hcd:∀ i lc,(rangesOf c)[i]? = some lc → codesOf P f (0 + i) = some lc:=fun i lc hi => by
  rw [Nat.zero_add]
  simp only [codesOf,hf,hc]
  exact hi
 have r:TRel g w (args ++ List.replicate (af.nt - args.length) .junk) (xs ++ Array.replicate (fn.ntmps - xs.size) undef):=by
  refine ⟨by simp [hl,ht.nt],fun i u hi => ?_⟩
  rcases Nat.lt_or_ge i args.length with hlt | hge
  ·rw [List.getElem?_append_left hlt] at hi
   have:=hx i u hi
   rw [Array.getD_eq_getD_getElem?] at this ⊢
   rw [Array.getElem?_append_left (by omega)]
   exact this
  ·rw [List.getElem?_append_right hge,List.getElem?_replicate] at hi
   split at hi
   ·cases hi
    exact .junk _
   ·cases hi
 have post:∀ (x:Ex) (t:List V) (vs:List V),x.to = .normal ∨ x.to = .ret → resA (fun o => h'[o]?) t af.res = some vs → v = packR vs → ∀ g' w' a',Sim g' h' w' → Ext g h w g' h' w' → TRel g' w' t a'.tmps → Mk w.heap.size g' h' w' a'.defers →
   bodyPostM (FR none) 0 P fn (fun e w' => ∃ x g',e = .returned x ∧ Sim g' h' w' ∧ Ext g h w g' h' w' ∧ VRel g' w' v x) x.to a' w':=by
  intro x t vs hx hr hv g' w' a' q1 q2 q3 q4
  obtain ⟨-,L,hL,hn,hall⟩:=q4
  subst hv
  have:LeavesInM (FR none) 0 P fn a'.tmps (fun e w' => ∃ x g',e = .returned x ∧ Sim g' h' w' ∧ Ext g h w g' h' w' ∧ VRel g' w' (packR vs) x) a'.defers .returning w':=by
   rw [hL]
   exact leaves_marks ht.res hr (fun w x s e hv => ⟨x,g',rfl,s,e,hv⟩) L w' q1 q2 q3 hn hall
  rcases hx with hx | hx <;> rw [hx] <;> exact this
 refine (callsIn_wide (n:=0)).1 (callsIn_of_wp_marks (F:=FR none) hf hc trivial ?_)
 unfold bodyA at hb
 split at hb
 ·rename_i t k he
  split at hb
  ·rename_i vs hr
   simp only [Option.some.injEq,Prod.mk.injEq] at hb
   obtain ⟨rfl,rfl⟩:=hb
   exact sim_code (rd:=none) (nn:=0) (inR:=false) hm hcall hpure (fun _ => rfl) c 0 hint af.body htc hcd _ g h w _ _ _ _ _ _ he hgc s r (Mk.nil (Nat.le_refl _)) (post .norm t vs (.inl rfl) hr rfl)
  ·cases hb
 ·rename_i t k he
  split at hb
  ·rename_i vs hr
   simp only [Option.some.injEq,Prod.mk.injEq] at hb
   obtain ⟨rfl,rfl⟩:=hb
   exact sim_code (rd:=none) (nn:=0) (inR:=false) hm hcall hpure (fun _ => rfl) c 0 hint af.body htc hcd _ g h w _ _ _ _ _ _ he hgc s r (Mk.nil (Nat.le_refl _)) (post .ret t vs (.inr rfl) hr rfl)
  ·cases hb
 ·cases hb
theorem callA_pure (p:AProg) (N n:Nat):PureOk (pureOf p) (callA p N n):=by
 constructor
 ·intro f args h v h1 hny hp hc
  cases n with
  | zero => simp [callA] at hc
  | succ n =>
   unfold pureOf at hp
   cases hfn:p[f]? with
   | none => simp [hfn] at hp
   | some o =>
    cases o with
    | none => simp [hfn] at hp
    | some fn =>
     simp only [hfn] at hp
     have e:∀ h,callA p N (n + 1) f args h = if args.length = fn.nargs then if V.freeL args then
       match bodyA p (callA p N n) N 0 fn args (deads fn.sites) with
       | some (v,h') => match V.shut (fun o => h'[o]?) sealDepth v with | some v' => some (v',h) | none => none
       | none => none
      else none else none:=by
      intro h
      simp only [callA,if_neg hny,hfn,hp]
     rw [e] at hc
     split at hc
     case isFalse => cases hc
     rename_i hl
     split at hc
     case isFalse => cases hc
     rename_i hfr
     split at hc
     case h_2 => cases hc
     rename_i v0 h0 hb
     split at hc
     case h_2 => cases hc
     rename_i v' hs
     simp only [Option.some.injEq,Prod.mk.injEq] at hc
     obtain ⟨rfl,rfl⟩:=hc
     refine ⟨rfl,fun h' => ?_⟩
     rw [e,if_pos hl,if_pos hfr]
     simp only [hb,hs]
 ·intro f args h v h1 hny hp hc
  cases n with
  | zero => simp [callA] at hc
  | succ n =>
   unfold pureOf at hp
   cases hfn:p[f]? with
   | none => simp [hfn] at hp
   | some o =>
    cases o with
    | none => simp [hfn] at hp
    | some fn =>
     simp only [hfn] at hp
     have e:∀ h,callA p N (n + 1) f args h = if args.length = fn.nargs then
       match args.mapM (V.shut (fun o => h[o]?) sealDepth) with
       | some args' =>
        match bodyA p (callA p N n) N 0 fn args' (deads fn.sites) with
        | some (v,_) => if v.plain then some (v,h) else none
        | none => none
       | none => none
      else none:=by
      intro h
      simp only [callA,if_neg hny,hfn,hp]
     rw [e] at hc
     split at hc
     case isFalse => cases hc
     rename_i hl
     split at hc
     case h_2 => cases hc
     rename_i args' hm
     split at hc
     case h_2 => cases hc
     rename_i v0 h0 hb
     split at hc
     case isFalse => cases hc
     rename_i hpl
     simp only [Option.some.injEq,Prod.mk.injEq] at hc
     obtain ⟨rfl,rfl⟩:=hc
     refine ⟨rfl,fun hflat h' ha => ?_⟩
     have hm':args.mapM (V.shut (fun o => h'[o]?) sealDepth) = some args':=by
      rw [← hm]
      refine (mapM_congr fun c hc => shut_local (S:=reachC h (V.objsL args)) (fun o ho => ha o ho) (fun o ho x hx i hi => ?_) sealDepth c (fun o ho => reachC_sub h _ o (mem_objsL hc o ho))).symm
      have:=List.all_eq_true.1 hflat o ho
      simp only [namedBy,hx,List.all_eq_true] at this
      simpa using this i hi
     rw [e,if_pos hl]
     simp only [hm',hb,hpl,if_true]
theorem foldl_rel {g:G} {w:World}:∀ (ps:List Nat) (xs:List V) (ys:List Value) (t:List V) (tmps:Array Value),ps.length = xs.length → ys.length = xs.length → (∀ (i:Nat) (c:V) (y:Value),xs[i]? = some c → ys[i]? = some y → VRel g w c y) → TRel g w t tmps →
  TRel g w (setPs ps xs t) ((ps.zip ys).foldl (fun tmps (t,a) => tmps.setIfInBounds t a) tmps)
 | [],xs,ys,t,tmps,_,_,_,r => r
 | p :: ps,[],ys,t,tmps,h,_,_,r => by simp at h
 | p :: ps,x :: xs,[],t,tmps,_,h,_,r => by simp at h
 | p :: ps,x :: xs,y :: ys,t,tmps,h1,h2,hr,r => by
  have:=foldl_rel ps xs ys (t.set p x) (tmps.setIfInBounds p y) (by simpa using h1) (by simpa using h2) (fun i c z h3 h4 => hr (i + 1) c z (by simpa using h3) (by simpa using h4)) (by
   have:=TRel.put (a:={ tmps:=tmps,defers:=[] }) r (hr 0 x y rfl rfl) (some p)
   exact this)
  exact this
theorem yieldA_ok (hm:P.follows .mixedOrders = true) {p:AProg} (hp:TrProg P p) {call:Caller} (hcall:CallOk P call) (hpure:PureOk (pureOf p) call) {N:Nat} {o ver:Nat} {args:List V} {h:Heap} {v:V} {h':Heap} (hc:yieldA p call N (.yld o ver :: args) h = some (v,h')) :
  ∀ g w (xs:Array Value) b rd n,g.code = codesOf P → Sim g h w → g.loc o ver = some (b,0) → xs.size = args.length → (∀ i c,args[i]? = some c → VRel g w c (xs.getD i undef)) →
   ∃ fn tmps asn body,(Instr.yield b xs).run P w = .ok (.round b fn tmps asn body) w ∧
    RoundIn (FR rd) n P b fn tmps asn body w fun e w' => ∃ x g',e = .returned x ∧ Sim g' h' w' ∧ Ext g h w g' h' w' ∧ VRel g' w' v x:=by
 intro g w xs b rd n hgc s hg hl hx
 simp only [yieldA] at hc
 split at hc
 case h_2 => cases hc
 rename_i v0 st0 pd0 t fb f k hob
 split at hc
 case isFalse => cases hc
 rename_i hv0
 subst hv0
 split at hc
 case h_2 => cases hc
 rename_i af haf
 split at hc
 case h_2 => cases hc
 rename_i ps asnA bodyA' hra
 split at hc
 case isFalse => cases hc
 rename_i hlen
 split at hc
 case h_2 => cases hc
 rename_i t1 h1 hex1
 split at hc
 case h_2 => cases hc
 rename_i v1 p1 t2 fb2 f2 k2 hob1
 split at hc
 case isFalse => cases hc
 rename_i hv1
 subst hv1
 split at hc
 case h_2 => cases hc
 rename_i x t4 h2 hex2
 split at hc
 case h_2 => cases hc
 rename_i v2 st3 pd3 t3 fb3 f3 k3 hob2
 split at hc
 case isFalse => cases hc
 rename_i hv2
 subst hv2
 obtain ⟨b0,rec,q1,q2,q3,q4,q5,q6,q7,q8,q9⟩:=sim_loop s hob
 rw [hg] at q1
 cases q1
 obtain ⟨fnc,hf,ht⟩:=hp f af haf
 obtain ⟨c,al,lt,hcb,htc⟩:=ht.body
 have hcode:(rangesOf c)[k]? = some ⟨rec.params,rec.assign,rec.body⟩:=by
  rw [hgc] at q7
  simpa only [codesOf,hf,hcb] using q7
 obtain ⟨-,-,hr⟩:=trCode_ranges c _ _ _ _ htc
 obtain ⟨ra,lt1,lt2,k1,k2',hra',hps,hasn,hbody⟩:=hr k _ hcode
 rw [hra] at hra'
 cases hra'
 simp only at hps hasn hbody
 have nest:∀ {c:Code} {kk:Nat} {l:LT} {A:ACode},trCode P (pureOf p) al f true kk l c = some A → ∀ i lc,(rangesOf c)[i]? = some lc → codesOf P f (kk + i) = some lc:=fun hh i lc hi => by
  rw [(trCode_ranges _ _ _ _ _ hh).1 rfl] at hi
  simp at hi
 have hsz:xs.size = rec.params.size:=by
  rw [hl,hlen,← hps]
  simp
 refine ⟨rec.fn,_,rec.assign,rec.body,run_yield q4 hsz,roundIn_of_wpIn trivial ?_⟩
 have r0:TRel g w (setPs ps args t) ((rec.params.zip xs).foldl (fun tmps (t,a) => tmps.setIfInBounds t a) rec.tmps):=by
  have e1:(rec.params.zip xs).foldl (fun tmps (t,a) => tmps.setIfInBounds t a) rec.tmps = (ps.zip xs.toList).foldl (fun tmps (t,a) => tmps.setIfInBounds t a) rec.tmps:=by
   rw [← Array.foldl_toList,Array.toList_zip,hps]
  rw [e1]
  refine foldl_rel ps args xs.toList t rec.tmps (by omega) (by simpa using hl) (fun i c y h1 h2 => ?_) ⟨q8,q9⟩
  have:=hx i c h1
  rw [Array.getD_eq_getD_getElem?] at this
  have h3:xs[i]? = some y:=by simpa using h2
  rw [h3] at this
  exact this
 refine sim_code (rd:=some b) (nn:=n) (inR:=true) (m:=0) hm hcall hpure (fun h => by cases h) rec.assign _ lt1 asnA hasn (nest hasn) _ g h w _ _ _ _ _ _ hex1 hgc s r0 (Mk.nil (Nat.zero_le _)) ?_
 intro g1 w1 a1 s1 x1 r1 d1
 obtain ⟨b1,rec1,u1,u2,u3,u4,u5,u6,u7,u8,u9⟩:=sim_loop s1 hob1
 have hg1:=x1.loc _ _ _ hg
 rw [hg1] at u1
 cases u1
 have hready:rec1.state = .ready:=by
  revert u5
  cases rec1.state <;> intro u5 <;> first | rfl | (simp [stateN] at u5)
 refine ⟨_,run_beginRound u4 hready,?_⟩
 obtain ⟨s2,x2⟩:=sim_turn s1 hob1 hg1 u4 (rec':={ rec1 with state:=.busy }) (st':=1) (pend':=p1) rfl u6 rfl rfl rfl rfl
 generalize w1.putObj b (.loop { rec1 with state:=.busy }) = w2 at s2 x2 ⊢
 have e12:=x1.trans x2
 refine sim_code (rd:=some b) (nn:=n) (inR:=true) (m:=0) hm hcall hpure (fun h => by cases h) rec.body _ lt2 bodyA' hbody (nest hbody) _ g1 _ w2 _ _ _ _ _ _ hex2 (e12.code.trans hgc) s2 (r1.ext x2 s1) (d1.ext x2) ?_
 intro g3 w3 a3 s3 x3 r3 _
 obtain ⟨b3,rec3,y1,y2,y3,y4,y5,y6,y7,y8,y9⟩:=sim_loop s3 hob2
 have hg3:=x3.loc _ _ _ hg1
 rw [hg3] at y1
 cases y1
 cases x with
 | norm =>
  simp only [Option.some.injEq,Prod.mk.injEq] at hc
  obtain ⟨rfl,rfl⟩:=hc
  obtain ⟨s4,x4⟩:=sim_turn s3 hob2 hg3 y4 (rec':={ rec3 with state:=.ready,pending:=none }) (st':=0) (pend':=none) rfl rfl rfl rfl rfl rfl
  exact ⟨_,_,run_endRound none y4,_,g3,rfl,s4,(e12.trans x3).trans x4,.bool true⟩
 | exit id =>
  simp only [Option.some.injEq,Prod.mk.injEq] at hc
  obtain ⟨rfl,rfl⟩:=hc
  obtain ⟨s4,x4⟩:=sim_turn s3 hob2 hg3 y4 (rec':={ rec3 with state:=.done,pending:=some (.exit id) }) (st':=2) (pend':=some (some id)) rfl rfl rfl rfl rfl rfl
  exact ⟨_,_,run_endRound (some (.exit id)) y4,_,g3,rfl,s4,(e12.trans x3).trans x4,.bool false⟩
 | ret =>
  simp only [Option.some.injEq,Prod.mk.injEq] at hc
  obtain ⟨rfl,rfl⟩:=hc
  obtain ⟨s4,x4⟩:=sim_turn s3 hob2 hg3 y4 (rec':={ rec3 with state:=.done,pending:=some .ret }) (st':=2) (pend':=some none) rfl rfl rfl rfl rfl rfl
  exact ⟨_,_,run_endRound (some .ret) y4,_,g3,rfl,s4,(e12.trans x3).trans x4,.bool false⟩
theorem callA_ok (hm:P.follows .mixedOrders = true) {p:AProg} (hp:TrProg P p) (N:Nat):∀ n,CallOk P (callA p N n)
 | 0 => ⟨fun f args h v h' _ hc => by simp [callA] at hc,fun o ver args h v h' hc => by simp [callA] at hc⟩
 | n + 1 => by
  have IH:=callA_ok hm hp N n
  have IP:=callA_pure p N n
  refine ⟨fun f args h v h' hny hc => ?_,fun o ver args h v h' hc => ?_⟩
  case refine_2 =>
   simp only [callA,↓reduceIte] at hc
   exact yieldA_ok hm hp IH IP hc
  simp only [callA,if_neg hny] at hc
  split at hc
  case h_2 => cases hc
  rename_i af haf
  obtain ⟨fn,hf,ht⟩:=hp f af haf
  split at hc
  case isFalse => cases hc
  refine ⟨⟨fn,hf,?_,ht.named⟩,fun g w xs hgc s hl hx => ?_⟩
  ·obtain ⟨c,al,hint,hb,-⟩:=ht.body
   rw [hb]; rfl
  ·have keep:bodyA p (callA p N n) N h.length af args (h ++ deads af.sites) = some (v,h') → Calls P f xs w fun e w' => ∃ x g',e = .returned x ∧ Sim g' h' w' ∧ Ext g h w g' h' w' ∧ VRel g' w' v x:=by
    intro hc
    obtain ⟨s1,e1⟩:=sim_grow s af.sites
    refine (sim_body hm IH IP hf ht hc (e1.code.trans hgc) s1 hl hx).mono ?_
    rintro e w' ⟨x,g',rfl,q1,q2,q3⟩
    exact ⟨x,g',rfl,q1,e1.trans q2,q3⟩
   have alone:V.freeL args = true → (match bodyA p (callA p N n) N 0 af args (deads af.sites) with
     | some (v,h') => match V.shut (fun o => h'[o]?) sealDepth v with | some v' => some (v',h) | none => none
     | none => none) = some (v,h') → Calls P f xs w fun e w' => ∃ x g',e = .returned x ∧ Sim g' h' w' ∧ Ext g h w g' h' w' ∧ VRel g' w' v x:=by
    intro hfree hc
    split at hc
    case h_2 => cases hc
    rename_i v0 h0 hb
    split at hc
    case h_2 => cases hc
    rename_i v' hs
    simp only [Option.some.injEq,Prod.mk.injEq] at hc
    obtain ⟨rfl,rfl⟩:=hc
    have s0:=sim_empty s af.sites
    refine (sim_body hm IH IP hf ht hb (g:=⟨fun _ _ => none,g.imm,g.code⟩) hgc s0 hl (fun i c hi => (hx i c hi).free (fun b hb => hb) (freeL_get hfree i c hi))).mono ?_
    rintro e w' ⟨x,g',rfl,q1,q2,q3⟩
    obtain ⟨b1,b2,b3⟩:=sim_back s q1 q2
    obtain ⟨v1,v2⟩:=sim_seal q1 sealDepth v0 v' x hs q3
    exact ⟨x,_,rfl,b1,b2,v1.free b3 v2⟩
   split at hc
   ·exact keep hc
   ·split at hc
    ·rename_i hfree; exact alone hfree hc
    ·exact keep hc
   ·split at hc
    case isFalse => cases hc
    rename_i hfree
    exact alone hfree hc
   ·split at hc
    case h_2 => cases hc
    rename_i args' hsh
    split at hc
    case h_2 => cases hc
    rename_i v0 h0 hb
    split at hc
    case isFalse => cases hc
    rename_i hpl
    simp only [Option.some.injEq,Prod.mk.injEq] at hc
    obtain ⟨rfl,rfl⟩:=hc
    obtain ⟨m1,m2⟩:=mapM_get hsh
    have ss:Sim ⟨fun _ _ => none,(sealG g h).imm,g.code⟩ (deads af.sites) w:=by
     have hd:∀ (o:Nat) (x:Ob),(deads af.sites)[o]? = some x → x.bd.lives = false:=fun o x hx => by
      simp only [deads,List.getElem?_replicate] at hx
      split at hx
      ·cases hx; rfl
      ·cases hx
     refine ⟨fun o x hx hl => (by rw [hd o x hx] at hl; cases hl),fun o o' b h1 => (blk_deads _ _ _ _ h1).elim,fun o b hb => (blk_deads _ _ _ _ hb).elim,fun b hb => ?_,fun o t b hb => by cases hb⟩
     rcases hb with hb | ⟨o,hb⟩
     ·exact s.immlt b hb
     ·obtain ⟨x,base,hx,hlv,hg⟩:=blk_some hb
      obtain ⟨b',base',hg',hlt,-⟩:=s.obs o x hx hlv
      rw [hg] at hg'
      cases hg'
      exact hlt
    refine (sim_body hm IH IP hf ht hb (g:=⟨fun _ _ => none,(sealG g h).imm,g.code⟩) hgc ss (by omega) (fun i c hi => ?_)).mono ?_
    ·obtain ⟨b,hb',hs⟩:=m2 i c hi
     obtain ⟨r1,r2⟩:=sim_seal s sealDepth b c _ hs (hx i b hb')
     exact r1.free (fun b hb => hb) r2
    ·rintro e w' ⟨x,g',rfl,q1,q2,q3⟩
     have hsame:∀ b,b < w.heap.size → w'.heap[b]? = w.heap[b]?:=fun b hb => q2.frame b hb (fun o => blk_deads _ _ _ _)
     have hL:Later g w g w':=⟨rfl,fun _ _ _ h => h,fun _ h => h,fun b hb => hsame b (s.immlt b hb),q2.shape⟩
     have s':Sim g h w':=⟨fun o x hx hl => by
       obtain ⟨b,base,h1,h2,h3⟩:=s.obs o x hx hl
       exact ⟨b,base,h1,Nat.lt_of_lt_of_le h2 q2.size,h3.later hL (hsame b h2)⟩,
      s.inj,s.imm,fun b hb => Nat.lt_of_lt_of_le (s.immlt b hb) q2.size,s.loclt⟩
     exact ⟨x,g,rfl,s',⟨rfl,fun _ _ _ h => h,fun _ h => h,fun _ h => .inl h,q2.size,q2.shape,fun b hb _ => hsame b hb,fun o b hb _ => ⟨o,hb⟩,q2.os,q2.tape,q2.output⟩,q3.plain hpl⟩
theorem sim_start (P:Program) (w:World):Sim ⟨fun _ _ => none,fun b => b < w.heap.size,codesOf P⟩ [] w :=
 ⟨fun o x hx => by simp at hx,fun o o' b hb => by simp [blk] at hb,fun o b hb => by simp [blk] at hb,fun b hb => hb,fun o t b hb => by cases hb⟩
theorem below_of {g g':G} {w w':World} {h':Heap} (e:Ext g [] w g' h' w'):RowKit.Below w.heap.size w w' :=
 ⟨e.os,e.tape,e.output,e.size,fun k hk => e.frame k hk (fun o => by simp [blk])⟩
theorem callA_from (hm:P.follows .mixedOrders = true) {p:AProg} (hp:TrProg P p) {N n:Nat} {f:FuncId} (hny:f ≠ YLD) {args:List V} {v:V} {h':Heap} (hc:callA p N n f args [] = some (v,h')) (w:World) (xs:Array Value) (hl:xs.size = args.length)
  (hx:∀ i c,args[i]? = some c → VRel ⟨fun _ _ => none,fun b => b < w.heap.size,codesOf P⟩ w c (xs.getD i undef)) :
  Calls P f xs w fun e w' => ∃ x g',e = .returned x ∧ VRel g' w' v x ∧ RowKit.Below w.heap.size w w' :=
 (((callA_ok hm hp N n).fn f args [] v h' hny hc).2 _ w xs rfl (sim_start P w) hl hx).mono fun e w' ⟨x,g',h1,h2,h3,h4⟩ => ⟨x,g',h1,h4,below_of h3⟩
theorem law_from (hm:P.follows .mixedOrders = true) {p:AProg} (hp:TrProg P p) {N n:Nat} {f:FuncId} {args:List V} {h':Heap} (hc:callA p N n f args [] = some (.bool true,h')) (w:World) (xs:Array Value) (hl:xs.size = args.length)
  (hx:∀ i c,args[i]? = some c → VRel ⟨fun _ _ => none,fun b => b < w.heap.size,codesOf P⟩ w c (xs.getD i undef)) (hny:f ≠ YLD:=by decide) :
  Calls P f xs w fun e w' => e = .returned (.bool true) ∧ RowKit.Below w.heap.size w w' :=
 (callA_from hm hp hny hc w xs hl hx).mono fun e w' ⟨x,g',h1,h2,h3⟩ => by cases h2; exact ⟨h1,h3⟩
end Go.Am


set_option linter.unusedVariables false
namespace Go.Am
variable {P:Program}
def bitIn (m d:Nat):Bool:=Nat.beq ((m >>> d) % 2) 1
def bitAdd (m d:Nat):Nat:=m ||| (1 <<< d)
def bitDel (m d:Nat):Nat:=match bitIn m d with | true => m - (1 <<< d) | false => m
def bitSub (m n:Nat):Nat:=m - (m &&& n)
def bitsOf:Nat → Nat → List Nat
 | 0,_ => []
 | n + 1,m => match Nat.beq m 0 with | true => [] | false => Nat.log2 m :: bitsOf n (m - (1 <<< Nat.log2 m))
def opdBits (m:Nat):Operand → Nat
 | .tmp t => bitAdd m t
 | _ => m
def operBits (ops:Array Oper) (o:Oper) (m:Nat):Nat :=
 let m:=match o.dst with | some d => bitDel m d | none => m
 let m:=o.op.operands.toList.foldl opdBits m
 match o.guard with
 | some (g,_) => match ops[g]? with | some o' => (match o'.dst with | some d => bitAdd m d | none => m) | none => m
 | none => m
def dstBits (m:Nat) (o:Oper):Nat:=match o.dst with | some d => bitAdd m d | none => m
def exitBits (E:List (Nat × Nat)) (id:Nat):Nat:=match E with | [] => 0 | (i,m) :: E => match Nat.beq i id with | true => m | false => exitBits E id
def codeDsts (m:Nat):Code → Nat
 | .region _ ops _ => ops.toList.foldl dstBits m
 | .seq a b => codeDsts (codeDsts m a) b
 | .cond _ a b => codeDsts (codeDsts m a) b
 | .block _ b | .loop b | .scope b => codeDsts m b
 | .rangeFunc _ _ a b => codeDsts (codeDsts m a) b
 | _ => m
def mrClr (R:Nat) (E:List (Nat × Nat)) (m:Nat) (a b:Code):List Nat :=
 match mrParts a b with
 | some _ => bitsOf 10000 (bitSub (codeDsts 0 b) (E.foldl (fun k e => k ||| e.2) (m ||| R)))
 | none => []
def lives:Nat → List (Nat × Nat) → Nat → Code → LT × Nat
 | _,_,m,.region _ ops _ =>
  let i:=ops.toList.foldr (fun o m => operBits ops o m) m
  (.node (bitsOf 10000 (bitSub (ops.toList.foldl dstBits i) m)) .nil .nil,i)
 | R,E,m,.seq a b => let (tb,ib):=lives R E m b; let (ta,ia):=lives R E ib a; (.node (mrClr R E m a b) ta tb,ia)
 | R,E,m,.cond c a b =>
  let (ta,ia):=lives R E m a
  let (tb,ib):=lives R E m b
  let i:=opdBits (ia ||| ib) c
  (.node [] (.node (bitsOf 10000 (bitSub i ia)) ta .nil) (.node (bitsOf 10000 (bitSub i ib)) tb .nil),i)
 | R,E,m,.block id b => let (t,i):=lives R ((id,m) :: E) m b; (.node [] t .nil,i)
 | R,E,m,.loop b => let i:=(lives R E 0 b).2; let (t,i'):=lives R E i b; (.node [] t .nil,i ||| i')
 | R,E,m,.scope b => lives R E m b
 | _,E,_,.exit id => (.nil,exitBits E id)
 | R,_,_,.ret => (.nil,R)
 | R,E,m,.rangeFunc g _ a b =>
  let (tb,ib):=lives 0 [] 0 b
  let (ta,ia):=lives 0 [] ib a
  (.node [] ta tb,opdBits (E.foldl (fun k e => k ||| e.2) (m ||| R) ||| ia) g)
 | _,_,m,_ => (.nil,m)
def resBits (m:Nat):ResultVar → Nat
 | .tmp t => bitAdd m t
 | .cell a _ => bitAdd m a
def livesF (fn:Func) (c:Code):LT :=
 let R:=fn.results.toList.foldl resBits 0
 (lives R [] R c).1
def freshT (P:Program) (n:Nat):Code → LT → LT
 | .loop b,lt => .node lt.here (freshT P n b lt.fst) (match siteDsts P b with | [] => .nil | _ => .node [n] .nil .nil)
 | .seq a b,lt => .node lt.here (freshT P n a lt.fst) (freshT P n b lt.snd)
 | .cond _ a b,lt => .node lt.here (.node lt.fst.here (freshT P n a lt.fst.fst) .nil) (.node lt.snd.here (freshT P n b lt.snd.fst) .nil)
 | .block _ b,lt => .node lt.here (freshT P n b lt.fst) .nil
 | .scope b,lt => freshT P n b lt
 | _,lt => lt
def trFf (P:Program) (p:AProg) (mode:FMode) (fid:Nat) (fn:Func):Option AFunc :=
 match fn.body with
 | none => none
 | some c =>
  match fn.name == "runtime.NumGoroutine", trCode P (pureOf p) (siteDsts P c) fid false 0 (freshT P ((siteDsts P c).length + (rangesOf c).length) c (livesF fn c)) c, fn.results.toList.mapM (trRes P) with
  | false,some b,some rs => some { nargs:=fn.params.size + fn.nfree,nt:=fn.ntmps,sites:=(siteDsts P c).length + (rangesOf c).length,mode:=mode,body:=b,res:=rs }
  | _,_,_ => none
theorem trFf_ok {p:AProg} {mode:FMode} {fid:Nat} {fn:Func} {af:AFunc} (h:trFf P p mode fid fn = some af):TrFunc P p fid fn af:=by
 unfold trFf at h
 split at h
 ·cases h
 rename_i c hc
 split at h
 ·rename_i b rs h1 h2 h3
  cases h
  exact ⟨h1,⟨c,_,_,hc,h2⟩,rfl,h3⟩
 ·cases h
def trF (P:Program) (p:AProg) (mode:FMode) (fid:Nat) (fn:Func):Option AFunc :=
 match fn.body with
 | none => none
 | some c =>
  match fn.name == "runtime.NumGoroutine", trCode P (pureOf p) (siteDsts P c) fid false 0 (livesF fn c) c, fn.results.toList.mapM (trRes P) with
  | false,some b,some rs => some { nargs:=fn.params.size + fn.nfree,nt:=fn.ntmps,sites:=(siteDsts P c).length + (rangesOf c).length,mode:=mode,body:=b,res:=rs }
  | _,_,_ => none
theorem trF_ok {p:AProg} {mode:FMode} {fid:Nat} {fn:Func} {af:AFunc} (h:trF P p mode fid fn = some af):TrFunc P p fid fn af:=by
 unfold trF at h
 split at h
 ·cases h
 rename_i c hc
 split at h
 ·rename_i b rs h1 h2 h3
  cases h
  exact ⟨h1,⟨c,_,_,hc,h2⟩,rfl,h3⟩
 ·cases h
def TrAll (P:Program) (p:AProg):List (Option AFunc) → Nat → Prop
 | [],_ => True
 | none :: l,k => TrAll P p l (k + 1)
 | some af :: l,k => (∃ fn,P.funcs[k]? = some fn ∧ (trF P p af.mode k fn = some af ∨ trFf P p af.mode k fn = some af)) ∧ TrAll P p l (k + 1)
theorem trAll_get {p:AProg}:∀ {l:List (Option AFunc)} {k:Nat},TrAll P p l k → ∀ (f:Nat) (af:AFunc),l[f]? = some (some af) → ∃ fn,P.funcs[k + f]? = some fn ∧ (trF P p af.mode (k + f) fn = some af ∨ trFf P p af.mode (k + f) fn = some af)
 | [],k,h,f,af,hf => by simp at hf
 | none :: l,k,h,f,af,hf => by
  cases f with
  | zero => simp at hf
  | succ f =>
   have:=trAll_get (l:=l) (k:=k + 1) h f af (by simpa using hf)
   rw [show k + 1 + f = k + (f + 1) by omega] at this
   exact this
 | some a :: l,k,h,f,af,hf => by
  cases f with
  | zero => simp at hf; subst hf; exact h.1
  | succ f =>
   have:=trAll_get (l:=l) (k:=k + 1) h.2 f af (by simpa using hf)
   rw [show k + 1 + f = k + (f + 1) by omega] at this
   exact this
theorem trProg_of {p:AProg} (h:TrAll P p p 0):TrProg P p:=fun f af hf => by
 obtain ⟨fn,h1,h2⟩:=trAll_get h f af hf
 rw [Nat.zero_add] at h1 h2
 exact ⟨fn,h1,h2.elim trF_ok trFf_ok⟩
end Go.Am


set_option linter.unusedVariables false
set_option linter.unusedSimpArgs false
namespace Go.Am
def get:List (Nat × V) → Nat → V
 | [],_ => .junk
 | (j,v) :: l,i => if i = j then v else get l i
def ins (i:Nat) (x:V):List (Nat × V) → List (Nat × V)
 | [] => [(i,x)]
 | (j,v) :: l => if i = j then (i,x) :: l else if i < j then (i,x) :: (j,v) :: l else (j,v) :: ins i x l
def del (i:Nat):List (Nat × V) → List (Nat × V)
 | [] => []
 | (j,v) :: l => if i = j then del i l else (j,v) :: del i l
def dels (is:List Nat) (l:List (Nat × V)):List (Nat × V):=match is with | [] => l | i :: is => dels is (del i l)
def fr (n:Nat) (l:List (Nat × V)):List V:=(List.range n).map (get l)
def argsF:Nat → List V → List (Nat × V)
 | _,[] => []
 | i,v :: l => (i,v) :: argsF (i + 1) l
theorem fr_length (n:Nat) (l:List (Nat × V)):(fr n l).length = n:=by simp [fr]
theorem fr_getD {n:Nat} {l:List (Nat × V)} {i:Nat} (h:i < n):(fr n l).getD i .junk = get l i:=by
 simp [fr,List.getD_eq_getElem?_getD,h]
theorem fr_get? {n:Nat} {l:List (Nat × V)} {i:Nat} (h:i < n):(fr n l)[i]? = some (get l i):=by
 simp [fr,h]
theorem get_ins (i:Nat) (x:V) (j:Nat):∀ (l:List (Nat × V)),get (ins i x l) j = if j = i then x else get l j
 | [] => by simp [ins,get]
 | (k,v) :: l => by
  unfold ins
  split
  ·rename_i h
   subst h
   simp only [get]
   split <;> rfl
  ·split
   ·simp only [get]
   ·rename_i h1 h2
    simp only [get,get_ins i x j l]
    by_cases e:j = k
    ·subst e
     rw [if_pos rfl,if_neg (fun e => h1 e.symm),if_pos rfl]
    ·rw [if_neg e,if_neg e]
theorem get_del (i j:Nat):∀ (l:List (Nat × V)),get (del i l) j = if j = i then .junk else get l j
 | [] => by simp [del,get]
 | (k,v) :: l => by
  unfold del
  split
  ·rename_i h
   subst h
   rw [get_del i j l]
   simp only [get]
   split <;> rfl
  ·rename_i h1
   simp only [get,get_del i j l]
   by_cases e:j = k
   ·subst e
    rw [if_pos rfl,if_neg (fun e => h1 e.symm),if_pos rfl]
   ·rw [if_neg e,if_neg e]
theorem fr_set (n:Nat) (l:List (Nat × V)) (i:Nat) (x:V):(fr n l).set i x = fr n (ins i x l):=by
 apply List.ext_getElem?
 intro j
 rcases Nat.lt_or_ge j n with h | h
 ·rw [fr_get? h,get_ins]
  by_cases e:j = i
  ·subst e
   rw [if_pos rfl,List.getElem?_set_self (by rw [fr_length]; exact h)]
  ·rw [if_neg e,List.getElem?_set_ne (Ne.symm e),fr_get? h]
 ·rw [List.getElem?_eq_none (by rw [List.length_set,fr_length]; exact h),List.getElem?_eq_none (by rw [fr_length]; exact h)]
theorem fr_del (n:Nat) (l:List (Nat × V)) (i:Nat):(fr n l).set i .junk = fr n (del i l):=by
 rw [fr_set]
 unfold fr
 apply List.map_congr_left
 intro j _
 rw [get_ins,get_del]
theorem fr_clear (n:Nat):∀ (is:List Nat) (l:List (Nat × V)),clear is (fr n l) = fr n (dels is l)
 | [],l => rfl
 | i :: is,l => by
  have:clear (i :: is) (fr n l) = clear is ((fr n l).set i .junk):=rfl
  rw [this,fr_del,fr_clear n is]
  rfl
theorem get_argsF:∀ (l:List V) (k i:Nat),get (argsF k l) i = if i < k then .junk else l.getD (i - k) .junk
 | [],k,i => by simp [argsF,get]
 | v :: l,k,i => by
  simp only [argsF,get,get_argsF l]
  by_cases h:i = k
  ·subst h; simp
  ·rw [if_neg h]
   by_cases h1:i < k
   ·rw [if_pos (by omega),if_pos h1]
   ·rw [if_neg (by omega),if_neg h1,show i - k = (i - (k + 1)) + 1 by omega,List.getD_cons_succ]
theorem fr_args (args:List V) (n:Nat) (h:args.length ≤ n):args ++ List.replicate (n - args.length) .junk = fr n (argsF 0 args):=by
 apply List.ext_getElem?
 intro i
 rcases Nat.lt_or_ge i n with hi | hi
 ·rw [fr_get? hi,get_argsF,if_neg (by omega),Nat.sub_zero,List.getD_eq_getElem?_getD]
  rcases Nat.lt_or_ge i args.length with k | k
  ·rw [List.getElem?_append_left k,List.getElem?_eq_getElem k]; rfl
  ·rw [List.getElem?_append_right k,List.getElem?_replicate,if_pos (by omega),List.getElem?_eq_none k]; rfl
 ·rw [List.getElem?_eq_none (by simp; omega),List.getElem?_eq_none (by rw [fr_length]; exact hi)]
theorem ev_fr {n:Nat} {l:List (Nat × V)} {i:Nat} (h:i < n):ev (fr n l) (.tmp i) = get l i:=fr_getD h
theorem ev_cst (t:List V) (v:V):ev t (.cst v) = v:=rfl
theorem put_none (t:List V) (v:V):put t none v = t:=rfl
theorem put_fr (n:Nat) (l:List (Nat × V)) (i:Nat) (v:V):put (fr n l) (some i) v = fr n (ins i v l):=fr_set n l i v
structure Env where
 pureF:FuncId → FMode
 call:Caller
 N:Nat
 fb:Nat
def Env.framed (E:Env):Env:={ E with call:=frameC E.pureF E.call }
abbrev Post:=Ex → List V → Heap → Prop
def wp (E:Env) (c:ACode) (t:List V) (h:Heap) (Q:Post):Prop :=
 match exec E.pureF E.call E.N E.fb c t h with
 | some (e,t',h') => Q e t' h'
 | none => False
def seqQ (E:Env) (b:ACode) (Q:Post):Post:=fun e t h =>
 match e with
 | .norm => wp E b t h Q
 | e => Q e t h
def blkQ (id:Nat) (Q:Post):Post:=fun e t h =>
 match e with
 | .exit i => if i = id then Q .norm t h else Q (.exit i) t h
 | e => Q e t h
def condP (E:Env) (v:V) (a b:ACode) (t:List V) (h:Heap) (Q:Post):Prop :=
 match v with
 | .bool x => (x = true → wp E a t h Q) ∧ (x = false → wp E b t h Q)
 | _ => False
abbrev Cont:=List V → Heap → Prop
def wpo (E:Env) (ops:List AOper) (t:List V) (h:Heap) (K:Cont):Prop :=
 match runOps E.call E.fb ops t h with
 | some (t',h') => K t' h'
 | none => False
def opK (E:Env) (dst:Option Nat) (os:List AOper) (t:List V) (K:Cont) (v:V) (h:Heap):Prop:=wpo E os (put t dst v) h K
def wcall (r:Option (V × Heap)) (C:V → Heap → Prop):Prop :=
 match r with
 | some (v,h) => C v h
 | none => False
def effP (e:Option Eff) (h:Heap) (C:V → Heap → Prop):Prop :=
 match e with
 | some (.ret v) => C v h
 | some (.set o x v) => C v (h.set o x)
 | none => False
def wop (E:Env) (op:AOp) (t:List V) (h:Heap) (C:V → Heap → Prop):Prop :=
 wcall (doOp E.call E.fb op (ev t) h) C
def gdP (E:Env) (v:V) (want:Bool) (op:AOp) (dst:Option Nat) (os:List AOper) (t:List V) (h:Heap) (K:Cont):Prop :=
 match v with
 | .bool x => (x = want → wop E op t h (opK E dst os t K)) ∧ (x = !want → wpo E os (put t dst (.tup [])) h K)
 | .tup [] => wpo E os (put t dst (.tup [])) h K
 | _ => False
theorem wp_clr {E:Env} {l:List Nat} {n:Nat} {t:List (Nat × V)} {h:Heap} {Q:Post}:wp E (.clr l) (fr n t) h Q = Q .norm (fr n (dels l t)) h:=by
 rw [← fr_clear]; rfl
theorem wp_seq {E:Env} {a b:ACode} {t:List V} {h:Heap} {Q:Post}:wp E (.seq a b) t h Q = wp E a t h (seqQ E b Q):=by
 unfold wp
 simp only [exec]
 cases exec E.pureF E.call E.N E.fb a t h with
 | none => rfl
 | some r => obtain ⟨e,t',h'⟩:=r; cases e <;> rfl
theorem wp_block {E:Env} {i:Nat} {b:ACode} {t:List V} {h:Heap} {Q:Post}:wp E (.block i b) t h Q = wp E b t h (blkQ i Q):=by
 unfold wp
 simp only [exec]
 cases exec E.pureF E.call E.N E.fb b t h with
 | none => rfl
 | some r =>
  obtain ⟨e,t',h'⟩:=r
  cases e with
  | exit j => by_cases hj:j = i <;> simp [blkQ,hj]
  | _ => rfl
theorem blkQ_norm {i:Nat} {Q:Post} {t:List V} {h:Heap}:blkQ i Q .norm t h = Q .norm t h:=rfl
theorem blkQ_ret {i:Nat} {Q:Post} {t:List V} {h:Heap}:blkQ i Q .ret t h = Q .ret t h:=rfl
theorem blkQ_exit {i j:Nat} {Q:Post} {t:List V} {h:Heap}:blkQ i Q (.exit j) t h = if j = i then Q .norm t h else Q (.exit j) t h:=rfl
theorem wp_cond {E:Env} {c:Opd} {a b:ACode} {t:List V} {h:Heap} {Q:Post}:wp E (.cond c a b) t h Q = condP E (ev t c) a b t h Q:=by
 unfold wp condP
 simp only [exec]
 cases ev t c with
 | bool x => cases x <;> simp [wp]
 | _ => rfl
theorem wp_region {E:Env} {ops:List AOper} {t:List V} {h:Heap} {Q:Post}:wp E (.region ops) t h Q = wpo E ops t h (Q .norm):=by
 unfold wp wpo
 simp only [exec]
 cases runOps E.call E.fb ops t h <;> rfl
theorem wpo_cons {E:Env} {dst:Option Nat} {op:AOp} {os:List AOper} {t:List V} {h:Heap} {K:Cont}:wpo E (⟨dst,op,none⟩ :: os) t h K = wop E op t h (opK E dst os t K):=by
 unfold wpo wop
 simp only [runOps,stepOp,wanted]
 cases doOp E.call E.fb op (ev t) h <;> rfl
theorem wpo_guard {E:Env} {dst:Option Nat} {op:AOp} {g:Nat} {w:Bool} {os:List AOper} {t:List V} {h:Heap} {K:Cont} :
  wpo E (⟨dst,op,some (g,w)⟩ :: os) t h K = gdP E (ev t (.tmp g)) w op dst os t h K:=by
 unfold wpo gdP
 simp only [runOps,stepOp,wanted,ev]
 cases t.getD g .junk with
 | bool b =>
  cases b <;> cases w <;> simp [wop,wpo,opK] <;> cases doOp E.call E.fb op (ev t) h <;> rfl
 | tup l => cases l <;> rfl
 | _ => rfl
theorem wcall_some {v:V} {h:Heap} {C:V → Heap → Prop}:wcall (some (v,h)) C = C v h:=rfl
theorem effP_ret {v:V} {h:Heap} {C:V → Heap → Prop}:effP (some (.ret v)) h C = C v h:=rfl
theorem effP_set {o:Nat} {x:Ob} {v:V} {h:Heap} {C:V → Heap → Prop}:effP (some (.set o x v)) h C = C v (h.set o x):=rfl
theorem effP_none {h:Heap} {C:V → Heap → Prop}:effP none h C = False:=rfl
theorem effP_ite {p:Prop} [Decidable p] {a b:Option Eff} {h:Heap} {C:V → Heap → Prop}:effP (if p then a else b) h C = ((p → effP a h C) ∧ (¬ p → effP b h C)):=by
 by_cases hp:p <;> simp [hp]
theorem wop_call {E:Env} {f:FuncId} {args:List Opd} {t:List V} {h:Heap} {C:V → Heap → Prop} (hy:f ≠ 1000000007):wop E (.call f args) t h C = wcall (E.call f (args.map (ev t)) h) C:=by
 have hy':¬ f = YLD:=hy
 simp only [wop,doOp,if_neg hy']
theorem wop_prim {E:Env} {op:AOp} {t:List V} {h:Heap} {C:V → Heap → Prop} (hc:∀ f args,op ≠ .call f args) (hv:∀ f args,op ≠ .callv f args) :
  wop E op t h C = effP (prim E.fb (ev t) (fun o => h[o]?) op) h C:=by
 unfold wop effP
 have:doOp E.call E.fb op (ev t) h = match prim E.fb (ev t) (fun o => h[o]?) op with | some (.ret v) => some (v,h) | some (.set o x v) => some (v,h.set o x) | none => none:=by
  cases op <;> first | rfl | exact absurd rfl (hc _ _) | exact absurd rfl (hv _ _)
 rw [this]
 cases prim E.fb (ev t) (fun o => h[o]?) op with
 | none => rfl
 | some e => cases e <;> rfl
theorem wp_mono {E:Env} {c:ACode} {t:List V} {h:Heap} {Q Q':Post} (H:wp E c t h Q) (hQ:∀ e t h,Q e t h → Q' e t h):wp E c t h Q':=by
 unfold wp at *
 cases he:exec E.pureF E.call E.N E.fb c t h with
 | none => rw [he] at H; exact H
 | some r => rw [he] at H; exact hQ _ _ _ H
def loopQ (i k:Nat) (I:Nat → List V → Heap → Prop) (Q:Post):Post:=fun e t h =>
 match e with
 | .norm => i < k ∧ I (i + 1) t h
 | e => Q e t h
theorem loopQ_norm {i k:Nat} {I:Nat → List V → Heap → Prop} {Q:Post} {t:List V} {h:Heap}:loopQ i k I Q .norm t h = (i < k ∧ I (i + 1) t h):=rfl
theorem loopQ_exit {i k j:Nat} {I:Nat → List V → Heap → Prop} {Q:Post} {t:List V} {h:Heap}:loopQ i k I Q (.exit j) t h = Q (.exit j) t h:=rfl
theorem loopQ_ret {i k:Nat} {I:Nat → List V → Heap → Prop} {Q:Post} {t:List V} {h:Heap}:loopQ i k I Q .ret t h = Q .ret t h:=rfl
theorem wp_loop {E:Env} {b:ACode} {t:List V} {h:Heap} {Q:Post} (I:Nat → List V → Heap → Prop) (k:Nat) (hk:k < E.N) (h0:I 0 t h)
  (hs:∀ i t h,i ≤ k → I i t h → wp E b t h (loopQ i k I Q)):wp E (.loop [] [] b) t h Q:=by
 unfold wp
 simp only [exec]
 have key:∀ (m i:Nat) (t:List V) (h:Heap),i ≤ k → k - i < m → I i t h →
   match loopN (exec E.pureF E.call E.N E.fb b) (fun t h => (clear [] t,killA E.fb [] h)) m t h with | some (e,t',h') => Q e t' h' | none => False:=by
  intro m
  induction m with
  | zero => intro i t h _ hm; omega
  | succ m ih =>
   intro i t h hi hm hI
   have H:=hs i t h hi hI
   unfold wp at H
   simp only [loopN,clear,killA,List.foldl]
   cases he:exec E.pureF E.call E.N E.fb b t h with
   | none => rw [he] at H; exact H
   | some r =>
    obtain ⟨e,t',h'⟩:=r
    rw [he] at H
    cases e with
    | norm =>
     obtain ⟨h1,h2⟩:=H
     exact ih (i + 1) t' h' (by omega) (by omega) h2
    | _ => exact H
 exact key E.N 0 t h (Nat.zero_le _) (by omega) h0
def wpd (E:Env) (n:Nat) (ops:List (AOper × List Nat)) (fps:List FpT) (t:List V) (h:Heap) (K:Cont):Prop :=
 match runDraw E.pureF E.call E.fb n ops fps t h with
 | some (t',h') => K t' h'
 | none => False
theorem wp_draw {E:Env} {ops:List (AOper × List Nat)} {t:List V} {h:Heap} {Q:Post}:wp E (.draw ops) t h Q = wpd E.framed h.length ops [] t h (Q .norm):=by
 unfold wp wpd
 simp only [exec,Env.framed]
 cases runDraw E.pureF (frameC E.pureF E.call) E.fb h.length ops [] t h <;> rfl
def plainD (ops:List (AOper × List Nat)):Bool:=ops.all fun x => x.2.isEmpty
theorem runDraw_plain {pureF:FuncId → FMode} {call:Caller} {fb n:Nat}:∀ (ops:List (AOper × List Nat)) (fps:List FpT) (t:List V) (h:Heap),plainD ops = true →
  runDraw pureF call fb n ops fps t h = runOps call fb (ops.map (·.1)) t h
 | [],fps,t,h,_ => rfl
 | (o,ps) :: os,fps,t,h,hp => by
  simp only [plainD,List.all_cons,Bool.and_eq_true,List.isEmpty_iff] at hp
  obtain ⟨rfl,hp⟩:=hp
  simp only [runDraw,List.all_nil,↓reduceIte,List.map_cons,runOps]
  cases stepOp call fb o t h with
  | none => rfl
  | some r => exact runDraw_plain os _ _ _ hp
theorem wp_draw_plain {E:Env} {ops:List (AOper × List Nat)} {t:List V} {h:Heap} {Q:Post} (hp:plainD ops = true):wp E (.draw ops) t h Q = wpo E.framed (ops.map (·.1)) t h (Q .norm):=by
 rw [wp_draw]
 unfold wpd wpo
 rw [runDraw_plain ops _ _ _ hp]
theorem framed_pureF {E:Env}:E.framed.pureF = E.pureF:=rfl
theorem framed_fb {E:Env}:E.framed.fb = E.fb:=rfl
theorem framed_N {E:Env}:E.framed.N = E.N:=rfl
theorem framed_pure {E:Env} {f:FuncId} {args:List V} {h:Heap} (hf:E.pureF f = .pure) (hy:f ≠ 1000000007):E.framed.call f args h = E.call f args h:=by
 have hy':¬ f = YLD:=hy
 simp [Env.framed,frameC,hf,hy']
def retQ (res:List ARes) (C:V → Heap → Prop):Post:=fun e t h =>
 match e with
 | .exit _ => False
 | _ => match resA (fun o => h[o]?) t res with | some vs => C (packR vs) h | none => False
theorem retQ_norm {res:List ARes} {C:V → Heap → Prop} {t:List V} {h:Heap}:retQ res C .norm t h = (match resA (fun o => h[o]?) t res with | some vs => C (packR vs) h | none => False):=rfl
theorem retQ_ret {res:List ARes} {C:V → Heap → Prop} {t:List V} {h:Heap}:retQ res C .ret t h = (match resA (fun o => h[o]?) t res with | some vs => C (packR vs) h | none => False):=rfl
theorem body_of_wp {p:AProg} {call:Caller} {N fb:Nat} {fn:AFunc} {args:List V} {h:Heap} {C:V → Heap → Prop} (hl:args.length ≤ fn.nt)
  (H:wp ⟨pureOf p,call,N,fb⟩ fn.body (fr fn.nt (argsF 0 args)) h (retQ fn.res C)):∃ v h',bodyA p call N fb fn args h = some (v,h') ∧ C v h':=by
 unfold bodyA
 rw [fr_args args fn.nt hl]
 unfold wp at H
 simp only at H
 split at H
 ·rename_i e t' h' he
  rw [he]
  cases e with
  | exit i => exact H.elim
  | norm =>
   simp only [retQ] at H
   split at H
   ·rename_i vs hr; exact ⟨_,_,by simp only [hr],H⟩
   ·exact H.elim
  | ret =>
   simp only [retQ] at H
   split at H
   ·rename_i vs hr; exact ⟨_,_,by simp only [hr],H⟩
   ·exact H.elim
 ·exact H.elim
theorem call_pure {p:AProg} {N n:Nat} {f:FuncId} {fn:AFunc} {args:List V} {h:Heap} {v:V} (hf:p[f]? = some (some fn)) (hm:fn.mode = .pure) (ha:args.length = fn.nargs) (hl:fn.nargs ≤ fn.nt)
  (hfree:V.freeL args = true)
  (H:wp ⟨pureOf p,callA p N n,N,0⟩ fn.body (fr fn.nt (argsF 0 args)) (deads fn.sites) (retQ fn.res fun x h' => V.shut (fun o => h'[o]?) sealDepth x = some v)) (hy:f ≠ YLD:=by decide) :
  callA p N (n + 1) f args h = some (v,h):=by
 obtain ⟨x,h',hb,hs⟩:=body_of_wp (by omega) H
 unfold callA
 rw [if_neg hy]
 simp only [hf,ha,↓reduceIte,hm,hfree,hb,hs]
def selV (y:Bool) (v:V):V:=match y with | true => v | false => .tup []
def impB (y:Bool) (P:Prop):Prop:=y = true → P
def valOf (r:Option (V × Heap)):V:=match r with | some (v,_) => v | none => .junk
def retH (r:Option (V × Heap)) (h:Heap):Prop:=match r with | some (_,h') => h' = h | none => False
def stays (pureF:FuncId → FMode):AOp → Bool
 | .allocz .. | .box .. | .store .. | .s2b .. | .mkslice .. | .append .. | .copy .. | .callv .. | .clearS .. | .bnew .. => false
 | .call f _ => match pureF f with | .pure => true | .look => true | _ => false
 | _ => true
def wantB (x want:Bool):Bool:=match want with | true => x | false => !x
def sxo (E:Env):List AOper → List V → Heap → Cont → Prop
 | [],t,h,K => K t h
 | o :: os,t,h,K =>
  match o.guard with
  | none => wcall (doOp E.call E.fb o.op (ev t) h) fun v h' => sxo E os (put t o.dst v) h' K
  | some (g,want) =>
   match ev t (.tmp g) with
   | .bool x =>
    match stays E.pureF o.op with
    | true => impB (wantB x want) (retH (doOp E.call E.fb o.op (ev t) h) h) ∧ sxo E os (put t o.dst (selV (wantB x want) (valOf (doOp E.call E.fb o.op (ev t) h)))) h K
    | false => (wantB x want = true → wcall (doOp E.call E.fb o.op (ev t) h) fun v h' => sxo E os (put t o.dst v) h' K) ∧ (wantB x want = false → sxo E os (put t o.dst (.tup [])) h K)
   | .tup [] => sxo E os (put t o.dst (.tup [])) h K
   | _ => False
def sxK (E:Env) (dst:Option Nat) (os:List AOper) (t:List V) (K:Cont) (v:V) (h:Heap):Prop:=sxo E os (put t dst v) h K
def gdS (E:Env) (v:V) (want st:Bool) (op:AOp) (dst:Option Nat) (os:List AOper) (t:List V) (h:Heap) (K:Cont):Prop :=
 match v with
 | .bool x =>
  match st with
  | true => impB (wantB x want) (retH (doOp E.call E.fb op (ev t) h) h) ∧ sxo E os (put t dst (selV (wantB x want) (valOf (doOp E.call E.fb op (ev t) h)))) h K
  | false => (wantB x want = true → wcall (doOp E.call E.fb op (ev t) h) (sxK E dst os t K)) ∧ (wantB x want = false → sxo E os (put t dst (.tup [])) h K)
 | .tup [] => sxo E os (put t dst (.tup [])) h K
 | _ => False
theorem sxo_wpo {E:Env}:∀ {ops:List AOper} {t:List V} {h:Heap} {K:Cont},sxo E ops t h K → wpo E ops t h K
 | [],t,h,K,H => H
 | ⟨dst,op,none⟩ :: os,t,h,K,H => by
  rw [wpo_cons]
  simp only [sxo] at H
  unfold wop
  cases hd:doOp E.call E.fb op (ev t) h with
  | none => rw [hd] at H; exact H
  | some r => rw [hd] at H; exact sxo_wpo H
 | ⟨dst,op,some (g,want)⟩ :: os,t,h,K,H => by
  rw [wpo_guard]
  simp only [sxo] at H
  unfold gdP
  split at H
  ·rename_i x hx
   split at H
   ·obtain ⟨h1,h2⟩:=H
    refine ⟨fun e => ?_,fun e => ?_⟩
    ·subst e
     have hw:wantB x x = true:=by cases x <;> rfl
     rw [hw] at h1 h2
     have h1:=h1 rfl
     unfold wop
     cases hd:doOp E.call E.fb op (ev t) h with
     | none => rw [hd] at h1; exact h1
     | some r =>
      obtain ⟨v,h'⟩:=r
      rw [hd] at h1 h2
      simp only [retH] at h1
      subst h1
      exact sxo_wpo h2
    ·subst e
     have hw:wantB (!want) want = false:=by cases want <;> rfl
     rw [hw] at h2
     exact sxo_wpo h2
   ·obtain ⟨h1,h2⟩:=H
    refine ⟨fun e => ?_,fun e => ?_⟩
    ·subst e
     have h1:=h1 (by cases x <;> rfl)
     unfold wop
     cases hd:doOp E.call E.fb op (ev t) h with
     | none => rw [hd] at h1; exact h1
     | some r => rw [hd] at h1; exact sxo_wpo h1
    ·subst e
     exact sxo_wpo (h2 (by cases want <;> rfl))
  ·exact sxo_wpo H
  ·exact H.elim
def sx (E:Env):ACode → List V → Heap → Post → Prop
 | .seq a b,t,h,Q => sx E a t h fun e t h => match e with | .norm => sx E b t h Q | e => Q e t h
 | .cond c a b,t,h,Q => match ev t c with | .bool x => (x = true → sx E a t h Q) ∧ (x = false → sx E b t h Q) | _ => False
 | .block i b,t,h,Q => sx E b t h (blkQ i Q)
 | .region ops,t,h,Q => sxo E ops t h (Q .norm)
 | .draw ops,t,h,Q => match plainD ops with | true => sxo E.framed (ops.map (·.1)) t h (Q .norm) | false => wpd E.framed h.length ops [] t h (Q .norm)
 | .fresh n c,t,h,Q => sx { E with fb:=h.length } c t (h ++ deads n) Q
 | c,t,h,Q => wp E c t h Q
def sqQ (E:Env) (b:ACode) (Q:Post):Post:=fun e t h => match e with | .norm => sx E b t h Q | e => Q e t h
def cdP (E:Env) (v:V) (a b:ACode) (t:List V) (h:Heap) (Q:Post):Prop :=
 match v with
 | .bool x => (x = true → sx E a t h Q) ∧ (x = false → sx E b t h Q)
 | _ => False
theorem sx_wp {E:Env}:∀ {c:ACode} {t:List V} {h:Heap} {Q:Post},sx E c t h Q → wp E c t h Q
 | .seq a b,t,h,Q,H => by
  rw [wp_seq]
  refine wp_mono (sx_wp (c:=a) H) fun e t h H => ?_
  cases e with
  | norm => exact sx_wp (c:=b) H
  | exit i => exact H
  | ret => exact H
 | .cond c a b,t,h,Q,H => by
  rw [wp_cond]
  simp only [sx] at H
  unfold condP
  split at H
  ·exact ⟨fun e => sx_wp (H.1 e),fun e => sx_wp (H.2 e)⟩
  ·exact H.elim
 | .block i b,t,h,Q,H => by rw [wp_block]; exact sx_wp (c:=b) H
 | .region ops,t,h,Q,H => by rw [wp_region]; exact sxo_wpo H
 | .draw ops,t,h,Q,H => by
  simp only [sx] at H
  split at H
  ·rename_i hp; rw [wp_draw_plain hp]; exact sxo_wpo H
  ·rw [wp_draw]; exact H
 | .skip,t,h,Q,H => H
 | .loop _ _ _,t,h,Q,H => H
 | .exit _,t,h,Q,H => H
 | .ret,t,h,Q,H => H
 | .clr _,t,h,Q,H => H
 | .rangeF _ _ _ _ _ _ _,t,h,Q,H => H
 | .rangeM _ _ _ _ _ _ _ _ _,t,h,Q,H => H
 | .fresh n c,t,h,Q,H => sx_wp (E:={ E with fb:=h.length }) (c:=c) (t:=t) (h:=h ++ deads n) (Q:=Q) H
theorem sx_fresh {E:Env} {n:Nat} {c:ACode} {t:List V} {h:Heap} {Q:Post}:sx E (.fresh n c) t h Q = sx { E with fb:=h.length } c t (h ++ deads n) Q:=rfl
theorem sx_seq {E:Env} {a b:ACode} {t:List V} {h:Heap} {Q:Post}:sx E (.seq a b) t h Q = sx E a t h (sqQ E b Q):=rfl
theorem sqQ_norm {E:Env} {b:ACode} {Q:Post} {t:List V} {h:Heap}:sqQ E b Q .norm t h = sx E b t h Q:=rfl
theorem sqQ_exit {E:Env} {b:ACode} {Q:Post} {i:Nat} {t:List V} {h:Heap}:sqQ E b Q (.exit i) t h = Q (.exit i) t h:=rfl
theorem sqQ_ret {E:Env} {b:ACode} {Q:Post} {t:List V} {h:Heap}:sqQ E b Q .ret t h = Q .ret t h:=rfl
theorem sx_cond {E:Env} {c:Opd} {a b:ACode} {t:List V} {h:Heap} {Q:Post}:sx E (.cond c a b) t h Q = cdP E (ev t c) a b t h Q:=rfl
theorem cdP_true {E:Env} {a b:ACode} {t:List V} {h:Heap} {Q:Post}:cdP E (.bool true) a b t h Q = sx E a t h Q:=by simp [cdP]
theorem cdP_false {E:Env} {a b:ACode} {t:List V} {h:Heap} {Q:Post}:cdP E (.bool false) a b t h Q = sx E b t h Q:=by simp [cdP]
theorem cdP_bool {E:Env} {x:Bool} {a b:ACode} {t:List V} {h:Heap} {Q:Post}:cdP E (.bool x) a b t h Q = ((x = true → sx E a t h Q) ∧ (x = false → sx E b t h Q)):=rfl
theorem sx_block {E:Env} {i:Nat} {b:ACode} {t:List V} {h:Heap} {Q:Post}:sx E (.block i b) t h Q = sx E b t h (blkQ i Q):=rfl
theorem sx_region {E:Env} {ops:List AOper} {t:List V} {h:Heap} {Q:Post}:sx E (.region ops) t h Q = sxo E ops t h (Q .norm):=rfl
theorem sx_draw {E:Env} {ops:List (AOper × List Nat)} {t:List V} {h:Heap} {Q:Post} (hp:plainD ops = true):sx E (.draw ops) t h Q = sxo E.framed (ops.map (·.1)) t h (Q .norm):=by simp only [sx,hp]
theorem sx_skip {E:Env} {t:List V} {h:Heap} {Q:Post}:sx E .skip t h Q = Q .norm t h:=rfl
theorem sx_ret {E:Env} {t:List V} {h:Heap} {Q:Post}:sx E .ret t h Q = Q .ret t h:=rfl
theorem sx_exit {E:Env} {i:Nat} {t:List V} {h:Heap} {Q:Post}:sx E (.exit i) t h Q = Q (.exit i) t h:=rfl
theorem sx_clr {E:Env} {l:List Nat} {n:Nat} {t:List (Nat × V)} {h:Heap} {Q:Post}:sx E (.clr l) (fr n t) h Q = Q .norm (fr n (dels l t)) h:=wp_clr
theorem sxo_nil {E:Env} {t:List V} {h:Heap} {K:Cont}:sxo E [] t h K = K t h:=rfl
theorem sxo_cons {E:Env} {dst:Option Nat} {op:AOp} {os:List AOper} {t:List V} {h:Heap} {K:Cont}:sxo E (⟨dst,op,none⟩ :: os) t h K = wop E op t h (sxK E dst os t K):=rfl
theorem sxo_guard {E:Env} {dst:Option Nat} {op:AOp} {g:Nat} {w:Bool} {os:List AOper} {t:List V} {h:Heap} {K:Cont} :
  sxo E (⟨dst,op,some (g,w)⟩ :: os) t h K = gdS E (ev t (.tmp g)) w (stays E.pureF op) op dst os t h K:=by
 simp only [sxo,gdS]
 rfl
theorem gdS_bool {E:Env} {x w:Bool} {op:AOp} {dst:Option Nat} {os:List AOper} {t:List V} {h:Heap} {K:Cont} :
  gdS E (.bool x) w true op dst os t h K = (impB (wantB x w) (retH (doOp E.call E.fb op (ev t) h) h) ∧ sxo E os (put t dst (selV (wantB x w) (valOf (doOp E.call E.fb op (ev t) h)))) h K):=rfl
theorem gdS_eff {E:Env} {x w:Bool} {op:AOp} {dst:Option Nat} {os:List AOper} {t:List V} {h:Heap} {K:Cont} :
  gdS E (.bool x) w false op dst os t h K = ((wantB x w = true → wop E op t h (sxK E dst os t K)) ∧ (wantB x w = false → sxo E os (put t dst (.tup [])) h K)):=rfl
theorem gdS_tup {E:Env} {w st:Bool} {op:AOp} {dst:Option Nat} {os:List AOper} {t:List V} {h:Heap} {K:Cont}:gdS E (.tup []) w st op dst os t h K = sxo E os (put t dst (.tup [])) h K:=rfl
theorem gdS_sel {E:Env} {x y w:Bool} {op:AOp} {dst:Option Nat} {os:List AOper} {t:List V} {h:Heap} {K:Cont} :
  gdS E (selV y (.bool x)) w true op dst os t h K = (impB y (impB (wantB x w) (retH (doOp E.call E.fb op (ev t) h) h)) ∧ sxo E os (put t dst (selV y (selV (wantB x w) (valOf (doOp E.call E.fb op (ev t) h))))) h K):=by
 cases y
 ·simp [gdS,selV,impB]
 ·simp only [selV,gdS,impB,true_implies]
theorem gdS_seleff {E:Env} {x y w:Bool} {op:AOp} {dst:Option Nat} {os:List AOper} {t:List V} {h:Heap} {K:Cont} :
  gdS E (selV y (.bool x)) w false op dst os t h K = ((y = true → gdS E (.bool x) w false op dst os t h K) ∧ (y = false → sxo E os (put t dst (.tup [])) h K)):=by
 cases y
 ·simp [gdS,selV]
 ·simp [gdS,selV]
theorem sxK_def {E:Env} {dst:Option Nat} {os:List AOper} {t:List V} {K:Cont} {v:V} {h:Heap}:sxK E dst os t K v h = sxo E os (put t dst v) h K:=rfl
theorem wantB_true {x:Bool}:wantB x true = x:=rfl
theorem wantB_false {x:Bool}:wantB x false = !x:=rfl
theorem selV_true {v:V}:selV true v = v:=rfl
theorem selV_false {v:V}:selV false v = .tup []:=rfl
theorem selV_and {x y:Bool} {v:V}:selV (x && y) v = selV x (selV y v):=by cases x <;> cases y <;> rfl
theorem impB_true {P:Prop}:impB true P = P:=by simp [impB]
theorem impB_false {P:Prop}:impB false P = True:=by simp [impB]
theorem impB_and {x y:Bool} {P:Prop}:impB (x && y) P = impB x (impB y P):=by cases x <;> cases y <;> simp [impB]
theorem impB_triv {x:Bool}:impB x True = True:=by simp [impB]
theorem selV_congr {x:Bool} {v v':V} (hv:x = true → v = v'):selV x v = selV x v':=by
 cases x with
 | true => exact hv rfl
 | false => rfl
theorem impB_congr {x:Bool} {P P':Prop} (hv:x = true → P = P'):impB x P = impB x P':=by
 cases x with
 | true => simp only [impB,hv rfl]
 | false => simp [impB]
theorem selV_wt {x:Bool} {v:V}:selV (wantB x true) v = selV x v:=rfl
theorem selV_wf {x:Bool} {v:V}:selV (wantB x false) v = selV (!x) v:=rfl
theorem selV_nor {x y:Bool} {v:V}:selV (!(x || y)) v = selV (!x) (selV (!y) v):=by cases x <;> cases y <;> rfl
theorem impB_wt {x:Bool} {v:Prop}:impB (wantB x true) v = impB x v:=rfl
theorem impB_wf {x:Bool} {v:Prop}:impB (wantB x false) v = impB (!x) v:=rfl
theorem impB_nor {x y:Bool} {v:Prop}:impB (!(x || y)) v = impB (!x) (impB (!y) v):=by cases x <;> cases y <;> simp [impB]
theorem selV_nt {v:V}:selV (!true) v = .tup []:=rfl
theorem selV_nf {v:V}:selV (!false) v = v:=rfl
theorem impB_nt {v:Prop}:impB (!true) v = True:=by simp [impB]
theorem impB_nf {v:Prop}:impB (!false) v = v:=by simp [impB]
theorem valOf_some {v:V} {h:Heap}:valOf (some (v,h)) = v:=rfl
theorem retH_some {v:V} {h h':Heap}:retH (some (v,h')) h = (h' = h):=rfl
def pickO (c a b:V):Option Eff:=match c with | .bool x => some (.ret (match x with | true => a | false => b)) | _ => none
def pickAnd (x:Bool) (e:Option Eff):Option Eff:=match x with | true => e | false => some (.ret (.bool false))
def pickOr (x:Bool) (e:Option Eff):Option Eff:=match x with | true => some (.ret (.bool true)) | false => e
theorem prim_pick {fb:Nat} {ρ:Opd → V} {get:Nat → Option Ob} {c a b:Opd}:prim fb ρ get (.pick c a b) = pickO (ρ c) (ρ a) (ρ b):=rfl
theorem pickO_true {a b:V}:pickO (.bool true) a b = some (.ret a):=rfl
theorem pickO_false {a b:V}:pickO (.bool false) a b = some (.ret b):=rfl
theorem pickO_and {x y:Bool}:pickO (.bool x) (selV x (.bool y)) (.bool false) = some (.ret (.bool (x && y))):=by cases x <;> rfl
theorem pickO_or {x y:Bool}:pickO (.bool x) (.bool true) (selV (!x) (.bool y)) = some (.ret (.bool (x || y))):=by cases x <;> rfl
theorem pickO_orn {x y:Bool}:pickO (.bool (!x)) (.bool true) (selV x (.bool y)) = some (.ret (.bool (!x || y))):=by cases x <;> rfl
theorem pickO_bb {x y z:Bool}:pickO (.bool x) (.bool y) (.bool z) = some (.ret (.bool (bif x then y else z))):=by cases x <;> rfl
theorem pickO_andr {x r:Bool} {w:V}:pickO (.bool (x && r)) (selV x w) (.bool false) = pickAnd x (pickO (.bool r) w (.bool false)):=by cases x <;> rfl
theorem pickO_orr {x r:Bool} {w:V}:pickO (.bool (x || r)) (.bool true) (selV (!x) w) = pickOr x (pickO (.bool r) (.bool true) w):=by cases x <;> rfl
theorem pickO_orrn {x r:Bool} {w:V}:pickO (.bool (!x || r)) (.bool true) (selV x w) = pickOr (!x) (pickO (.bool r) (.bool true) w):=by cases x <;> rfl
theorem pickAnd_bool {x y:Bool}:pickAnd x (some (.ret (.bool y))) = some (.ret (.bool (x && y))):=by cases x <;> rfl
theorem pickOr_bool {x y:Bool}:pickOr x (some (.ret (.bool y))) = some (.ret (.bool (x || y))):=by cases x <;> rfl
theorem selV_nn {x:Bool} {v:V}:selV (!!x) v = selV x v:=by cases x <;> rfl
theorem impB_nn {x:Bool} {v:Prop}:impB (!!x) v = impB x v:=by cases x <;> simp [impB]
end Go.Am


set_option linter.unusedVariables false
set_option linter.unusedSimpArgs false
namespace Go.Am
theorem freeL_cons (v:V) (l:List V):V.freeL (v :: l) = (v.free && V.freeL l):=by rfl
theorem freeL_nil:V.freeL [] = true:=by rfl
theorem free_int (k:IntKind) (n:Int):(V.int k n).free = true:=rfl
theorem free_bool (n:Bool):(V.bool n).free = true:=rfl
theorem free_str (n:List UInt8):(V.str n).free = true:=rfl
theorem free_nils:V.nils.free = true:=rfl
theorem free_agg (l:List V):(V.agg l).free = V.freeL l:=rfl
theorem free_tup (l:List V):(V.tup l).free = V.freeL l:=rfl
theorem free_sl (l:List V) (s:Nat) (c:Option Nat):(V.sl l s c).free = V.freeL l:=rfl
theorem freeL_append (a b:List V):V.freeL (a ++ b) = (V.freeL a && V.freeL b):=by
 induction a with
 | nil => simp [freeL_nil]
 | cons x a ih => simp [freeL_cons,ih,Bool.and_assoc]
theorem shut_plain {get:Nat → Option Ob} {d:Nat} {v:V} (h:v.free = true):V.shut get (d + 1) v = some v:=by
 simp [V.shut,h]
theorem shut_int {get:Nat → Option Ob} {d:Nat} {k:IntKind} {n:Int}:V.shut get (d + 1) (.int k n) = some (.int k n):=shut_plain rfl
theorem shut_bool {get:Nat → Option Ob} {d:Nat} {b:Bool}:V.shut get (d + 1) (.bool b) = some (.bool b):=shut_plain rfl
theorem opt_bind_some {α β:Type} (a:α) (f:α → Option β):Option.bind (some a) f = f a:=rfl
theorem opt_bind_none {α β:Type} (f:α → Option β):Option.bind none f = none:=rfl
theorem opt_map_some {α β:Type} (a:α) (f:α → β):Option.map f (some a) = some (f a):=rfl
theorem opt_map_none {α β:Type} (f:α → β):Option.map f none = none:=rfl
theorem wrap64_eq (n:Int):IntKind.i64.wrap n = if n % 18446744073709551616 ≥ 9223372036854775808 then n % 18446744073709551616 - 18446744073709551616 else n % 18446744073709551616:=by
 unfold IntKind.wrap
 simp [IntKind.bits,IntKind.signed]
theorem wrap64 {n:Int} (h1:-9223372036854775808 ≤ n) (h2:n ≤ 9223372036854775807):IntKind.i64.wrap n = n:=by
 rw [wrap64_eq]
 split <;> omega
def ElemOk' (s:Nat) (e:V):Prop:=e.cells.length = s ∧ wrapV e.cells = e ∧ (∀ c ∈ e.cells,c.free = true ∧ c.oneCell = true)
theorem mapM_free {get:Nat → Option Ob} {d:Nat}:∀ {l:List V},(∀ c ∈ l,c.free = true) → l.mapM (V.shut get (d + 1)) = some l
 | [],_ => rfl
 | c :: l,h => by
  rw [List.mapM_cons,shut_plain (h c (by simp)),mapM_free (fun c hc => h c (by simp [hc]))]
  rfl
theorem flat_chunk (s:Nat) (hs:0 < s):∀ (L:List V),(∀ e ∈ L,ElemOk' s e) → ((List.range L.length).map fun i => wrapV (((L.flatMap V.cells).drop (i * s)).take s)) = L
 | [],_ => rfl
 | e :: L,h => by
  obtain ⟨h1,h2,h3⟩:=h e (by simp)
  have ih:=flat_chunk s hs L (fun e he => h e (by simp [he]))
  rw [List.length_cons,List.range_succ_eq_map,List.map_cons,List.map_map]
  have e0:wrapV ((((e :: L).flatMap V.cells).drop (0 * s)).take s) = e:=by
   simp only [Nat.zero_mul,List.drop_zero,List.flatMap_cons]
   rw [List.take_append_of_le_length (by omega),List.take_of_length_le (by omega),h2]
  have e1:(List.range L.length).map ((fun i => wrapV ((((e :: L).flatMap V.cells).drop (i * s)).take s)) ∘ Nat.succ) = (List.range L.length).map fun i => wrapV (((L.flatMap V.cells).drop (i * s)).take s):=by
   apply List.map_congr_left
   intro i _
   simp only [Function.comp,List.flatMap_cons,Nat.succ_eq_add_one]
   rw [show (i + 1) * s = e.cells.length + i * s by rw [h1,Nat.succ_mul]; omega,List.drop_append,List.drop_eq_nil_of_le (by omega),List.nil_append]
   congr 3
   omega
  rw [e0,e1,ih]
theorem shut_view {get:Nat → Option Ob} {d o ver off len s:Nat} {cap:Option Nat} {L:List V} (hs:0 < s) (hL:∀ e ∈ L,ElemOk' s e) (hlen:len = L.length)
  (hl:loadA get (len * s) (.ptr o ver off) = some (L.flatMap V.cells)):V.shut get (d + 2) (.view o ver off len s cap) = some (.sl L s cap):=by
 have hf:∀ c ∈ L.flatMap V.cells,c.free = true ∧ c.oneCell = true:=by
  intro c hc
  obtain ⟨e,he,hc⟩:=List.mem_flatMap.1 hc
  exact (hL e he).2.2 c hc
 have hm:(L.flatMap V.cells).mapM (V.shut get (d + 1)) = some (L.flatMap V.cells):=mapM_free (fun c hc => (hf c hc).1)
 have e:V.shut get (d + 2) (.view o ver off len s cap) = match loadA get (len * s) (.ptr o ver off) with
   | some cs => match cs.mapM (V.shut get (d + 1)) with
    | some cs => if cs.all V.oneCell then some (.sl ((List.range len).map fun i => wrapV ((cs.drop (i * s)).take s)) s cap) else none
    | none => none
   | none => none:=rfl
 rw [e,hl]
 simp only [hm]
 rw [if_pos (by rw [List.all_eq_true]; exact fun c hc => (hf c hc).2)]
 subst hlen
 rw [flat_chunk s hs L hL]
def sxL (E:Env):Nat → ACode → List V → Heap → Post → Prop
 | 0,_,_,_,_ => False
 | m + 1,b,t,h,Q => sx E b t h fun e t h => match e with | .norm => sxL E m b t h Q | e => Q e t h
def lpQ (E:Env) (m:Nat) (b:ACode) (Q:Post):Post:=fun e t h => match e with | .norm => sxL E m b t h Q | e => Q e t h
theorem sxL_succ {E:Env} {m:Nat} {b:ACode} {t:List V} {h:Heap} {Q:Post}:sxL E (m + 1) b t h Q = sx E b t h (lpQ E m b Q):=rfl
theorem lpQ_norm {E:Env} {m:Nat} {b:ACode} {Q:Post} {t:List V} {h:Heap}:lpQ E m b Q .norm t h = sxL E m b t h Q:=rfl
theorem lpQ_exit {E:Env} {m i:Nat} {b:ACode} {Q:Post} {t:List V} {h:Heap}:lpQ E m b Q (.exit i) t h = Q (.exit i) t h:=rfl
theorem lpQ_ret {E:Env} {m:Nat} {b:ACode} {Q:Post} {t:List V} {h:Heap}:lpQ E m b Q .ret t h = Q .ret t h:=rfl
theorem sx_loop {E:Env} {b:ACode} {t:List V} {h:Heap} {Q:Post} (I:Nat → List V → Heap → Prop) (k:Nat) (hk:k < E.N) (h0:I 0 t h)
  (hs:∀ i t h,i ≤ k → I i t h → sx E b t h (loopQ i k I Q)):sx E (.loop [] [] b) t h Q :=
 wp_loop I k hk h0 fun i t h hi hI => sx_wp (hs i t h hi hI)
end Go.Am


set_option linter.unusedVariables false
set_option linter.unusedSimpArgs false
namespace Go.Am
def Sub (c c':Caller):Prop:=∀ f args h r,c f args h = some r → c' f args h = some r
theorem doOp_mono {c c':Caller} (hc:Sub c c') {fb:Nat} {op:AOp} {ρ:Opd → V} {h:Heap} {r:V × Heap} (H:doOp c fb op ρ h = some r):doOp c' fb op ρ h = some r:=by
 unfold doOp at *
 split at H
 ·split at H
  ·cases H
  ·rename_i hny
   simp only [if_neg hny]
   exact hc _ _ _ _ H
 ·split at H
  ·split at H
   ·cases H
   ·rename_i hny
    simp only [if_neg hny]
    exact hc _ _ _ _ H
  ·exact hc _ _ _ _ H
  ·cases H
 ·exact H
theorem stepOp_mono {c c':Caller} (hc:Sub c c') {fb:Nat} {o:AOper} {t:List V} {h:Heap} {r:List V × Heap} (H:stepOp c fb o t h = some r):stepOp c' fb o t h = some r:=by
 unfold stepOp at *
 split at H
 ·cases H
 ·exact H
 ·split at H
  ·rename_i v h' hd
   rw [doOp_mono hc hd]
   exact H
  ·cases H
theorem runOps_mono {c c':Caller} (hc:Sub c c') {fb:Nat}:∀ {ops:List AOper} {t:List V} {h:Heap} {r:List V × Heap},runOps c fb ops t h = some r → runOps c' fb ops t h = some r
 | [],t,h,r,H => H
 | o :: os,t,h,r,H => by
  simp only [runOps] at *
  split at H
  ·rename_i t' h' hs
   rw [stepOp_mono hc hs]
   exact runOps_mono hc H
  ·cases H
theorem runDraw_mono {pureF:FuncId → FMode} {c c':Caller} (hc:Sub c c') {fb n:Nat}:∀ {ops:List (AOper × List Nat)} {fps:List FpT} {t:List V} {h:Heap} {r:List V × Heap},
  runDraw pureF c fb n ops fps t h = some r → runDraw pureF c' fb n ops fps t h = some r
 | [],fps,t,h,r,H => H
 | (o,ps) :: os,fps,t,h,r,H => by
  simp only [runDraw] at *
  split at H
  ·rename_i hp
   rw [if_pos hp]
   split at H
   ·rename_i t' h' hs
    rw [stepOp_mono hc hs]
    exact runDraw_mono hc H
   ·cases H
  ·cases H
theorem frameC_mono {pureF:FuncId → FMode} {c c':Caller} (hc:Sub c c'):Sub (frameC pureF c) (frameC pureF c'):=by
 intro f args h r H
 unfold frameC at *
 by_cases hny:f = YLD
 ·rw [if_pos hny] at H ⊢
  split at H
  ·rename_i v k e
   rw [hc _ _ _ _ e]
   exact H
  ·cases H
 rw [if_neg hny] at H ⊢
 split at H
 ·exact hc _ _ _ _ H
 ·split at H
  ·rename_i hp; rw [if_pos hp]; exact hc _ _ _ _ H
  ·cases H
 ·split at H
  ·rename_i v h1 e1 e2
   rw [e1,hc _ _ _ _ e2]
   exact H
  ·cases H
theorem loopN_mono {f f':List V → Heap → Option (Ex × List V × Heap)} (hf:∀ t h r,f t h = some r → f' t h = some r) {pre:List V → Heap → List V × Heap}:∀ {n n':Nat} {t:List V} {h:Heap} {r:Ex × List V × Heap},n ≤ n' →
  loopN f pre n t h = some r → loopN f' pre n' t h = some r
 | 0,n',t,h,r,hn,H => by simp [loopN] at H
 | n + 1,n',t,h,r,hn,H => by
  obtain ⟨m,rfl⟩:∃ m,n' = m + 1:=⟨n' - 1,by omega⟩
  simp only [loopN] at *
  split at H
  ·rename_i t' h' hs
   rw [hf _ _ _ hs]
   exact loopN_mono hf (by omega) H
  ·rename_i hne
   rw [hf _ _ _ H]
   obtain ⟨e,t',h'⟩:=r
   cases e with
   | norm => exact absurd H (hne _ _)
   | _ => rfl
theorem rounds_mono {f f':List V → Heap → Option (Ex × List V × Heap)} {it nx ok en:Nat} {itv:V} (hf:∀ t h r,f t h = some r → f' t h = some r):∀ (es:List (V × V)) (t:List V) (h:Heap) (r:Ex × List V × Heap),roundsM f it nx ok en itv es t h = some r → roundsM f' it nx ok en itv es t h = some r
 | [],t,h,r,H => H
 | e :: es,t,h,r,H => by
  simp only [roundsM] at *
  split at H
  case h_2 => cases H
  split at H
  ·rename_i hq
   rw [hf _ _ _ hq]
   exact rounds_mono hf es _ _ r H
  ·rename_i hne
   rw [hf _ _ _ H]
   obtain ⟨x,t',h'⟩:=r
   cases x with
   | norm => exact absurd H (hne _ _)
   | _ => rfl
theorem exec_mono {pureF:FuncId → FMode} {c c':Caller} (hc:Sub c c') {N N':Nat} (hN:N ≤ N') {fb:Nat}:∀ {code:ACode} {t:List V} {h:Heap} {r:Ex × List V × Heap},exec pureF c N fb code t h = some r → exec pureF c' N' fb code t h = some r
 | .skip,t,h,r,H => H
 | .region ops,t,h,r,H => by
  simp only [exec] at *
  split at H
  ·rename_i hs; rw [runOps_mono hc hs]; exact H
  ·cases H
 | .draw ops,t,h,r,H => by
  simp only [exec] at *
  split at H
  ·rename_i hs; rw [runDraw_mono (frameC_mono hc) hs]; exact H
  ·cases H
 | .seq a b,t,h,r,H => by
  simp only [exec] at *
  split at H
  ·rename_i hs; rw [exec_mono hc hN hs]; exact exec_mono hc hN H
  ·rename_i hne
   rw [exec_mono hc hN H]
   obtain ⟨e,t',h'⟩:=r
   cases e with
   | norm => exact absurd H (hne _ _)
   | _ => rfl
 | .cond cd a b,t,h,r,H => by
  simp only [exec] at *
  split at H
  ·exact exec_mono hc hN H
  ·exact exec_mono hc hN H
  ·cases H
 | .block id b,t,h,r,H => by
  simp only [exec] at *
  split at H
  ·rename_i hs; rw [exec_mono hc hN hs]; exact H
  ·rename_i hne
   rw [exec_mono hc hN H]
   obtain ⟨e,t',h'⟩:=r
   cases e with
   | exit i => exact absurd H (hne _ _ _)
   | _ => rfl
 | .loop clr kill b,t,h,r,H => by
  simp only [exec] at *
  exact loopN_mono (fun t h r => exec_mono hc hN) hN H
 | .exit id,t,h,r,H => H
 | .ret,t,h,r,H => H
 | .clr l,t,h,r,H => H
 | .fresh n b,t,h,r,H => by
  simp only [exec] at *
  exact exec_mono hc hN H
 | .rangeM m it nx ok en site clr kill b,t,h,r,H => by
  simp only [exec] at *
  split at H
  ·rename_i x om es hx hm
   unfold rangeC at *
   split at H
   ·rename_i r0 hr0
    split at H
    ·rename_i hany
     have hR:=fun es t h r => rounds_mono (f:=exec pureF c N fb b) (f':=exec pureF c' N' fb b) (it:=it) (nx:=nx) (ok:=ok) (en:=en) (itv:=.ptr (fb + site) (x.ver + 1) 0) (fun t h r => exec_mono (code:=b) (fb:=fb) hc hN) es t h r
     rw [hR _ _ _ _ hr0]
     have:Clo h t → AnyOrder (exec pureF c' N' fb b) it nx ok en (.ptr (fb + site) (x.ver + 1) 0) clr kill fb es (t.set it (.ptr (fb + site) (x.ver + 1) 0)) ((hideM om h).set (fb + site) ⟨x.ver + 1,.dead⟩) r0:=fun hclo π hπ => by
      obtain ⟨r',h1,h2⟩:=hany hclo π hπ
      exact ⟨r',hR _ _ _ _ h1,h2⟩
     simp only [if_pos this]
     exact H
    ·cases H
   ·cases H
  ·cases H
 | .rangeF f ps a b fid k site,t,h,r,H => by
  simp only [exec] at *
  split at H
  ·split at H
   ·rename_i hx _ _ _ _ he
    split at H
    ·cases H
    ·rename_i hny
     simp only [he,if_neg hny]
     split at H
     ·rename_i e
      rw [hc _ _ _ _ e]
      exact H
     ·cases H
   ·cases H
  ·cases H
theorem yieldA_mono {p:AProg} {c c':Caller} (hc:Sub c c') {N N':Nat} (hN:N ≤ N') {args:List V} {h:Heap} {r:V × Heap} (H:yieldA p c N args h = some r):yieldA p c' N' args h = some r:=by
 unfold yieldA at *
 split at H
 case h_2 => cases H
 split at H
 case h_2 => cases H
 split at H
 case isFalse => cases H
 rename_i hv
 try rw [if_pos hv]
 split at H
 case h_2 => cases H
 rename_i hp
 split at H
 case h_2 => cases H
 rename_i hr
 try rw [hr]
 split at H
 case isFalse => cases H
 rename_i hl
 try rw [if_pos hl]
 split at H
 case h_2 => cases H
 rename_i he
 rw [exec_mono hc hN he]
 split at H
 case h_2 => cases H
 rename_i ho
 split at H
 case isFalse => cases H
 rename_i hv2
 simp only [ho,hv2,↓reduceIte] at H ⊢
 split at H
 case h_2 => cases H
 rename_i he2
 rw [exec_mono hc hN he2]
 exact H
theorem bodyA_mono {p:AProg} {c c':Caller} (hc:Sub c c') {N N':Nat} (hN:N ≤ N') {fb:Nat} {fn:AFunc} {args:List V} {h:Heap} {r:V × Heap} (H:bodyA p c N fb fn args h = some r):bodyA p c' N' fb fn args h = some r:=by
 unfold bodyA at *
 split at H
 ·rename_i he; rw [exec_mono hc hN he]; exact H
 ·rename_i he; rw [exec_mono hc hN he]; exact H
 ·cases H
theorem callA_mono (p:AProg):∀ {n n':Nat} {N N':Nat},n ≤ n' → N ≤ N' → Sub (callA p N n) (callA p N' n')
 | 0,n',N,N',hn,hN => by intro f args h r H; simp [callA] at H
 | n + 1,n',N,N',hn,hN => by
  obtain ⟨m,rfl⟩:∃ m,n' = m + 1:=⟨n' - 1,by omega⟩
  have ih:Sub (callA p N n) (callA p N' m):=callA_mono p (by omega) hN
  intro f args h r H
  unfold callA at *
  by_cases hny:f = YLD
  ·rw [if_pos hny] at H ⊢
   exact yieldA_mono ih hN H
  rw [if_neg hny] at H ⊢
  cases hf:p[f]? with
  | none => simp [hf] at H
  | some o =>
   cases o with
   | none => simp [hf] at H
   | some fn =>
    simp only [hf] at H ⊢
    by_cases hl:args.length = fn.nargs
    ·rw [if_pos hl] at H ⊢
     cases hm:fn.mode with
     | keep => simp only [hm] at H ⊢; exact bodyA_mono ih hN H
     | auto =>
      simp only [hm] at H ⊢
      by_cases hfr:V.freeL args = true
      ·rw [if_pos hfr] at H ⊢
       cases hb:bodyA p (callA p N n) N 0 fn args (deads fn.sites) with
       | none => simp [hb] at H
       | some x => rw [hb] at H; rw [bodyA_mono ih hN hb]; exact H
      ·rw [if_neg hfr] at H ⊢
       exact bodyA_mono ih hN H
     | pure =>
      simp only [hm] at H ⊢
      by_cases hfr:V.freeL args = true
      ·rw [if_pos hfr] at H ⊢
       cases hb:bodyA p (callA p N n) N 0 fn args (deads fn.sites) with
       | none => simp [hb] at H
       | some x => rw [hb] at H; rw [bodyA_mono ih hN hb]; exact H
      ·rw [if_neg hfr] at H
       cases H
     | look =>
      simp only [hm] at H ⊢
      cases ha:args.mapM (V.shut (fun o => h[o]?) sealDepth) with
      | none => simp [ha] at H
      | some args' =>
       simp only [ha] at H ⊢
       cases hb:bodyA p (callA p N n) N 0 fn args' (deads fn.sites) with
       | none => simp [hb] at H
       | some x => rw [hb] at H; rw [bodyA_mono ih hN hb]; exact H
    ·rw [if_neg hl] at H
     cases H
theorem callA_heap {p:AProg} {N n:Nat} {f:FuncId} {args:List V} {h h':Heap} {v:V} (hm:pureOf p f = .pure) (H:callA p N n f args h' = some (v,h')) (hy:f ≠ YLD:=by decide):callA p N n f args h = some (v,h):=by
 cases n with
 | zero => simp [callA] at H
 | succ n =>
  unfold callA at *
  rw [if_neg hy] at H ⊢
  unfold pureOf at hm
  cases hf:p[f]? with
  | none => simp [hf] at H
  | some o =>
   cases o with
   | none => simp [hf] at H
   | some fn =>
    simp only [hf] at H hm ⊢
    by_cases hl:args.length = fn.nargs
    ·rw [if_pos hl] at H ⊢
     simp only [hm] at H ⊢
     by_cases hfr:V.freeL args = true
     ·rw [if_pos hfr] at H ⊢
      cases hb:bodyA p (callA p N n) N 0 fn args (deads fn.sites) with
      | none => simp [hb] at H
      | some x =>
       obtain ⟨y,k⟩:=x
       simp only [hb] at H ⊢
       cases hs:V.shut (fun o => k[o]?) sealDepth y with
       | none => simp [hs] at H
       | some z =>
        simp only [hs,Option.some.injEq,Prod.mk.injEq] at H ⊢
        exact ⟨H.1,trivial⟩
     ·rw [if_neg hfr] at H
      cases H
    ·rw [if_neg hl] at H
     cases H
theorem closed_call {p:AProg} {N0 n0:Nat} {f:FuncId} {args:List V} {v:V} (hm:pureOf p f = .pure) (H:callA p N0 n0 f args [] = some (v,[])) {N n:Nat} (hN:N0 ≤ N) (hn:n0 ≤ n) (h:Heap) (hy:f ≠ YLD:=by decide):callA p N n f args h = some (v,h) :=
 callA_mono p hn hN f args h (v,h) (callA_heap (h:=h) (h':=[]) hm H hy)
theorem call_look {p:AProg} {N n:Nat} {f:FuncId} {fn:AFunc} {args args':List V} {h:Heap} {v:V} (hf:p[f]? = some (some fn)) (hm:fn.mode = .look) (ha:args.length = fn.nargs) (hl:fn.nargs ≤ fn.nt)
  (hs:args.mapM (V.shut (fun o => h[o]?) sealDepth) = some args')
  (H:wp ⟨pureOf p,callA p N n,N,0⟩ fn.body (fr fn.nt (argsF 0 args')) (deads fn.sites) (retQ fn.res fun x h' => x = v ∧ v.plain = true)) (hy:f ≠ YLD:=by decide) :
  callA p N (n + 1) f args h = some (v,h):=by
 have hl':args'.length = args.length:=(mapM_get hs).1
 obtain ⟨x,h',hb,hx,hp⟩:=body_of_wp (by omega) H
 subst hx
 unfold callA
 rw [if_neg hy]
 simp only [hf,ha,↓reduceIte,hm,hs,hb,hp]
theorem call_auto {p:AProg} {N n:Nat} {f:FuncId} {fn:AFunc} {args:List V} {h:Heap} {v:V} (hf:p[f]? = some (some fn)) (hm:fn.mode = .auto) (ha:args.length = fn.nargs) (hl:fn.nargs ≤ fn.nt)
  (hfree:V.freeL args = true)
  (H:wp ⟨pureOf p,callA p N n,N,0⟩ fn.body (fr fn.nt (argsF 0 args)) (deads fn.sites) (retQ fn.res fun x h' => V.shut (fun o => h'[o]?) sealDepth x = some v)) (hy:f ≠ YLD:=by decide) :
  callA p N (n + 1) f args h = some (v,h):=by
 obtain ⟨x,h',hb,hs⟩:=body_of_wp (by omega) H
 unfold callA
 rw [if_neg hy]
 simp only [hf,ha,↓reduceIte,hm,hfree,hb,hs]
theorem plain_bool (b:Bool):(V.bool b).plain = true:=rfl
end Go.Am


set_option linter.unusedVariables false
set_option linter.unusedSimpArgs false
namespace Go.Am
structure IsL (l:V) (s:Nat) (cs:List (List V)):Prop where
 free:l.free = true
 len:lenA l = some cs.length
 nstr:∀ b,l ≠ .str b
 at_:∀ i:Nat,iaddrSA s l (.int .i64 i) = match cs[i]? with | some c => some (.ret (.iptr c 0)) | none => none
 first:∀ get n,n ≤ cs.length → firstA get s n l = some (cs.take n).flatten
theorem isL_nils (s:Nat):IsL .nils s []:=⟨rfl,rfl,by simp,fun i => rfl,fun get n hn => by simp at hn; subst hn; rfl⟩
theorem isL_sl {L:List V} {s:Nat} {c:Option Nat} {cs:List (List V)} (hf:V.freeL L = true) (hc:L.map V.cells = cs):IsL (.sl L s c) s cs:=by
 subst hc
 refine ⟨hf,by simp [lenA],by simp,fun i => ?_,fun get n hn => ?_⟩
 ·simp only [iaddrSA,↓reduceIte,indexedI,Int.natCast_nonneg,Int.ofNat_lt,Int.toNat_natCast,List.getElem?_map]
  by_cases h:i < L.length
  ·simp [h]
  ·simp [h]
 ·simp only [List.length_map] at hn
  simp only [firstA,↓reduceIte,if_pos hn]
  congr 1
  rw [← List.map_take,List.flatMap_def]
theorem flat_at {s:Nat}:∀ {cs:List (List V)} {rest:List V} {i:Nat} {c:List V},(∀ c ∈ cs,c.length = s) → cs[i]? = some c → ((cs.flatten ++ rest).drop (i * s)).take s = c
 | [],rest,i,c,_,h => by simp at h
 | c0 :: cs,rest,0,c,hs,h => by
  simp only [List.getElem?_cons_zero,Option.some.injEq] at h
  subst h
  have:=hs c0 (by simp)
  rw [Nat.zero_mul,List.drop_zero,List.flatten_cons,List.append_assoc,List.take_append_of_le_length (by omega),List.take_of_length_le (by omega)]
 | c0 :: cs,rest,i + 1,c,hs,h => by
  have h0:=hs c0 (by simp)
  rw [List.getElem?_cons_succ] at h
  rw [List.flatten_cons,List.append_assoc,show (i + 1) * s = c0.length + i * s by rw [h0,Nat.add_mul,Nat.one_mul,Nat.add_comm],List.drop_append,List.drop_eq_nil_of_le (by omega),List.nil_append]
  rw [show c0.length + i * s - c0.length = i * s by omega]
  exact flat_at (fun c hc => hs c (by simp [hc])) h
theorem allOne_ints (k:IntKind) (l:List Int):(l.map (V.int k)).all V.oneCell = true:=by
 induction l with
 | nil => rfl
 | cons x l ih => simp [V.oneCell,ih]
theorem firstA_sl1 {get:Nat → Option Ob} {x:V} {s:Nat} {c:Option Nat}:firstA get s 1 (.sl [x] s c) = some x.cells:=by
 simp [firstA]
theorem call_keep {p:AProg} {N n:Nat} {f:FuncId} {fn:AFunc} {args:List V} {h:Heap} {C:V → Heap → Prop} (hf:p[f]? = some (some fn)) (hm:fn.mode = .keep) (ha:args.length = fn.nargs) (hl:fn.nargs ≤ fn.nt)
  (H:wp ⟨pureOf p,callA p N n,N,h.length⟩ fn.body (fr fn.nt (argsF 0 args)) (h ++ deads fn.sites) (retQ fn.res C)) (hy:f ≠ YLD:=by decide):∃ v h',callA p N (n + 1) f args h = some (v,h') ∧ C v h':=by
 obtain ⟨v,h',hb,hc⟩:=body_of_wp (by omega) H
 refine ⟨v,h',?_,hc⟩
 unfold callA
 rw [if_neg hy]
 simp only [hf,ha,↓reduceIte,hm,hb]
theorem call_keep_eq {p:AProg} {N n:Nat} {f:FuncId} {fn:AFunc} {args:List V} {h h':Heap} {v:V} (hf:p[f]? = some (some fn)) (hm:fn.mode = .keep) (ha:args.length = fn.nargs) (hl:fn.nargs ≤ fn.nt)
  (H:wp ⟨pureOf p,callA p N n,N,h.length⟩ fn.body (fr fn.nt (argsF 0 args)) (h ++ deads fn.sites) (retQ fn.res fun x k => x = v ∧ k = h')) (hy:f ≠ YLD:=by decide):callA p N (n + 1) f args h = some (v,h'):=by
 obtain ⟨x,k,h1,rfl,rfl⟩:=call_keep hf hm ha hl H hy
 exact h1
theorem app_get0 {h:Heap} {l:List Ob}:(h ++ l)[h.length]? = l[0]?:=by rw [List.getElem?_append_right (Nat.le_refl _),Nat.sub_self]
theorem app_get {h:Heap} {l:List Ob} {k:Nat}:(h ++ l)[h.length + k]? = l[k]?:=by rw [List.getElem?_append_right (by omega),Nat.add_sub_cancel_left]
theorem app_set0 {h:Heap} {l:List Ob} {x:Ob}:(h ++ l).set h.length x = h ++ l.set 0 x:=by rw [List.set_append_right _ _ (Nat.le_refl _),Nat.sub_self]
theorem app_set {h:Heap} {l:List Ob} {k:Nat} {x:Ob}:(h ++ l).set (h.length + k) x = h ++ l.set k x:=by rw [List.set_append_right _ _ (by omega),Nat.add_sub_cancel_left]
def wdK (E:Env) (n:Nat) (dst:Option Nat) (os:List (AOper × List Nat)) (fps:List FpT) (b:Bool) (f:Fp) (h0:Heap) (t:List V) (K:Cont) (v:V) (h:Heap):Prop:=wpd E n os (fps ++ [tagP b f h0 h]) (put t dst v) h K
theorem wpd_nil {E:Env} {n:Nat} {fps:List FpT} {t:List V} {h:Heap} {K:Cont}:wpd E n [] fps t h K = K t h:=rfl
theorem wpd_cons {E:Env} {n:Nat} {dst:Option Nat} {op:AOp} {ps:List Nat} {os:List (AOper × List Nat)} {fps:List FpT} {t:List V} {h:Heap} {K:Cont} :
  wpd E n ((⟨dst,op,none⟩,ps) :: os) fps t h K = ((ps.all fun k => (fps.getD k .bar).ok n (fpOf E.pureF E.fb (ev t) h op)) = true ∧ wop E op t h (wdK E n dst os fps (op.rds (ev t)) (fpOf E.pureF E.fb (ev t) h op) h t K)):=by
 have e:(ps.all fun k => (fps.getD k .bar).ok n (fpOf E.pureF E.fb (ev t) h op)) = (ps.all fun k => (fps.getD k .bar).ok n (fpAt E.pureF E.fb ⟨dst,op,none⟩ t h)):=rfl
 have e2:fpOf E.pureF E.fb (ev t) h op = fpAt E.pureF E.fb ⟨dst,op,none⟩ t h:=rfl
 rw [e,e2]
 unfold wpd
 simp only [runDraw]
 cases hc:(ps.all fun k => (fps.getD k .bar).ok n (fpAt E.pureF E.fb ⟨dst,op,none⟩ t h)) with
 | false => simp
 | true =>
  simp only [↓reduceIte,true_and,wop,wdK,wpd,stepOp,wanted]
  cases doOp E.call E.fb op (ev t) h <;> rfl
theorem wdK_def {E:Env} {n:Nat} {dst:Option Nat} {os:List (AOper × List Nat)} {fps:List FpT} {b:Bool} {f:Fp} {h0:Heap} {t:List V} {K:Cont} {v:V} {h:Heap}:wdK E n dst os fps b f h0 t K v h = wpd E n os (fps ++ [tagP b f h0 h]) (put t dst v) h K:=rfl
theorem sx_drawd {E:Env} {ops:List (AOper × List Nat)} {t:List V} {h:Heap} {Q:Post} (hp:plainD ops = false):sx E (.draw ops) t h Q = wpd E.framed h.length ops [] t h (Q .norm):=by simp only [sx,hp]
theorem sr_nil {cs:List V}:setRange cs 0 [] = cs:=by simp [setRange]
theorem sr_cons {a b:V} {cs bs:List V}:setRange (a :: cs) 0 (b :: bs) = b :: setRange cs 0 bs:=by
 simp [setRange]
theorem sr_succ {a:V} {cs bs:List V} {n:Nat}:setRange (a :: cs) (n + 1) bs = a :: setRange cs n bs:=by
 simp only [setRange,List.take_succ_cons,List.cons_append,List.cons.injEq,true_and]
 rw [show n + 1 + bs.length = (n + bs.length) + 1 by omega,List.drop_succ_cons]
theorem sr_all {cs bs:List V} (h:bs.length = cs.length):setRange cs 0 bs = bs:=by
 simp [setRange,← h]
theorem sr_len {cs bs:List V} {n:Nat} (h:n + bs.length ≤ cs.length):(setRange cs n bs).length = cs.length:=setRange_length _ _ _ h
def cvP (E:Env) (f:V) (args:List V) (h:Heap) (C:V → Heap → Prop):Prop :=
 match f with
 | .func g xs ys => if g = YLD then False else wcall (E.call g (xs ++ args ++ ys) h) C
 | .yld o ver => wcall (E.call YLD (.yld o ver :: args) h) C
 | _ => False
theorem wop_cv {E:Env} {f:Opd} {args:List Opd} {t:List V} {h:Heap} {C:V → Heap → Prop}:wop E (.callv f args) t h C = cvP E (ev t f) (args.map (ev t)) h C:=by
 unfold wop cvP
 simp only [doOp]
 cases ev t f <;> try rfl
 simp only
 split <;> rfl
theorem cvP_func {E:Env} {g:FuncId} {xs ys args:List V} {h:Heap} {C:V → Heap → Prop} (hy:g ≠ 1000000007):cvP E (.func g xs ys) args h C = wcall (E.call g (xs ++ args ++ ys) h) C:=by
 have hy':¬ g = YLD:=hy
 simp only [cvP,if_neg hy']
theorem cvP_yld {E:Env} {o ver:Nat} {args:List V} {h:Heap} {C:V → Heap → Prop}:cvP E (.yld o ver) args h C = wcall (E.call YLD (.yld o ver :: args) h) C:=rfl
theorem freeL_of_mem:∀ {l:List V},(∀ c ∈ l,c.free = true) → V.freeL l = true
 | [],_ => rfl
 | c :: l,h => by rw [freeL_cons,h c (by simp),freeL_of_mem (fun d hd => h d (by simp [hd]))]; rfl
theorem freeL_mem:∀ {l:List V},V.freeL l = true → ∀ c ∈ l,c.free = true
 | [],_,c,hc => by cases hc
 | d :: l,h,c,hc => by
  simp only [freeL_cons,Bool.and_eq_true] at h
  rcases List.mem_cons.1 hc with rfl | hc
  ·exact h.1
  ·exact freeL_mem h.2 c hc
end Go.Am

