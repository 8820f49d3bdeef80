import Derived.Test.YtpjclkfeobhpaaaK3
set_option linter.unusedVariables false
set_option linter.unusedSimpArgs false
set_option linter.unusedSectionVars false
set_option maxRecDepth 10000
namespace Go.Am.T
attribute [local congr] selV_congr impB_congr
theorem lt_of_get {h:Heap} {o:Nat} {x:Ob} (ho:h[o]? = some x):o < h.length:=(List.getElem?_eq_some_iff.1 ho).1
structure Wr where
 nd:Int
 ep:Int
 pg:Int
 ps:Int
 b:List Int
 du:Bool
def Wr.hd (x:Wr):List V:=[.int .i64 x.nd,.int .i64 x.ep,.int .i64 x.pg,.int .i64 x.ps]
def Wr.cs (x:Wr):List V:=x.hd ++ (x.b.map (V.int .u8) ++ [.bool x.du])
def Wr.Ok (x:Wr):Prop:=x.b.length = 96
theorem Wr.len {x:Wr} (h:x.Ok):x.cs.length = 101:=by
 unfold Wr.cs Wr.hd
 unfold Wr.Ok at h
 simp [h]
theorem allOne_app {a b:List V} (h1:a.all V.oneCell = true) (h2:b.all V.oneCell = true):(a ++ b).all V.oneCell = true:=by
 rw [List.all_append,h1,h2]; rfl
theorem Wr.one (x:Wr):x.cs.all V.oneCell = true:=by
 unfold Wr.cs Wr.hd
 exact allOne_app rfl (allOne_app (allOne_ints _ _) rfl)
def flatW (l:List Wr):List V:=l.flatMap Wr.cs
theorem flatW_len:∀ {l:List Wr},(∀ x ∈ l,x.Ok) → (flatW l).length = l.length * 101
 | [],_ => rfl
 | x :: l,h => by
  have:=flatW_len (l:=l) fun y hy => h y (by simp [hy])
  unfold flatW at this ⊢
  rw [List.flatMap_cons,List.length_append,this,Wr.len (h x (by simp))]
  simp only [List.length_cons]
  omega
theorem flatW_app (a b:List Wr):flatW (a ++ b) = flatW a ++ flatW b:=by simp [flatW]
theorem Wr.obj (x:Wr):∀ v ∈ x.cs,v.objs = []:=by
 intro v hv
 unfold Wr.cs Wr.hd at hv
 simp only [List.mem_append,List.mem_cons,List.not_mem_nil,or_false,List.mem_map] at hv
 rcases hv with (rfl | rfl | rfl | rfl) | ⟨y,-,rfl⟩ | rfl <;> rfl
theorem flatW_obj (l:List Wr):∀ v ∈ flatW l,v.objs = []:=by
 intro v hv
 obtain ⟨x,-,hvx⟩:=List.mem_flatMap.1 hv
 exact x.obj v hvx
theorem flat_at {α:Type} (f:α → List V) (s:Nat):∀ {l:List α} {i:Nat} {x:α},(∀ x ∈ l,(f x).length = s) → l[i]? = some x → ((l.flatMap f).drop (i * s)).take s = f x
 | [],i,x,_,h => by simp at h
 | y :: l,0,x,h,hx => by
  simp at hx
  subst hx
  have:=h y (by simp)
  rw [Nat.zero_mul,List.drop_zero,List.flatMap_cons,List.take_append,this,Nat.sub_self,List.take_zero,List.append_nil,List.take_of_length_le (by omega)]
 | y :: l,i + 1,x,h,hx => by
  have hy:=h y (by simp)
  have ih:=flat_at f s (l:=l) (i:=i) (x:=x) (fun z hz => h z (by simp [hz])) (by simpa using hx)
  rw [List.flatMap_cons,show (i + 1) * s = (f y).length + i * s by rw [hy,Nat.add_mul]; omega,List.drop_append,List.drop_of_length_le (by omega),List.nil_append,Nat.add_sub_cancel_left]
  exact ih
theorem flat_set {α:Type} (f:α → List V) (s:Nat):∀ {l:List α} {i:Nat} {x y:α} {k:Nat} {c:List V} {rest:List V},(∀ x ∈ l,(f x).length = s) → l[i]? = some x → f y = setRange (f x) k c → k + c.length ≤ s →
  setRange (l.flatMap f ++ rest) (i * s + k) c = (l.set i y).flatMap f ++ rest
 | [],i,x,y,k,c,rest,_,h,_,_ => by simp at h
 | z :: l,0,x,y,k,c,rest,h,hx,hy,hk => by
  simp at hx
  subst hx
  have hz:=h z (by simp)
  simp only [List.set_cons_zero,List.flatMap_cons,hy,Nat.zero_mul,Nat.zero_add,setRange,List.append_assoc]
  have h1:(f z ++ (l.flatMap f ++ rest)).take k = (f z).take k:=by rw [List.take_append,show k - (f z).length = 0 by omega]; simp
  have h2:(f z ++ (l.flatMap f ++ rest)).drop (k + c.length) = (f z).drop (k + c.length) ++ (l.flatMap f ++ rest):=by
   rw [List.drop_append,show k + c.length - (f z).length = 0 by omega]; rfl
  rw [h1,h2]
 | z :: l,i + 1,x,y,k,c,rest,h,hx,hy,hk => by
  have hz:=h z (by simp)
  have ih:=flat_set f s (l:=l) (i:=i) (x:=x) (y:=y) (k:=k) (c:=c) (rest:=rest) (fun z hz => h z (by simp [hz])) (by simpa using hx) hy hk
  simp only [List.set_cons_succ,List.flatMap_cons,List.append_assoc]
  rw [← ih]
  simp only [setRange]
  have e:(i + 1) * s + k = (f z).length + (i * s + k):=by rw [hz,Nat.add_mul]; omega
  rw [e,List.take_append,List.take_of_length_le (by omega),Nat.add_sub_cancel_left,Nat.add_assoc,List.drop_append,List.drop_of_length_le (show (f z).length ≤ (f z).length + (i * s + k + c.length) by omega),Nat.add_sub_cancel_left,List.nil_append]
  simp only [List.append_assoc]
def NilW (W:V):Prop:=W = .nils ∨ W = .sl [] 101 (some 0)
def PRow (H:Heap) (W:V) (l:List Wr) (R:List Nat):Prop :=
 (∀ x ∈ l,x.Ok) ∧ ((l = [] ∧ NilW W ∧ R = []) ∨ ∃ o ver cap rest,(∀ v ∈ rest,V.objs v = []) ∧ R = [o] ∧ W = .view o ver 0 l.length 101 cap ∧ H[o]? = some ⟨ver,.arr (flatW l ++ rest)⟩ ∧ ((cap = none ∧ rest = []) ∨ cap = some l.length))
theorem PRow.keep {H H':Heap} {W:V} {l:List Wr} {R:List Nat} (h:PRow H W l R) (hk:∀ o ∈ R,H'[o]? = H[o]?):PRow H' W l R:=by
 obtain ⟨h0,h | ⟨o,ver,cap,rest,hrs,rfl,hw,ho,hc⟩⟩:=h
 ·exact ⟨h0,.inl h⟩
 ·exact ⟨h0,.inr ⟨o,ver,cap,rest,hrs,rfl,hw,by rw [hk o (by simp)]; exact ho,hc⟩⟩
theorem PRow.lt {H:Heap} {W:V} {l:List Wr} {R:List Nat} (h:PRow H W l R):∀ o ∈ R,o < H.length:=by
 obtain ⟨-,⟨-,-,rfl⟩ | ⟨o,ver,cap,rest,hrs,rfl,hw,ho,hc⟩⟩:=h
 ·intro o ho; cases ho
 ·intro o' h'
  obtain rfl:o' = o:=by simpa using h'
  exact lt_of_get ho
theorem PRow.len {H:Heap} {W:V} {l:List Wr} {R:List Nat} (h:PRow H W l R):lenA W = some l.length:=by
 obtain ⟨-,⟨rfl,rfl | rfl,-⟩ | ⟨o,ver,cap,rest,hrs,rfl,rfl,ho,hc⟩⟩:=h <;> rfl
theorem PRow.shape {H:Heap} {W:V} {l:List Wr} {R:List Nat} (h:PRow H W l R):W.cells = [W] ∧ W.oneCell = true ∧ (∀ s,W ≠ .str s) ∧ (∀ s,W ≠ .agg s) ∧ (∀ s,W ≠ .tup s) ∧ W ≠ .junk:=by
 obtain ⟨-,⟨rfl,rfl | rfl,-⟩ | ⟨o,ver,cap,rest,hrs,rfl,rfl,ho,hc⟩⟩:=h <;> exact ⟨rfl,rfl,fun _ => V.noConfusion,fun _ => V.noConfusion,fun _ => V.noConfusion,V.noConfusion⟩
theorem PRow.objs {H:Heap} {W:V} {l:List Wr} {R:List Nat} (h:PRow H W l R):W.objs = R:=by
 obtain ⟨-,⟨rfl,rfl | rfl,rfl⟩ | ⟨o,ver,cap,rest,hrs,rfl,rfl,ho,hc⟩⟩:=h <;> rfl
theorem PRow.nodup {H:Heap} {W:V} {l:List Wr} {R:List Nat} (h:PRow H W l R):R.length ≤ 1:=by
 obtain ⟨-,⟨rfl,rfl | rfl,rfl⟩ | ⟨o,ver,cap,rest,hrs,rfl,rfl,ho,hc⟩⟩:=h <;> simp
theorem PRow.append {H:Heap} {W:V} {l:List Wr} {R:List Nat} {o0:Nat} {x0:Ob} {x:Wr} (h:PRow H W l R) (hx:x.Ok) (h0:H[o0]? = some x0) (hL:l.length ≤ 100000) :
  ∃ o1 y W',appendA (fun o => H[o]?) o0 101 136 W (.sl [.agg x.cs] 101 (some 1)) = some (.set o1 y W') ∧ PRow (H.set o1 y) W' (l ++ [x]) [o1] ∧ (o1 = o0 ∨ o1 ∈ R) ∧ o1 < H.length:=by
 have hl1:lenA (.sl [.agg x.cs] 101 (some 1)) = some 1:=rfl
 have hf1:firstA (fun o => H[o]?) 101 1 (.sl [.agg x.cs] 101 (some 1)) = some x.cs:=firstA_sl1
 have ha1:=x.one
 obtain ⟨hall,⟨rfl,hnil,rfl⟩ | ⟨o,ver,cap,rest,hrs,rfl,rfl,ho,hc⟩⟩:=h
 ·refine ⟨o0,⟨x0.ver + 1,.arr x.cs⟩,.view o0 (x0.ver + 1) 0 1 101 none,?_,⟨by simpa using hx,.inr ⟨o0,x0.ver + 1,none,[],fun _ h => by (cases h),rfl,rfl,?_,.inl ⟨rfl,rfl⟩⟩⟩,.inl rfl,lt_of_get h0⟩
  ·rcases hnil with rfl | rfl <;>
   ·unfold appendA
    simp [hl1,hf1,ha1,mkA,h0,maxBytes]
  ·rw [List.getElem?_set_self (lt_of_get h0)]; simp [flatW]
 ·have hlen:=flatW_len hall
  have hall':∀ z ∈ l ++ [x],z.Ok:=fun z hz => by
   rcases List.mem_append.1 hz with hz | hz
   ·exact hall z hz
   ·obtain rfl:z = x:=by simpa using hz
    exact hx
  have hbig:(l.length + 1) * 136 ≤ maxBytes:=by unfold maxBytes; omega
  rcases hc with ⟨rfl,rfl⟩ | rfl
  ·rw [List.append_nil] at ho
   refine ⟨o,⟨ver + 1,.arr (flatW (l ++ [x]))⟩,.view o (ver + 1) 0 (l.length + 1) 101 none,?_,⟨hall',.inr ⟨o,ver + 1,none,[],fun _ h => by (cases h),rfl,by simp,?_,.inl ⟨rfl,rfl⟩⟩⟩,.inr (by simp),lt_of_get ho⟩
   ·unfold appendA
    simp only [hl1,hf1,ha1,cellsAt,ho,↓reduceIte,Nat.zero_add,hlen,Nat.le_refl]
    rw [if_neg (by omega),if_pos hbig,List.drop_zero,flatW_app]
    simp [flatW]
   ·rw [List.getElem?_set_self (lt_of_get ho),List.append_nil]
  ·refine ⟨o0,⟨x0.ver + 1,.arr (flatW (l ++ [x]))⟩,.view o0 (x0.ver + 1) 0 (l.length + 1) 101 none,?_,⟨hall',.inr ⟨o0,x0.ver + 1,none,[],fun _ h => by (cases h),rfl,by simp,?_,.inl ⟨rfl,rfl⟩⟩⟩,.inl rfl,lt_of_get h0⟩
   ·unfold appendA
    simp only [hl1,hf1,ha1,cellsAt,ho,↓reduceIte,Nat.zero_add,List.length_append,hlen]
    rw [if_neg (by omega),if_pos (by omega),if_neg (by omega),if_pos hbig,List.drop_zero,List.take_append,← hlen,Nat.sub_self,List.take_zero,List.append_nil,List.take_of_length_le (by omega),flatW_app]
    simp [mkA,h0,flatW]
   ·rw [List.getElem?_set_self (lt_of_get h0),List.append_nil]
def pcs (p:Int × Int):List V:=[.int .i64 p.1,.int .i64 p.2]
def flatP (l:List (Int × Int)):List V:=l.flatMap pcs
theorem flatP_obj (l:List (Int × Int)):∀ v ∈ flatP l,v.objs = []:=by
 intro v hv
 obtain ⟨x,hx,hvx⟩:=List.mem_flatMap.1 hv
 simp only [pcs,List.mem_cons,List.not_mem_nil,or_false] at hvx
 rcases hvx with rfl | rfl <;> rfl
theorem flatP_len:∀ (l:List (Int × Int)),(flatP l).length = l.length * 2
 | [] => rfl
 | x :: l => by
  have:=flatP_len l
  unfold flatP at this ⊢
  rw [List.flatMap_cons,List.length_append,this]
  simp only [pcs,List.length_cons,List.length_nil]
  omega
def ORow (H:Heap) (W:V) (l:List (Int × Int)) (R:List Nat):Prop :=
 (l = [] ∧ W = .nils ∧ R = []) ∨ ∃ o ver pre,(∀ v ∈ pre,V.objs v = []) ∧ R = [o] ∧ W = .view o ver pre.length l.length 2 none ∧ H[o]? = some ⟨ver,.arr (pre ++ flatP l)⟩
theorem ORow.keep {H H':Heap} {W:V} {l:List (Int × Int)} {R:List Nat} (h:ORow H W l R) (hk:∀ o ∈ R,H'[o]? = H[o]?):ORow H' W l R:=by
 rcases h with h | ⟨o,ver,x,hpre,rfl,hw,ho⟩
 ·exact .inl h
 ·exact .inr ⟨o,ver,x,hpre,rfl,hw,by rw [hk o (by simp)]; exact ho⟩
theorem ORow.lt {H:Heap} {W:V} {l:List (Int × Int)} {R:List Nat} (h:ORow H W l R):∀ o ∈ R,o < H.length:=by
 rcases h with ⟨-,-,rfl⟩ | ⟨o,ver,x,hpre,rfl,hw,ho⟩
 ·intro o ho; cases ho
 ·intro o' h'
  obtain rfl:o' = o:=by simpa using h'
  exact lt_of_get ho
theorem ORow.len {H:Heap} {W:V} {l:List (Int × Int)} {R:List Nat} (h:ORow H W l R):lenA W = some l.length:=by
 rcases h with ⟨rfl,rfl,-⟩ | ⟨o,ver,x,hpre,rfl,rfl,ho⟩ <;> rfl
theorem ORow.shape {H:Heap} {W:V} {l:List (Int × Int)} {R:List Nat} (h:ORow H W l R):W.cells = [W] ∧ W.oneCell = true ∧ (∀ s,W ≠ .str s) ∧ (∀ s,W ≠ .agg s) ∧ (∀ s,W ≠ .tup s) ∧ W ≠ .junk:=by
 rcases h with ⟨rfl,rfl,-⟩ | ⟨o,ver,x,hpre,rfl,rfl,ho⟩ <;> exact ⟨rfl,rfl,fun _ => V.noConfusion,fun _ => V.noConfusion,fun _ => V.noConfusion,V.noConfusion⟩
theorem ORow.objs {H:Heap} {W:V} {l:List (Int × Int)} {R:List Nat} (h:ORow H W l R):W.objs = R:=by
 rcases h with ⟨rfl,rfl,rfl⟩ | ⟨o,ver,x,hpre,rfl,rfl,ho⟩ <;> rfl
theorem ORow.append {H:Heap} {W:V} {l:List (Int × Int)} {R:List Nat} {o0:Nat} {x0:Ob} {p:Int × Int} (h:ORow H W l R) (h0:H[o0]? = some x0) (hL:l.length ≤ 100000) :
  ∃ o1 y W',appendA (fun o => H[o]?) o0 2 16 W (.sl [.agg (pcs p)] 2 (some 1)) = some (.set o1 y W') ∧ ORow (H.set o1 y) W' (l ++ [p]) [o1] ∧ (o1 = o0 ∨ o1 ∈ R) ∧ o1 < H.length:=by
 have hl1:lenA (.sl [.agg (pcs p)] 2 (some 1)) = some 1:=rfl
 have hf1:firstA (fun o => H[o]?) 2 1 (.sl [.agg (pcs p)] 2 (some 1)) = some (pcs p):=firstA_sl1
 have ha1:(pcs p).all V.oneCell = true:=rfl
 rcases h with ⟨rfl,rfl,rfl⟩ | ⟨o,ver,pre,hpre,rfl,rfl,ho⟩
 ·refine ⟨o0,⟨x0.ver + 1,.arr (pcs p)⟩,.view o0 (x0.ver + 1) 0 1 2 none,?_,.inr ⟨o0,x0.ver + 1,[],fun _ h => by (cases h),rfl,rfl,?_⟩,.inl rfl,lt_of_get h0⟩
  ·unfold appendA
   simp [hl1,hf1,ha1,mkA,h0,maxBytes]
  ·rw [List.getElem?_set_self (lt_of_get h0)]; rfl
 ·have hlen:=flatP_len l
  refine ⟨o,⟨ver + 1,.arr (flatP (l ++ [p]))⟩,.view o (ver + 1) 0 (l.length + 1) 2 none,?_,.inr ⟨o,ver + 1,[],fun _ h => by (cases h),rfl,by simp,?_⟩,.inr (by simp),lt_of_get ho⟩
  ·have hbig:(l.length + 1) * 16 ≤ maxBytes:=by unfold maxBytes; omega
   unfold appendA
   simp only [hl1,hf1,ha1,cellsAt,ho,↓reduceIte,List.length_append,hlen,Nat.le_refl]
   rw [if_neg (by omega),if_pos hbig,List.drop_left]
   simp [flatP]
  ·rw [List.getElem?_set_self (lt_of_get ho)]; rfl
abbrev k2:List CK:=[.i .i64,.i .i64]
def kw (w:Int × Int):V:=.agg (pcs w)
theorem hit_w (w u:Int × Int) (v:V):mhit true k2 (pcs w) (kw u,v) = some (w == u):=by
 obtain ⟨a,b⟩:=w
 obtain ⟨c,d⟩:=u
 simp only [mhit,keyC,kw,pcs,eqCells,eqCell,Bool.and_true,↓reduceIte]
 rfl
theorem hitB_w (w u:Int × Int) (v:V):mhitB true k2 (pcs w) (kw u,v) = (w == u):=by
 unfold mhitB
 rw [hit_w]
end Go.Am.T


set_option linter.unusedVariables false
set_option linter.unusedSimpArgs false
set_option linter.unusedSectionVars false
set_option maxRecDepth 10000
namespace Go.Am.T
attribute [local congr] selV_congr impB_congr
structure Pg where
 l:List Wr
 W:V
 R:List Nat
structure Od where
 w:Int × Int
 l:List (Int × Int)
 W:V
 R:List Nat
def Od.e (o:Od):V × V:=(kw o.w,o.W)
def Dj (a b:List Nat):Prop:=∀ x ∈ a,x ∉ b
structure MdAt (H:Heap) (a m:Nat) (n:Int) (Q:List Pg) (O:List Od):Prop where
 ob:H[a]? = some ⟨1,.var (Q.map Pg.W ++ [.int .i64 n,.map m 1])⟩
 mp:H[m]? = some ⟨1,.map (O.map Od.e)⟩
 q16:Q.length = 16
 pg:∀ q ∈ Q,PRow H q.W q.l q.R
 od:∀ o ∈ O,ORow H o.W o.l o.R
 dq:∀ (i j:Nat) q r,Q[i]? = some q → Q[j]? = some r → i ≠ j → Dj q.R r.R
 dd:∀ (i j:Nat) q r,O[i]? = some q → O[j]? = some r → i ≠ j → Dj q.R r.R
 dqo:∀ q ∈ Q,∀ o ∈ O,Dj q.R o.R
 dqa:∀ q ∈ Q,Dj q.R [a,m]
 doa:∀ o ∈ O,Dj o.R [a,m]
 ne:a ≠ m
 ks:(O.map Od.w).Nodup
def Own (a m:Nat) (Q:List Pg) (O:List Od) (x:Nat):Prop:=x = a ∨ x = m ∨ (∃ q ∈ Q,x ∈ q.R) ∨ ∃ o ∈ O,x ∈ o.R
theorem MdAt.lt {H:Heap} {a m:Nat} {n:Int} {Q:List Pg} {O:List Od} (h:MdAt H a m n Q O):∀ x,Own a m Q O x → x < H.length:=by
 rintro x (rfl | rfl | ⟨q,hq,hx⟩ | ⟨o,ho,hx⟩)
 ·exact lt_of_get h.ob
 ·exact lt_of_get h.mp
 ·exact (h.pg q hq).lt x hx
 ·exact (h.od o ho).lt x hx
theorem MdAt.keep {H H':Heap} {a m:Nat} {n:Int} {Q:List Pg} {O:List Od} (h:MdAt H a m n Q O) (hk:∀ x,Own a m Q O x → H'[x]? = H[x]?):MdAt H' a m n Q O :=
 ⟨by rw [hk a (.inl rfl)]; exact h.ob,by rw [hk m (.inr (.inl rfl))]; exact h.mp,h.q16,fun q hq => (h.pg q hq).keep fun o ho => hk o (.inr (.inr (.inl ⟨q,hq,ho⟩))),fun q hq => (h.od q hq).keep fun o ho => hk o (.inr (.inr (.inr ⟨q,hq,ho⟩))),
  h.dq,h.dd,h.dqo,h.dqa,h.doa,h.ne,h.ks⟩
theorem MdAt.app {H:Heap} {a m:Nat} {n:Int} {Q:List Pg} {O:List Od} (h:MdAt H a m n Q O) (l:Heap):MdAt (H ++ l) a m n Q O:=h.keep fun x hx => List.getElem?_append_left (h.lt x hx)
theorem MdAt.set {H:Heap} {a m:Nat} {n:Int} {Q:List Pg} {O:List Od} (h:MdAt H a m n Q O) {o:Nat} (y:Ob) (ho:¬ Own a m Q O o):MdAt (H.set o y) a m n Q O:=h.keep fun x hx => List.getElem?_set_ne (fun e:o = x => ho (by rw [e]; exact hx))
theorem MdAt.lta {H:Heap} {a m:Nat} {n:Int} {Q:List Pg} {O:List Od} (h:MdAt H a m n Q O):a < H.length:=lt_of_get h.ob
theorem MdAt.ltm {H:Heap} {a m:Nat} {n:Int} {Q:List Pg} {O:List Od} (h:MdAt H a m n Q O):m < H.length:=lt_of_get h.mp
def mcs (Q:List Pg) (n:Int) (m:Nat):List V:=Q.map Pg.W ++ [.int .i64 n,.map m 1]
theorem mcs_len {Q:List Pg} {n:Int} {m:Nat} (h:Q.length = 16):(mcs Q n m).length = 18:=by simp [mcs,h]
theorem mcs_n {Q:List Pg} {n:Int} {m:Nat} (h:Q.length = 16):((mcs Q n m).drop 16).take 1 = [.int .i64 n]:=by
 unfold mcs
 rw [List.drop_append,List.drop_of_length_le (by simp [h]),List.length_map,h]
 rfl
theorem mcs_m {Q:List Pg} {n:Int} {m:Nat} (h:Q.length = 16):((mcs Q n m).drop 17).take 1 = [.map m 1]:=by
 unfold mcs
 rw [List.drop_append,List.drop_of_length_le (by simp [h]),List.length_map,h]
 rfl
theorem mcs_p {Q:List Pg} {n:Int} {m:Nat} {p:Nat} {q:Pg} (hq:Q[p]? = some q):((mcs Q n m).drop p).take 1 = [q.W]:=by
 have hp:=(List.getElem?_eq_some_iff.1 hq).1
 unfold mcs
 rw [List.drop_append,List.length_map,show p - Q.length = 0 by omega,List.drop_zero,← List.map_drop,List.drop_eq_getElem_cons hp]
 have:Q[p] = q:=by rw [List.getElem?_eq_getElem hp] at hq; simpa using hq
 rw [this]
 rfl
theorem mcs_set {Q:List Pg} {n:Int} {m:Nat} {p:Nat} {q q':Pg} (hq:Q[p]? = some q):setRange (mcs Q n m) p [q'.W] = mcs (Q.set p q') n m:=by
 have hp:=(List.getElem?_eq_some_iff.1 hq).1
 unfold mcs setRange
 rw [List.take_append,List.length_map,show p - Q.length = 0 by omega,List.take_zero,List.append_nil,List.drop_append,List.length_map,List.length_singleton,show p + 1 - Q.length = 0 by omega,List.drop_zero,List.map_set,List.set_eq_take_append_cons_drop]
 simp [hp]
theorem MdAt.ob' {H:Heap} {a m:Nat} {n:Int} {Q:List Pg} {O:List Od} (h:MdAt H a m n Q O):H[a]? = some ⟨1,.var (mcs Q n m)⟩:=h.ob
theorem MdAt.page {H H':Heap} {a m:Nat} {n:Int} {Q:List Pg} {O:List Od} (h:MdAt H a m n Q O) {p:Nat} {q q':Pg} (hq:Q[p]? = some q) (ha:H'[a]? = some ⟨1,.var (mcs (Q.set p q') n m)⟩) (hm:H'[m]? = H[m]?)
  (hQ:∀ i r,i ≠ p → Q[i]? = some r → ∀ o ∈ r.R,H'[o]? = H[o]?) (hO:∀ r ∈ O,∀ o ∈ r.R,H'[o]? = H[o]?) (hp:PRow H' q'.W q'.l q'.R) (hnew:∀ o ∈ q'.R,o ∈ q.R ∨ ¬ Own a m Q O o):MdAt H' a m n (Q.set p q') O:=by
 have hpl:=(List.getElem?_eq_some_iff.1 hq).1
 have hqm:q ∈ Q:=List.mem_of_getElem? hq
 have get:∀ i r,(Q.set p q')[i]? = some r → (i = p ∧ r = q') ∨ (i ≠ p ∧ Q[i]? = some r):=by
  intro i r hi
  by_cases e:p = i
  ·subst e
   rw [List.getElem?_set_self hpl] at hi
   cases hi
   exact .inl ⟨rfl,rfl⟩
  ·rw [List.getElem?_set_ne e] at hi
   exact .inr ⟨fun e' => e e'.symm,hi⟩
 have mem:∀ r ∈ Q.set p q',r = q' ∨ ∃ i,i ≠ p ∧ Q[i]? = some r:=by
  intro r hr
  obtain ⟨i,hi⟩:=List.getElem?_of_mem hr
  rcases get i r hi with ⟨-,h⟩ | ⟨h1,h2⟩
  ·exact .inl h
  ·exact .inr ⟨i,h1,h2⟩
 have dj:∀ i r,i ≠ p → Q[i]? = some r → Dj q'.R r.R:=fun i r hi hr x hx hx2 => by
  rcases hnew x hx with h1 | h1
  ·exact h.dq p i q r hq hr (Ne.symm hi) x h1 hx2
  ·exact h1 (.inr (.inr (.inl ⟨r,List.mem_of_getElem? hr,hx2⟩)))
 refine ⟨ha,by rw [hm]; exact h.mp,by simp [h.q16],fun r hr => ?_,fun r hr => (h.od r hr).keep (hO r hr),fun i j r s hi hj hij => ?_,h.dd,fun r hr o ho x hx hx2 => ?_,fun r hr x hx hx2 => ?_,h.doa,h.ne,h.ks⟩
 ·rcases mem r hr with rfl | ⟨i,hi,hr⟩
  ·exact hp
  ·exact (h.pg r (List.mem_of_getElem? hr)).keep (hQ i r hi hr)
 ·rcases get i r hi with ⟨e1,rfl⟩ | ⟨h1,h2⟩
  ·rcases get j s hj with ⟨e2,rfl⟩ | ⟨h3,h4⟩
   ·omega
   ·exact dj j s h3 h4
  ·rcases get j s hj with ⟨e2,rfl⟩ | ⟨h3,h4⟩
   ·exact fun x hx hx2 => dj i r h1 h2 x hx2 hx
   ·exact h.dq i j r s h2 h4 hij
 ·rcases mem r hr with rfl | ⟨i,hi,hr⟩
  ·rcases hnew x hx with h1 | h1
   ·exact h.dqo q hqm o ho x h1 hx2
   ·exact h1 (.inr (.inr (.inr ⟨o,ho,hx2⟩)))
  ·exact h.dqo r (List.mem_of_getElem? hr) o ho x hx hx2
 ·rcases mem r hr with rfl | ⟨i,hi,hr⟩
  ·rcases hnew x hx with h1 | h1
   ·exact h.dqa q hqm x h1 hx2
   ·simp only [List.mem_cons,List.not_mem_nil,or_false] at hx2
    rcases hx2 with rfl | rfl
    ·exact h1 (.inl rfl)
    ·exact h1 (.inr (.inl rfl))
  ·exact h.dqa r (List.mem_of_getElem? hr) x hx hx2
theorem mapOk_w (w:Int × Int) (O:List Od):mapOk true k2 (pcs w) (O.map Od.e) = true:=by
 unfold mapOk
 rw [Bool.and_eq_true]
 refine ⟨by simp [pcs,eqCells,eqCell],?_⟩
 rw [List.all_eq_true]
 intro e he
 obtain ⟨x,-,rfl⟩:=List.mem_map.1 he
 unfold Od.e
 rw [hit_w]
 rfl
theorem find_w (w:Int × Int):∀ O:List Od,(O.map Od.e).find? (mhitB true k2 (pcs w)) = (O.find? (fun x => w == x.w)).map Od.e
 | [] => rfl
 | x :: O => by
  rw [List.map_cons,List.find?_cons,List.find?_cons,show mhitB true k2 (pcs w) x.e = (w == x.w) from hitB_w w x.w x.W]
  cases w == x.w with
  | true => rfl
  | false => exact find_w w O
theorem any_w (w:Int × Int):∀ O:List Od,(O.map Od.e).any (mhitB true k2 (pcs w)) = O.any (fun x => w == x.w)
 | [] => rfl
 | x :: O => by rw [List.map_cons,List.any_cons,List.any_cons,show mhitB true k2 (pcs w) x.e = (w == x.w) from hitB_w w x.w x.W,any_w w O]
theorem filter_w (w:Int × Int):∀ O:List Od,(O.map Od.e).filter (fun e => !mhitB true k2 (pcs w) e) = (O.filter (fun x => !(w == x.w))).map Od.e
 | [] => rfl
 | x :: O => by
  rw [List.map_cons,List.filter_cons,List.filter_cons,show mhitB true k2 (pcs w) x.e = (w == x.w) from hitB_w w x.w x.W]
  cases w == x.w with
  | true => exact filter_w w O
  | false => simp only [Bool.not_false,↓reduceIte,List.map_cons,filter_w w O]
def putO (o:Od) (O:List Od):List Od:=match O.any (fun x => o.w == x.w) with | true => O.map (fun x => match o.w == x.w with | true => o | false => x) | false => O ++ [o]
theorem put_w (o:Od) (O:List Od):mputL true k2 (pcs o.w) (kw o.w) o.W (O.map Od.e) = (putO o O).map Od.e:=by
 unfold mputL putO
 rw [any_w]
 cases O.any (fun x => o.w == x.w) with
 | true =>
  simp only [List.map_map]
  apply List.map_congr_left
  intro x hx
  simp only [Function.comp]
  rw [show mhitB true k2 (pcs o.w) x.e = (o.w == x.w) from hitB_w o.w x.w x.W]
  cases o.w == x.w <;> rfl
 | false => rw [List.map_append]; rfl
theorem mput_w {get:Nat → Option Ob} {m:Nat} {O:List Od} (hm:get m = some ⟨1,.map (O.map Od.e)⟩) (o:Od) :
  mputA get true k2 (.map m 1) (.agg (pcs o.w)) o.W = some (.set m ⟨1,.map ((putO o O).map Od.e)⟩ (.tup [])):=by
 have:=put_w o O
 unfold kw at this
 unfold mputA
 simp only [keyC,mapAt,hm,↓reduceIte,mapOk_w,this]
theorem mdel_w {get:Nat → Option Ob} {m:Nat} {O:List Od} (hm:get m = some ⟨1,.map (O.map Od.e)⟩) (w:Int × Int) :
  mdelA get true k2 (.map m 1) (.agg (pcs w)) = some (.set m ⟨1,.map ((O.filter (fun x => !(w == x.w))).map Od.e)⟩ (.tup [])):=by
 unfold mdelA
 simp only [keyC,mapAt,hm,↓reduceIte,mapOk_w,filter_w]
def ordOf (O:List Od) (w:Int × Int):List (Int × Int):=match O.find? (fun x => w == x.w) with | some o => o.l | none => []
def ordV (O:List Od) (w:Int × Int):V:=match O.find? (fun x => w == x.w) with | some o => o.W | none => .nils
def ordR (O:List Od) (w:Int × Int):List Nat:=match O.find? (fun x => w == x.w) with | some o => o.R | none => []
theorem mget_w {get:Nat → Option Ob} {m:Nat} {O:List Od} (hm:get m = some ⟨1,.map (O.map Od.e)⟩) (w:Int × Int):mgetA get true k2 .nils false (.map m 1) (.agg (pcs w)) = some (ordV O w):=by
 unfold mgetA ordV
 simp only [keyC,mapAt,hm,↓reduceIte,mapOk_w,find_w]
 cases O.find? (fun x => w == x.w) <;> rfl
theorem ord_row {H:Heap} {a m:Nat} {n:Int} {Q:List Pg} {O:List Od} (h:MdAt H a m n Q O) (w:Int × Int):ORow H (ordV O w) (ordOf O w) (ordR O w):=by
 unfold ordV ordOf ordR
 cases hf:O.find? (fun x => w == x.w) with
 | none => exact .inl ⟨rfl,rfl,rfl⟩
 | some o => exact h.od o (List.mem_of_find?_eq_some hf)
theorem ord_own {a m:Nat} {Q:List Pg} {O:List Od} (w:Int × Int):∀ x ∈ ordR O w,∃ o ∈ O,o.w = w ∧ x ∈ o.R:=by
 unfold ordR
 cases hf:O.find? (fun x => w == x.w) with
 | none => intro x hx; cases hx
 | some o =>
  intro x hx
  refine ⟨o,List.mem_of_find?_eq_some hf,?_,hx⟩
  have:=List.find?_some hf
  simpa using (beq_iff_eq.1 this).symm
theorem same_od {O:List Od} (hk:(O.map Od.w).Nodup) {i j:Nat} {o p:Od} (hi:O[i]? = some o) (hj:O[j]? = some p) (e:o.w = p.w):i = j:=by
 have h1:(O.map Od.w)[i]? = some o.w:=by rw [List.getElem?_map,hi]; rfl
 have h2:(O.map Od.w)[j]? = some o.w:=by rw [List.getElem?_map,hj,e]; rfl
 exact (List.getElem?_inj (List.getElem?_eq_some_iff.1 h1).1 hk).1 (h1.trans h2.symm)
end Go.Am.T


set_option linter.unusedVariables false
set_option linter.unusedSimpArgs false
set_option linter.unusedSectionVars false
set_option maxRecDepth 10000
namespace Go.Am.T
attribute [local congr] selV_congr impB_congr
theorem there_spec {N n:Nat} (hn:1 ≤ n) {H:Heap} {a m:Nat} {nn:Int} {Q:List Pg} (hq:Q.length = 16) (hp:1 ≤ nn) (ho:H[a]? = some ⟨1,.var (mcs Q nn m)⟩):callA am N n 26 [.ptr a 1 0] H = some (.bool true,H):=by
 obtain ⟨n,rfl⟩:∃ m,n = m + 1:=⟨n - 1,by omega⟩
 have q1:=@mcs_n Q nn m hq
 have ql:=@mcs_len Q nn m hq
 have g1:decide (nn > 0) = true:=decide_eq_true (by omega)
 refine call_keep_eq at26 rfl rfl (by decide) (sx_wp ?_)
 generalize mcs Q nn m = cs at *
 simp +contextual -implicitDefEqProofs (maxSteps:=10000000) only [sxb,↓sxd,plainD,stays,↓prim_pick,doOp,get,ins,del,dels,Nat.reduceLT,Nat.reduceEqDiff,↓reduceIte,reduceCtorEq,ne_eq,implies_true,prim,YLD,mkA,V.cells,Nat.reduceAdd,Nat.reduceSub,Nat.reduceMul,Nat.reduceLeDiff,loadA,cellsAt,nAg,packA,List.drop,List.take,List.head?,binA,unA,eqCells,eqCell,negB,fillA,storeA,Ob.with,indexedI,V.oneCell,intOf?,resA,resA1,packR,sealDepth,Int.reduceLT,Int.reduceLE,Int.reduceToNat,Int.reduceNeg,Int.reduceAdd,Int.reduceSub,Int.reduceMul,cond_true,cond_false,Int.reduceBNe,Int.reduceBEq,eq_self,deads,List.replicate,argsF,am26,isNil,List.append_nil,ho,q1,ql,g1]
def badA (nn:Int) (w:Int × Int) (p k:Int):Bool :=
 decide (w.1 < 0) || (decide (w.1 ≥ 8) || (decide (w.2 < 1) || (decide (w.2 > 2147483647) || (decide (p < 0) || (decide (p ≥ nn) || decide (k < 0))))))
def askE (nn:Int) (w:Int × Int) (p k:Int):Int:=if badA nn w p k = true then 2 else 0
theorem am29_wp {N n:Nat} {args:List V} {h h':Heap} {v:V} (ha:args.length = 4) (H:sx ⟨pureOf am,callA am N n,N,h.length⟩ am29.body (fr am29.nt (argsF 0 args)) (h ++ deads am29.sites) (retQ am29.res fun x k => x = v ∧ k = h')):callA am N (n + 1) 29 args h = some (v,h') :=
 call_keep_eq at29 rfl ha (by decide) (sx_wp H)
theorem ask_spec {N n:Nat} (hn:2 ≤ n) {H:Heap} {a m:Nat} {nn:Int} {Q:List Pg} (hq:Q.length = 16) (hp:1 ≤ nn) (ho:H[a]? = some ⟨1,.var (mcs Q nn m)⟩) (w:Int × Int) (p k:Int) :
  callA am N n 29 [.ptr a 1 0,.agg (pcs w),.int .i64 p,.int .i64 k] H = some (.int .i64 (askE nn w p k),H ++ [⟨1,.var (pcs w)⟩]):=by
 obtain ⟨n,rfl⟩:∃ m,n = m + 1:=⟨n - 1,by omega⟩
 obtain ⟨nd,ep⟩:=w
 have al:=lt_of_get ho
 obtain ⟨h0,e0⟩:∃ h0,h0 = H ++ [(⟨1,.var (pcs (nd,ep))⟩:Ob)]:=⟨_,rfl⟩
 have oa:h0[a]? = some ⟨1,.var (mcs Q nn m)⟩:=by rw [e0,List.getElem?_append_left al]; exact ho
 have x0:h0[H.length]? = some ⟨1,.var [.int .i64 nd,.int .i64 ep]⟩:=by rw [e0,app_get0]; rfl
 have e0':=e0.symm
 have c26:=@there_spec N n (by omega) _ _ _ _ _ hq hp oa
 have q1:=@mcs_n Q nn m hq
 have ql:=@mcs_len Q nn m hq
 unfold askE badA
 unfold pcs at e0' ⊢
 simp only at e0' ⊢
 generalize hX:(decide (nd < 0) || (decide (nd ≥ 8) || (decide (ep < 1) || (decide (ep > 2147483647) || (decide (p < 0) || (decide (p ≥ nn) || decide (k < 0))))))) = X
 refine am29_wp rfl ?_
 generalize mcs Q nn m = cs at *
 cases X with
 | true =>
  simp +contextual -implicitDefEqProofs (maxSteps:=10000000) only [sxb,↓sxd,plainD,stays,↓prim_pick,doOp,get,ins,del,dels,Nat.reduceLT,Nat.reduceEqDiff,↓reduceIte,reduceCtorEq,ne_eq,implies_true,prim,YLD,mkA,V.cells,Nat.reduceAdd,Nat.reduceSub,Nat.reduceMul,Nat.reduceLeDiff,loadA,cellsAt,nAg,packA,List.drop,List.take,List.head?,binA,unA,eqCells,eqCell,negB,fillA,storeA,Ob.with,indexedI,V.oneCell,intOf?,resA,resA1,packR,sealDepth,Int.reduceLT,Int.reduceLE,Int.reduceToNat,Int.reduceNeg,Int.reduceAdd,Int.reduceSub,Int.reduceMul,cond_true,cond_false,Int.reduceBNe,Int.reduceBEq,eq_self,deads,List.replicate,argsF,am29,isNil,app_get0,app_set0,e0',c26,oa,x0,q1,ql,hX]
 | false =>
  simp +contextual -implicitDefEqProofs (maxSteps:=10000000) only [sxb,↓sxd,plainD,stays,↓prim_pick,doOp,get,ins,del,dels,Nat.reduceLT,Nat.reduceEqDiff,↓reduceIte,reduceCtorEq,ne_eq,implies_true,prim,YLD,mkA,V.cells,Nat.reduceAdd,Nat.reduceSub,Nat.reduceMul,Nat.reduceLeDiff,loadA,cellsAt,nAg,packA,List.drop,List.take,List.head?,binA,unA,eqCells,eqCell,negB,fillA,storeA,Ob.with,indexedI,V.oneCell,intOf?,resA,resA1,packR,sealDepth,Int.reduceLT,Int.reduceLE,Int.reduceToNat,Int.reduceNeg,Int.reduceAdd,Int.reduceSub,Int.reduceMul,cond_true,cond_false,Int.reduceBNe,Int.reduceBEq,eq_self,deads,List.replicate,argsF,am29,isNil,app_get0,app_set0,e0',c26,oa,x0,q1,ql,hX]
theorem writes_spec {N n:Nat} (hn:1 ≤ n) (a:Nat) (p:Int) (H:Heap):callA am N n 30 [.ptr a 1 0,.int .i64 p] H = some (.func 49 [] [.ptr H.length 1 0,.ptr (H.length + 1) 1 0],H ++ [⟨1,.var [.ptr a 1 0]⟩,⟨1,.var [.int .i64 p]⟩]):=by
 obtain ⟨n,rfl⟩:∃ m,n = m + 1:=⟨n - 1,by omega⟩
 refine call_keep_eq at30 rfl rfl (by decide) (sx_wp ?_)
 simp +contextual -implicitDefEqProofs (maxSteps:=10000000) only [sxb,↓sxd,plainD,stays,↓prim_pick,doOp,get,ins,del,dels,Nat.reduceLT,Nat.reduceEqDiff,↓reduceIte,reduceCtorEq,ne_eq,implies_true,prim,YLD,mkA,V.cells,Nat.reduceAdd,Nat.reduceSub,Nat.reduceMul,Nat.reduceLeDiff,loadA,cellsAt,nAg,packA,List.drop,List.take,List.head?,binA,unA,eqCells,eqCell,negB,fillA,storeA,Ob.with,indexedI,V.oneCell,intOf?,resA,resA1,packR,sealDepth,Int.reduceLT,Int.reduceLE,Int.reduceToNat,Int.reduceNeg,Int.reduceAdd,Int.reduceSub,Int.reduceMul,cond_true,cond_false,Int.reduceBNe,Int.reduceBEq,eq_self,deads,List.replicate,argsF,am30,app_get0,app_get,app_set0,app_set]
structure WTaker (l:List Wr) (W:V) (R:List Nat) (N n o ver F:Nat) (stop:Nat → Bool) (Inv:Bool → Nat → Heap → Prop):Prop where
 len:∀ b k h,Inv b k h → F < h.length
 row:∀ b k h,Inv b k h → PRow h W l R
 own:∀ b k h x,Inv b k h → Inv b k (h.set F x)
 round:∀ k h x,l[k]? = some x → Inv true k h → ∃ h',callA am N n YLD [.yld o ver,.agg x.cs] h = some (.bool (!stop k),h') ∧ Inv (!stop k) (k + 1) h'
structure WTaken (l:List Wr) (stop:Nat → Bool) (Inv:Bool → Nat → Heap → Prop) (b:Bool) (K:Nat) (h:Heap):Prop where
 inv:Inv b K h
 all:b = true → K = l.length ∧ ∀ k,k < K → stop k = false
 left:b = false → ∃ k,K = k + 1 ∧ k < l.length ∧ stop k = true ∧ ∀ j,j < k → stop j = false
theorem iter_bad {N n:Nat} (hn:3 ≤ n) {H:Heap} {a m b1 b2:Nat} {nn:Int} {Q:List Pg} (hq:Q.length = 16) (hp:1 ≤ nn) (ho:H[a]? = some ⟨1,.var (mcs Q nn m)⟩) (h1:H[b1]? = some ⟨1,.var [.ptr a 1 0]⟩) {p:Int} (h2:H[b2]? = some ⟨1,.var [.int .i64 p]⟩) (hb:badA nn (0,1) p 0 = true) (y:V) :
  callA am N n 49 [y,.ptr b1 1 0,.ptr b2 1 0] H = some (.tup [],H ++ [⟨0,.dead⟩,⟨1,.var (pcs (0,1))⟩]):=by
 obtain ⟨n,rfl⟩:∃ m,n = m + 1:=⟨n - 1,by omega⟩
 have al:=lt_of_get ho
 have bl:=lt_of_get h1
 have cl:=lt_of_get h2
 have c29:=@ask_spec N n (by omega) (H ++ [⟨0,.dead⟩]) a m nn Q hq hp (by rw [List.getElem?_append_left al]; exact ho) (0,1) p 0
 have eA:askE nn (0,1) p 0 = 2:=by unfold askE; rw [hb]; rfl
 rw [eA] at c29
 have g1:(H ++ [(⟨0,.dead⟩:Ob)])[b1]? = some ⟨1,.var [.ptr a 1 0]⟩:=by rw [List.getElem?_append_left bl]; exact h1
 have g2:(H ++ [(⟨0,.dead⟩:Ob)])[b2]? = some ⟨1,.var [.int .i64 p]⟩:=by rw [List.getElem?_append_left cl]; exact h2
 unfold pcs at c29 ⊢
 refine call_keep_eq at49 rfl rfl (by decide) (sx_wp ?_)
 simp +contextual -implicitDefEqProofs (maxSteps:=10000000) only [sxb,↓sxd,plainD,stays,↓prim_pick,doOp,get,ins,del,dels,Nat.reduceLT,Nat.reduceEqDiff,↓reduceIte,reduceCtorEq,ne_eq,implies_true,prim,YLD,mkA,V.cells,Nat.reduceAdd,Nat.reduceSub,Nat.reduceMul,Nat.reduceLeDiff,loadA,cellsAt,nAg,packA,List.drop,List.take,List.head?,binA,unA,eqCells,eqCell,negB,fillA,storeA,Ob.with,indexedI,V.oneCell,intOf?,resA,resA1,packR,sealDepth,Int.reduceLT,Int.reduceLE,Int.reduceToNat,Int.reduceNeg,Int.reduceAdd,Int.reduceSub,Int.reduceMul,cond_true,cond_false,Int.reduceBNe,Int.reduceBEq,eq_self,deads,List.replicate,argsF,am49,g1,g2,c29,List.append_assoc]
end Go.Am.T


set_option linter.unusedVariables false
set_option linter.unusedSimpArgs false
set_option linter.unusedSectionVars false
set_option maxRecDepth 10000
namespace Go.Am.T
attribute [local congr] selV_congr impB_congr
theorem am49_wp {N n:Nat} {args:List V} {h:Heap} {C:V → Heap → Prop} (ha:args.length = 3) (H:sx ⟨pureOf am,callA am N n,N,h.length⟩ am49.body (fr am49.nt (argsF 0 args)) (h ++ deads am49.sites) (retQ am49.res C)):∃ v h',callA am N (n + 1) 49 args h = some (v,h') ∧ C v h' :=
 call_keep at49 rfl ha (by decide) (sx_wp H)
theorem flatW_at {l:List Wr} {i:Nat} {x:Wr} (h:∀ x ∈ l,x.Ok) (hx:l[i]? = some x) (rest:List V):((flatW l ++ rest).drop (i * 101)).take 101 = x.cs:=by
 have hl:=flatW_len h
 have hi:=(List.getElem?_eq_some_iff.1 hx).1
 rw [List.drop_append,List.take_append]
 have e1:i * 101 - (flatW l).length = 0:=by omega
 have e2:101 - ((flatW l).drop (i * 101)).length = 0:=by rw [List.length_drop]; omega
 rw [e1,e2,List.take_zero,List.append_nil]
 exact flat_at Wr.cs 101 (fun y hy => Wr.len (h y hy)) hx
set_option maxHeartbeats 1000000 in
theorem iter_spec {N n:Nat} (hN:5000 ≤ N) (hn:3 ≤ n) {H:Heap} {a m b1 b2:Nat} {nn:Int} {Q:List Pg} (hq16:Q.length = 16) (hp:1 ≤ nn) (hob:H[a]? = some ⟨1,.var (mcs Q nn m)⟩) (h1:H[b1]? = some ⟨1,.var [.ptr a 1 0]⟩) {p:Nat} (h2:H[b2]? = some ⟨1,.var [.int .i64 p]⟩) (hb:badA nn (0,1) p 0 = false)
  {q:Pg} (hq:Q[p]? = some q) (hl:q.l.length ≤ 4096) {o ver:Nat} {stop:Nat → Bool} {Inv:Bool → Nat → Heap → Prop} (T:WTaker q.l q.W q.R N n o ver H.length stop Inv) (hI:Inv true 0 (H ++ [⟨0,.dead⟩,⟨1,.var (pcs (0,1))⟩])) :
  ∃ v' h',callA am N (n + 1) 49 [.yld o ver,.ptr b1 1 0,.ptr b2 1 0] H = some (v',h') ∧ v' = .tup [] ∧ ∃ b K,WTaken q.l stop Inv b K h':=by
 have al:=lt_of_get hob
 have bl:=lt_of_get h1
 have cl:=lt_of_get h2
 have c29:=@ask_spec N n (by omega) (H ++ [⟨0,.dead⟩]) a m nn Q hq16 hp (by rw [List.getElem?_append_left al]; exact hob) (0,1) p 0
 have eA:askE nn (0,1) p 0 = 0:=by unfold askE; rw [hb]; rfl
 rw [eA,List.append_assoc] at c29
 obtain ⟨h0,e0⟩:∃ h0,h0 = H ++ ([(⟨0,.dead⟩:Ob)] ++ [⟨1,.var (pcs (0,1))⟩]):=⟨_,rfl⟩
 have g1:(H ++ [(⟨0,.dead⟩:Ob)])[b1]? = some ⟨1,.var [.ptr a 1 0]⟩:=by rw [List.getElem?_append_left bl]; exact h1
 have g2:(H ++ [(⟨0,.dead⟩:Ob)])[b2]? = some ⟨1,.var [.int .i64 p]⟩:=by rw [List.getElem?_append_left cl]; exact h2
 have k1:h0[b1]? = some ⟨1,.var [.ptr a 1 0]⟩:=by rw [e0,List.getElem?_append_left bl]; exact h1
 have k2:h0[b2]? = some ⟨1,.var [.int .i64 p]⟩:=by rw [e0,List.getElem?_append_left cl]; exact h2
 have oa:h0[a]? = some ⟨1,.var (mcs Q nn m)⟩:=by rw [e0,List.getElem?_append_left al]; exact hob
 rw [← e0] at c29
 have hI:Inv true 0 h0:=by rw [e0]; exact hI
 have hrow:=T.row _ _ _ hI
 have hlen:=hrow.len
 obtain ⟨w1,w2,w3,w4,w5,w6⟩:=hrow.shape
 have hp16:p < 16:=by rw [← hq16]; exact (List.getElem?_eq_some_iff.1 hq).1
 have gp:decide ((p:Int) < (16:Nat)) = true:=decide_eq_true (by omega)
 have qp:=@mcs_p Q nn m p q hq
 have ql:=@mcs_len Q nn m hq16
 have hpl:p + 1 ≤ 18:=by omega
 have hp16':((p:Int) < 16):=by omega
 unfold pcs at c29
 clear e0
 refine am49_wp rfl ?_
 generalize mcs Q nn m = cs at *
 simp +contextual -implicitDefEqProofs (maxSteps:=10000000) only [sxb,↓sxd,plainD,stays,↓prim_pick,doOp,get,ins,del,dels,Nat.reduceLT,Nat.reduceEqDiff,↓reduceIte,reduceCtorEq,ne_eq,implies_true,prim,YLD,mkA,V.cells,Nat.reduceAdd,Nat.reduceSub,Nat.reduceMul,Nat.reduceLeDiff,loadA,cellsAt,nAg,packA,List.drop,List.take,List.head?,binA,unA,eqCells,eqCell,negB,fillA,storeA,Ob.with,indexedI,V.oneCell,intOf?,resA,resA1,packR,sealDepth,Int.reduceLT,Int.reduceLE,Int.reduceToNat,Int.reduceNeg,Int.reduceAdd,Int.reduceSub,Int.reduceMul,cond_true,cond_false,Int.reduceBNe,Int.reduceBEq,eq_self,deads,List.replicate,argsF,am49,g1,g2,k1,k2,c29,oa,ql,qp,hlen,hpl,hp16',List.append_assoc,w1]
 refine sx_loop (fun i t h => t = fr 27 [(0,.yld o ver),(16,q.W),(17,.int .i64 (q.l.length:Nat)),(18,.int .i64 i)] ∧ i ≤ q.l.length ∧ Inv true i h ∧ ∀ j,j < i → stop j = false) q.l.length (by show q.l.length < N; omega) ⟨rfl,Nat.zero_le _,hI,fun j hj => by omega⟩ ?_
 rintro i t h hi ⟨rfl,hi8,hI1,hf⟩
 by_cases hlt:i < q.l.length
 ·have g1:decide ((i:Int) < (q.l.length:Int)) = true:=decide_eq_true (by omega)
  have w4:IntKind.i64.wrap ((i:Int) + 1) = ((i + 1:Nat):Int):=(wrap64 (by omega) (by omega)).trans (by omega)
  have hi1:i + 1 ≤ q.l.length:=by omega
  have hk:q.l[i]? = some q.l[i]:=List.getElem?_eq_getElem hlt
  generalize q.l[i] = x at hk
  have hF:=T.len _ _ _ hI1
  have hFx:h[H.length]? = some h[H.length]:=List.getElem?_eq_getElem hF
  generalize h[H.length] = xF at hFx
  obtain ⟨hall,⟨hnil,-⟩ | ⟨o',ver',cap,rest,hrs,hR,hW,ho',hc⟩⟩:=T.row _ _ _ hI1
  ·rw [hnil] at hlt; simp at hlt
  have hx:=hall x (List.mem_of_getElem? hk)
  have hxl:=Wr.len hx
  have hone:=x.one
  have tk:List.take 101 x.cs = x.cs:=List.take_of_length_le (by omega)
  have hat:=flatW_at hall hk rest
  have hfl:=flatW_len hall
  have hle:i * 101 + 101 ≤ (flatW q.l ++ rest).length:=by rw [List.length_append,hfl]; omega
  have hT:=T.own _ _ _ ⟨xF.ver + 1,.var x.cs⟩ hI1
  -- what is read behind the own object's set
  have hrd:(h.set H.length ⟨xF.ver + 1,.var x.cs⟩)[H.length]? = some ⟨xF.ver + 1,.var x.cs⟩:=List.getElem?_set_self hF
  have gi:decide ((0:Int) ≤ (i:Int)) = true:=decide_eq_true (by omega)
  have hlti:(i:Int) < (q.l.length:Int):=by omega
  rw [hW]
  generalize flatW q.l ++ rest = A at ho' hat hle
  obtain ⟨h2,hr,hI2⟩:=T.round i _ x hk hT
  cases hs:stop i with
  | true =>
   rw [hs] at hr hI2
   simp +contextual -implicitDefEqProofs (maxSteps:=10000000) only [sxb,↓sxd,plainD,stays,↓prim_pick,doOp,get,ins,del,dels,Nat.reduceLT,Nat.reduceEqDiff,↓reduceIte,reduceCtorEq,ne_eq,implies_true,prim,YLD,mkA,V.cells,Nat.reduceAdd,Nat.reduceSub,Nat.reduceMul,Nat.reduceLeDiff,loadA,cellsAt,nAg,packA,List.drop,List.take,List.head?,binA,unA,eqCells,eqCell,negB,fillA,storeA,Ob.with,indexedI,V.oneCell,intOf?,resA,resA1,packR,sealDepth,Int.reduceLT,Int.reduceLE,Int.reduceToNat,Int.reduceNeg,Int.reduceAdd,Int.reduceSub,Int.reduceMul,cond_true,cond_false,Int.reduceBNe,Int.reduceBEq,eq_self,deads,List.replicate,argsF,g1,iaddrSA,hlti,ho',hle,hat,hxl,hone,tk,hFx,hF,List.getElem?_set_self,List.length_set,List.set_set,hrd,cvP_yld,hr,-List.drop,-List.take]
   exact ⟨false,_,hI2,fun h => by (cases h),fun _ => ⟨_,rfl,hlt,hs,hf⟩⟩
  | false =>
   rw [hs] at hr hI2
   simp +contextual -implicitDefEqProofs (maxSteps:=10000000) only [sxb,↓sxd,plainD,stays,↓prim_pick,doOp,get,ins,del,dels,Nat.reduceLT,Nat.reduceEqDiff,↓reduceIte,reduceCtorEq,ne_eq,implies_true,prim,YLD,mkA,V.cells,Nat.reduceAdd,Nat.reduceSub,Nat.reduceMul,Nat.reduceLeDiff,loadA,cellsAt,nAg,packA,List.drop,List.take,List.head?,binA,unA,eqCells,eqCell,negB,fillA,storeA,Ob.with,indexedI,V.oneCell,intOf?,resA,resA1,packR,sealDepth,Int.reduceLT,Int.reduceLE,Int.reduceToNat,Int.reduceNeg,Int.reduceAdd,Int.reduceSub,Int.reduceMul,cond_true,cond_false,Int.reduceBNe,Int.reduceBEq,eq_self,deads,List.replicate,argsF,g1,iaddrSA,hlti,ho',hle,hat,hxl,hone,tk,hFx,hF,List.getElem?_set_self,List.length_set,List.set_set,hrd,cvP_yld,hr,w4,hi1,hlt,-List.drop,-List.take]
   refine ⟨hI2,fun j hj => ?_⟩
   by_cases ej:j = i
   ·rw [ej]; exact hs
   ·exact hf j (by omega)
 ·have e8:i = q.l.length:=by omega
  subst e8
  have g1:decide ((q.l.length:Int) < (q.l.length:Int)) = false:=decide_eq_false (by omega)
  simp +contextual -implicitDefEqProofs (maxSteps:=10000000) only [sxb,↓sxd,plainD,stays,↓prim_pick,doOp,get,ins,del,dels,Nat.reduceLT,Nat.reduceEqDiff,↓reduceIte,reduceCtorEq,ne_eq,implies_true,prim,YLD,mkA,V.cells,Nat.reduceAdd,Nat.reduceSub,Nat.reduceMul,Nat.reduceLeDiff,loadA,cellsAt,nAg,packA,List.drop,List.take,List.head?,binA,unA,eqCells,eqCell,negB,fillA,storeA,Ob.with,indexedI,V.oneCell,intOf?,resA,resA1,packR,sealDepth,Int.reduceLT,Int.reduceLE,Int.reduceToNat,Int.reduceNeg,Int.reduceAdd,Int.reduceSub,Int.reduceMul,cond_true,cond_false,Int.reduceBNe,Int.reduceBEq,eq_self,deads,List.replicate,argsF,g1]
  exact ⟨true,_,hI1,fun _ => ⟨rfl,hf⟩,fun h => by cases h⟩
end Go.Am.T


set_option linter.unusedVariables false
set_option linter.unusedSimpArgs false
set_option linter.unusedSectionVars false
set_option maxRecDepth 10000
namespace Go.Am.T
attribute [local congr] selV_congr impB_congr
def wz:Wr:=⟨0,0,0,0,List.replicate 96 0,false⟩
theorem wz_ok:wz.Ok:=by unfold Wr.Ok wz; simp
def lastK (l:List Wr) (k:Nat):Wr:=(l.take k).getLastD wz
theorem lastK_zero (l:List Wr):lastK l 0 = wz:=by simp [lastK]
theorem lastK_succ {l:List Wr} {k:Nat} {x:Wr} (h:l[k]? = some x):lastK l (k + 1) = x:=by
 unfold lastK
 rw [List.take_add_one,h]
 simp
theorem lastK_ok {l:List Wr} (h:∀ x ∈ l,x.Ok) (k:Nat):(lastK l k).Ok:=by
 unfold lastK
 rw [List.getLastD_eq_getLast?]
 cases hl:(l.take k).getLast? with
 | none => exact wz_ok
 | some x => exact h x (List.mem_of_mem_take (List.mem_of_getLast? hl))
def whT (n0:Nat):List V:=fr 24 [(4,.ptr n0 1 0),(5,.bool false),(6,.ptr (n0 + 1) 1 0),(10,.func 49 [] [.ptr (n0 + 4) 1 0,.ptr (n0 + 5) 1 0])]
def whH (H:Heap) (a:Nat) (p:Int) (L:List V) (x2 y:Ob):Heap :=
 H ++ [⟨1,.var [.int .i64 0,.int .i64 0]⟩,⟨1,.var L⟩,x2,⟨1,.loop 0 none (whT H.length) H.length 24 0⟩,⟨1,.var [.ptr a 1 0]⟩,⟨1,.var [.int .i64 p]⟩,y,⟨1,.var (pcs (0,1))⟩]
def whI (H:Heap) (a:Nat) (p:Int) (l:List Wr) (b:Bool) (k:Nat) (h:Heap):Prop:=b = true ∧ ∃ x2 y,h = whH H a p (lastK l k).cs x2 y
theorem whose_taker {N n:Nat} {H:Heap} {a:Nat} {p:Int} {l:List Wr} {W:V} {R:List Nat} (hr:PRow H W l R):WTaker l W R N (n + 1) (H.length + 3) 1 (H.length + 6) (fun _ => false) (whI H a p l):=by
 refine ⟨?_,?_,?_,?_⟩
 ·rintro b k h ⟨-,x2,y,rfl⟩
  simp [whH]
 ·rintro b k h ⟨-,x2,y,rfl⟩
  exact hr.keep fun o ho => List.getElem?_append_left (hr.lt o ho)
 ·rintro b k h x ⟨rfl,x2,y,rfl⟩
  refine ⟨rfl,x2,x,?_⟩
  unfold whH
  rw [app_set]
  rfl
 ·rintro k h x hk ⟨-,x2,y,rfl⟩
  have hx:=hr.1 x (List.mem_of_getElem? hk)
  have hxl:=Wr.len hx
  have hone:=x.one
  have tk:List.take 101 x.cs = x.cs:=List.take_of_length_le (by omega)
  have hLl:=Wr.len (lastK_ok hr.1 k)
  refine ⟨whH H a p x.cs ⟨x2.ver + 1,.var x.cs⟩ y,?_,⟨rfl,_,_,by rw [lastK_succ hk]⟩⟩
  generalize (lastK l k).cs = L at hLl ⊢
  unfold whH
  refine call_yld (ho:=by rw [app_get]; rfl) (hp:=at24) (hr:=rfl) (hl:=rfl) ?_
  unfold whT
  generalize x.cs = X at *
  simp +contextual -implicitDefEqProofs (maxSteps:=10000000) only [sxb,↓sxd,plainD,stays,↓prim_pick,doOp,get,ins,del,dels,Nat.reduceLT,Nat.reduceEqDiff,↓reduceIte,reduceCtorEq,ne_eq,implies_true,prim,YLD,mkA,V.cells,Nat.reduceAdd,Nat.reduceSub,Nat.reduceMul,Nat.reduceLeDiff,loadA,cellsAt,nAg,packA,List.drop,List.take,List.head?,binA,unA,eqCells,eqCell,negB,fillA,storeA,Ob.with,indexedI,V.oneCell,intOf?,resA,resA1,packR,sealDepth,Int.reduceLT,Int.reduceLE,Int.reduceToNat,Int.reduceNeg,Int.reduceAdd,Int.reduceSub,Int.reduceMul,cond_true,cond_false,Int.reduceBNe,Int.reduceBEq,eq_self,deads,List.replicate,argsF,setPs_cons,setPs_nil,app_get0,app_get,app_set0,app_set,hxl,hone,tk,hLl]
  exact ⟨_,_,_,_,_,rfl,_,_,_,_,_,_,rfl,rfl,rfl⟩
def whoseW (l:List Wr):(Int × Int) × Bool:=if (lastK l l.length).ps = 0 ∨ (lastK l l.length).du = true then ((0,0),false) else (((lastK l l.length).nd,(lastK l l.length).ep),true)
theorem am24_wp {N n:Nat} {args:List V} {h:Heap} {C:V → Heap → Prop} (ha:args.length = 2) (H:sx ⟨pureOf am,callA am N n,N,h.length⟩ am24.body (fr am24.nt (argsF 0 args)) (h ++ deads am24.sites) (retQ am24.res C)):∃ v h',callA am N (n + 1) 24 args h = some (v,h') ∧ C v h' :=
 call_keep at24 rfl ha (by decide) (sx_wp H)
set_option maxHeartbeats 1000000 in
theorem whose_spec {N n:Nat} (hN:5000 ≤ N) (hn:6 ≤ n) {H:Heap} {a m:Nat} {nn:Int} {Q:List Pg} {O:List Od} (h:MdAt H a m nn Q O) (hp1:1 ≤ nn) {p:Nat} (hb:badA nn (0,1) p 0 = false) {q:Pg} (hq:Q[p]? = some q) (hl:q.l.length ≤ 4096) :
  ∃ v' H',callA am N n 24 [.ptr a 1 0,.int .i64 p] H = some (v',H') ∧ v' = .tup [.agg (pcs (whoseW q.l).1),.bool (whoseW q.l).2] ∧ ∃ tl,H' = H ++ tl:=by
 obtain ⟨n,rfl⟩:∃ m,n = m + 3:=⟨n - 3,by omega⟩
 have al:=h.lta
 have c30:=fun H => @writes_spec N (n + 2) (by omega) a p H
 obtain ⟨hs,ehs⟩:∃ hs,hs = H ++ [(⟨1,.var [.int .i64 0,.int .i64 0]⟩:Ob),⟨1,.var wz.cs⟩,⟨0,.dead⟩,⟨1,.loop 0 none (whT H.length) H.length 24 0⟩,⟨1,.var [.ptr a 1 0]⟩,⟨1,.var [.int .i64 p]⟩]:=⟨_,rfl⟩
 have hsl:hs.length = H.length + 6:=by rw [ehs]; simp
 have hm:=h.app [(⟨1,.var [.int .i64 0,.int .i64 0]⟩:Ob),⟨1,.var wz.cs⟩,⟨0,.dead⟩,⟨1,.loop 0 none (whT H.length) H.length 24 0⟩,⟨1,.var [.ptr a 1 0]⟩,⟨1,.var [.int .i64 p]⟩]
 rw [← ehs] at hm
 have b1:hs[H.length + 4]? = some ⟨1,.var [.ptr a 1 0]⟩:=by rw [ehs,app_get]; rfl
 have b2:hs[H.length + 5]? = some ⟨1,.var [.int .i64 p]⟩:=by rw [ehs,app_get]; rfl
 have T:=@whose_taker N n H a p q.l q.W q.R (h.pg q (List.mem_of_getElem? hq))
 rw [← hsl] at T
 obtain ⟨v0,h',c49,rfl,b,K,hI,hall,hleft⟩:=@iter_spec N (n + 1) (by omega) (by omega) hs a m _ _ nn Q h.q16 hp1 hm.ob' b1 p b2 hb q hq hl _ _ _ _ T ⟨rfl,⟨0,.dead⟩,⟨0,.dead⟩,by rw [ehs,lastK_zero,List.append_assoc]; rfl⟩
 obtain ⟨rfl,x2,y,rfl⟩:=hI
 obtain ⟨rfl,-⟩:=hall rfl
 have hL:=Wr.len (lastK_ok (h.pg q (List.mem_of_getElem? hq)).1 q.l.length)
 have hwz:=Wr.len wz_ok
 have ez:wz.cs = [V.int .i64 0,.int .i64 0,.int .i64 0,.int .i64 0] ++ (List.replicate 96 (V.int .u8 0) ++ [.bool false]):=by simp [Wr.cs,Wr.hd,wz]
 unfold whoseW
 generalize lastK q.l q.l.length = x at *
 have x1:List.take 1 (List.drop 3 x.cs) = [.int .i64 x.ps]:=rfl
 have x2':List.take 1 (List.drop 100 x.cs) = [.bool x.du]:=by
  have hb96:x.b.length = 96:=by
   simp only [Wr.cs,Wr.hd,List.length_append,List.length_map,List.length_cons,List.length_nil] at hL
   omega
  unfold Wr.cs Wr.hd
  rw [List.drop_append,List.drop_of_length_le (by simp),List.nil_append,List.drop_append,List.drop_of_length_le (by simp; omega),List.length_map,hb96]
  rfl
 have x3:List.take 2 x.cs = [.int .i64 x.nd,.int .i64 x.ep]:=rfl
 refine am24_wp rfl ?_
 simp +contextual -implicitDefEqProofs (maxSteps:=10000000) only [sxb,↓sxd,plainD,stays,↓prim_pick,doOp,get,ins,del,dels,Nat.reduceLT,Nat.reduceEqDiff,↓reduceIte,reduceCtorEq,ne_eq,implies_true,prim,YLD,mkA,V.cells,Nat.reduceAdd,Nat.reduceSub,Nat.reduceMul,Nat.reduceLeDiff,loadA,cellsAt,nAg,packA,List.drop,List.take,List.head?,binA,unA,eqCells,eqCell,negB,fillA,storeA,Ob.with,indexedI,V.oneCell,intOf?,resA,resA1,packR,sealDepth,Int.reduceLT,Int.reduceLE,Int.reduceToNat,Int.reduceNeg,Int.reduceAdd,Int.reduceSub,Int.reduceMul,cond_true,cond_false,Int.reduceBNe,Int.reduceBEq,eq_self,deads,List.replicate,argsF,am24,app_get0,app_get,app_set0,app_set,c30,List.length_append,List.append_assoc]
 refine sx_rangeF (x:=⟨0,.dead⟩) (g:=49) (xs:=[]) (ys:=[.ptr (H.length + 4) 1 0,.ptr (H.length + 5) 1 0]) (by rw [app_get]; rfl) rfl (by rw [app_set]; subst ehs; exact c49) (by show (whH _ _ _ _ _ _)[_]? = _; unfold whH; rw [app_get]; rfl) (by decide) ?_
 unfold whH
 generalize x.cs = X at *
 by_cases hc:x.ps = 0 ∨ x.du = true
 ·rw [if_pos hc]
  have hg:((x.ps == 0) || x.du) = true:=by simpa using hc
  simp +contextual -implicitDefEqProofs (maxSteps:=10000000) only [sxb,↓sxd,plainD,stays,↓prim_pick,doOp,get,ins,del,dels,Nat.reduceLT,Nat.reduceEqDiff,↓reduceIte,reduceCtorEq,ne_eq,implies_true,prim,YLD,mkA,V.cells,Nat.reduceAdd,Nat.reduceSub,Nat.reduceMul,Nat.reduceLeDiff,loadA,cellsAt,nAg,packA,List.drop,List.take,List.head?,binA,unA,eqCells,eqCell,negB,fillA,storeA,Ob.with,indexedI,V.oneCell,intOf?,resA,resA1,packR,sealDepth,Int.reduceLT,Int.reduceLE,Int.reduceToNat,Int.reduceNeg,Int.reduceAdd,Int.reduceSub,Int.reduceMul,cond_true,cond_false,Int.reduceBNe,Int.reduceBEq,eq_self,deads,List.replicate,argsF,app_get0,app_get,app_set0,app_set,jumpE,hL,x1,x2',x3,hg,-List.drop,-List.take]
  exact ⟨rfl,_,rfl⟩
 ·rw [if_neg hc]
  have hg:((x.ps == 0) || x.du) = false:=by
   have:¬ (x.ps == 0 || x.du) = true:=by simpa using hc
   simpa using this
  simp +contextual -implicitDefEqProofs (maxSteps:=10000000) only [sxb,↓sxd,plainD,stays,↓prim_pick,doOp,get,ins,del,dels,Nat.reduceLT,Nat.reduceEqDiff,↓reduceIte,reduceCtorEq,ne_eq,implies_true,prim,YLD,mkA,V.cells,Nat.reduceAdd,Nat.reduceSub,Nat.reduceMul,Nat.reduceLeDiff,loadA,cellsAt,nAg,packA,List.drop,List.take,List.head?,binA,unA,eqCells,eqCell,negB,fillA,storeA,Ob.with,indexedI,V.oneCell,intOf?,resA,resA1,packR,sealDepth,Int.reduceLT,Int.reduceLE,Int.reduceToNat,Int.reduceNeg,Int.reduceAdd,Int.reduceSub,Int.reduceMul,cond_true,cond_false,Int.reduceBNe,Int.reduceBEq,eq_self,deads,List.replicate,argsF,app_get0,app_get,app_set0,app_set,jumpE,hL,x1,x2',x3,hg,-List.drop,-List.take]
  exact ⟨rfl,_,rfl⟩
end Go.Am.T


set_option linter.unusedVariables false
set_option linter.unusedSimpArgs false
set_option linter.unusedSectionVars false
set_option maxRecDepth 10000
namespace Go.Am.T
attribute [local congr] selV_congr impB_congr
theorem putO_get {o:Od} {O:List Od} {i:Nat} {r:Od} (h:(putO o O)[i]? = some r):(r = o ∧ ∀ s,O[i]? = some s → s.w = o.w) ∨ (r.w ≠ o.w ∧ O[i]? = some r):=by
 unfold putO at h
 cases ha:O.any (fun x => o.w == x.w) with
 | true =>
  rw [ha] at h
  simp only [List.getElem?_map,Option.map_eq_some_iff] at h
  obtain ⟨s,hs,rfl⟩:=h
  by_cases e:o.w = s.w
  ·have:(o.w == s.w) = true:=beq_iff_eq.2 e
   rw [this]
   exact .inl ⟨rfl,fun s' hs' => by rw [hs] at hs'; cases hs'; exact e.symm⟩
  ·have:(o.w == s.w) = false:=beq_eq_false_iff_ne.2 e
   rw [this]
   exact .inr ⟨fun e' => e e'.symm,hs⟩
 | false =>
  rw [ha] at h
  simp only at h
  rcases Nat.lt_or_ge i O.length with hi | hi
  ·rw [List.getElem?_append_left hi] at h
   refine .inr ⟨fun e => ?_,h⟩
   have:=List.any_eq_false.1 ha r (List.mem_of_getElem? h)
   exact this (by simpa using e.symm)
  ·rw [List.getElem?_append_right hi] at h
   obtain rfl:=List.mem_singleton.1 (List.mem_of_getElem? h)
   exact .inl ⟨rfl,fun s hs => by rw [List.getElem?_eq_none hi] at hs; cases hs⟩
theorem putO_one {o:Od} {O:List Od} (hk:(O.map Od.w).Nodup) {i j:Nat} {r s:Od} (hi:(putO o O)[i]? = some r) (hj:(putO o O)[j]? = some s) (h1:r.w = o.w) (h2:s.w = o.w):i = j:=by
 unfold putO at hi hj
 cases ha:O.any (fun x => o.w == x.w) with
 | true =>
  rw [ha] at hi hj
  simp only [List.getElem?_map,Option.map_eq_some_iff] at hi hj
  obtain ⟨r',hr',rfl⟩:=hi
  obtain ⟨s',hs',rfl⟩:=hj
  have key:∀ x:Od,(match o.w == x.w with | true => o | false => x).w = o.w → x.w = o.w:=fun x hx => by
   cases e:o.w == x.w with
   | true => exact (beq_iff_eq.1 e).symm
   | false => rw [e] at hx; exact hx
  exact same_od hk hr' hs' ((key _ h1).trans (key _ h2).symm)
 | false =>
  rw [ha] at hi hj
  simp only at hi hj
  have key:∀ (i:Nat) (r:Od),(O ++ [o])[i]? = some r → r.w = o.w → i = O.length:=fun i r hi h1 => by
   rcases Nat.lt_or_ge i O.length with hl | hl
   ·rw [List.getElem?_append_left hl] at hi
    have:=List.any_eq_false.1 ha r (List.mem_of_getElem? hi)
    exact absurd (by simpa using h1.symm) this
   ·have:=(List.getElem?_eq_some_iff.1 hi).1
    simp at this
    omega
  rw [key i r hi h1,key j s hj h2]
theorem putO_ks {o:Od} {O:List Od} (hk:(O.map Od.w).Nodup):((putO o O).map Od.w).Nodup:=by
 unfold putO
 cases ha:O.any (fun x => o.w == x.w) with
 | true =>
  simp only [List.map_map]
  have:O.map (Od.w ∘ fun x => match o.w == x.w with | true => o | false => x) = O.map Od.w:=by
   apply List.map_congr_left
   intro x hx
   simp only [Function.comp]
   cases e:o.w == x.w with
   | true => exact beq_iff_eq.1 e
   | false => rfl
  exact (congrArg List.Nodup this).mpr hk
 | false =>
  simp only [List.map_append,List.map_cons,List.map_nil]
  rw [List.nodup_append]
  refine ⟨hk,by simp,fun x hx y hy e => ?_⟩
  simp at hy
  subst hy
  subst e
  obtain ⟨z,hz,hzw⟩:=List.mem_map.1 hx
  exact List.any_eq_false.1 ha z hz (by simpa using hzw.symm)
theorem putO_mem {o:Od} {O:List Od} {r:Od} (h:r ∈ putO o O):r = o ∨ (r.w ≠ o.w ∧ r ∈ O):=by
 obtain ⟨i,hi⟩:=List.getElem?_of_mem h
 rcases putO_get hi with ⟨h1,-⟩ | ⟨h1,h2⟩
 ·exact .inl h1
 ·exact .inr ⟨h1,List.mem_of_getElem? h2⟩
theorem ord_only {H:Heap} {a m:Nat} {n:Int} {Q:List Pg} {O:List Od} (h:MdAt H a m n Q O) {w:Int × Int} {r:Od} (hr:r ∈ O) (hw:r.w ≠ w):Dj (ordR O w) r.R:=by
 intro x hx hx2
 obtain ⟨o,ho,how,hxo⟩:=ord_own (a:=a) (m:=m) (Q:=Q) w x hx
 obtain ⟨i,hi⟩:=List.getElem?_of_mem ho
 obtain ⟨j,hj⟩:=List.getElem?_of_mem hr
 exact h.dd i j o r hi hj (fun e => by subst e; rw [hi] at hj; cases hj; exact hw how) x hxo hx2
theorem MdAt.ord {H H':Heap} {a m:Nat} {n:Int} {Q:List Pg} {O:List Od} (h:MdAt H a m n Q O) {o:Od} (ha:H'[a]? = H[a]?) (hm:H'[m]? = some ⟨1,.map ((putO o O).map Od.e)⟩)
  (hk:∀ x,x ≠ m → x ∉ ordR O o.w → Own a m Q O x → H'[x]? = H[x]?) (hp:ORow H' o.W o.l o.R) (hnew:∀ x ∈ o.R,x ∈ ordR O o.w ∨ ¬ Own a m Q O x):MdAt H' a m n Q (putO o O):=by
 have hq:∀ q ∈ Q,∀ x ∈ q.R,H'[x]? = H[x]?:=fun q hq x hx => hk x (fun e => h.dqa q hq x hx (by simp [e])) (fun hx2 => by
  obtain ⟨r,hr,-,hxr⟩:=ord_own (a:=a) (m:=m) (Q:=Q) o.w x hx2
  exact h.dqo q hq r hr x hx hxr) (.inr (.inr (.inl ⟨q,hq,hx⟩)))
 have ho:∀ r ∈ O,r.w ≠ o.w → ∀ x ∈ r.R,H'[x]? = H[x]?:=fun r hr hw x hx => hk x (fun e => h.doa r hr x hx (by simp [e])) (fun hx2 => ord_only h hr hw x hx2 hx) (.inr (.inr (.inr ⟨r,hr,hx⟩)))
 have djo:∀ r ∈ O,r.w ≠ o.w → Dj o.R r.R:=fun r hr hw x hx hx2 => by
  rcases hnew x hx with h1 | h1
  ·exact ord_only h hr hw x h1 hx2
  ·exact h1 (.inr (.inr (.inr ⟨r,hr,hx2⟩)))
 refine ⟨by rw [ha]; exact h.ob,hm,h.q16,fun q hq' => (h.pg q hq').keep (hq q hq'),fun r hr => ?_,h.dq,fun i j r s hi hj hij => ?_,fun q hq' r hr x hx hx2 => ?_,h.dqa,fun r hr x hx hx2 => ?_,h.ne,putO_ks h.ks⟩
 ·rcases putO_mem hr with rfl | ⟨h1,h2⟩
  ·exact hp
  ·exact (h.od r h2).keep (ho r h2 h1)
 ·rcases putO_get hi with ⟨rfl,-⟩ | ⟨h1,h2⟩
  ·rcases putO_get hj with ⟨rfl,-⟩ | ⟨h3,h4⟩
   ·exact absurd (putO_one h.ks hi hj rfl rfl) hij
   ·exact djo s (List.mem_of_getElem? h4) h3
  ·rcases putO_get hj with ⟨rfl,-⟩ | ⟨h3,h4⟩
   ·exact fun x hx hx2 => djo r (List.mem_of_getElem? h2) h1 x hx2 hx
   ·exact h.dd i j r s h2 h4 hij
 ·rcases putO_mem hr with rfl | ⟨h1,h2⟩
  ·rcases hnew x hx2 with h1 | h1
   ·obtain ⟨r',hr',-,hxr⟩:=ord_own (a:=a) (m:=m) (Q:=Q) _ x h1
    exact h.dqo q hq' r' hr' x hx hxr
   ·exact h1 (.inr (.inr (.inl ⟨q,hq',hx⟩)))
  ·exact h.dqo q hq' r h2 x hx hx2
 ·rcases putO_mem hr with rfl | ⟨h1,h2⟩
  ·rcases hnew x hx with h1 | h1
   ·obtain ⟨r',hr',-,hxr⟩:=ord_own (a:=a) (m:=m) (Q:=Q) _ x h1
    exact h.doa r' hr' x hxr hx2
   ·simp only [List.mem_cons,List.not_mem_nil,or_false] at hx2
    rcases hx2 with rfl | rfl
    ·exact h1 (.inl rfl)
    ·exact h1 (.inr (.inl rfl))
  ·exact h.doa r h2 x hx hx2
theorem MdAt.del {H H':Heap} {a m:Nat} {n:Int} {Q:List Pg} {O:List Od} (h:MdAt H a m n Q O) {w:Int × Int} (hm:H'[m]? = some ⟨1,.map ((O.filter (fun x => !(w == x.w))).map Od.e)⟩)
  (hk:∀ x,x ≠ m → Own a m Q O x → H'[x]? = H[x]?):MdAt H' a m n Q (O.filter (fun x => !(w == x.w))):=by
 have hne:=h.ne
 have mem:∀ r ∈ O.filter (fun x => !(w == x.w)),r ∈ O:=fun r hr => (List.mem_filter.1 hr).1
 refine ⟨by rw [hk a hne (.inl rfl)]; exact h.ob,hm,h.q16,fun q hq => (h.pg q hq).keep fun x hx => hk x (fun e => h.dqa q hq x hx (by simp [e])) (.inr (.inr (.inl ⟨q,hq,hx⟩))),
  fun r hr => (h.od r (mem r hr)).keep fun x hx => hk x (fun e => h.doa r (mem r hr) x hx (by simp [e])) (.inr (.inr (.inr ⟨r,mem r hr,hx⟩))),h.dq,fun i j r s hi hj hij => ?_,fun q hq r hr => h.dqo q hq r (mem r hr),h.dqa,fun r hr => h.doa r (mem r hr),h.ne,?_⟩
 ·have hr:=List.mem_of_getElem? hi
  have hs:=List.mem_of_getElem? hj
  obtain ⟨i',hi'⟩:=List.getElem?_of_mem (mem r hr)
  obtain ⟨j',hj'⟩:=List.getElem?_of_mem (mem s hs)
  refine h.dd i' j' r s hi' hj' fun e => ?_
  subst e
  rw [hi'] at hj'
  cases hj'
  have hn:((O.filter (fun x => !(w == x.w))).map Od.w).Nodup:=(List.Sublist.map _ List.filter_sublist).nodup h.ks
  exact hij (same_od hn hi hj rfl)
 ·exact (List.Sublist.map _ List.filter_sublist).nodup h.ks
end Go.Am.T


set_option linter.unusedVariables false
set_option linter.unusedSimpArgs false
set_option linter.unusedSectionVars false
set_option maxRecDepth 10000
namespace Go.Am.T
attribute [local congr] selV_congr impB_congr
structure Bey (H H':Heap) (a m:Nat) (Q Q':List Pg) (O O':List Od):Prop where
 len:H.length ≤ H'.length
 oth:∀ x,x < H.length → ¬ Own a m Q O x → H'[x]? = H[x]?
 new:∀ x,Own a m Q' O' x → Own a m Q O x ∨ H.length ≤ x
theorem Bey.app {H:Heap} {a m:Nat} {Q:List Pg} {O:List Od} (l:Heap):Bey H (H ++ l) a m Q Q O O :=
 ⟨by simp,fun x hx _ => List.getElem?_append_left hx,fun x hx => .inl hx⟩
theorem am11_wp {N n:Nat} {args:List V} {h:Heap} {C:V → Heap → Prop} (ha:args.length = 4) (H:sx ⟨pureOf am,callA am N n,N,h.length⟩ am11.body (fr am11.nt (argsF 0 args)) (h ++ deads am11.sites) (retQ am11.res C)):∃ v h',callA am N (n + 1) 11 args h = some (v,h') ∧ C v h' :=
 call_keep at11 rfl ha (by decide) (sx_wp H)
theorem am11_eq {N n:Nat} {args:List V} {h h':Heap} {v:V} (ha:args.length = 4) (H:sx ⟨pureOf am,callA am N n,N,h.length⟩ am11.body (fr am11.nt (argsF 0 args)) (h ++ deads am11.sites) (retQ am11.res fun x k => x = v ∧ k = h')):callA am N (n + 1) 11 args h = some (v,h') :=
 call_keep_eq at11 rfl ha (by decide) (sx_wp H)
theorem write_bad {N n:Nat} (hn:6 ≤ n) {H:Heap} {a m:Nat} {nn:Int} {Q:List Pg} {O:List Od} (h:MdAt H a m nn Q O) (hp1:1 ≤ nn) (w:Int × Int) (p:Int) (hb:badA nn w p 0 = true) (B:List V) :
  ∃ v' H',callA am N n 11 [.ptr a 1 0,.agg (pcs w),.int .i64 p,.agg B] H = some (v',H') ∧ v' = .tup [.int .i64 0,.int .i64 2] ∧ ∃ tl,H' = H ++ tl:=by
 obtain ⟨n,rfl⟩:∃ m,n = m + 1:=⟨n - 1,by omega⟩
 have hm:=h.app [(⟨1,.var (pcs w)⟩:Ob),⟨1,.var B⟩,⟨0,.dead⟩,⟨0,.dead⟩,⟨0,.dead⟩]
 have c29:=@ask_spec N n (by omega) _ a m nn Q h.q16 hp1 hm.ob' w p 0
 have eA:askE nn w p 0 = 2:=by unfold askE; rw [hb]; rfl
 rw [eA] at c29
 unfold pcs at c29 ⊢
 refine am11_wp rfl ?_
 simp +contextual -implicitDefEqProofs (maxSteps:=10000000) only [sxb,↓sxd,plainD,stays,↓prim_pick,doOp,get,ins,del,dels,Nat.reduceLT,Nat.reduceEqDiff,↓reduceIte,reduceCtorEq,ne_eq,implies_true,prim,YLD,mkA,V.cells,Nat.reduceAdd,Nat.reduceSub,Nat.reduceMul,Nat.reduceLeDiff,loadA,cellsAt,nAg,packA,List.drop,List.take,List.head?,binA,unA,eqCells,eqCell,negB,fillA,storeA,Ob.with,indexedI,V.oneCell,intOf?,resA,resA1,packR,sealDepth,Int.reduceLT,Int.reduceLE,Int.reduceToNat,Int.reduceNeg,Int.reduceAdd,Int.reduceSub,Int.reduceMul,cond_true,cond_false,Int.reduceBNe,Int.reduceBEq,eq_self,deads,List.replicate,argsF,am11,app_get0,app_get,app_set0,app_set,c29,List.append_assoc]
 exact ⟨_,rfl⟩
theorem badA_page {nn:Int} {w:Int × Int} {p k:Int} (h:badA nn w p k = false):0 ≤ p ∧ p < nn ∧ badA nn (0,1) p 0 = false:=by
 unfold badA at h ⊢
 simp only [Bool.or_eq_false_iff,decide_eq_false_iff_not] at h ⊢
 obtain ⟨h1,h2,h3,h4,h5,h6,h7⟩:=h
 refine ⟨by omega,by omega,by omega,by omega,by omega,by omega,by omega,by omega,by omega⟩
set_option maxHeartbeats 2000000 in
theorem write_spec {N n : Nat} (hN : 5000 ≤ N) (hn : 8 ≤ n) {H : Heap} {a m : Nat} {nn : Int} {Q : List Pg} {O : List Od} (h : MdAt H a m nn Q O) (hp1 : 1 ≤ nn) {w : Int × Int} {p : Nat} (hb : badA nn w p 0 = false) {q : Pg} (hq : Q[p]? = some q) (hl : q.l.length ≤ 4096) {B : List Int} (hB : B.length = 96)
    (hO : (ordOf O w).length ≤ 100000) :
    ∃ v' H', callA am N n 11 [.ptr a 1 0, .agg (pcs w), .int .i64 p, .agg (B.map (V.int .u8))] H = some (v', H') ∧
      (((whoseW q.l).2 = true ∧ (whoseW q.l).1 ≠ w ∧ v' = .tup [.int .i64 0, .int .i64 11] ∧ MdAt H' a m nn Q O ∧ Bey H H' a m Q Q O O) ∨
       (¬ ((whoseW q.l).2 = true ∧ (whoseW q.l).1 ≠ w) ∧ q.l.length = 4096 ∧ v' = .tup [.int .i64 0, .int .i64 5] ∧ MdAt H' a m nn Q O ∧ Bey H H' a m Q Q O O) ∨
       (¬ ((whoseW q.l).2 = true ∧ (whoseW q.l).1 ≠ w) ∧ q.l.length < 4096 ∧ v' = .tup [.int .i64 (q.l.length + 1 : Nat), .int .i64 0] ∧ ∃ W' R' W2 R2, MdAt H' a m nn (Q.set p ⟨q.l ++ [⟨w.1, w.2, p, (q.l.length + 1 : Nat), B, false⟩], W', R'⟩) (putO ⟨w, ordOf O w ++ [((p : Int), (q.l.length : Int))], W2, R2⟩ O) ∧
         Bey H H' a m Q (Q.set p ⟨q.l ++ [⟨w.1, w.2, p, (q.l.length + 1 : Nat), B, false⟩], W', R'⟩) O (putO ⟨w, ordOf O w ++ [((p : Int), (q.l.length : Int))], W2, R2⟩ O))) := by
  obtain ⟨n, rfl⟩ : ∃ m, n = m + 1 := ⟨n - 1, by omega⟩
  obtain ⟨hp0, hpn, hb1⟩ := badA_page hb
  obtain ⟨hs, ehs⟩ : ∃ hs, hs = H ++ [(⟨1, .var (pcs w)⟩ : Ob), ⟨1, .var (B.map (V.int .u8))⟩, ⟨0, .dead⟩, ⟨0, .dead⟩, ⟨0, .dead⟩] := ⟨_, rfl⟩
  have hm := h.app [(⟨1, .var (pcs w)⟩ : Ob), ⟨1, .var (B.map (V.int .u8))⟩, ⟨0, .dead⟩, ⟨0, .dead⟩, ⟨0, .dead⟩]
  rw [← ehs] at hm
  have c29 := @ask_spec N n (by omega) _ a m nn Q h.q16 hp1 hm.ob' w p 0
  have eA : askE nn w p 0 = 0 := by unfold askE; rw [hb]; rfl
  rw [eA] at c29
  have hm2 := hm.app [(⟨1, .var (pcs w)⟩ : Ob)]
  obtain ⟨vw, h3, c24, rfl, tl, e3⟩ := @whose_spec N n hN (by omega) _ a m nn Q O hm2 hp1 p hb1 q hq hl
  have hm3 := hm2.app tl
  rw [← e3] at hm3
  have e3' : h3 = H ++ ([(⟨1, .var (pcs w)⟩ : Ob), ⟨1, .var (B.map (V.int .u8))⟩, ⟨0, .dead⟩, ⟨0, .dead⟩, ⟨0, .dead⟩] ++ ([(⟨1, .var (pcs w)⟩ : Ob)] ++ tl)) := by rw [e3, ehs]; simp only [List.append_assoc]
  have hl3 : H.length + 5 ≤ h3.length := by rw [e3']; simp
  have g0 : h3[H.length]? = some ⟨1, .var (pcs w)⟩ := by rw [e3', List.cons_append, app_get0]; rfl
  have g1 : h3[H.length + 1]? = some ⟨1, .var (B.map (V.int .u8))⟩ := by rw [e3', app_get]; rfl
  have g2 : h3[H.length + 2]? = some ⟨0, .dead⟩ := by rw [e3', app_get]; rfl
  have g3 : h3[H.length + 3]? = some ⟨0, .dead⟩ := by rw [e3', app_get]; rfl
  have g4 : h3[H.length + 4]? = some ⟨0, .dead⟩ := by rw [e3', app_get]; rfl
  have gl : ∀ x, x < H.length → h3[x]? = H[x]? := fun x hx => by rw [e3', List.getElem?_append_left hx]
  generalize hwh : whoseW q.l = wh at *
  obtain ⟨⟨t1, t2⟩, tb⟩ := wh
  obtain ⟨h2, e2⟩ : ∃ h2, h2 = hs ++ [(⟨1, .var (pcs w)⟩ : Ob)] := ⟨_, rfl⟩
  rw [← e2] at c29 c24
  have own : ∀ k, ¬ Own a m Q O (H.length + k) := fun k hk => by have := h.lt _ hk; omega
  have hm4 := hm3.set ⟨1, .var (pcs (t1, t2))⟩ (own 2)
  obtain ⟨h4, e4⟩ : ∃ h4, h4 = h3.set (H.length + 2) ⟨1, .var (pcs (t1, t2))⟩ := ⟨_, rfl⟩
  rw [← e4] at hm4
  have al := h.lta
  have l4 : h4.length = h3.length := by rw [e4]; simp
  have al3 : a < h3.length := by omega
  have k0 : h4[H.length]? = some ⟨1, .var (pcs w)⟩ := by rw [e4, List.getElem?_set_ne (by omega)]; exact g0
  have k1 : h4[H.length + 1]? = some ⟨1, .var (B.map (V.int .u8))⟩ := by rw [e4, List.getElem?_set_ne (by omega)]; exact g1
  have k2 : h4[H.length + 2]? = some ⟨1, .var (pcs (t1, t2))⟩ := by rw [e4, List.getElem?_set_self (by omega)]
  have k3 : h4[H.length + 3]? = some ⟨0, .dead⟩ := by rw [e4, List.getElem?_set_ne (by omega)]; exact g3
  have k4 : h4[H.length + 4]? = some ⟨0, .dead⟩ := by rw [e4, List.getElem?_set_ne (by omega)]; exact g4
  have kl : ∀ x, x < H.length → h4[x]? = H[x]? := fun x hx => by rw [e4, List.getElem?_set_ne (by omega)]; exact gl x hx
  have B4 : Bey H h4 a m Q Q O O := ⟨by omega, fun x hx _ => kl x hx, fun x hx => .inl hx⟩
  have e4' := e4.symm
  have oa := hm4.ob'
  have hrow := hm4.pg q (List.mem_of_getElem? hq)
  have hlen := hrow.len
  obtain ⟨w1, w2, w3, w4, w5, w6⟩ := hrow.shape
  have hp16 : p < 16 := by rw [← h.q16]; exact (List.getElem?_eq_some_iff.1 hq).1
  have hp16' : ((p : Int) < 16) := by omega
  have hpl : p + 1 ≤ 18 := by omega
  have qp := @mcs_p Q nn m p q hq
  have ql := @mcs_len Q nn m h.q16
  have l2 : H.length + 2 < h3.length := by omega
  obtain ⟨nd, ep⟩ := w
  unfold pcs at *
  simp only at *
  have bl : (B.map (V.int .u8)).length = 96 := by simp [hB]
  subst ehs
  clear e3 e3' e2
  by_cases hA : tb = true ∧ (t1, t2) ≠ (nd, ep)
  · obtain ⟨rfl, hne⟩ := hA
    have hq1 : ((t1 == nd) && (t2 == ep)) = false := by
      rw [Bool.and_eq_false_iff, beq_eq_false_iff_ne, beq_eq_false_iff_ne]
      by_cases e : t1 = nd
      · refine .inr fun e2 => hne (by rw [e, e2])
      · exact .inl e
    have call : callA am N (n + 1) 11 [.ptr a 1 0, .agg [.int .i64 nd, .int .i64 ep], .int .i64 p, .agg (B.map (V.int .u8))] H = some (.tup [.int .i64 0, .int .i64 11], h4) := by
      refine am11_eq rfl ?_
      generalize B.map (V.int .u8) = BV at *
      generalize mcs Q nn m = cs at *
      simp +contextual -implicitDefEqProofs (maxSteps := 10000000) only [sxb, ↓sxd, plainD, stays, ↓prim_pick, doOp, get, ins, del, dels, Nat.reduceLT, Nat.reduceEqDiff, ↓reduceIte, reduceCtorEq, ne_eq, implies_true, prim, YLD, mkA, V.cells, Nat.reduceAdd, Nat.reduceSub, Nat.reduceMul, Nat.reduceLeDiff, loadA, cellsAt, nAg, packA, List.drop, List.take, List.head?, binA, unA, eqCells, eqCell, negB, fillA, storeA, Ob.with, indexedI, V.oneCell, intOf?, resA, resA1, packR, sealDepth, Int.reduceLT, Int.reduceLE, Int.reduceToNat, Int.reduceNeg, Int.reduceAdd, Int.reduceSub, Int.reduceMul, cond_true, cond_false, Int.reduceBNe, Int.reduceBEq, eq_self, deads, List.replicate, argsF, am11, app_get0, app_get, app_set0, app_set, c29, c24, g2, l2, e4', List.getElem?_set_self, List.length_set, List.set_set, k0, k2, hq1]
    exact ⟨_, _, call, .inl ⟨rfl, hne, rfl, hm4, B4⟩⟩
  · have hgo : (tb && !((t1 == nd) && (t2 == ep))) = false := by
      cases tb with
      | false => rfl
      | true =>
        have : (t1, t2) = (nd, ep) := Classical.byContradiction fun e => hA ⟨rfl, e⟩
        cases this
        simp
    by_cases hfull : q.l.length = 4096
    · have g5 : decide ((q.l.length : Int) ≥ 4096) = true := decide_eq_true (by omega)
      have call : callA am N (n + 1) 11 [.ptr a 1 0, .agg [.int .i64 nd, .int .i64 ep], .int .i64 p, .agg (B.map (V.int .u8))] H = some (.tup [.int .i64 0, .int .i64 5], h4) := by
        refine am11_eq rfl ?_
        generalize B.map (V.int .u8) = BV at *
        generalize mcs Q nn m = cs at *
        simp +contextual -implicitDefEqProofs (maxSteps := 10000000) only [sxb, ↓sxd, plainD, stays, ↓prim_pick, doOp, get, ins, del, dels, Nat.reduceLT, Nat.reduceEqDiff, ↓reduceIte, reduceCtorEq, ne_eq, implies_true, prim, YLD, mkA, V.cells, Nat.reduceAdd, Nat.reduceSub, Nat.reduceMul, Nat.reduceLeDiff, loadA, cellsAt, nAg, packA, List.drop, List.take, List.head?, binA, unA, eqCells, eqCell, negB, fillA, storeA, Ob.with, indexedI, V.oneCell, intOf?, resA, resA1, packR, sealDepth, Int.reduceLT, Int.reduceLE, Int.reduceToNat, Int.reduceNeg, Int.reduceAdd, Int.reduceSub, Int.reduceMul, cond_true, cond_false, Int.reduceBNe, Int.reduceBEq, eq_self, deads, List.replicate, argsF, am11, app_get0, app_get, app_set0, app_set, c29, c24, g2, l2, e4', List.getElem?_set_self, List.length_set, List.set_set, k0, k2, hgo, oa, ql, qp, hpl, hp16', hlen, w1, g5]
      exact ⟨_, _, call, .inr (.inl ⟨hA, hfull, rfl, hm4, B4⟩)⟩
    · have hl' : q.l.length < 4096 := by omega
      have g5 : decide ((q.l.length : Int) ≥ 4096) = false := decide_eq_false (by omega)
      have hw : IntKind.i64.wrap ((q.l.length : Int) + 1) = ((q.l.length + 1 : Nat) : Int) := (wrap64 (by omega) (by omega)).trans (by omega)
      have xok : (⟨nd, ep, p, (q.l.length + 1 : Nat), B, false⟩ : Wr).Ok := hB
      obtain ⟨o1, y1, W', hA1, hrow1, ho1, hol1⟩ := hrow.append xok k3 (by omega)
      have ow1 : o1 = H.length + 3 ∨ o1 ∈ q.R := ho1
      have hqm : q ∈ Q := List.mem_of_getElem? hq
      have mlt := h.ltm
      have noa : o1 ≠ a := by
        rcases ow1 with e | e
        · omega
        · exact fun e' => h.dqa q hqm o1 e (by simp [e'])
      have nom : o1 ≠ m := by
        rcases ow1 with e | e
        · omega
        · exact fun e' => h.dqa q hqm o1 e (by simp [e'])
      have nam := h.ne
      have o1l : ∀ k, k ≠ 3 → H.length + k ≠ o1 := fun k hk => by
        rcases ow1 with e | e
        · omega
        · intro e'; exact own k (by rw [e']; exact .inr (.inr (.inl ⟨q, hqm, e⟩)))
      obtain ⟨q', eq'⟩ : ∃ q' : Pg, q' = ⟨q.l ++ [⟨nd, ep, p, (q.l.length + 1 : Nat), B, false⟩], W', [o1]⟩ := ⟨_, rfl⟩
      have a5 : a < (h4.set o1 y1).length := by simp; omega
      have oa5 : (h4.set o1 y1)[a]? = some ⟨1, .var (mcs Q nn m)⟩ := by rw [List.getElem?_set_ne noa]; exact oa
      obtain ⟨h6, e6⟩ : ∃ h6, h6 = (h4.set o1 y1).set a ⟨1, .var (mcs (Q.set p q') nn m)⟩ := ⟨_, rfl⟩
      have k6 : ∀ x, x ≠ a → x ≠ o1 → h6[x]? = h4[x]? := fun x h1 h2 => by rw [e6, List.getElem?_set_ne (Ne.symm h1), List.getElem?_set_ne (Ne.symm h2)]
      have ga6 : h6[a]? = some ⟨1, .var (mcs (Q.set p q') nn m)⟩ := by rw [e6, List.getElem?_set_self a5]
      have l6 : h6.length = h3.length := by rw [e6]; simp [l4]
      have M6 : MdAt h6 a m nn (Q.set p q') O := by
        refine hm4.page hq ga6 (k6 m (Ne.symm nam) (Ne.symm nom)) (fun i r hi hr o ho => k6 o (fun e => h.dqa r (List.mem_of_getElem? hr) o ho (by simp [e])) (fun e => ?_)) (fun r hr o ho => k6 o (fun e => h.doa r hr o ho (by simp [e])) (fun e => ?_)) ?_ (fun o ho => ?_)
        · subst e
          rcases ow1 with e | e
          · exact own 3 (by rw [← e]; exact .inr (.inr (.inl ⟨r, List.mem_of_getElem? hr, ho⟩)))
          · exact h.dq i p r q hr hq hi o ho e
        · subst e
          rcases ow1 with e | e
          · exact own 3 (by rw [← e]; exact .inr (.inr (.inr ⟨r, hr, ho⟩)))
          · exact h.dqo q hqm r hr o e ho
        · rw [eq']
          refine hrow1.keep fun o ho => ?_
          obtain rfl : o = o1 := by simpa using ho
          rw [e6, List.getElem?_set_ne (Ne.symm noa)]
        · rw [eq'] at ho
          obtain rfl : o = o1 := by simpa using ho
          rcases ow1 with e | e
          · exact .inr (by rw [e]; exact own 3)
          · exact .inl e
      have hro := ord_row M6 (nd, ep)
      have g64 : h6[H.length + 4]? = some ⟨0, .dead⟩ := by rw [k6 _ (by omega) (o1l 4 (by omega))]; exact k4
      have g60 : h6[H.length]? = some ⟨1, .var [.int .i64 nd, .int .i64 ep]⟩ := by rw [k6 _ (by omega) (by have := o1l 0 (by omega); omega)]; exact k0
      obtain ⟨o2, y2, W2, hA2, hrow2, ho2, hol2⟩ := hro.append (p := ((p : Int), (q.l.length : Int))) g64 hO
      have no2a : o2 ≠ a := by
        rcases ho2 with e | e
        · omega
        · obtain ⟨r, hr, -, hxr⟩ := ord_own (a := a) (m := m) (Q := Q) (nd, ep) o2 e
          exact fun e' => h.doa r hr o2 hxr (by simp [e'])
      have no2m : o2 ≠ m := by
        rcases ho2 with e | e
        · omega
        · obtain ⟨r, hr, -, hxr⟩ := ord_own (a := a) (m := m) (Q := Q) (nd, ep) o2 e
          exact fun e' => h.doa r hr o2 hxr (by simp [e'])
      obtain ⟨od, eod⟩ : ∃ od : Od, od = ⟨(nd, ep), ordOf O (nd, ep) ++ [((p : Int), (q.l.length : Int))], W2, [o2]⟩ := ⟨_, rfl⟩
      have m7 : (h6.set o2 y2)[m]? = some ⟨1, .map (O.map Od.e)⟩ := by rw [List.getElem?_set_ne no2m]; exact M6.mp
      have mp7 := mput_w (get := fun o => (h6.set o2 y2)[o]?) m7 od
      have mg6 := mget_w (get := fun o => h6[o]?) M6.mp (nd, ep)
      obtain ⟨h8, e8⟩ : ∃ h8, h8 = (h6.set o2 y2).set m ⟨1, .map ((putO od O).map Od.e)⟩ := ⟨_, rfl⟩
      have l8 : h8.length = h3.length := by rw [e8]; simp [l6]
      have M8 : MdAt h8 a m nn (Q.set p q') (putO od O) := by
        refine M6.ord (by rw [e8, List.getElem?_set_ne (Ne.symm nam), List.getElem?_set_ne no2a]) (by rw [e8, List.getElem?_set_self (by simp; omega)]) (fun x h1 h2 h3 => ?_) ?_ (fun x hx => ?_)
        · rw [e8, List.getElem?_set_ne (Ne.symm h1), List.getElem?_set_ne]
          rintro rfl
          rw [eod] at h2
          rcases ho2 with e | e
          · have := M6.lt o2 h3
            have hnot : ¬ Own a m (Q.set p q') O (H.length + 4) := by
              rintro (h1 | h1 | ⟨r, hr, hx⟩ | ⟨r, hr, hx⟩)
              · omega
              · omega
              · rcases List.mem_or_eq_of_mem_set hr with hr | rfl
                · exact own 4 (.inr (.inr (.inl ⟨r, hr, hx⟩)))
                · rw [eq'] at hx
                  simp at hx
                  exact o1l 4 (by omega) hx
              · exact own 4 (.inr (.inr (.inr ⟨r, hr, hx⟩)))
            exact hnot (by rw [← e]; exact h3)
          · exact h2 e
        · rw [eod]
          refine hrow2.keep fun o ho => ?_
          obtain rfl : o = o2 := by simpa using ho
          rw [e8, List.getElem?_set_ne (Ne.symm no2m)]
        · rw [eod] at hx ⊢
          obtain rfl : x = o2 := by simpa using hx
          rcases ho2 with e | e
          · refine .inr ?_
            rw [e]
            rintro (h1 | h1 | ⟨r, hr, hx⟩ | ⟨r, hr, hx⟩)
            · omega
            · omega
            · rcases List.mem_or_eq_of_mem_set hr with hr | rfl
              · exact own 4 (.inr (.inr (.inl ⟨r, hr, hx⟩)))
              · rw [eq'] at hx
                simp at hx
                exact o1l 4 (by omega) hx
            · exact own 4 (.inr (.inr (.inr ⟨r, hr, hx⟩)))
          · exact .inl e
      have B8 : Bey H h8 a m Q (Q.set p q') O (putO od O) := by
        refine ⟨by omega, fun x hx hn => ?_, fun x hx => ?_⟩
        · have x1 : x ≠ a := fun e => hn (.inl e)
          have x2 : x ≠ m := fun e => hn (.inr (.inl e))
          have x3 : x ≠ o1 := fun e => by
            rcases ow1 with e' | e'
            · omega
            · exact hn (.inr (.inr (.inl ⟨q, hqm, by rw [e]; exact e'⟩)))
          have x4 : x ≠ o2 := fun e => by
            rcases ho2 with e' | e'
            · omega
            · obtain ⟨r, hr, -, hxr⟩ := ord_own (a := a) (m := m) (Q := Q) (nd, ep) o2 e'
              exact hn (.inr (.inr (.inr ⟨r, hr, by rw [e]; exact hxr⟩)))
          rw [e8, List.getElem?_set_ne (Ne.symm x2), List.getElem?_set_ne (Ne.symm x4), k6 x x1 x3]
          exact kl x hx
        · rcases hx with h1 | h1 | ⟨r, hr, hx⟩ | ⟨r, hr, hx⟩
          · exact .inl (.inl h1)
          · exact .inl (.inr (.inl h1))
          · rcases List.mem_or_eq_of_mem_set hr with hr | rfl
            · exact .inl (.inr (.inr (.inl ⟨r, hr, hx⟩)))
            · rw [eq'] at hx
              obtain rfl : x = o1 := by simpa using hx
              rcases ow1 with e | e
              · exact .inr (by omega)
              · exact .inl (.inr (.inr (.inl ⟨q, hqm, e⟩)))
          · rcases putO_mem hr with rfl | ⟨-, hr⟩
            · rw [eod] at hx
              obtain rfl : x = o2 := by simpa using hx
              rcases ho2 with e | e
              · exact .inr (by omega)
              · obtain ⟨r, hr, -, hxr⟩ := ord_own (a := a) (m := m) (Q := Q) (nd, ep) x e
                exact .inl (.inr (.inr (.inr ⟨r, hr, hxr⟩)))
            · exact .inl (.inr (.inr (.inr ⟨r, hr, hx⟩)))
      have call : callA am N (n + 1) 11 [.ptr a 1 0, .agg [.int .i64 nd, .int .i64 ep], .int .i64 p, .agg (B.map (V.int .u8))] H = some (.tup [.int .i64 (q.l.length + 1 : Nat), .int .i64 0], h8) := by
        have qs : setRange (mcs Q nn m) p [W'] = mcs (Q.set p q') nn m := by
          have := @mcs_set Q nn m p q q' hq
          rwa [eq'] at this ⊢
        have qm := @mcs_m (Q.set p q') nn m (by simp [h.q16])
        have ql' := @mcs_len (Q.set p q') nn m (by simp [h.q16])
        have hxc : (⟨nd, ep, p, (q.l.length + 1 : Nat), B, false⟩ : Wr).cs = .int .i64 nd :: .int .i64 ep :: .int .i64 p :: .int .i64 (q.l.length + 1 : Nat) :: (B.map (V.int .u8) ++ [.bool false]) := rfl
        rw [hxc] at hA1
        have eodw : od.w = (nd, ep) := by rw [eod]
        have eodW : od.W = W2 := by rw [eod]
        rw [eodw, eodW] at mp7
        obtain ⟨v1, v2, v3, v4, v5, v6⟩ := hrow1.shape
        obtain ⟨z1, z2, z3, z4, z5, z6⟩ := hro.shape
        have e6' := e6.symm
        have e8' := e8.symm
        have bone : (B.map (V.int .u8)).all V.oneCell = true := allOne_ints _ _
        have hsr : setRange (List.replicate 96 (V.int .u8 0) ++ [.bool false]) 0 (B.map (V.int .u8)) = B.map (V.int .u8) ++ [.bool false] := by
          unfold setRange
          rw [bl]
          rfl
        simp only [List.replicate, List.cons_append, List.nil_append] at hsr
        have r1 : List.range 1 = [0] := rfl
        have b97 : (B.map (V.int .u8) ++ [V.bool false]).length = 97 := by simp [hB]
        have wr2 : ∀ (a b : V) (l : List V), wrapV (a :: b :: l) = .agg (a :: b :: l) := fun _ _ _ => rfl
        have tk2 : ∀ a b : V, List.take 2 [a, b] = [a, b] := fun _ _ => rfl
        have t101 : List.take 101 (.int .i64 nd :: .int .i64 ep :: .int .i64 p :: .int .i64 (q.l.length + 1 : Nat) :: (B.map (V.int .u8) ++ [.bool false])) = .int .i64 nd :: .int .i64 ep :: .int .i64 p :: .int .i64 (q.l.length + 1 : Nat) :: (B.map (V.int .u8) ++ [.bool false]) :=
          List.take_of_length_le (by simp [hB])
        have btk : List.take 96 (B.map (V.int .u8)) = B.map (V.int .u8) := List.take_of_length_le (by omega)
        unfold pcs at mp7 mg6 hA2
        simp only at mp7 mg6 hA2
        refine am11_eq rfl ?_
        generalize B.map (V.int .u8) = BV at *
        generalize hcs' : mcs (Q.set p q') nn m = cs' at *
        generalize mcs Q nn m = cs at *
        generalize (putO od O).map Od.e = es8 at *
        simp +contextual -implicitDefEqProofs (maxSteps := 10000000) only [sxb, ↓sxd, plainD, stays, ↓prim_pick, doOp, get, ins, del, dels, Nat.reduceLT, Nat.reduceEqDiff, ↓reduceIte, reduceCtorEq, ne_eq, implies_true, prim, YLD, mkA, V.cells, Nat.reduceAdd, Nat.reduceSub, Nat.reduceMul, Nat.reduceLeDiff, loadA, cellsAt, nAg, packA, List.drop, List.take, List.head?, binA, unA, eqCells, eqCell, negB, fillA, storeA, Ob.with, indexedI, V.oneCell, intOf?, resA, resA1, packR, sealDepth, Int.reduceLT, Int.reduceLE, Int.reduceToNat, Int.reduceNeg, Int.reduceAdd, Int.reduceSub, Int.reduceMul, cond_true, cond_false, Int.reduceBNe, Int.reduceBEq, eq_self, deads, List.replicate, argsF, am11, app_get0, app_get, app_set0, app_set, c29, c24, g2, l2, e4', List.getElem?_set_self, List.length_set, List.set_set, k0, k1, k2, hgo, oa, ql, qp, hpl, hp16', hlen, w1, g5, hw, bl, btk, hA1, oa5, a5, qs, e6', ga6, ql', qm, g60, mg6, hA2, mp7, e8', v1, v2, z1, bone, hsr, r1, wr2, List.drop_zero, t101, tk2, b97, List.all_append, -List.drop, -List.take]
      rw [eq'] at M8 B8
      rw [eod] at M8 B8
      exact ⟨_, _, call, .inr (.inr ⟨hA, hl', rfl, W', [o1], W2, [o2], M8, B8⟩)⟩
end Go.Am.T


set_option linter.unusedVariables false
set_option linter.unusedSimpArgs false
set_option linter.unusedSectionVars false
set_option maxRecDepth 10000
namespace Go.Am.T
attribute [local congr] selV_congr impB_congr
def Wr.mark (x:Wr):Wr:={ x with du:=true }
def markL (l:List Wr) (i:Nat):List Wr:=match l[i]? with | some x => l.set i x.mark | none => l
def markQ (Q:List Pg) (p i:Nat):List Pg:=match Q[p]? with | some q => Q.set p { q with l:=markL q.l i } | none => Q
def marks (Q:List Pg) (l:List (Int × Int)):List Pg:=l.foldl (fun Q p => markQ Q p.1.toNat p.2.toNat) Q
theorem Wr.mark_cs {x:Wr} (h:x.Ok):x.mark.cs = setRange x.cs 100 [.bool true]:=by
 unfold Wr.Ok at h
 have hl:(x.hd ++ x.b.map (V.int .u8)).length = 100:=by simp [Wr.hd,h]
 have e:∀ d:Bool,(⟨x.nd,x.ep,x.pg,x.ps,x.b,d⟩:Wr).cs = (x.hd ++ x.b.map (V.int .u8)) ++ [.bool d]:=fun d => by simp [Wr.cs,Wr.hd]
 have e1:=e true
 have e2:=e x.du
 have e1:x.mark.cs = _:=e1
 have e2:x.cs = _:=e2
 rw [e1,e2]
 unfold setRange
 rw [List.take_append,hl,List.take_of_length_le (by omega),Nat.sub_self,List.take_zero,List.append_nil,List.drop_of_length_le (by rw [List.length_append,hl]; simp),List.append_nil]
theorem markL_len (l:List Wr) (i:Nat):(markL l i).length = l.length:=by
 unfold markL
 cases l[i]? <;> simp
theorem mark_ok {x:Wr} (h:x.Ok):x.mark.Ok:=h
theorem markL_ok {l:List Wr} (h:∀ x ∈ l,x.Ok) (i:Nat):∀ x ∈ markL l i,x.Ok:=by
 unfold markL
 cases hi:l[i]? with
 | none => exact h
 | some y =>
  intro x hx
  rcases List.mem_or_eq_of_mem_set hx with hx | rfl
  ·exact h x hx
  ·exact mark_ok (h y (List.mem_of_getElem? hi))
theorem PRow.mark {H:Heap} {W:V} {l:List Wr} {R:List Nat} (h:PRow H W l R) {i:Nat} (hi:i < l.length) :
  ∃ o ver cap A,R = [o] ∧ W = .view o ver 0 l.length 101 cap ∧ H[o]? = some ⟨ver,.arr A⟩ ∧ i * 101 + 101 ≤ A.length ∧ PRow (H.set o ⟨ver,.arr (setRange A (i * 101 + 100) [.bool true])⟩) W (markL l i) R:=by
 obtain ⟨hall,⟨rfl,-⟩ | ⟨o,ver,cap,rest,hrs,rfl,rfl,ho,hc⟩⟩:=h
 ·simp at hi
 ·have hx:l[i]? = some l[i]:=List.getElem?_eq_getElem hi
  generalize l[i] = x at hx
  have hxo:=hall x (List.mem_of_getElem? hx)
  have hfl:=flatW_len hall
  refine ⟨o,ver,cap,flatW l ++ rest,rfl,rfl,ho,by rw [List.length_append,hfl]; omega,markL_ok hall i,.inr ⟨o,ver,cap,rest,hrs,rfl,by rw [markL_len],?_,by rw [markL_len]; exact hc⟩⟩
  rw [List.getElem?_set_self (lt_of_get ho)]
  have:markL l i = l.set i x.mark:=by unfold markL; rw [hx]
  rw [this]
  exact congrArg (fun c => some (⟨ver,.arr c⟩:Ob)) (flat_set Wr.cs 101 (fun y hy => Wr.len (hall y hy)) hx (Wr.mark_cs hxo) (by simp))
theorem markQ_get {Q:List Pg} {p i j:Nat} {q:Pg} (h:(markQ Q p i)[j]? = some q):∃ r,Q[j]? = some r ∧ q.W = r.W ∧ q.R = r.R ∧ q.l = (if j = p then markL r.l i else r.l):=by
 unfold markQ at h
 cases hp:Q[p]? with
 | none =>
  rw [hp] at h
  refine ⟨q,h,rfl,rfl,?_⟩
  by_cases e:j = p
  ·subst e; rw [hp] at h; cases h
  ·rw [if_neg e]
 | some r =>
  rw [hp] at h
  simp only at h
  by_cases e:p = j
  ·subst e
   rw [List.getElem?_set_self (List.getElem?_eq_some_iff.1 hp).1] at h
   cases h
   exact ⟨r,hp,rfl,rfl,by simp⟩
  ·rw [List.getElem?_set_ne e] at h
   exact ⟨q,h,rfl,rfl,by rw [if_neg (Ne.symm e)]⟩
theorem markQ_W (Q:List Pg) (p i:Nat):(markQ Q p i).map Pg.W = Q.map Pg.W:=by
 unfold markQ
 cases hp:Q[p]? with
 | none => rfl
 | some q =>
  simp only
  rw [List.map_set]
  apply List.ext_getElem?
  intro j
  by_cases e:p = j
  ·subst e
   rw [List.getElem?_set_self (by rw [List.length_map]; exact (List.getElem?_eq_some_iff.1 hp).1),List.getElem?_map,hp]
   rfl
  ·rw [List.getElem?_set_ne e]
theorem mcs_mark (Q:List Pg) (p i:Nat) (n:Int) (m:Nat):mcs (markQ Q p i) n m = mcs Q n m:=by
 unfold mcs
 rw [markQ_W]
theorem own_mark {a m:Nat} {Q:List Pg} {O:List Od} {p i:Nat} (x:Nat):Own a m (markQ Q p i) O x ↔ Own a m Q O x:=by
 have key:(∃ q ∈ markQ Q p i,x ∈ q.R) ↔ ∃ q ∈ Q,x ∈ q.R:=by
  constructor
  ·rintro ⟨q,hq,hx⟩
   obtain ⟨j,hj⟩:=List.getElem?_of_mem hq
   obtain ⟨r,hr,-,h2,-⟩:=markQ_get hj
   exact ⟨r,List.mem_of_getElem? hr,h2 ▸ hx⟩
  ·rintro ⟨q,hq,hx⟩
   obtain ⟨j,hj⟩:=List.getElem?_of_mem hq
   unfold markQ
   cases hp:Q[p]? with
   | none => exact ⟨q,hq,hx⟩
   | some r =>
    simp only
    by_cases e:p = j
    ·subst e
     rw [hp] at hj
     cases hj
     exact ⟨_,List.mem_iff_getElem?.2 ⟨p,List.getElem?_set_self (List.getElem?_eq_some_iff.1 hp).1⟩,hx⟩
    ·exact ⟨q,List.mem_iff_getElem?.2 ⟨j,by rw [List.getElem?_set_ne e]; exact hj⟩,hx⟩
 unfold Own
 rw [key]
theorem MdAt.mark {H:Heap} {a m:Nat} {n:Int} {Q:List Pg} {O:List Od} (h:MdAt H a m n Q O) {p i:Nat} {q:Pg} (hq:Q[p]? = some q) (hi:i < q.l.length) :
  ∃ o ver cap A,q.R = [o] ∧ q.W = .view o ver 0 q.l.length 101 cap ∧ H[o]? = some ⟨ver,.arr A⟩ ∧ i * 101 + 101 ≤ A.length ∧ MdAt (H.set o ⟨ver,.arr (setRange A (i * 101 + 100) [.bool true])⟩) a m n (markQ Q p i) O:=by
 have hqm:=List.mem_of_getElem? hq
 obtain ⟨o,ver,cap,A,h1,h2,h3,h4,h5⟩:=(h.pg q hqm).mark hi
 refine ⟨o,ver,cap,A,h1,h2,h3,h4,?_⟩
 have hoq:o ∈ q.R:=by rw [h1]; simp
 have noa:o ≠ a:=fun e => h.dqa q hqm o hoq (by simp [e])
 have nom:o ≠ m:=fun e => h.dqa q hqm o hoq (by simp [e])
 have eq:markQ Q p i = Q.set p { q with l:=markL q.l i }:=by unfold markQ; rw [hq]
 have em:=mcs_mark Q p i n m
 rw [eq] at em ⊢
 refine h.page hq (by rw [em,List.getElem?_set_ne noa]; exact h.ob') (List.getElem?_set_ne nom) (fun j r hj hr x hx => List.getElem?_set_ne fun e:o = x => h.dq p j q r hq hr (Ne.symm hj) o hoq (by rw [e]; exact hx)) (fun r hr x hx => List.getElem?_set_ne fun e:o = x => h.dqo q hqm r hr o hoq (by rw [e]; exact hx)) h5 (fun x hx => .inl hx)
theorem marks_snoc (Q:List Pg) (l:List (Int × Int)) (x:Int × Int):marks Q (l ++ [x]) = markQ (marks Q l) x.1.toNat x.2.toNat:=by simp [marks]
theorem marks_cons (Q:List Pg) (l:List (Int × Int)) (x:Int × Int):marks Q (x :: l) = marks (markQ Q x.1.toNat x.2.toNat) l:=rfl
theorem marks_q16:∀ (l:List (Int × Int)) (Q:List Pg),(marks Q l).length = Q.length ∧ (marks Q l).map Pg.W = Q.map Pg.W ∧ (∀ (j:Nat) (q:Pg),(marks Q l)[j]? = some q → ∃ r:Pg,Q[j]? = some r ∧ q.W = r.W ∧ q.R = r.R ∧ q.l.length = r.l.length)
 | [],Q => ⟨rfl,rfl,fun j q h => ⟨q,h,rfl,rfl,rfl⟩⟩
 | x :: l,Q => by
  obtain ⟨h1,h2,h3⟩:=marks_q16 l (markQ Q x.1.toNat x.2.toNat)
  rw [marks_cons]
  refine ⟨?_,by rw [h2,markQ_W],fun j q hj => ?_⟩
  ·have:=congrArg List.length (markQ_W Q x.1.toNat x.2.toNat)
   simp only [List.length_map] at this
   omega
  ·obtain ⟨s,hs,s1,s2,s3⟩:=h3 j q hj
   obtain ⟨r,hr,r1,r2,r3⟩:=markQ_get hs
   refine ⟨r,hr,s1.trans r1,s2.trans r2,?_⟩
   rw [s3,r3]
   by_cases e:j = x.1.toNat
   ·rw [if_pos e,markL_len]
   ·rw [if_neg e]
theorem own_marks {a m:Nat} {O:List Od} (x:Nat):∀ (l:List (Int × Int)) (Q:List Pg),Own a m (marks Q l) O x ↔ Own a m Q O x
 | [],Q => Iff.rfl
 | y :: l,Q => by rw [marks_cons,own_marks x l,own_mark]
end Go.Am.T


set_option linter.unusedVariables false
set_option linter.unusedSimpArgs false
set_option linter.unusedSectionVars false
set_option maxRecDepth 10000
namespace Go.Am.T
attribute [local congr] selV_congr impB_congr
theorem mm0 (x y:Nat):mmA false (.int .i64 (x:Int)) (.int .i64 (y:Int)) = some (.int .i64 ((min x y:Nat):Int)):=by
 simp only [mmA]
 split <;> congr 2 <;> omega
theorem flatP_at {l:List (Int × Int)} {k:Nat} {x:Int × Int} (hx:l[k]? = some x) (pre:List V):((pre ++ flatP l).drop (pre.length + k * 2)).take 2 = pcs x:=by
 rw [List.drop_append,List.drop_of_length_le (by omega),List.nil_append,Nat.add_sub_cancel_left]
 exact flat_at pcs 2 (fun _ _ => rfl) hx
theorem flatP_split (l:List (Int × Int)) (n:Nat):flatP l = flatP (l.take n) ++ flatP (l.drop n):=by
 unfold flatP
 rw [← List.flatMap_append,List.take_append_drop]
theorem ORow.head {H:Heap} {W:V} {l:List (Int × Int)} {R:List Nat} (h:ORow H W l R) {n:Nat} (hn:n ≤ l.length) :
  ∃ S,sliceA (fun o => H[o]?) 2 W none (some (.int .i64 n)) none = some S ∧ lenA S = some n ∧ (∀ b,S ≠ .str b) ∧
   ∀ H',ORow H' W l R → ∀ k x,k < n → l[k]? = some x → ∃ o ver off c,S = .view o ver off n 2 none ∧ H'[o]? = some ⟨ver,.arr c⟩ ∧ off + k * 2 + 2 ≤ c.length ∧ (c.drop (off + k * 2)).take 2 = pcs x:=by
 rcases h with ⟨rfl,rfl,rfl⟩ | ⟨o,ver,pre,hpre,rfl,rfl,ho⟩
 ·have:n = 0:=by simpa using hn
  subst this
  exact ⟨.nils,rfl,rfl,fun _ => V.noConfusion,fun H' _ k x hk => by omega⟩
 ·have hlen:=flatP_len l
  have hcap:((pre ++ flatP l).length - pre.length) / 2 = l.length:=by rw [List.length_append,hlen]; omega
  refine ⟨.view o ver pre.length n 2 none,?_,rfl,fun _ => V.noConfusion,fun H' h' k x hk hx => ?_⟩
  ·simp only [sliceA,↓reduceIte,cellsAt,ho,hcap]
   simp [boundsA,intOf?,hn]
  ·rcases h' with ⟨-,e,-⟩ | ⟨o',ver',pre',-,-,e,ho'⟩
   ·cases e
   ·simp only [V.view.injEq] at e
    obtain ⟨rfl,rfl,e3,-⟩:=e
    refine ⟨o,ver,pre.length,_,rfl,ho',?_,?_⟩
    ·rw [List.length_append,hlen,e3]; omega
    ·rw [e3]; exact flatP_at hx pre'
theorem ORow.rest {H:Heap} {W:V} {l:List (Int × Int)} {R:List Nat} (h:ORow H W l R) {n:Nat} (hn:n ≤ l.length) :
  ∃ W',sliceA (fun o => H[o]?) 2 W (some (.int .i64 n)) none none = some W' ∧ (n < l.length → ∀ H',(∀ o ∈ R,H'[o]? = H[o]?) → ORow H' W' (l.drop n) R):=by
 rcases h with ⟨rfl,rfl,rfl⟩ | ⟨o,ver,pre,hpre,rfl,rfl,ho⟩
 ·have:n = 0:=by simpa using hn
  subst this
  exact ⟨.nils,rfl,fun h => by simp at h⟩
 ·have hlen:=flatP_len l
  have hcap:((pre ++ flatP l).length - pre.length) / 2 = l.length:=by rw [List.length_append,hlen]; omega
  by_cases h0:n = 0
  ·subst h0
   refine ⟨.view o ver pre.length l.length 2 none,?_,fun _ H' hk => .inr ⟨o,ver,pre,hpre,rfl,rfl,by rw [hk o (by simp)]; exact ho⟩⟩
   simp only [sliceA,↓reduceIte,cellsAt,ho,hcap]
   simp [boundsA,intOf?]
  ·by_cases h1:n < l.length
   ·refine ⟨.view o ver (pre.length + n * 2) (l.length - n) 2 none,?_,fun _ H' hk => .inr ⟨o,ver,pre ++ flatP (l.take n),fun v hv => (by rcases List.mem_append.1 hv with h | h; exact hpre v h; exact flatP_obj _ v h),rfl,?_,?_⟩⟩
    ·simp only [sliceA,↓reduceIte,cellsAt,ho,hcap]
     simp [boundsA,intOf?,hn,h0,h1]
    ·rw [List.length_append,flatP_len,List.length_take,List.length_drop,Nat.min_eq_left hn]
    ·rw [hk o (by simp),ho,List.append_assoc,← flatP_split]
   ·refine ⟨.vend o ver 2,?_,fun h => absurd h h1⟩
    simp only [sliceA,↓reduceIte,cellsAt,ho,hcap]
    simp [boundsA,intOf?,hn,h0,h1]
def Valid (Q:List Pg) (l:List (Int × Int)):Prop:=∀ x ∈ l,0 ≤ x.1 ∧ 0 ≤ x.2 ∧ ∃ q,Q[x.1.toNat]? = some q ∧ x.2.toNat < q.l.length
theorem Valid.marks {Q:List Pg} {l l':List (Int × Int)} (h:Valid Q l):Valid (marks Q l') l:=by
 intro x hx
 obtain ⟨h1,h2,q,hq,hl⟩:=h x hx
 obtain ⟨e1,e2,e3⟩:=marks_q16 l' Q
 have hlt:x.1.toNat < (T.marks Q l').length:=by rw [e1]; exact (List.getElem?_eq_some_iff.1 hq).1
 have hg:=List.getElem?_eq_getElem hlt
 obtain ⟨r,hr,-,-,r3⟩:=e3 _ _ hg
 rw [hq] at hr
 cases hr
 exact ⟨h1,h2,_,hg,by rw [r3]; exact hl⟩
theorem mcs_marks (Q:List Pg) (l:List (Int × Int)) (n:Int) (m:Nat):mcs (T.marks Q l) n m = mcs Q n m:=by
 unfold mcs
 rw [(marks_q16 l Q).2.1]
theorem am12_wp {N n:Nat} {args:List V} {h:Heap} {C:V → Heap → Prop} (ha:args.length = 3) (H:sx ⟨pureOf am,callA am N n,N,h.length⟩ am12.body (fr am12.nt (argsF 0 args)) (h ++ deads am12.sites) (retQ am12.res C)):∃ v h',callA am N (n + 1) 12 args h = some (v,h') ∧ C v h' :=
 call_keep at12 rfl ha (by decide) (sx_wp H)
theorem durable_bad {N n:Nat} (hn:6 ≤ n) {H:Heap} {a m:Nat} {nn:Int} {Q:List Pg} {O:List Od} (h:MdAt H a m nn Q O) (hp1:1 ≤ nn) (w:Int × Int) (k:Int) (hb:badA nn w 0 k = true) :
  ∃ v' H',callA am N n 12 [.ptr a 1 0,.agg (pcs w),.int .i64 k] H = some (v',H') ∧ v' = .tup [.int .i64 0,.int .i64 2] ∧ ∃ tl,H' = H ++ tl:=by
 obtain ⟨n,rfl⟩:∃ m,n = m + 1:=⟨n - 1,by omega⟩
 have hm:=h.app [(⟨1,.var (pcs w)⟩:Ob),⟨0,.dead⟩]
 have c29:=@ask_spec N n (by omega) _ a m nn Q h.q16 hp1 hm.ob' w 0 k
 have eA:askE nn w 0 k = 2:=by unfold askE; rw [hb]; rfl
 rw [eA] at c29
 unfold pcs at c29 ⊢
 refine am12_wp rfl ?_
 simp +contextual -implicitDefEqProofs (maxSteps:=10000000) only [sxb,↓sxd,plainD,stays,↓prim_pick,doOp,get,ins,del,dels,Nat.reduceLT,Nat.reduceEqDiff,↓reduceIte,reduceCtorEq,ne_eq,implies_true,prim,YLD,mkA,V.cells,Nat.reduceAdd,Nat.reduceSub,Nat.reduceMul,Nat.reduceLeDiff,loadA,cellsAt,nAg,packA,List.drop,List.take,List.head?,binA,unA,eqCells,eqCell,negB,fillA,storeA,Ob.with,indexedI,V.oneCell,intOf?,resA,resA1,packR,sealDepth,Int.reduceLT,Int.reduceLE,Int.reduceToNat,Int.reduceNeg,Int.reduceAdd,Int.reduceSub,Int.reduceMul,cond_true,cond_false,Int.reduceBNe,Int.reduceBEq,eq_self,deads,List.replicate,argsF,am12,app_get0,app_get,app_set0,app_set,c29,List.append_assoc]
 exact ⟨_,rfl⟩
def restO (O:List Od) (w:Int × Int) (n:Nat) (W':V):List Od :=
 if n = (ordOf O w).length then O.filter (fun x => !(w == x.w)) else putO ⟨w,(ordOf O w).drop n,W',ordR O w⟩ O
theorem filter_putO (o:Od) (O:List Od):(putO o O).filter (fun x => !(o.w == x.w)) = O.filter (fun x => !(o.w == x.w)):=by
 unfold putO
 cases ha:O.any (fun x => o.w == x.w) with
 | true =>
  clear ha
  induction O with
  | nil => rfl
  | cons x O ih =>
   simp only [List.map_cons,List.filter_cons]
   cases e:o.w == x.w with
   | true => simpa using ih
   | false => simp only [e,Bool.not_false,↓reduceIte]; rw [ih]
 | false => simp [List.filter_append]
end Go.Am.T


set_option linter.unusedVariables false
set_option linter.unusedSimpArgs false
set_option linter.unusedSectionVars false
set_option maxRecDepth 10000
namespace Go.Am.T
attribute [local congr] selV_congr impB_congr
structure DurI (H:Heap) (a m:Nat) (nn:Int) (Q:List Pg) (O:List Od) (w:Int × Int) (l:List (Int × Int)) (L:Nat) (h:Heap):Prop where
 md:MdAt h a m nn (marks Q l) O
 len:h.length = L
 who:h[H.length]? = some ⟨1,.var (pcs w)⟩
 site:∃ x,h[H.length + 1]? = some x
 oth:∀ x,x < H.length → ¬ Own a m Q O x → h[x]? = H[x]?
set_option maxHeartbeats 2000000 in
theorem durable_spec {N n:Nat} (hN:5000 ≤ N) (hn:6 ≤ n) {H:Heap} {a m:Nat} {nn:Int} {Q:List Pg} {O:List Od} (h:MdAt H a m nn Q O) (hp1:1 ≤ nn) {w:Int × Int} {k:Nat} (hb:badA nn w 0 k = false) (hv:Valid Q (ordOf O w)) (hbig:(ordOf O w).length ≤ 4900) :
  ∃ v' H',callA am N n 12 [.ptr a 1 0,.agg (pcs w),.int .i64 k] H = some (v',H') ∧ v' = .tup [.int .i64 (min k (ordOf O w).length:Nat),.int .i64 0] ∧
   ∃ W',MdAt H' a m nn (marks Q ((ordOf O w).take (min k (ordOf O w).length))) (restO O w (min k (ordOf O w).length) W') ∧
    Bey H H' a m Q (marks Q ((ordOf O w).take (min k (ordOf O w).length))) O (restO O w (min k (ordOf O w).length) W'):=by
 obtain ⟨n,rfl⟩:∃ m,n = m + 1:=⟨n - 1,by omega⟩
 obtain ⟨h0,e0⟩:∃ h0,h0 = H ++ [(⟨1,.var (pcs w)⟩:Ob),⟨0,.dead⟩] ++ [(⟨1,.var (pcs w)⟩:Ob)]:=⟨_,rfl⟩
 have hm:=h.app [(⟨1,.var (pcs w)⟩:Ob),⟨0,.dead⟩]
 have c29:=@ask_spec N n (by omega) _ a m nn Q h.q16 hp1 hm.ob' w 0 k
 have eA:askE nn w 0 k = 0:=by unfold askE; rw [hb]; rfl
 rw [eA,← e0] at c29
 have M0:=hm.app [(⟨1,.var (pcs w)⟩:Ob)]
 rw [← e0] at M0
 have g0:h0[H.length]? = some ⟨1,.var (pcs w)⟩:=by rw [e0,List.append_assoc,List.cons_append,app_get0]; rfl
 have g1:h0[H.length + 1]? = some ⟨0,.dead⟩:=by rw [e0,List.append_assoc,app_get]; rfl
 have l0:h0.length = H.length + 3:=by rw [e0]; simp
 have D0:DurI H a m nn Q O w [] (H.length + 3) h0:=⟨M0,l0,g0,⟨_,g1⟩,fun x hx _ => by rw [e0,List.append_assoc,List.getElem?_append_left hx]⟩
 have own:∀ j,¬ Own a m Q O (H.length + j):=fun j hj => by have:=h.lt _ hj; omega
 have al:=h.lta
 have ml:=h.ltm
 have nam:=h.ne
 have mg:=mget_w (get:=fun o => h0[o]?) M0.mp w
 have row0:=ord_row M0 w
 have hW:=row0.len
 obtain ⟨w1,w2,w3,w4,w5,w6⟩:=row0.shape
 obtain ⟨K,hK⟩:∃ K,K = min k (ordOf O w).length:=⟨_,rfl⟩
 have hKl:K ≤ (ordOf O w).length:=by rw [hK]; exact Nat.min_le_right _ _
 have mm:mmA false (.int .i64 (k:Int)) (.int .i64 ((ordOf O w).length:Int)) = some (.int .i64 (K:Int)):=by rw [hK]; exact mm0 _ _
 rw [← hK]
 obtain ⟨S,hS,hSl,hSn,hSat⟩:=row0.head hKl
 have oa:=M0.ob'
 have qm:=@mcs_m Q nn m h.q16
 have ql:=@mcs_len Q nn m h.q16
 suffices T:∃ v' H',callA am N (n + 1) 12 [.ptr a 1 0,.agg (pcs w),.int .i64 k] H = some (v',H') ∧ v' = .tup [.int .i64 K,.int .i64 0] ∧ ∃ h1 W',DurI H a m nn Q O w ((ordOf O w).take K) (H.length + 3) h1 ∧ sliceA (fun o => h1[o]?) 2 (ordV O w) (some (.int .i64 K)) none none = some W' ∧
   H' = (if K = (ordOf O w).length then h1.set m ⟨1,.map ((O.filter (fun x => !(w == x.w))).map Od.e)⟩ else h1.set m ⟨1,.map ((putO ⟨w,(ordOf O w).drop K,W',ordR O w⟩ O).map Od.e)⟩) by
  obtain ⟨v',H',hc,hv',h1,W',D,hW',rfl⟩:=T
  refine ⟨v',_,hc,hv',W',?_⟩
  have al1:m < h1.length:=by rw [D.len]; omega
  have ownm:∀ y,Own a m Q O y → y < H.length:=h.lt
  unfold restO
  by_cases hlast:K = (ordOf O w).length
  ·rw [if_pos hlast,if_pos hlast]
   refine ⟨D.md.del (List.getElem?_set_self al1) (fun x hx _ => List.getElem?_set_ne (Ne.symm hx)),⟨by simp [D.len],fun x hx hn => ?_,fun x hx => ?_⟩⟩
   ·rw [List.getElem?_set_ne (fun e => hn (.inr (.inl e.symm)))]
    exact D.oth x hx hn
   ·refine .inl ((own_marks (O:=O) x ((ordOf O w).take K) Q).1 ?_)
    rcases hx with h1 | h1 | h1 | ⟨o,ho,hx⟩
    ·exact .inl h1
    ·exact .inr (.inl h1)
    ·exact .inr (.inr (.inl h1))
    ·exact .inr (.inr (.inr ⟨o,(List.mem_filter.1 ho).1,hx⟩))
  ·rw [if_neg hlast,if_neg hlast]
   obtain ⟨W2,hW2,hrow⟩:=(ord_row D.md w).rest hKl
   rw [hW'] at hW2
   cases hW2
   have hordm:m ∉ ordR O w:=fun hx => by
    obtain ⟨r,hr,-,hxr⟩:=ord_own (a:=a) (m:=m) (Q:=Q) w m hx
    exact h.doa r hr m hxr (by simp)
   refine ⟨D.md.ord (List.getElem?_set_ne (Ne.symm nam)) (List.getElem?_set_self al1) (fun x hx _ _ => List.getElem?_set_ne (Ne.symm hx)) (hrow (by omega) _ fun o ho => List.getElem?_set_ne fun e:m = o => hordm (by rw [e]; exact ho)) (fun x hx => .inl hx),⟨by simp [D.len],fun x hx hn => ?_,fun x hx => ?_⟩⟩
   ·rw [List.getElem?_set_ne (fun e => hn (.inr (.inl e.symm)))]
    exact D.oth x hx hn
   ·refine .inl ((own_marks (O:=O) x ((ordOf O w).take K) Q).1 ?_)
    rcases hx with h1 | h1 | h1 | ⟨o,ho,hx⟩
    ·exact .inl h1
    ·exact .inr (.inl h1)
    ·exact .inr (.inr (.inl h1))
    ·rcases putO_mem ho with rfl | ⟨-,ho⟩
     ·obtain ⟨r,hr,-,hxr⟩:=ord_own (a:=a) (m:=m) (Q:=Q) w x hx
      exact .inr (.inr (.inr ⟨r,hr,hxr⟩))
     ·exact .inr (.inr (.inr ⟨o,ho,hx⟩))
 have g0':=g0
 unfold pcs at c29 g0 ⊢
 have e0':h0 = H ++ [(⟨1,.var [.int .i64 w.1,.int .i64 w.2]⟩:Ob),⟨0,.dead⟩,⟨1,.var [.int .i64 w.1,.int .i64 w.2]⟩]:=by rw [e0,List.append_assoc]; rfl
 refine am12_wp rfl ?_
 generalize hcs:mcs Q nn m = cs at *
 unfold pcs at mg
 simp +contextual -implicitDefEqProofs (maxSteps:=10000000) only [sxb,↓sxd,plainD,stays,↓prim_pick,doOp,get,ins,del,dels,Nat.reduceLT,Nat.reduceEqDiff,↓reduceIte,reduceCtorEq,ne_eq,implies_true,prim,YLD,mkA,V.cells,Nat.reduceAdd,Nat.reduceSub,Nat.reduceMul,Nat.reduceLeDiff,loadA,cellsAt,nAg,packA,List.drop,List.take,List.head?,binA,unA,eqCells,eqCell,negB,fillA,storeA,Ob.with,indexedI,V.oneCell,intOf?,resA,resA1,packR,sealDepth,Int.reduceLT,Int.reduceLE,Int.reduceToNat,Int.reduceNeg,Int.reduceAdd,Int.reduceSub,Int.reduceMul,cond_true,cond_false,Int.reduceBNe,Int.reduceBEq,eq_self,deads,List.replicate,argsF,am12,app_get0,app_get,app_set0,app_set,c29,g0,g1,oa,qm,ql,mg,hW,mm,List.foldlM_cons,List.foldlM_nil,List.map_cons,List.map_nil,Option.bind_eq_bind,Option.pure_def,Option.bind_some,hS,hSl,w1,-List.drop,-List.take]
 refine sx_loop (fun i t h => t = fr 67 [(0,.ptr a 1 0),(2,.int .i64 K),(4,.ptr H.length 1 0),(9,ordV O w),(31,S),(32,.int .i64 K),(33,.int .i64 i)] ∧ i ≤ K ∧ DurI H a m nn Q O w ((ordOf O w).take i) (H.length + 3) h) K (by show K < N; omega) ⟨rfl,Nat.zero_le _,D0⟩ ?_
 rintro i t h1 hi ⟨rfl,hiK,D⟩
 have sl1:H.length + 1 < h1.length:=by rw [D.len]; omega
 by_cases hlt:i < K
 ·have gi:decide ((i:Int) < (K:Int)) = true:=decide_eq_true (by omega)
  have w4:IntKind.i64.wrap ((i:Int) + 1) = ((i + 1:Nat):Int):=(wrap64 (by omega) (by omega)).trans (by omega)
  have hi1:i + 1 ≤ K:=by omega
  have hx:(ordOf O w)[i]? = some (ordOf O w)[i]:=List.getElem?_eq_getElem (by omega)
  generalize (ordOf O w)[i] = x at hx
  have hxm:=List.mem_of_getElem? hx
  have hvx:=(Valid.marks (l':=(ordOf O w).take i) hv) x hxm
  obtain ⟨x0,hsite⟩:=D.site
  obtain ⟨oo,vo,off,c,hSv,hoo,hole,hoat⟩:=hSat h1 (ord_row D.md w) i x hlt hx
  obtain ⟨p,j⟩:=x
  obtain ⟨p,rfl⟩:∃ p':Nat,p = p':=⟨p.toNat,by have:=hvx.1; simp only at this; omega⟩
  obtain ⟨j,rfl⟩:∃ j':Nat,j = j':=⟨j.toNat,by have:=hvx.2.1; simp only at this; omega⟩
  simp only [Int.toNat_natCast] at hvx
  obtain ⟨-,-,q,hq,hj⟩:=hvx
  have htk:(ordOf O w).take (i + 1) = (ordOf O w).take i ++ [((p:Int),(j:Int))]:=by rw [List.take_add_one,hx]; rfl
  have M1:MdAt (h1.set (H.length + 1) ⟨x0.ver + 1,.var (pcs ((p:Int),(j:Int)))⟩) a m nn (marks Q ((ordOf O w).take i)) O:=D.md.set _ (by rw [own_marks]; exact own 1)
  obtain ⟨oq,vq,cap,A,r1,r2,r3,r4,M2⟩:=M1.mark hq hj
  have hoqm:Own a m Q O oq:=(own_marks _ _ _).1 (.inr (.inr (.inl ⟨q,List.mem_of_getElem? hq,by rw [r1]; simp⟩)))
  have ca1:(h1.set (H.length + 1) ⟨x0.ver + 1,.var (pcs ((p:Int),(j:Int)))⟩)[a]? = some ⟨1,.var cs⟩:=by rw [← hcs,← mcs_marks Q ((ordOf O w).take i)]; exact M1.ob'
  have qp:List.take 1 (List.drop p cs) = [q.W]:=by
   rw [← hcs,← mcs_marks Q ((ordOf O w).take i)]
   exact mcs_p hq
  have hp16:p < 16:=by
   have:=(List.getElem?_eq_some_iff.1 hq).1
   rw [(marks_q16 _ Q).1,h.q16] at this
   exact this
  have hp16':((p:Int) < 16):=by omega
  have hpl:p + 1 ≤ 18:=by omega
  have hjl:(j:Int) < (q.l.length:Int):=by omega
  have r4':j * 101 + 100 + 1 ≤ A.length:=by omega
  have hrd:(h1.set (H.length + 1) ⟨x0.ver + 1,.var [.int .i64 p,.int .i64 j]⟩)[H.length + 1]? = some ⟨x0.ver + 1,.var [.int .i64 p,.int .i64 j]⟩:=List.getElem?_set_self sl1
  have hiK':(i:Int) < (K:Int):=by omega
  have t1:∀ a b:V,List.take 1 [a,b] = [a]:=fun _ _ => rfl
  have t2:∀ a b:V,List.take 1 (List.drop 1 [a,b]) = [b]:=fun _ _ => rfl
  unfold pcs at hoat M1 r3 M2 ca1
  simp only at hoat M1 r3 M2 ca1
  rw [hSv]
  rw [r2] at qp
  simp +contextual -implicitDefEqProofs (maxSteps:=10000000) only [sxb,↓sxd,plainD,stays,↓prim_pick,doOp,get,ins,del,dels,Nat.reduceLT,Nat.reduceEqDiff,↓reduceIte,reduceCtorEq,ne_eq,implies_true,prim,YLD,mkA,V.cells,Nat.reduceAdd,Nat.reduceSub,Nat.reduceMul,Nat.reduceLeDiff,loadA,cellsAt,nAg,packA,List.drop,List.take,List.head?,binA,unA,eqCells,eqCell,negB,fillA,storeA,Ob.with,indexedI,V.oneCell,intOf?,resA,resA1,packR,sealDepth,Int.reduceLT,Int.reduceLE,Int.reduceToNat,Int.reduceNeg,Int.reduceAdd,Int.reduceSub,Int.reduceMul,cond_true,cond_false,Int.reduceBNe,Int.reduceBEq,eq_self,deads,List.replicate,argsF,gi,iaddrSA,hiK',hoo,hole,hoat,hsite,sl1,hrd,ca1,ql,qp,hp16',hpl,t1,t2,hjl,r3,r4',w4,hi1,hlt,List.getElem?_set_self,List.length_set,List.set_set,List.drop_zero,-List.drop,-List.take]
  have nq:∀ y,H.length ≤ y → y ≠ oq:=fun y hy e => by have:=h.lt _ hoqm; omega
  refine ⟨?_,by simp [D.len],?_,⟨_,by rw [List.getElem?_set_ne (Ne.symm (nq _ (by omega)))]; exact hrd⟩,fun y hy hn => ?_⟩
  ·rw [htk,marks_snoc]
   exact M2
  ·rw [List.getElem?_set_ne (Ne.symm (nq _ (Nat.le_refl _))),List.getElem?_set_ne (by omega)]
   exact D.who
  ·rw [List.getElem?_set_ne (fun e:oq = y => hn (by rw [← e]; exact hoqm)),List.getElem?_set_ne (by omega)]
   exact D.oth y hy hn
 ·have eK:i = K:=by omega
  subst eK
  have gi:decide ((i:Int) < (i:Int)) = false:=decide_eq_false (by omega)
  obtain ⟨W',hW',-⟩:=(ord_row D.md w).rest hKl
  have ca1:h1[a]? = some ⟨1,.var cs⟩:=by rw [← hcs,← mcs_marks Q ((ordOf O w).take i)]; exact D.md.ob'
  have gw:h1[H.length]? = some ⟨1,.var [.int .i64 w.1,.int .i64 w.2]⟩:=D.who
  have mp:=mput_w (get:=fun o => h1[o]?) D.md.mp ⟨w,(ordOf O w).drop i,W',ordR O w⟩
  simp only at mp
  have al1:m < h1.length:=by rw [D.len]; omega
  have t2:∀ a b:V,List.take 2 [a,b] = [a,b]:=fun _ _ => rfl
  have gm:(h1.set m ⟨1,.map ((putO ⟨w,(ordOf O w).drop i,W',ordR O w⟩ O).map Od.e)⟩)[m]? = some ⟨1,.map ((putO ⟨w,(ordOf O w).drop i,W',ordR O w⟩ O).map Od.e)⟩:=List.getElem?_set_self al1
  have md:=mdel_w (get:=fun o => (h1.set m ⟨1,.map ((putO ⟨w,(ordOf O w).drop i,W',ordR O w⟩ O).map Od.e)⟩)[o]?) gm w
  have ca2:(h1.set m ⟨1,.map ((putO ⟨w,(ordOf O w).drop i,W',ordR O w⟩ O).map Od.e)⟩)[a]? = some ⟨1,.var cs⟩:=by rw [List.getElem?_set_ne (Ne.symm nam)]; exact ca1
  have gw2:(h1.set m ⟨1,.map ((putO ⟨w,(ordOf O w).drop i,W',ordR O w⟩ O).map Od.e)⟩)[H.length]? = some ⟨1,.var [.int .i64 w.1,.int .i64 w.2]⟩:=by rw [List.getElem?_set_ne (by omega)]; exact gw
  have hf:=filter_putO ⟨w,(ordOf O w).drop i,W',ordR O w⟩ O
  simp only at hf
  rw [hf] at md
  unfold pcs at mp md
  by_cases hlast:i = (ordOf O w).length
  ·have gl:((i:Int) == ((ordOf O w).length:Int)) = true:=by rw [← hlast]; simp
   have hfin:(if i = (ordOf O w).length then h1.set m ⟨1,.map ((O.filter (fun x => !(w == x.w))).map Od.e)⟩ else h1.set m ⟨1,.map ((putO ⟨w,(ordOf O w).drop i,W',ordR O w⟩ O).map Od.e)⟩) = h1.set m ⟨1,.map ((O.filter (fun x => !(w == x.w))).map Od.e)⟩:=if_pos hlast
   simp +contextual -implicitDefEqProofs (maxSteps:=10000000) only [sxb,↓sxd,plainD,stays,↓prim_pick,doOp,get,ins,del,dels,Nat.reduceLT,Nat.reduceEqDiff,↓reduceIte,reduceCtorEq,ne_eq,implies_true,prim,YLD,mkA,V.cells,Nat.reduceAdd,Nat.reduceSub,Nat.reduceMul,Nat.reduceLeDiff,loadA,cellsAt,nAg,packA,List.drop,List.take,List.head?,binA,unA,eqCells,eqCell,negB,fillA,storeA,Ob.with,indexedI,V.oneCell,intOf?,resA,resA1,packR,sealDepth,Int.reduceLT,Int.reduceLE,Int.reduceToNat,Int.reduceNeg,Int.reduceAdd,Int.reduceSub,Int.reduceMul,cond_true,cond_false,Int.reduceBNe,Int.reduceBEq,eq_self,deads,List.replicate,argsF,gi,ca1,ql,qm,gw,hW',mp,hW,gl,ca2,gw2,md,t2,w1,List.set_set,List.drop_zero,-List.drop,-List.take]
   exact ⟨h1,W',D,hW',hfin.symm⟩
  ·have gl:((i:Int) == ((ordOf O w).length:Int)) = false:=by simp; omega
   have hfin:(if i = (ordOf O w).length then h1.set m ⟨1,.map ((O.filter (fun x => !(w == x.w))).map Od.e)⟩ else h1.set m ⟨1,.map ((putO ⟨w,(ordOf O w).drop i,W',ordR O w⟩ O).map Od.e)⟩) = h1.set m ⟨1,.map ((putO ⟨w,(ordOf O w).drop i,W',ordR O w⟩ O).map Od.e)⟩:=if_neg hlast
   simp +contextual -implicitDefEqProofs (maxSteps:=10000000) only [sxb,↓sxd,plainD,stays,↓prim_pick,doOp,get,ins,del,dels,Nat.reduceLT,Nat.reduceEqDiff,↓reduceIte,reduceCtorEq,ne_eq,implies_true,prim,YLD,mkA,V.cells,Nat.reduceAdd,Nat.reduceSub,Nat.reduceMul,Nat.reduceLeDiff,loadA,cellsAt,nAg,packA,List.drop,List.take,List.head?,binA,unA,eqCells,eqCell,negB,fillA,storeA,Ob.with,indexedI,V.oneCell,intOf?,resA,resA1,packR,sealDepth,Int.reduceLT,Int.reduceLE,Int.reduceToNat,Int.reduceNeg,Int.reduceAdd,Int.reduceSub,Int.reduceMul,cond_true,cond_false,Int.reduceBNe,Int.reduceBEq,eq_self,deads,List.replicate,argsF,gi,ca1,ql,qm,gw,hW',mp,hW,gl,ca2,gw2,md,t2,w1,List.set_set,List.drop_zero,-List.drop,-List.take]
   exact ⟨h1,W',D,hW',hfin.symm⟩
end Go.Am.T


set_option linter.unusedVariables false
set_option linter.unusedSimpArgs false
set_option linter.unusedSectionVars false
set_option maxRecDepth 10000
namespace Go.Am.T
attribute [local congr] selV_congr impB_congr
def cutW (W:V) (i:Nat):V:=match W with | .view o ver off _ s _ => .view o ver off i s (some i) | v => v
def cutP (q:Pg) (i:Nat):Pg:=if i < q.l.length then ⟨q.l.take i,cutW q.W i,q.R⟩ else q
def cutQ (Q:List Pg) (p i:Nat):List Pg:=match Q[p]? with | some q => Q.set p (cutP q i) | none => Q
def cuts (Q:List Pg) (l:List (Int × Int)):List Pg:=l.foldl (fun Q p => cutQ Q p.1.toNat p.2.toNat) Q
theorem PRow.cut {H:Heap} {W:V} {l:List Wr} {R:List Nat} (h:PRow H W l R) {i:Nat} (hi:i < l.length) :
  sliceA (fun o => H[o]?) 101 W none (some (.int .i64 i)) (some (.int .i64 i)) = some (cutW W i) ∧ PRow H (cutW W i) (l.take i) R:=by
 obtain ⟨hall,⟨rfl,-⟩ | ⟨o,ver,cap,rest,hrs,rfl,rfl,ho,hc⟩⟩:=h
 ·simp at hi
 ·have hlen:=flatW_len hall
  have hil:(l.take i).length = i:=by rw [List.length_take]; omega
  refine ⟨?_,fun x hx => hall x (List.mem_of_mem_take hx),.inr ⟨o,ver,some i,flatW (l.drop i) ++ rest,fun v hv => (by rcases List.mem_append.1 hv with h | h; exact flatW_obj _ v h; exact hrs v h),rfl,by rw [hil]; rfl,?_,.inr (by rw [hil])⟩⟩
  ·have e0:(if i = 0 then 0 else 0 + 0 * 101) = 0:=by split <;> rfl
   rcases hc with ⟨rfl,rfl⟩ | rfl
   ·have hcap:((flatW l ++ []).length - 0) / 101 = l.length:=by rw [List.append_nil,hlen,Nat.sub_zero]; omega
    simp only [sliceA,↓reduceIte,cellsAt,ho,hcap]
    simp [boundsA,intOf?,show i ≤ l.length by omega,cutW]
   ·simp only [sliceA,↓reduceIte]
    simp [boundsA,intOf?,show i ≤ l.length by omega,cutW]
  ·rw [ho,← List.append_assoc,← flatW_app,List.take_append_drop]
theorem cutQ_len (Q:List Pg) (p i:Nat):(cutQ Q p i).length = Q.length:=by
 unfold cutQ
 cases Q[p]? <;> simp
theorem cutP_R (q:Pg) (i:Nat):(cutP q i).R = q.R:=by
 unfold cutP
 split <;> rfl
theorem own_cut {a m:Nat} {Q:List Pg} {O:List Od} {p i:Nat} (x:Nat):Own a m (cutQ Q p i) O x ↔ Own a m Q O x:=by
 have key:(∃ q ∈ cutQ Q p i,x ∈ q.R) ↔ ∃ q ∈ Q,x ∈ q.R:=by
  unfold cutQ
  cases hp:Q[p]? with
  | none => exact Iff.rfl
  | some r =>
   simp only
   constructor
   ·rintro ⟨q,hq,hx⟩
    rcases List.mem_or_eq_of_mem_set hq with hq | rfl
    ·exact ⟨q,hq,hx⟩
    ·rw [cutP_R] at hx
     exact ⟨r,List.mem_of_getElem? hp,hx⟩
   ·rintro ⟨q,hq,hx⟩
    obtain ⟨j,hj⟩:=List.getElem?_of_mem hq
    by_cases e:p = j
    ·subst e
     rw [hp] at hj
     cases hj
     exact ⟨_,List.mem_iff_getElem?.2 ⟨p,List.getElem?_set_self (List.getElem?_eq_some_iff.1 hp).1⟩,by rw [cutP_R]; exact hx⟩
    ·exact ⟨q,List.mem_iff_getElem?.2 ⟨j,by rw [List.getElem?_set_ne e]; exact hj⟩,hx⟩
 unfold Own
 rw [key]
theorem cuts_cons (Q:List Pg) (l:List (Int × Int)) (x:Int × Int):cuts Q (x :: l) = cuts (cutQ Q x.1.toNat x.2.toNat) l:=rfl
theorem cuts_snoc (Q:List Pg) (l:List (Int × Int)) (x:Int × Int):cuts Q (l ++ [x]) = cutQ (cuts Q l) x.1.toNat x.2.toNat:=by simp [cuts]
theorem cuts_len:∀ (l:List (Int × Int)) (Q:List Pg),(cuts Q l).length = Q.length
 | [],Q => rfl
 | x :: l,Q => by rw [cuts_cons,cuts_len l,cutQ_len]
theorem own_cuts {a m:Nat} {O:List Od} (x:Nat):∀ (l:List (Int × Int)) (Q:List Pg),Own a m (cuts Q l) O x ↔ Own a m Q O x
 | [],Q => Iff.rfl
 | y :: l,Q => by rw [cuts_cons,own_cuts x l,own_cut]
theorem MdAt.cut {H:Heap} {a m:Nat} {n:Int} {Q:List Pg} {O:List Od} (h:MdAt H a m n Q O) {p i:Nat} {q:Pg} (hq:Q[p]? = some q) (hi:i < q.l.length):MdAt (H.set a ⟨1,.var (mcs (cutQ Q p i) n m)⟩) a m n (cutQ Q p i) O:=by
 have hqm:=List.mem_of_getElem? hq
 have eq:cutQ Q p i = Q.set p ⟨q.l.take i,cutW q.W i,q.R⟩:=by unfold cutQ cutP; rw [hq]; simp [hi]
 rw [eq]
 refine h.page hq (List.getElem?_set_self h.lta) (List.getElem?_set_ne h.ne) (fun j r hj hr x hx => List.getElem?_set_ne fun e:a = x => h.dqa r (List.mem_of_getElem? hr) x hx (by simp [e])) (fun r hr x hx => List.getElem?_set_ne fun e:a = x => h.doa r hr x hx (by simp [e])) ?_ (fun x hx => .inl hx)
 exact ((h.pg q hqm).cut hi).2.keep fun x hx => List.getElem?_set_ne fun e:a = x => h.dqa q hqm x hx (by simp [e])
theorem am13_wp {N n:Nat} {args:List V} {h:Heap} {C:V → Heap → Prop} (ha:args.length = 3) (H:sx ⟨pureOf am,callA am N n,N,h.length⟩ am13.body (fr am13.nt (argsF 0 args)) (h ++ deads am13.sites) (retQ am13.res C)):∃ v h',callA am N (n + 1) 13 args h = some (v,h') ∧ C v h' :=
 call_keep at13 rfl ha (by decide) (sx_wp H)
theorem lose_bad {N n:Nat} (hn:7 ≤ n) {H:Heap} {a m:Nat} {nn:Int} {Q:List Pg} {O:List Od} (h:MdAt H a m nn Q O) (hp1:1 ≤ nn) (w:Int × Int) (k:Int) (hb:badA nn w 0 k = true) :
  ∃ v' H',callA am N n 13 [.ptr a 1 0,.agg (pcs w),.int .i64 k] H = some (v',H') ∧ v' = .tup [.int .i64 0,.int .i64 2] ∧ ∃ tl,H' = H ++ tl:=by
 obtain ⟨n,rfl⟩:∃ m,n = m + 1:=⟨n - 1,by omega⟩
 have hm:=h.app [(⟨1,.var (pcs w)⟩:Ob),⟨0,.dead⟩]
 obtain ⟨v',H',c12,rfl,tl,rfl⟩:=@durable_bad N n (by omega) _ a m nn Q O hm hp1 w k hb
 unfold pcs at c12 ⊢
 refine am13_wp rfl ?_
 simp +contextual -implicitDefEqProofs (maxSteps:=10000000) only [sxb,↓sxd,plainD,stays,↓prim_pick,doOp,get,ins,del,dels,Nat.reduceLT,Nat.reduceEqDiff,↓reduceIte,reduceCtorEq,ne_eq,implies_true,prim,YLD,mkA,V.cells,Nat.reduceAdd,Nat.reduceSub,Nat.reduceMul,Nat.reduceLeDiff,loadA,cellsAt,nAg,packA,List.drop,List.take,List.head?,binA,unA,eqCells,eqCell,negB,fillA,storeA,Ob.with,indexedI,V.oneCell,intOf?,resA,resA1,packR,sealDepth,Int.reduceLT,Int.reduceLE,Int.reduceToNat,Int.reduceNeg,Int.reduceAdd,Int.reduceSub,Int.reduceMul,cond_true,cond_false,Int.reduceBNe,Int.reduceBEq,eq_self,deads,List.replicate,argsF,am13,app_get0,app_get,app_set0,app_set,c12,List.append_assoc]
 exact ⟨_,rfl⟩
end Go.Am.T


set_option linter.unusedVariables false
set_option linter.unusedSimpArgs false
set_option linter.unusedSectionVars false
set_option maxRecDepth 10000
namespace Go.Am.T
attribute [local congr] selV_congr impB_congr
structure LosI (H1:Heap) (b a m:Nat) (nn:Int) (Q:List Pg) (O:List Od) (w:Int × Int) (l:List (Int × Int)) (h:Heap):Prop where
 md:MdAt h a m nn (cuts Q l) O
 len:h.length = H1.length
 who:h[b]? = some ⟨1,.var (pcs w)⟩
 site:∃ x,h[b + 1]? = some x
 oth:∀ x,x < b → ¬ Own a m Q O x → h[x]? = H1[x]?
def Valid0 (Q:List Pg) (l:List (Int × Int)):Prop:=∀ x ∈ l,0 ≤ x.1 ∧ 0 ≤ x.2 ∧ x.1.toNat < Q.length
theorem ORow.at_ {H:Heap} {W:V} {l:List (Int × Int)} {R:List Nat} (h:ORow H W l R) {k:Nat} {x:Int × Int} (hx:l[k]? = some x) :
  ∃ o ver off c,W = .view o ver off l.length 2 none ∧ H[o]? = some ⟨ver,.arr c⟩ ∧ off + k * 2 + 2 ≤ c.length ∧ (c.drop (off + k * 2)).take 2 = pcs x:=by
 rcases h with ⟨rfl,rfl,rfl⟩ | ⟨o,ver,pre,hpre,rfl,rfl,ho⟩
 ·simp at hx
 ·have hk:=(List.getElem?_eq_some_iff.1 hx).1
  refine ⟨o,ver,pre.length,_,rfl,ho,?_,flatP_at hx pre⟩
  rw [List.length_append,flatP_len]; omega
theorem find_putO (o:Od) (O:List Od):(putO o O).find? (fun x => o.w == x.w) = some o:=by
 cases hfd:(putO o O).find? (fun x => o.w == x.w) with
 | none =>
  exfalso
  have hall:=List.find?_eq_none.1 hfd
  have:o ∈ putO o O:=by
   unfold putO
   cases ha:O.any (fun x => o.w == x.w) with
   | true =>
    obtain ⟨x,hx,hb⟩:=List.any_eq_true.1 ha
    exact List.mem_map.2 ⟨x,hx,by rw [hb]⟩
   | false => simp
  have:=hall _ this
  simp at this
 | some r =>
  have h1:=List.find?_some hfd
  have h2:=List.mem_of_find?_eq_some hfd
  rcases putO_mem h2 with rfl | ⟨h3,-⟩
  ·rfl
  ·exact absurd (beq_iff_eq.1 h1).symm h3
theorem ordOf_put (o:Od) (O:List Od):ordOf (putO o O) o.w = o.l:=by
 unfold ordOf
 rw [find_putO]
theorem ordOf_filter (w:Int × Int) (O:List Od):ordOf (O.filter (fun x => !(w == x.w))) w = []:=by
 unfold ordOf
 have:(O.filter (fun x => !(w == x.w))).find? (fun x => w == x.w) = none:=by
  rw [List.find?_eq_none]
  intro x hx
  have:=(List.mem_filter.1 hx).2
  simpa using this
 rw [this]
set_option maxHeartbeats 2000000 in
theorem lose_spec {N n:Nat} (hN:5000 ≤ N) (hn:7 ≤ n) {H:Heap} {a m:Nat} {nn:Int} {Q:List Pg} {O:List Od} (h:MdAt H a m nn Q O) (hp1:1 ≤ nn) {w:Int × Int} {k:Nat} (hb:badA nn w 0 k = false) (hv:Valid Q (ordOf O w)) (hbig:(ordOf O w).length ≤ 4900) :
  ∃ v' H',callA am N n 13 [.ptr a 1 0,.agg (pcs w),.int .i64 k] H = some (v',H') ∧ v' = .tup [.int .i64 ((ordOf O w).length - min k (ordOf O w).length:Nat),.int .i64 0] ∧
   MdAt H' a m nn (cuts (marks Q ((ordOf O w).take (min k (ordOf O w).length))) ((ordOf O w).drop (min k (ordOf O w).length))) (O.filter (fun x => !(w == x.w))) ∧
    Bey H H' a m Q (cuts (marks Q ((ordOf O w).take (min k (ordOf O w).length))) ((ordOf O w).drop (min k (ordOf O w).length))) O (O.filter (fun x => !(w == x.w))):=by
 obtain ⟨n,rfl⟩:∃ m,n = m + 1:=⟨n - 1,by omega⟩
 have hm:=h.app [(⟨1,.var (pcs w)⟩:Ob),⟨0,.dead⟩]
 obtain ⟨v1,H1,c12,rfl,W',M1,B1⟩:=@durable_spec N n hN (by omega) _ a m nn Q O hm hp1 w k hb hv hbig
 obtain ⟨K,hK⟩:∃ K,K = min k (ordOf O w).length:=⟨_,rfl⟩
 have hKl:K ≤ (ordOf O w).length:=by rw [hK]; exact Nat.min_le_right _ _
 rw [← hK] at c12 M1 B1 ⊢
 have own:∀ j,¬ Own a m Q O (H.length + j):=fun j hj => by have:=h.lt _ hj; omega
 have hH0:(H ++ [(⟨1,.var (pcs w)⟩:Ob),⟨0,.dead⟩]).length = H.length + 2:=by simp
 have own1:∀ j,j < 2 → ¬ Own a m (marks Q ((ordOf O w).take K)) (restO O w K W') (H.length + j):=fun j hj hx => by
  rcases B1.new _ hx with h1 | h1
  ·exact own j h1
  ·rw [hH0] at h1; omega
 have l1:H.length + 2 ≤ H1.length:=by have:=B1.len; rw [hH0] at this; exact this
 have g0:H1[H.length]? = some ⟨1,.var (pcs w)⟩:=by rw [B1.oth H.length (by rw [hH0]; omega) (own 0),app_get0]; rfl
 have g1:H1[H.length + 1]? = some ⟨0,.dead⟩:=by rw [B1.oth _ (by rw [hH0]; omega) (own 1),app_get]; rfl
 have gl:∀ x,x < H.length → ¬ Own a m Q O x → H1[x]? = H[x]?:=fun x hx hn => by rw [B1.oth x (by rw [hH0]; omega) hn,List.getElem?_append_left hx]
 -- what is left of the places
 have hl1:ordOf (restO O w K W') w = (ordOf O w).drop K:=by
  unfold restO
  by_cases e:K = (ordOf O w).length
  ·rw [if_pos e,e,List.drop_length]
   exact ordOf_filter w O
  ·rw [if_neg e]
   exact ordOf_put ⟨w,(ordOf O w).drop K,W',ordR O w⟩ O
 have hfil:(restO O w K W').filter (fun x => !(w == x.w)) = O.filter (fun x => !(w == x.w)):=by
  unfold restO
  by_cases e:K = (ordOf O w).length
  ·rw [if_pos e,List.filter_filter]
   simp
  ·rw [if_neg e]
   exact filter_putO ⟨w,(ordOf O w).drop K,W',ordR O w⟩ O
 have ha16:(marks Q ((ordOf O w).take K)).length = 16:=by rw [(marks_q16 _ Q).1,h.q16]
 have hv1:Valid0 (marks Q ((ordOf O w).take K)) ((ordOf O w).drop K):=fun x hx => by
  obtain ⟨h1,h2,q,hq,-⟩:=hv x (List.mem_of_mem_drop hx)
  refine ⟨h1,h2,?_⟩
  rw [(marks_q16 _ Q).1]
  exact (List.getElem?_eq_some_iff.1 hq).1
 have hnew:∀ x,Own a m (marks Q ((ordOf O w).take K)) (restO O w K W') x → Own a m Q O x ∨ H.length ≤ x:=fun x hx => by
  rcases B1.new x hx with h1 | h1
  ·exact .inl h1
  ·exact .inr (by rw [hH0] at h1; omega)
 have hownf:∀ x,Own a m (cuts (marks Q ((ordOf O w).take K)) ((ordOf O w).drop K)) (O.filter (fun x => !(w == x.w))) x → Own a m (marks Q ((ordOf O w).take K)) (restO O w K W') x:=fun x hx => by
  rw [own_cuts] at hx
  rcases hx with h1 | h1 | h1 | ⟨o,ho,hx⟩
  ·exact .inl h1
  ·exact .inr (.inl h1)
  ·exact .inr (.inr (.inl h1))
  ·rw [← hfil] at ho
   exact .inr (.inr (.inr ⟨o,(List.mem_filter.1 ho).1,hx⟩))
 have hownQ:∀ x,x < H.length → Own a m (marks Q ((ordOf O w).take K)) (restO O w K W') x → Own a m Q O x:=fun x hx h1 => by
  rcases hnew x h1 with h2 | h2
  ·exact h2
  ·omega
 have hlen1:((ordOf O w).drop K).length = (ordOf O w).length - K:=List.length_drop
 have hbig1:(ordOf (restO O w K W') w).length ≤ 4900:=by rw [hl1,List.length_drop]; omega
 rw [← hfil,← hlen1,← hl1] at *
 have hgoal:∀ H' v',callA am N (n + 1) 13 [.ptr a 1 0,.agg (pcs w),.int .i64 k] H = some (v',H') → v' = .tup [.int .i64 ((ordOf (restO O w K W') w).length:Nat),.int .i64 0] → (∃ h1,LosI H1 H.length a m nn (marks Q ((ordOf O w).take K)) (restO O w K W') w (ordOf (restO O w K W') w) h1 ∧ H' = h1.set m ⟨1,.map (((restO O w K W').filter (fun x => !(w == x.w))).map Od.e)⟩) →
   ∃ v' H',callA am N (n + 1) 13 [.ptr a 1 0,.agg (pcs w),.int .i64 k] H = some (v',H') ∧ v' = .tup [.int .i64 ((ordOf (restO O w K W') w).length:Nat),.int .i64 0] ∧
   MdAt H' a m nn (cuts (marks Q ((ordOf O w).take K)) (ordOf (restO O w K W') w)) ((restO O w K W').filter (fun x => !(w == x.w))) ∧
    Bey H H' a m Q (cuts (marks Q ((ordOf O w).take K)) (ordOf (restO O w K W') w)) O ((restO O w K W').filter (fun x => !(w == x.w))):=by
  rintro H' v' hc hv' ⟨h1,D,rfl⟩
  have ml1:m < h1.length:=D.md.ltm
  refine ⟨v',_,hc,hv',D.md.del (List.getElem?_set_self ml1) (fun x hx _ => List.getElem?_set_ne (Ne.symm hx)),⟨?_,fun x hx hn => ?_,fun x hx => hnew x (hownf x hx)⟩⟩
  ·rw [List.length_set,D.len]; omega
  ·rw [List.getElem?_set_ne (fun e => hn (.inr (.inl e.symm))),D.oth x hx (fun h1 => hn (hownQ x hx h1))]
   exact gl x hx hn
 generalize hQ1:marks Q ((ordOf O w).take K) = Q1 at *
 clear hownf hownQ hnew gl B1 hb hQ1
 generalize restO O w K W' = O1 at *
 have D0:LosI H1 H.length a m nn Q1 O1 w [] H1:=⟨M1,rfl,g0,⟨_,g1⟩,fun _ _ _ => rfl⟩
 have mg:=mget_w (get:=fun o => H1[o]?) M1.mp w
 have row0:=ord_row M1 w
 have hW:=row0.len
 obtain ⟨w1,w2,w3,w4,w5,w6⟩:=row0.shape
 have oa:=M1.ob'
 have qm:=@mcs_m Q1 nn m ha16
 have ql:=@mcs_len Q1 nn m ha16
 have al:=h.lta
 have ml:=h.ltm
 have nam:=h.ne
 have t2:∀ a b:V,List.take 2 [a,b] = [a,b]:=fun _ _ => rfl
 suffices T:∃ v' H',callA am N (n + 1) 13 [.ptr a 1 0,.agg (pcs w),.int .i64 k] H = some (v',H') ∧ v' = .tup [.int .i64 ((ordOf O1 w).length:Nat),.int .i64 0] ∧ ∃ h1,LosI H1 H.length a m nn Q1 O1 w (ordOf O1 w) h1 ∧ H' = h1.set m ⟨1,.map ((O1.filter (fun x => !(w == x.w))).map Od.e)⟩ by
  obtain ⟨v',H',hc,hv',hI⟩:=T
  exact hgoal H' v' hc hv' hI
 clear hgoal
 have g0':=g0
 have own0:=own1 0 (by omega)
 have own2:=own1 1 (by omega)
 unfold pcs at c12 g0
 refine am13_wp rfl ?_
 have hcs0:mcs (cuts Q1 []) nn m = mcs Q1 nn m:=rfl
 generalize hcs:mcs Q1 nn m = cs at *
 unfold pcs at mg ⊢
 simp +contextual -implicitDefEqProofs (maxSteps:=10000000) only [sxb,↓sxd,plainD,stays,↓prim_pick,doOp,get,ins,del,dels,Nat.reduceLT,Nat.reduceEqDiff,↓reduceIte,reduceCtorEq,ne_eq,implies_true,prim,YLD,mkA,V.cells,Nat.reduceAdd,Nat.reduceSub,Nat.reduceMul,Nat.reduceLeDiff,loadA,cellsAt,nAg,packA,List.drop,List.take,List.head?,binA,unA,eqCells,eqCell,negB,fillA,storeA,Ob.with,indexedI,V.oneCell,intOf?,resA,resA1,packR,sealDepth,Int.reduceLT,Int.reduceLE,Int.reduceToNat,Int.reduceNeg,Int.reduceAdd,Int.reduceSub,Int.reduceMul,cond_true,cond_false,Int.reduceBNe,Int.reduceBEq,eq_self,deads,List.replicate,argsF,am13,app_get0,app_get,app_set0,app_set,c12,g0,g1,oa,qm,ql,mg,hW,t2,w1,List.drop_zero,-List.drop,-List.take]
 refine sx_loop (fun i t h => t = fr 72 [(0,.ptr a 1 0),(4,.ptr H.length 1 0),(10,ordV O1 w),(29,ordV O1 w),(30,.int .i64 ((ordOf O1 w).length:Nat)),(31,.int .i64 i)] ∧ i ≤ (ordOf O1 w).length ∧ LosI H1 H.length a m nn Q1 O1 w ((ordOf O1 w).take i) h) (ordOf O1 w).length (by show (ordOf O1 w).length < N; omega) ⟨rfl,Nat.zero_le _,D0⟩ ?_
 rintro i t h1 hi ⟨rfl,hiK,D⟩
 have sl1:H.length + 1 < h1.length:=by rw [D.len]; omega
 by_cases hlt:i < (ordOf O1 w).length
 ·have gi:decide ((i:Int) < ((ordOf O1 w).length:Int)) = true:=decide_eq_true (by omega)
  have w4:IntKind.i64.wrap ((i:Int) + 1) = ((i + 1:Nat):Int):=(wrap64 (by omega) (by omega)).trans (by omega)
  have hi1:i + 1 ≤ (ordOf O1 w).length:=by omega
  have hx:(ordOf O1 w)[i]? = some (ordOf O1 w)[i]:=List.getElem?_eq_getElem (by omega)
  generalize (ordOf O1 w)[i] = x at hx
  have hxm:=List.mem_of_getElem? hx
  have hvx:=hv1 x hxm
  obtain ⟨x0,hsite⟩:=D.site
  obtain ⟨oo,vo,off,c,hSv,hoo,hole,hoat⟩:=(ord_row D.md w).at_ hx
  obtain ⟨p,j⟩:=x
  obtain ⟨p,rfl⟩:∃ p':Nat,p = p':=⟨p.toNat,by have:=hvx.1; simp only at this; omega⟩
  obtain ⟨j,rfl⟩:∃ j':Nat,j = j':=⟨j.toNat,by have:=hvx.2.1; simp only at this; omega⟩
  simp only [Int.toNat_natCast] at hvx
  obtain ⟨-,-,hpl0⟩:=hvx
  have hcl:=cuts_len ((ordOf O1 w).take i) Q1
  have hq:(cuts Q1 ((ordOf O1 w).take i))[p]? = some (cuts Q1 ((ordOf O1 w).take i))[p]:=List.getElem?_eq_getElem (by omega)
  generalize (cuts Q1 ((ordOf O1 w).take i))[p]'(by omega) = q at hq
  have htk:(ordOf O1 w).take (i + 1) = (ordOf O1 w).take i ++ [((p:Int),(j:Int))]:=by rw [List.take_add_one,hx]; rfl
  have M2:MdAt (h1.set (H.length + 1) ⟨x0.ver + 1,.var (pcs ((p:Int),(j:Int)))⟩) a m nn (cuts Q1 ((ordOf O1 w).take i)) O1:=D.md.set _ (by rw [own_cuts]; exact own2)
  have hrow:=M2.pg q (List.mem_of_getElem? hq)
  have hrl:=hrow.len
  obtain ⟨r1,r2,r3,r4,r5,r6⟩:=hrow.shape
  have ca1:=M2.ob'
  have qp:=@mcs_p (cuts Q1 ((ordOf O1 w).take i)) nn m p q hq
  have ql1:=@mcs_len (cuts Q1 ((ordOf O1 w).take i)) nn m (by omega)
  have hp16:p < 16:=by omega
  have hp16':((p:Int) < 16):=by omega
  have hpl:p + 1 ≤ 18:=by omega
  have hrd:(h1.set (H.length + 1) ⟨x0.ver + 1,.var [.int .i64 p,.int .i64 j]⟩)[H.length + 1]? = some ⟨x0.ver + 1,.var [.int .i64 p,.int .i64 j]⟩:=List.getElem?_set_self sl1
  have hiK':(i:Int) < ((ordOf O1 w).length:Int):=by omega
  have t1:∀ a b:V,List.take 1 [a,b] = [a]:=fun _ _ => rfl
  have t2':∀ a b:V,List.take 1 (List.drop 1 [a,b]) = [b]:=fun _ _ => rfl
  have al1:a < (h1.set (H.length + 1) ⟨x0.ver + 1,.var [.int .i64 p,.int .i64 j]⟩).length:=M2.lta
  by_cases hj:j < q.l.length
  ·have gj:decide ((j:Int) < (q.l.length:Int)) = true:=decide_eq_true (by omega)
   obtain ⟨hsl,-⟩:=hrow.cut hj
   have M3:=M2.cut hq hj
   have eq:cutQ (cuts Q1 ((ordOf O1 w).take i)) p j = (cuts Q1 ((ordOf O1 w).take i)).set p ⟨q.l.take j,cutW q.W j,q.R⟩:=by unfold cutQ cutP; rw [hq]; simp [hj]
   have qs:=@mcs_set (cuts Q1 ((ordOf O1 w).take i)) nn m p q ⟨q.l.take j,cutW q.W j,q.R⟩ hq
   rw [← eq] at qs
   simp only at qs
   have cw:(cutW q.W j).cells = [cutW q.W j]:=by
    obtain ⟨-,⟨-,hw | hw,-⟩ | ⟨_,_,_,_,-,-,hw,-⟩⟩:=hrow <;> rw [hw] <;> rfl
   have cw1:(cutW q.W j).oneCell = true:=by
    obtain ⟨-,⟨-,hw | hw,-⟩ | ⟨_,_,_,_,-,-,hw,-⟩⟩:=hrow <;> rw [hw] <;> rfl
   unfold pcs at hoat ca1 M2 hsl M3
   simp only at hoat ca1 M2 hsl M3
   rw [hSv]
   have cI:∀ k n,(V.int k n).cells = [.int k n]:=fun _ _ => rfl
   have cO:∀ k n,(V.int k n).oneCell = true:=fun _ _ => rfl
   have cA:∀ l,(V.agg l).cells = l:=fun _ => rfl
   generalize hW3:cutW q.W j = W3 at *
   generalize mcs (cutQ (cuts Q1 ((ordOf O1 w).take i)) p j) nn m = cs3 at *
   generalize mcs (cuts Q1 ((ordOf O1 w).take i)) nn m = cs2 at *
   simp +contextual -implicitDefEqProofs (maxSteps:=10000000) only [sxb,↓sxd,plainD,stays,↓prim_pick,doOp,get,ins,del,dels,Nat.reduceLT,Nat.reduceEqDiff,↓reduceIte,reduceCtorEq,ne_eq,implies_true,prim,YLD,mkA,V.cells,Nat.reduceAdd,Nat.reduceSub,Nat.reduceMul,Nat.reduceLeDiff,loadA,cellsAt,nAg,packA,List.drop,List.take,List.head?,binA,unA,eqCells,eqCell,negB,fillA,storeA,Ob.with,indexedI,V.oneCell,intOf?,resA,resA1,packR,sealDepth,Int.reduceLT,Int.reduceLE,Int.reduceToNat,Int.reduceNeg,Int.reduceAdd,Int.reduceSub,Int.reduceMul,cond_true,cond_false,Int.reduceBNe,Int.reduceBEq,eq_self,deads,List.replicate,argsF,gi,iaddrSA,hiK',hoo,hole,hoat,hsite,sl1,hrd,ca1,ql1,qp,hp16',hpl,t1,t2',hrl,gj,hsl,qs,cw,cw1,r1,w4,hi1,hlt,al1,List.getElem?_set_self,List.length_set,List.set_set,List.drop_zero,cI,cA,cO,List.all_cons,List.all_nil,Bool.and_self,-List.drop,-List.take,-V.cells,-V.oneCell]
   refine ⟨?_,by simp [D.len],?_,⟨_,by rw [List.getElem?_set_ne (by omega)]; exact hrd⟩,fun y hy hn => ?_⟩
   ·rw [htk,cuts_snoc]
    exact M3
   ·rw [List.getElem?_set_ne (by omega),List.getElem?_set_ne (by omega)]
    exact D.who
   ·rw [List.getElem?_set_ne (fun e => hn (.inl e.symm)),List.getElem?_set_ne (by omega)]
    exact D.oth y hy hn
  ·have gj:decide ((j:Int) < (q.l.length:Int)) = false:=decide_eq_false (by omega)
   have eq:cutQ (cuts Q1 ((ordOf O1 w).take i)) p j = cuts Q1 ((ordOf O1 w).take i):=by
    unfold cutQ cutP
    rw [hq]
    simp only [if_neg hj]
    apply List.ext_getElem?
    intro y
    by_cases e:p = y
    ·subst e; rw [List.getElem?_set_self (by omega),hq]
    ·rw [List.getElem?_set_ne e]
   unfold pcs at hoat ca1 M2
   simp only at hoat ca1 M2
   rw [hSv]
   generalize mcs (cuts Q1 ((ordOf O1 w).take i)) nn m = cs2 at *
   simp +contextual -implicitDefEqProofs (maxSteps:=10000000) only [sxb,↓sxd,plainD,stays,↓prim_pick,doOp,get,ins,del,dels,Nat.reduceLT,Nat.reduceEqDiff,↓reduceIte,reduceCtorEq,ne_eq,implies_true,prim,YLD,mkA,V.cells,Nat.reduceAdd,Nat.reduceSub,Nat.reduceMul,Nat.reduceLeDiff,loadA,cellsAt,nAg,packA,List.drop,List.take,List.head?,binA,unA,eqCells,eqCell,negB,fillA,storeA,Ob.with,indexedI,V.oneCell,intOf?,resA,resA1,packR,sealDepth,Int.reduceLT,Int.reduceLE,Int.reduceToNat,Int.reduceNeg,Int.reduceAdd,Int.reduceSub,Int.reduceMul,cond_true,cond_false,Int.reduceBNe,Int.reduceBEq,eq_self,deads,List.replicate,argsF,gi,iaddrSA,hiK',hoo,hole,hoat,hsite,sl1,hrd,ca1,ql1,qp,hp16',hpl,t1,t2',hrl,gj,r1,w4,hi1,hlt,al1,List.getElem?_set_self,List.length_set,List.set_set,List.drop_zero,-List.drop,-List.take]
   refine ⟨?_,by simp [D.len],?_,⟨_,hrd⟩,fun y hy hn => ?_⟩
   ·rw [htk,cuts_snoc]
    exact eq.symm ▸ M2
   ·rw [List.getElem?_set_ne (by omega)]
    exact D.who
   ·rw [List.getElem?_set_ne (by omega)]
    exact D.oth y hy hn
 ·have eK:i = (ordOf O1 w).length:=by omega
  subst eK
  have gi:decide (((ordOf O1 w).length:Int) < ((ordOf O1 w).length:Int)) = false:=decide_eq_false (by omega)
  have ca1:=D.md.ob'
  have qm1:=@mcs_m (cuts Q1 ((ordOf O1 w).take (ordOf O1 w).length)) nn m (by rw [cuts_len]; exact ha16)
  have ql1:=@mcs_len (cuts Q1 ((ordOf O1 w).take (ordOf O1 w).length)) nn m (by rw [cuts_len]; exact ha16)
  have gw:h1[H.length]? = some ⟨1,.var [.int .i64 w.1,.int .i64 w.2]⟩:=D.who
  have md:=mdel_w (get:=fun o => h1[o]?) D.md.mp w
  unfold pcs at md
  generalize mcs (cuts Q1 ((ordOf O1 w).take (ordOf O1 w).length)) nn m = cs2 at *
  simp +contextual -implicitDefEqProofs (maxSteps:=10000000) only [sxb,↓sxd,plainD,stays,↓prim_pick,doOp,get,ins,del,dels,Nat.reduceLT,Nat.reduceEqDiff,↓reduceIte,reduceCtorEq,ne_eq,implies_true,prim,YLD,mkA,V.cells,Nat.reduceAdd,Nat.reduceSub,Nat.reduceMul,Nat.reduceLeDiff,loadA,cellsAt,nAg,packA,List.drop,List.take,List.head?,binA,unA,eqCells,eqCell,negB,fillA,storeA,Ob.with,indexedI,V.oneCell,intOf?,resA,resA1,packR,sealDepth,Int.reduceLT,Int.reduceLE,Int.reduceToNat,Int.reduceNeg,Int.reduceAdd,Int.reduceSub,Int.reduceMul,cond_true,cond_false,Int.reduceBNe,Int.reduceBEq,eq_self,deads,List.replicate,argsF,gi,ca1,ql1,qm1,gw,hW,md,t2,w1,List.set_set,List.drop_zero,-List.drop,-List.take]
  refine ⟨h1,by rw [List.take_length] at D; exact D,rfl⟩
end Go.Am.T


set_option linter.unusedVariables false
set_option linter.unusedSimpArgs false
set_option linter.unusedSectionVars false
set_option maxRecDepth 10000
namespace Go.Am.T
attribute [local congr] selV_congr impB_congr
def noQ:List Pg:=List.replicate 16 ⟨[],.nils,[]⟩
theorem am8_wp {N n:Nat} {args:List V} {h h':Heap} {v:V} (ha:args.length = 1) (H:sx ⟨pureOf am,callA am N n,N,h.length⟩ am8.body (fr am8.nt (argsF 0 args)) (h ++ deads am8.sites) (retQ am8.res fun x k => x = v ∧ k = h')):callA am N (n + 1) 8 args h = some (v,h') :=
 call_keep_eq at8 rfl ha (by decide) (sx_wp H)
theorem new_spec {N n:Nat} (hn:1 ≤ n) {nn:Int} (h1:1 ≤ nn) (h2:nn ≤ 16) (H:Heap):callA am N n 8 [.int .i64 nn] H = some (.tup [.ptr (H.length + 1) 1 0,.int .i64 0],H ++ [⟨1,.map []⟩,⟨1,.var (mcs noQ nn H.length)⟩]):=by
 obtain ⟨n,rfl⟩:∃ m,n = m + 1:=⟨n - 1,by omega⟩
 have g1:decide (nn < 1) = false:=decide_eq_false (by omega)
 have g2:decide (nn > 16) = false:=decide_eq_false (by omega)
 refine am8_wp rfl ?_
 simp +contextual -implicitDefEqProofs (maxSteps:=10000000) only [sxb,↓sxd,plainD,stays,↓prim_pick,doOp,get,ins,del,dels,Nat.reduceLT,Nat.reduceEqDiff,↓reduceIte,reduceCtorEq,ne_eq,implies_true,prim,YLD,mkA,V.cells,Nat.reduceAdd,Nat.reduceSub,Nat.reduceMul,Nat.reduceLeDiff,loadA,cellsAt,nAg,packA,List.drop,List.take,List.head?,binA,unA,eqCells,eqCell,negB,fillA,storeA,Ob.with,indexedI,V.oneCell,intOf?,resA,resA1,packR,sealDepth,Int.reduceLT,Int.reduceLE,Int.reduceToNat,Int.reduceNeg,Int.reduceAdd,Int.reduceSub,Int.reduceMul,cond_true,cond_false,Int.reduceBNe,Int.reduceBEq,eq_self,deads,List.replicate,argsF,am8,g1,g2,app_get0,app_get,app_set0,app_set]
 rfl
theorem new_at {H:Heap} {a m:Nat} {nn:Int} (ha:H[a]? = some ⟨1,.var (mcs noQ nn m)⟩) (hm:H[m]? = some ⟨1,.map []⟩) (hne:a ≠ m):MdAt H a m nn noQ []:=by
 have hq:∀ q ∈ noQ,q = ⟨[],.nils,[]⟩:=fun q hq => (List.mem_replicate.1 hq).2
 refine ⟨ha,hm,rfl,fun q h => ?_,(fun o h => by cases h),fun i j q r hi _ _ x hx => ?_,(fun i j q r hi => by simp at hi),(fun q _ o h => by cases h),fun q h x hx => ?_,(fun o h => by cases h),hne,by simp⟩
 ·rw [hq q h]
  exact ⟨by simp,.inl ⟨rfl,.inl rfl,rfl⟩⟩
 ·rw [hq q (List.mem_of_getElem? hi)] at hx
  cases hx
 ·rw [hq q h] at hx
  cases hx
end Go.Am.T


set_option linter.unusedVariables false
set_option linter.unusedSimpArgs false
set_option linter.unusedSectionVars false
set_option maxRecDepth 10000
namespace Go.Am.T
attribute [local congr] selV_congr impB_congr
end Go.Am.T


set_option linter.unusedVariables false
set_option linter.unusedSimpArgs false
set_option linter.unusedSectionVars false
set_option maxRecDepth 10000
namespace Go.Am.T
attribute [local congr] selV_congr impB_congr
theorem am27_eq {N n:Nat} {args:List V} {h h':Heap} {v:V} (ha:args.length = 1) (H:sx ⟨pureOf am,callA am N n,N,h.length⟩ am27.body (fr am27.nt (argsF 0 args)) (h ++ deads am27.sites) (retQ am27.res fun x k => x = v ∧ k = h')):callA am N (n + 1) 27 args h = some (v,h') :=
 call_keep_eq at27 rfl ha (by decide) (sx_wp H)
theorem am28_eq {N n:Nat} {args:List V} {h h':Heap} {v:V} (ha:args.length = 1) (H:sx ⟨pureOf am,callA am N n,N,h.length⟩ am28.body (fr am28.nt (argsF 0 args)) (h ++ deads am28.sites) (retQ am28.res fun x k => x = v ∧ k = h')):callA am N (n + 1) 28 args h = some (v,h') :=
 call_keep_eq at28 rfl ha (by decide) (sx_wp H)
theorem clone27 {N n:Nat} (hn:1 ≤ n) {H:Heap} {W:V} {l:List Wr} {R:List Nat} (h:PRow H W l R) (hl:l.length ≤ 4096) :
  ∃ W' x R',callA am N n 27 [W] H = some (W',H ++ [x]) ∧ PRow (H ++ [x]) W' l R' ∧ ∀ o ∈ R',o = H.length:=by
 obtain ⟨n,rfl⟩:∃ m,n = m + 1:=⟨n - 1,by omega⟩
 obtain ⟨hall,⟨rfl,rfl | rfl,rfl⟩ | ⟨o,ver,cap,rest,hrs,rfl,rfl,ho,hc⟩⟩:=h
 ·refine ⟨.nils,⟨0,.dead⟩,[],am27_eq rfl ?_,⟨hall,.inl ⟨rfl,.inl rfl,rfl⟩⟩,by simp⟩
  simp +contextual -implicitDefEqProofs (maxSteps:=10000000) only [sxb,↓sxd,plainD,stays,↓prim_pick,doOp,get,ins,del,dels,Nat.reduceLT,Nat.reduceEqDiff,↓reduceIte,reduceCtorEq,ne_eq,implies_true,prim,YLD,mkA,V.cells,Nat.reduceAdd,Nat.reduceSub,Nat.reduceMul,Nat.reduceLeDiff,loadA,cellsAt,nAg,packA,List.drop,List.take,List.head?,binA,unA,eqCells,eqCell,negB,fillA,storeA,Ob.with,indexedI,V.oneCell,intOf?,resA,resA1,packR,sealDepth,Int.reduceLT,Int.reduceLE,Int.reduceToNat,Int.reduceNeg,Int.reduceAdd,Int.reduceSub,Int.reduceMul,cond_true,cond_false,Int.reduceBNe,Int.reduceBEq,eq_self,deads,List.replicate,argsF,am27,isNil]
 ·refine ⟨.sl [] 101 (some 0),⟨0,.dead⟩,[],am27_eq rfl ?_,⟨hall,.inl ⟨rfl,.inr rfl,rfl⟩⟩,by simp⟩
  simp +contextual -implicitDefEqProofs (maxSteps:=10000000) only [sxb,↓sxd,plainD,stays,↓prim_pick,doOp,get,ins,del,dels,Nat.reduceLT,Nat.reduceEqDiff,↓reduceIte,reduceCtorEq,ne_eq,implies_true,prim,YLD,mkA,V.cells,Nat.reduceAdd,Nat.reduceSub,Nat.reduceMul,Nat.reduceLeDiff,loadA,cellsAt,nAg,packA,List.drop,List.take,List.head?,binA,unA,eqCells,eqCell,negB,fillA,storeA,Ob.with,indexedI,V.oneCell,intOf?,resA,resA1,packR,sealDepth,Int.reduceLT,Int.reduceLE,Int.reduceToNat,Int.reduceNeg,Int.reduceAdd,Int.reduceSub,Int.reduceMul,cond_true,cond_false,Int.reduceBNe,Int.reduceBEq,eq_self,deads,List.replicate,argsF,am27,isNil,List.range_zero,appendA,lenA,firstA,List.flatMap_nil]
 ·have hlen:=flatW_len hall
  have hol:=lt_of_get ho
  have ho':(H ++ [(⟨0,.dead⟩:Ob)])[o]? = some ⟨ver,.arr (flatW l ++ rest)⟩:=by rw [List.getElem?_append_left hol]; exact ho
  have hf:firstA (fun o => (H ++ [(⟨0,.dead⟩:Ob)])[o]?) 101 l.length (.view o ver 0 l.length 101 cap) = some (flatW l):=by
   simp only [firstA,↓reduceIte,Nat.le_refl,loadA,cellsAt,ho',Nat.zero_add,List.length_append,hlen,List.drop_zero]
   rw [if_pos (by omega),List.take_append,← hlen,Nat.sub_self,List.take_zero,List.append_nil,List.take_of_length_le (by omega)]
  have hone:(flatW l).all V.oneCell = true:=by
   rw [List.all_eq_true]
   intro v hv
   obtain ⟨x,hx,hvx⟩:=List.mem_flatMap.1 hv
   exact List.all_eq_true.1 x.one v hvx
  by_cases h0:l = []
  ·subst h0
   have hA:appendA (fun o => (H ++ [(⟨0,.dead⟩:Ob)])[o]?) H.length 101 136 (.sl [] 101 (some 0)) (.view o ver 0 0 101 cap) = some (.ret (.sl [] 101 (some 0))):=by
    have hf':=hf
    simp only [List.length_nil] at hf'
    unfold appendA
    simp only [lenA,hf',hone,↓reduceIte]
   refine ⟨.sl [] 101 (some 0),⟨0,.dead⟩,[],am27_eq rfl ?_,⟨hall,.inl ⟨rfl,.inr rfl,rfl⟩⟩,by simp⟩
   simp +contextual -implicitDefEqProofs (maxSteps:=10000000) only [sxb,↓sxd,plainD,stays,↓prim_pick,doOp,get,ins,del,dels,Nat.reduceLT,Nat.reduceEqDiff,↓reduceIte,reduceCtorEq,ne_eq,implies_true,prim,YLD,mkA,V.cells,Nat.reduceAdd,Nat.reduceSub,Nat.reduceMul,Nat.reduceLeDiff,loadA,cellsAt,nAg,packA,List.drop,List.take,List.head?,binA,unA,eqCells,eqCell,negB,fillA,storeA,Ob.with,indexedI,V.oneCell,intOf?,resA,resA1,packR,sealDepth,Int.reduceLT,Int.reduceLE,Int.reduceToNat,Int.reduceNeg,Int.reduceAdd,Int.reduceSub,Int.reduceMul,cond_true,cond_false,Int.reduceBNe,Int.reduceBEq,eq_self,deads,List.replicate,argsF,am27,isNil,List.range_zero,hA]
  ·have hl0:l.length ≠ 0:=fun e => h0 (List.length_eq_zero_iff.1 e)
   have hA:appendA (fun o => (H ++ [(⟨0,.dead⟩:Ob)])[o]?) H.length 101 136 (.sl [] 101 (some 0)) (.view o ver 0 l.length 101 cap) = some (.set H.length ⟨1,.arr (flatW l)⟩ (.view H.length 1 0 l.length 101 none)):=by
    unfold appendA
    simp only [lenA,hf,hone,↓reduceIte,if_neg hl0,List.length_nil,Nat.zero_add,List.flatMap_nil,List.nil_append]
    rw [if_pos (by omega),if_pos (by unfold maxBytes; omega)]
    simp [mkA]
   refine ⟨.view H.length 1 0 l.length 101 none,⟨1,.arr (flatW l)⟩,[H.length],am27_eq rfl ?_,⟨hall,.inr ⟨H.length,1,none,[],fun _ h => by (cases h),rfl,rfl,by rw [List.append_nil,app_get0]; rfl,.inl ⟨rfl,rfl⟩⟩⟩,by simp⟩
   simp +contextual -implicitDefEqProofs (maxSteps:=10000000) only [sxb,↓sxd,plainD,stays,↓prim_pick,doOp,get,ins,del,dels,Nat.reduceLT,Nat.reduceEqDiff,↓reduceIte,reduceCtorEq,ne_eq,implies_true,prim,YLD,mkA,V.cells,Nat.reduceAdd,Nat.reduceSub,Nat.reduceMul,Nat.reduceLeDiff,loadA,cellsAt,nAg,packA,List.drop,List.take,List.head?,binA,unA,eqCells,eqCell,negB,fillA,storeA,Ob.with,indexedI,V.oneCell,intOf?,resA,resA1,packR,sealDepth,Int.reduceLT,Int.reduceLE,Int.reduceToNat,Int.reduceNeg,Int.reduceAdd,Int.reduceSub,Int.reduceMul,cond_true,cond_false,Int.reduceBNe,Int.reduceBEq,eq_self,deads,List.replicate,argsF,am27,isNil,List.range_zero,hA,app_set0]
theorem clone28 {N n:Nat} (hn:1 ≤ n) {H:Heap} {W:V} {l:List (Int × Int)} {R:List Nat} (h:ORow H W l R) (hne:l ≠ []) (hl:l.length ≤ 4900) :
  callA am N n 28 [W] H = some (.view H.length 1 0 l.length 2 none,H ++ [⟨1,.arr (flatP l)⟩]):=by
 obtain ⟨n,rfl⟩:∃ m,n = m + 1:=⟨n - 1,by omega⟩
 rcases h with ⟨rfl,-,-⟩ | ⟨o,ver,pre,hpre,rfl,rfl,ho⟩
 ·exact absurd rfl hne
 ·have hlen:=flatP_len l
  have hol:=lt_of_get ho
  have ho':(H ++ [(⟨0,.dead⟩:Ob)])[o]? = some ⟨ver,.arr (pre ++ flatP l)⟩:=by rw [List.getElem?_append_left hol]; exact ho
  have hf:firstA (fun o => (H ++ [(⟨0,.dead⟩:Ob)])[o]?) 2 l.length (.view o ver pre.length l.length 2 none) = some (flatP l):=by
   simp only [firstA,↓reduceIte,Nat.le_refl,loadA,cellsAt,ho',List.length_append,hlen,List.drop_left]
   rw [List.take_of_length_le (by omega)]
  have hone:(flatP l).all V.oneCell = true:=by
   rw [List.all_eq_true]
   intro v hv
   obtain ⟨x,hx,hvx⟩:=List.mem_flatMap.1 hv
   simp only [pcs,List.mem_cons,List.not_mem_nil,or_false] at hvx
   rcases hvx with rfl | rfl <;> rfl
  have hl0:l.length ≠ 0:=fun e => hne (List.length_eq_zero_iff.1 e)
  have hA:appendA (fun o => (H ++ [(⟨0,.dead⟩:Ob)])[o]?) H.length 2 16 (.sl [] 2 (some 0)) (.view o ver pre.length l.length 2 none) = some (.set H.length ⟨1,.arr (flatP l)⟩ (.view H.length 1 0 l.length 2 none)):=by
   unfold appendA
   simp only [lenA,hf,hone,↓reduceIte,if_neg hl0,List.length_nil,Nat.zero_add,List.flatMap_nil,List.nil_append]
   rw [if_pos (by omega),if_pos (by unfold maxBytes; omega)]
   simp [mkA]
  refine am28_eq rfl ?_
  simp +contextual -implicitDefEqProofs (maxSteps:=10000000) only [sxb,↓sxd,plainD,stays,↓prim_pick,doOp,get,ins,del,dels,Nat.reduceLT,Nat.reduceEqDiff,↓reduceIte,reduceCtorEq,ne_eq,implies_true,prim,YLD,mkA,V.cells,Nat.reduceAdd,Nat.reduceSub,Nat.reduceMul,Nat.reduceLeDiff,loadA,cellsAt,nAg,packA,List.drop,List.take,List.head?,binA,unA,eqCells,eqCell,negB,fillA,storeA,Ob.with,indexedI,V.oneCell,intOf?,resA,resA1,packR,sealDepth,Int.reduceLT,Int.reduceLE,Int.reduceToNat,Int.reduceNeg,Int.reduceAdd,Int.reduceSub,Int.reduceMul,cond_true,cond_false,Int.reduceBNe,Int.reduceBEq,eq_self,deads,List.replicate,argsF,am28,isNil,List.range_zero,hA,app_set0]
end Go.Am.T


set_option linter.unusedVariables false
set_option linter.unusedSimpArgs false
set_option linter.unusedSectionVars false
set_option maxRecDepth 10000
namespace Go.Am.T
attribute [local congr] selV_congr impB_congr
theorem sx_rangeM {E:Env} {m:Opd} {it nx ok en site:Nat} {clr kill:List Nat} {b:ACode} {t:List V} {h:Heap} {Q:Post} {x:Ob} {om:Option (Nat × Nat)} {es:List (V × V)} {r:Ex × List V × Heap} {e:Ex} {t':List V} {h':Heap}
  (hx:h[E.fb + site]? = some x) (hm:mapOf h (ev t m) = some (om,es))
  (hr:roundsM (exec E.pureF E.call E.N E.fb b) it nx ok en (.ptr (E.fb + site) (x.ver + 1) 0) es (t.set it (.ptr (E.fb + site) (x.ver + 1) 0)) ((hideM om h).set (E.fb + site) ⟨x.ver + 1,.dead⟩) = some r)
  (ha:Clo h t → AnyOrder (exec E.pureF E.call E.N E.fb b) it nx ok en (.ptr (E.fb + site) (x.ver + 1) 0) clr kill E.fb es (t.set it (.ptr (E.fb + site) (x.ver + 1) 0)) ((hideM om h).set (E.fb + site) ⟨x.ver + 1,.dead⟩) r)
  (hs:showM om es (leaveM clr kill E.fb r) = some (e,t',h')) (HQ:Q e t' h'):sx E (.rangeM m it nx ok en site clr kill b) t h Q:=by
 show wp E (.rangeM m it nx ok en site clr kill b) t h Q
 unfold wp
 simp only [exec,hx,hm,rangeC,hr,if_pos ha,hs]
 exact HQ
end Go.Am.T


set_option linter.unusedVariables false
set_option linter.unusedSimpArgs false
set_option linter.unusedSectionVars false
set_option maxRecDepth 10000
namespace Go.Am.T
attribute [local congr] selV_congr impB_congr
theorem known_spec {N n:Nat} (hN:5000 ≤ N) (hn:20 ≤ n) (h:Heap):callA am N n 7 [] h = some (.bool true,h) :=
 closed_quick pm7 (show callB am 5000 20 7 [] [] = some (.bool true,[]) by kernel_rfl) hN hn h
theorem num_spec {N n:Nat} (hn:1 ≤ n) (e:Int) (h:Heap):callA am N n 9 [.int .i64 e] h = some (.int .i64 e,h):=by
 obtain ⟨n,rfl⟩:∃ m,n = m + 1:=⟨n - 1,by omega⟩
 refine call_pure at9 rfl rfl (by decide) rfl (sx_wp ?_)
 simp +contextual -implicitDefEqProofs (maxSteps:=10000000) only [sxb,↓sxd,plainD,stays,↓prim_pick,doOp,get,ins,del,dels,Nat.reduceLT,Nat.reduceEqDiff,↓reduceIte,reduceCtorEq,ne_eq,implies_true,prim,YLD,mkA,V.cells,Nat.reduceAdd,Nat.reduceSub,Nat.reduceMul,Nat.reduceLeDiff,loadA,cellsAt,nAg,packA,List.drop,List.take,List.head?,binA,unA,eqCells,eqCell,negB,fillA,storeA,Ob.with,indexedI,V.oneCell,intOf?,resA,resA1,packR,sealDepth,Int.reduceLT,Int.reduceLE,Int.reduceToNat,Int.reduceNeg,Int.reduceAdd,Int.reduceSub,Int.reduceMul,cond_true,cond_false,Int.reduceBNe,Int.reduceBEq,eq_self,deads,List.replicate,argsF,am9]
end Go.Am.T


set_option linter.unusedVariables false
set_option linter.unusedSimpArgs false
set_option linter.unusedSectionVars false
set_option maxRecDepth 10000
namespace Go.Am.T
attribute [local congr] selV_congr impB_congr
def sg (L0:Nat) (a b:List (Int × Int)) (o:Nat):Nat:=if L0 ≤ o then (match a[o - L0]? with | some w => L0 + b.idxOf w | none => o) else o
theorem sg_low {L0:Nat} {a b:List (Int × Int)} {o:Nat} (h:o < L0):sg L0 a b o = o:=by
 unfold sg
 rw [if_neg (by omega)]
theorem sg_at {L0:Nat} {a b:List (Int × Int)} {i:Nat} {w:Int × Int} (h:a[i]? = some w):sg L0 a b (L0 + i) = L0 + b.idxOf w:=by
 unfold sg
 rw [if_pos (by omega),Nat.add_sub_cancel_left,h]
theorem idx_get {b:List (Int × Int)} {w:Int × Int} (h:w ∈ b):b[b.idxOf w]? = some w:=by
 have hl:=List.idxOf_lt_length_of_mem h
 rw [List.getElem?_eq_getElem hl,List.getElem_idxOf hl]
theorem idx_nodup {a:List (Int × Int)} (hn:a.Nodup) {i:Nat} {w:Int × Int} (h:a[i]? = some w):a.idxOf w = i:=by
 have hm:=List.mem_of_getElem? h
 have h1:=idx_get hm
 exact (List.getElem?_inj (List.getElem?_eq_some_iff.1 h1).1 hn).1 (h1.trans h.symm)
theorem sg_inv {L0:Nat} {a b:List (Int × Int)} (ha:a.Nodup) (hp:a.Perm b) (o:Nat):sg L0 b a (sg L0 a b o) = o:=by
 by_cases h:L0 ≤ o
 ·obtain ⟨i,rfl⟩:∃ i,o = L0 + i:=⟨o - L0,by omega⟩
  cases hi:a[i]? with
  | some w =>
   rw [sg_at hi,sg_at (idx_get (hp.mem_iff.1 (List.mem_of_getElem? hi))),idx_nodup ha hi]
  | none =>
   have hb:b[i]? = none:=by
    rw [List.getElem?_eq_none_iff] at hi ⊢
    rw [← hp.length_eq]
    exact hi
   have e:∀ c d:List (Int × Int),c[i]? = none → sg L0 c d (L0 + i) = L0 + i:=fun c d hc => by
    unfold sg
    rw [if_pos (by omega),Nat.add_sub_cancel_left,hc]
   rw [e a b hi,e b a hb]
 ·have h':o < L0:=by omega
  rw [sg_low (a:=a) h',sg_low h']
theorem sg_lt {L0 n:Nat} {a b:List (Int × Int)} (hp:a.Perm b) (hn:L0 + a.length ≤ n) {o:Nat} (ho:o < n):sg L0 a b o < n:=by
 by_cases h:L0 ≤ o
 ·obtain ⟨i,rfl⟩:∃ i,o = L0 + i:=⟨o - L0,by omega⟩
  cases hi:a[i]? with
  | some w =>
   rw [sg_at hi]
   have:=List.idxOf_lt_length_of_mem (hp.mem_iff.1 (List.mem_of_getElem? hi))
   have:=hp.length_eq
   omega
  | none =>
   unfold sg
   rw [if_pos (by omega),Nat.add_sub_cancel_left,hi]
   exact ho
 ·rw [sg_low (by omega)]
  exact ho
theorem sg_ren {L0 lo n:Nat} {a b:List (Int × Int)} (ha:a.Nodup) (hp:a.Perm b) (hlo:lo ≤ L0) (hn:L0 + a.length ≤ n):Ren (sg L0 a b) (sg L0 b a) lo n where
 st o _:=sg_inv ha hp o
 ts o _:=sg_inv (hp.nodup_iff.1 ha) hp.symm o
 sn o ho:=sg_lt hp hn ho
 tn o ho:=sg_lt hp.symm (by rw [← hp.length_eq]; exact hn) ho
 low o ho:=sg_low (by omega)
 le:=by omega
end Go.Am.T


set_option linter.unusedVariables false
set_option linter.unusedSimpArgs false
set_option linter.unusedSectionVars false
set_option maxRecDepth 10000
namespace Go.Am.T
attribute [local congr] selV_congr impB_congr
theorem rounds_inv {f:List V → Heap → Option (Ex × List V × Heap)} {it nx ok en:Nat} {itv:V} (Inv:Nat → List V → Heap → Prop):∀ (es:List (V × V)) (k:Nat) (t:List V) (h:Heap),Inv k t h →
  (∀ i e t h,es[i]? = some e → Inv (k + i) t h → rdyM it nx ok itv t = true ∧ ∃ t' h',f (roundM nx ok en e t) h = some (.norm,t',h') ∧ Inv (k + i + 1) t' h') → (∀ t h,Inv (k + es.length) t h → rdyM it nx ok itv t = true) →
  ∃ t' h',Inv (k + es.length) t' h' ∧ roundsM f it nx ok en itv es t h = some (.norm,overM nx ok t',h')
 | [],k,t,h,h0,_,hr => ⟨t,h,h0,by simp only [roundsM,hr t h h0]⟩
 | e :: es,k,t,h,h0,hs,hr => by
  obtain ⟨h1,t1,k1,h2,h3⟩:=hs 0 e t h rfl h0
  obtain ⟨t',h',i1,i2⟩:=rounds_inv Inv es (k + 1) t1 k1 h3 (fun i e' t h hi hI => by
   have:=hs (i + 1) e' t h (by simpa using hi) (by rw [show k + (i + 1) = k + 1 + i by omega]; exact hI)
   rwa [show k + (i + 1) + 1 = k + 1 + i + 1 by omega] at this) (fun t h hI => hr t h (by rw [List.length_cons,show k + (es.length + 1) = k + 1 + es.length by omega]; exact hI))
  refine ⟨t',h',by rw [List.length_cons,show k + (es.length + 1) = k + 1 + es.length by omega]; exact i1,?_⟩
  simp only [roundsM,h1,h2]
  exact i2
theorem sx_exec {E:Env} {b:ACode} {t:List V} {h:Heap} {P:List V → Heap → Prop} (H:sx E b t h fun e t' h' => e = .norm ∧ P t' h'):∃ t' h',exec E.pureF E.call E.N E.fb b t h = some (.norm,t',h') ∧ P t' h':=by
 have H1:=sx_wp H
 unfold wp at H1
 split at H1
 case h_2 => exact H1.elim
 rename_i e t1 h1 he
 obtain ⟨rfl,hp⟩:=H1
 exact ⟨t1,h1,he,hp⟩
theorem rdy_fr {it nx ok n:Nat} {l:List (Nat × V)} {v:V} (hi:it < n) (hg:V.same (get l it) v = true) (h1:nx < n) (h2:ok < n):rdyM it nx ok v (fr n l) = true:=by
 unfold rdyM
 rw [fr_getD hi,hg,fr_length]
 simp [h1,h2]
theorem round_fr {nx ok en n:Nat} {l:List (Nat × V)} {e:V × V}:roundM nx ok en e (fr n l) = fr n (ins en (.tup [e.1,e.2]) (ins ok (.bool true) (ins nx (.tup [.bool true,e.1,e.2]) l))):=by
 unfold roundM
 rw [fr_set,fr_set,fr_set]
theorem over_fr {nx ok n:Nat} {l:List (Nat × V)}:overM nx ok (fr n l) = fr n (ins ok (.bool false) (ins nx (.tup [.bool false]) l)):=by
 unfold overM
 rw [fr_set,fr_set]
theorem clean_am:cleanP am = true:=by kernel_rfl
theorem frame_app {N n:Nat} {f:FuncId} {args:List V} {v:V} {K T:Heap} {R:List Nat} (hm:pureOf am f = .keep) (hR:reachC K (V.objsL args) = R) (hcl:∀ o ∈ R,∀ y,K[o]? = some y → (∀ i ∈ y.bd.objs,i ∈ R) ∧ y.bd.plainBd = true)
  (hc:callA am N n f args (keepOnly R K) = some (v,keepOnly R K ++ T)) (hy:f ≠ YLD:=by decide):frameC (pureOf am) (callA am N n) f args K = some (v,K ++ T):=by
 obtain ⟨e1,e2⟩:=frame_all clean_am (m:=.keep) hm (.inl rfl) hR hcl hc hy
 suffices key:mergeH R K (keepOnly R K ++ T) = K ++ T by rw [e1,key]
 apply List.ext_getElem?
 intro p
 rw [mergeH_get]
 rcases Nat.lt_or_ge p K.length with hp | hp
 ·rw [List.getElem?_append_left (by rw [keepOnly_length]; exact hp),List.getElem?_append_left hp,keepOnly_get,List.getElem?_eq_getElem hp]
  simp only [Option.map_some,inside]
  by_cases hpo:p ∈ R
  ·simp [hpo]
  ·simp [hpo,Nat.not_le.2 hp,List.getD_eq_getElem?_getD,hp]
 ·rw [List.getElem?_append_right (by rw [keepOnly_length]; exact hp),List.getElem?_append_right hp,keepOnly_length]
  cases hq:T[p - K.length]? with
  | none => rfl
  | some x => simp [inside,hp]
theorem objsL_flat {l:List V} (h:∀ v ∈ l,v.objs = []):V.objsL l = []:=by
 induction l with
 | nil => rfl
 | cons v l ih =>
  simp only [V.objsL,h v (by simp),ih fun u hu => h u (by simp [hu]),List.append_nil]
theorem clone28_framed {N n:Nat} (hn:1 ≤ n) {K:Heap} {o ver:Nat} {pre:List V} {l:List (Int × Int)} (hpre:∀ v ∈ pre,V.objs v = []) (ho:K[o]? = some ⟨ver,.arr (pre ++ flatP l)⟩) (hne:l ≠ []) (hl:l.length ≤ 4900) :
  frameC (pureOf am) (callA am N n) 28 [.view o ver pre.length l.length 2 none] K = some (.view K.length 1 0 l.length 2 none,K ++ [⟨1,.arr (flatP l)⟩]) ∧ reachC K [o] = [o]:=by
 have hno:(Bd.arr (pre ++ flatP l)).objs = []:=objsL_flat fun v hv => by
  rcases List.mem_append.1 hv with h | h
  ·exact hpre v h
  ·exact flatP_obj _ v h
 have hR:reachC K [o] = [o]:=by
  refine reachC_own (l:=[o]) fun p hp y hy i hi => ?_
  obtain rfl:p = o:=by simpa using hp
  rw [ho] at hy
  cases hy
  rw [hno] at hi
  cases hi
 refine ⟨?_,hR⟩
 have hk:(keepOnly [o] K)[o]? = some ⟨ver,.arr (pre ++ flatP l)⟩:=by rw [keepOnly_get,ho]; simp
 have hc:=@clone28 N n hn (keepOnly [o] K) (.view o ver pre.length l.length 2 none) l [o] (.inr ⟨o,ver,pre,hpre,rfl,rfl,hk⟩) hne hl
 rw [keepOnly_length] at hc
 refine frame_app pm28 (R:=[o]) hR (fun p hp y hy => ?_) hc
 obtain rfl:p = o:=by simpa using hp
 rw [ho] at hy
 cases hy
 exact ⟨fun i hi => (by rw [hno] at hi; cases hi),rfl⟩
def news (P:List Od):Heap:=P.map fun o => ⟨1,.arr (flatP o.l)⟩
def cpO (L0:Nat):List Od → List Od
 | [] => []
 | o :: l => ⟨o.w,o.l,.view L0 1 0 o.l.length 2 none,[L0]⟩ :: cpO (L0 + 1) l
def cpK (Hh:Heap) (P:List Od) (cs:List V) (q3:Ob) (xs:Heap):Heap:=Hh ++ (⟨1,.map ((cpO (Hh.length + 20) P).map Od.e)⟩ :: ⟨1,.var cs⟩ :: ⟨1,.dead⟩ :: q3 :: (xs ++ news P))
theorem cpO_snoc (o:Od):∀ (P:List Od) (L0:Nat),cpO L0 (P ++ [o]) = cpO L0 P ++ [⟨o.w,o.l,.view (L0 + P.length) 1 0 o.l.length 2 none,[L0 + P.length]⟩]
 | [],L0 => rfl
 | p :: P,L0 => by
  have:=cpO_snoc o P (L0 + 1)
  simp only [cpO,List.cons_append,this,List.length_cons]
  rw [show L0 + 1 + P.length = L0 + (P.length + 1) by omega]
theorem cpO_w:∀ (P:List Od) (L0:Nat),(cpO L0 P).map Od.w = P.map Od.w
 | [],_ => rfl
 | p :: P,L0 => by simp only [cpO,List.map_cons,cpO_w P]
theorem cpO_len:∀ (P:List Od) (L0:Nat),(cpO L0 P).length = P.length
 | [],_ => rfl
 | p :: P,L0 => by simp only [cpO,List.length_cons,cpO_len P]
theorem cpO_get:∀ {P:List Od} {L0 i:Nat} {o:Od},P[i]? = some o → (cpO L0 P)[i]? = some ⟨o.w,o.l,.view (L0 + i) 1 0 o.l.length 2 none,[L0 + i]⟩
 | p :: P,L0,0,o,h => by
  simp only [List.getElem?_cons_zero,Option.some.injEq] at h
  subst h
  rfl
 | p :: P,L0,i + 1,o,h => by
  have:=cpO_get (P:=P) (L0:=L0 + 1) (i:=i) (o:=o) (by simpa using h)
  simp only [cpO,List.getElem?_cons_succ,this]
  rw [show L0 + 1 + i = L0 + (i + 1) by omega]
theorem putO_new {o:Od} {P:List Od} (h:∀ x ∈ P,x.w ≠ o.w):putO o P = P ++ [o]:=by
 unfold putO
 have:P.any (fun x => o.w == x.w) = false:=by
  rw [List.any_eq_false]
  intro x hx
  simpa using Ne.symm (h x hx)
 rw [this]
def cpB:ACode:=(ACode.block 3 (ACode.seq (ACode.region [{ dst:=(some 42),op:=(AOp.extract (Opd.tmp 41) 0),guard:=none },{ dst:=(some 43),op:=(AOp.extract (Opd.tmp 41) 1),guard:=none },{ dst:=(some 6),op:=(AOp.allocz 3 [(V.int IntKind.i64 0),(V.int IntKind.i64 0)]),guard:=none },{ dst:=none,op:=(AOp.store 2 (Opd.tmp 6) (Opd.tmp 42)),guard:=none },{ dst:=(some 7),op:=(AOp.move (Opd.tmp 43)),guard:=none }]) (ACode.seq (ACode.draw [({ dst:=(some 44),op:=(AOp.move (Opd.tmp 3)),guard:=none },[]),({ dst:=(some 45),op:=(AOp.nilck (Opd.tmp 44)),guard:=none },[]),({ dst:=(some 46),op:=(AOp.faddr 17 (Opd.tmp 45)),guard:=none },[]),({ dst:=(some 47),op:=(AOp.load none (Opd.tmp 46)),guard:=none },[]),({ dst:=(some 48),op:=(AOp.load (some 2) (Opd.tmp 6)),guard:=none },[]),({ dst:=(some 49),op:=(AOp.move (Opd.tmp 7)),guard:=none },[]),({ dst:=(some 50),op:=(AOp.call 28 [(Opd.tmp 49)]),guard:=none },[3,4]),({ dst:=none,op:=(AOp.mput true [(CK.i IntKind.i64),(CK.i IntKind.i64)] (Opd.tmp 47) (Opd.tmp 48) (Opd.tmp 50)),guard:=none },[])]) (ACode.clr [50,49,48,47,46,45,44,7,6]))))
def cpT (L a m:Nat):List (Nat × V):=[(0,.ptr a 1 0),(3,.ptr (L + 1) 1 0),(34,.ptr a 1 0),(35,.ptr a 1 0),(36,.ptr a 1 17),(37,.map m 1),(38,.ptr (L + 2) 1 0)]
theorem cp_round {N n:Nat} (hn:1 ≤ n) {Hh:Heap} {a m:Nat} {P:List Od} {o:Od} {cs:List V} {b:Bd} {xs:Heap} {J:List (Nat × V)} (hJ:J = [] ∨ ∃ v1 v2 v3 v4 v5,J = [(39,v1),(40,v2),(41,v3),(42,v4),(43,v5)])
  (hcl:cs.length = 18) (hcm:(cs.drop 17).take 1 = [.map Hh.length 1]) (hx:xs.length = 16) (hk:∀ x ∈ P,x.w ≠ o.w) (hr:ORow Hh o.W o.l o.R) (hne:o.l ≠ []) (hl:o.l.length ≤ 4900) :
  ∃ t' h',exec (pureOf am) (callA am N n) N Hh.length cpB (roundM 39 40 41 o.e (fr 52 (cpT Hh.length a m ++ J))) (cpK Hh P cs ⟨P.length,b⟩ xs) = some (.norm,t',h') ∧
   ∃ J' b',t' = fr 52 (cpT Hh.length a m ++ J') ∧ (J' = [] ∨ ∃ v1 v2 v3 v4 v5,J' = [(39,v1),(40,v2),(41,v3),(42,v4),(43,v5)]) ∧ h' = cpK Hh (P ++ [o]) cs ⟨P.length + 1,b'⟩ xs:=by
 refine @sx_exec ⟨pureOf am,callA am N n,N,Hh.length⟩ _ _ _ _ ?_
 obtain ⟨w1,w2,w3,w4,w5,w6⟩:=hr.shape
 rcases hr with ⟨h0,-,-⟩ | ⟨oo,ver,pre,hpre,hR,hW,ho⟩
 ·exact absurd h0 hne
 have hobb:o.W.objs = [oo]:=by rw [hW]; rfl
 have hol:=lt_of_get ho
 have kk:∀ l:Heap,(Hh ++ l)[oo]? = some ⟨ver,.arr (pre ++ flatP o.l)⟩:=fun l => by rw [List.getElem?_append_left hol]; exact ho
 have c28:∀ l:Heap,frameC (pureOf am) (callA am N n) 28 [o.W] (Hh ++ l) = some (.view (Hh ++ l).length 1 0 o.l.length 2 none,(Hh ++ l) ++ [⟨1,.arr (flatP o.l)⟩]) ∧ reachC (Hh ++ l) [oo] = [oo]:=fun l => by
  rw [hW]; exact clone28_framed hn hpre (kk l) hne hl
 have f28:∀ l:Heap,({ pureF:=pureOf am,call:=callA am N n,N:=N,fb:=Hh.length }:Env).framed.call 28 [o.W] (Hh ++ l) = some (.view (Hh.length + l.length) 1 0 o.l.length 2 none,Hh ++ (l ++ [⟨1,.arr (flatP o.l)⟩])):=fun l => by
  have:=(c28 l).1
  rw [List.append_assoc,List.length_append] at this
  exact this
 have hR28:=fun l => (c28 l).2
 rw [round_fr]
 unfold cpK cpB
 have mp:=mput_w (get:=fun x => (Hh ++ (⟨1,.map ((cpO (Hh.length + 20) P).map Od.e)⟩ :: ⟨1,.var cs⟩ :: ⟨1,.dead⟩ :: ⟨P.length + 1,.var (pcs o.w)⟩ :: (xs ++ (news P ++ [⟨1,.arr (flatP o.l)⟩]))))[x]?) (m:=Hh.length) (by rw [app_get0]; rfl) ⟨o.w,o.l,.view (Hh.length + 20 + P.length) 1 0 o.l.length 2 none,[Hh.length + 20 + P.length]⟩
 have hnew:∀ x ∈ cpO (Hh.length + 20) P,x.w ≠ o.w:=fun x hx => by
  have:x.w ∈ P.map Od.w:=by rw [← cpO_w P (Hh.length + 20)]; exact List.mem_map_of_mem hx
  obtain ⟨y,hy,e⟩:=List.mem_map.1 this
  rw [← e]; exact hk y hy
 rw [putO_new (o:=⟨o.w,o.l,.view (Hh.length + 20 + P.length) 1 0 o.l.length 2 none,[Hh.length + 20 + P.length]⟩) hnew,← cpO_snoc o P (Hh.length + 20)] at mp
 have hnw:news (P ++ [o]) = news P ++ [⟨1,.arr (flatP o.l)⟩]:=by simp [news]
 have hnl:(news P).length = P.length:=by simp [news]
 have hcm':List.take 1 (List.drop 17 cs) = [.map Hh.length 1]:=hcm
 rw [hnw]
 obtain ⟨⟨nd,ep⟩,ol,oW,oR⟩:=o
 unfold Od.e kw pcs at *
 simp only at *
 generalize hES:List.map (fun o => (V.agg [V.int IntKind.i64 o.w.fst,V.int IntKind.i64 o.w.snd],o.W)) (cpO (Hh.length + 20) P) = ES at *
 generalize hES':List.map (fun o => (V.agg [V.int IntKind.i64 o.w.fst,V.int IntKind.i64 o.w.snd],o.W)) (cpO (Hh.length + 20) (P ++ [⟨(nd,ep),ol,oW,oR⟩])) = ES' at *
 have hvl:Hh.length + (16 + P.length + 1 + 1 + 1 + 1) = Hh.length + 20 + P.length:=by omega
 have n1:(oo == Hh.length + 1) = false:=beq_eq_false_iff_ne.2 (by omega)
 have n3:(oo == Hh.length + 3) = false:=beq_eq_false_iff_ne.2 (by omega)
 have n0:(oo == Hh.length) = false:=beq_eq_false_iff_ne.2 (by omega)
 rcases hJ with rfl | ⟨v1,v2,v3,v4,v5,rfl⟩ <;>
 ·unfold cpT
  simp +contextual -implicitDefEqProofs (maxSteps:=10000000) only [sxb,↓sxd,plainD,stays,↓prim_pick,doOp,get,ins,del,dels,Nat.reduceLT,Nat.reduceEqDiff,↓reduceIte,reduceCtorEq,ne_eq,implies_true,prim,YLD,mkA,V.cells,Nat.reduceAdd,Nat.reduceSub,Nat.reduceMul,Nat.reduceLeDiff,loadA,cellsAt,nAg,packA,List.drop,List.take,List.head?,binA,unA,eqCells,eqCell,negB,fillA,storeA,Ob.with,indexedI,V.oneCell,intOf?,resA,resA1,packR,sealDepth,Int.reduceLT,Int.reduceLE,Int.reduceToNat,Int.reduceNeg,Int.reduceAdd,Int.reduceSub,Int.reduceMul,cond_true,cond_false,Int.reduceBNe,Int.reduceBEq,eq_self,deads,List.replicate,argsF,sx_drawd,reachC_nil,wpd_nil,wpd_cons,wpd_gt,wpd_gf,wpd_gu,wdK_def,fpOf,fpV,fpCall,Fp.ok,okT_of,okT_rd_io,okT_rd_call,okT_rd_bar,tagP_io,tagP_bar,tagP_call,tagF,AOp.rds,disj,List.contains_cons,List.contains_nil,Nat.reduceBEq,List.all_append,V.objsL,V.objs, List.getD_cons_zero,List.getD_cons_succ,List.append_nil,app_get0,app_get,app_set0,app_set,f28,hR28,hobb,pm28,hcl,hcm',w1,List.append_assoc,hx,hnl,List.length_append,hvl,mp,n0,n1,n3]
  exact ⟨_,_,rfl,.inr ⟨_,_,_,_,_,rfl⟩,rfl⟩
def cpClr:List Nat:=[50,49,48,47,46,45,44,43,42,41,40,39,7,6]
theorem cp_rounds {N n:Nat} (hn:1 ≤ n) {Hh:Heap} {a m:Nat} {P:List Od} {cs:List V} {xs:Heap} (hcl:cs.length = 18) (hcm:(cs.drop 17).take 1 = [.map Hh.length 1]) (hx:xs.length = 16) (hk:(P.map Od.w).Nodup) (hr:∀ o ∈ P,ORow Hh o.W o.l o.R ∧ o.l ≠ [] ∧ o.l.length ≤ 4900) :
  ∃ r,roundsM (exec (pureOf am) (callA am N n) N Hh.length cpB) 38 39 40 41 (.ptr (Hh.length + 2) 1 0) (P.map Od.e) (fr 52 (cpT Hh.length a m)) (cpK Hh [] cs ⟨0,.dead⟩ xs) = some r ∧
   leaveM cpClr [3] Hh.length r = (.norm,fr 52 (cpT Hh.length a m),cpK Hh P cs ⟨P.length,.dead⟩ xs):=by
 have rdy:∀ J:List (Nat × V),(J = [] ∨ ∃ v1 v2 v3 v4 v5,J = [(39,v1),(40,v2),(41,v3),(42,v4),(43,v5)]) → rdyM 38 39 40 (.ptr (Hh.length + 2) 1 0) (fr 52 (cpT Hh.length a m ++ J)) = true:=fun J hJ =>
  rdy_fr (by decide) (by rcases hJ with rfl | ⟨v1,v2,v3,v4,v5,rfl⟩ <;> simp [cpT,get,V.same]) (by decide) (by decide)
 obtain ⟨t',h',⟨J,b,rfl,hJ,rfl⟩,hrs⟩:=rounds_inv (f:=exec (pureOf am) (callA am N n) N Hh.length cpB) (it:=38) (nx:=39) (ok:=40) (en:=41) (itv:=.ptr (Hh.length + 2) 1 0)
  (fun i t h => ∃ J b,t = fr 52 (cpT Hh.length a m ++ J) ∧ (J = [] ∨ ∃ v1 v2 v3 v4 v5,J = [(39,v1),(40,v2),(41,v3),(42,v4),(43,v5)]) ∧ h = cpK Hh (P.take i) cs ⟨i,b⟩ xs) (P.map Od.e) 0 (fr 52 (cpT Hh.length a m)) (cpK Hh [] cs ⟨0,.dead⟩ xs)
  ⟨[],.dead,by rw [List.append_nil],.inl rfl,by rw [List.take_zero]⟩ (fun i e t h hi hI => by
   obtain ⟨J,b,rfl,hJ,rfl⟩:=hI
   rw [Nat.zero_add]
   refine ⟨rdy J hJ,?_⟩
   rw [List.getElem?_map,Option.map_eq_some_iff] at hi
   obtain ⟨o,ho,rfl⟩:=hi
   have hil:=(List.getElem?_eq_some_iff.1 ho).1
   obtain ⟨r1,r2,r3⟩:=hr o (List.mem_of_getElem? ho)
   have htl:(P.take i).length = i:=by rw [List.length_take]; omega
   have hts:P.take (i + 1) = P.take i ++ [o]:=by rw [List.take_add_one,ho]; rfl
   have:=@cp_round N n hn Hh a m (P.take i) o cs b xs J hJ hcl hcm hx (fun x hx e => by
    obtain ⟨j,hj⟩:=List.getElem?_of_mem hx
    have hji:j < i:=by have:=(List.getElem?_eq_some_iff.1 hj).1; omega
    rw [List.getElem?_take_of_lt hji] at hj
    have:=same_od hk hj ho e
    omega) r1 r2 r3
   rw [htl,← hts] at this
   obtain ⟨t',h',c1,J',b',e1,e2,e3⟩:=this
   exact ⟨t',h',c1,J',b',e1,e2,e3⟩) (fun t h hI => by
   obtain ⟨J,b,rfl,hJ,rfl⟩:=hI
   exact rdy J hJ)
 refine ⟨_,hrs,?_⟩
 rw [Nat.zero_add,List.length_map,List.take_length]
 unfold leaveM
 simp only [over_fr,cpClr,fr_clear]
 have hk3:∀ v b,killA Hh.length [3] (cpK Hh P cs ⟨v,b⟩ xs) = cpK Hh P cs ⟨v,.dead⟩ xs:=fun v b => by
  unfold killA cpK
  simp only [List.foldl_cons,List.foldl_nil,app_get,List.getElem?_cons_succ,List.getElem?_cons_zero,app_set,List.set_cons_succ,List.set_cons_zero]
 rw [hk3]
 rcases hJ with rfl | ⟨v1,v2,v3,v4,v5,rfl⟩ <;> simp [cpT,ins,dels,del]
end Go.Am.T


set_option linter.unusedVariables false
set_option linter.unusedSimpArgs false
set_option linter.unusedSectionVars false
set_option maxRecDepth 10000
namespace Go.Am.T
attribute [local congr] selV_congr impB_congr
mutual
theorem V.ren_same {σ:Nat → Nat}:∀ (v:V),(∀ o ∈ v.objs,σ o = o) → v.ren σ = v
 | .junk,_ => rfl
 | .bool _,_ => rfl
 | .int _ _,_ => rfl
 | .str _,_ => rfl
 | .nilp,_ => rfl
 | .ptr o v f,h => by simp only [V.ren,h o (by simp [V.objs])]
 | .iptr cs f,h => by simp only [V.ren,V.renL_same cs fun o ho => h o (by simpa [V.objs] using ho)]
 | .nils,_ => rfl
 | .view o v f l s c,h => by simp only [V.ren,h o (by simp [V.objs])]
 | .vend o v s,h => by simp only [V.ren,h o (by simp [V.objs])]
 | .sl L s c,h => by simp only [V.ren,V.renL_same L fun o ho => h o (by simpa [V.objs] using ho)]
 | .nilm,_ => rfl
 | .map o v,h => by simp only [V.ren,h o (by simp [V.objs])]
 | .nilf,_ => rfl
 | .func f x y,h => by simp only [V.ren,V.renL_same x fun o ho => h o (by simp [V.objs,ho]),V.renL_same y fun o ho => h o (by simp [V.objs,ho])]
 | .yld o v,h => by simp only [V.ren,h o (by simp [V.objs])]
 | .nili,_ => rfl
 | .iface t v,h => by simp only [V.ren,V.ren_same v fun o ho => h o (by simpa [V.objs] using ho)]
 | .agg cs,h => by simp only [V.ren,V.renL_same cs fun o ho => h o (by simpa [V.objs] using ho)]
 | .tup cs,h => by simp only [V.ren,V.renL_same cs fun o ho => h o (by simpa [V.objs] using ho)]
 termination_by structural v => v
theorem V.renL_same {σ:Nat → Nat}:∀ (l:List V),(∀ o ∈ V.objsL l,σ o = o) → V.renL σ l = l
 | [],_ => rfl
 | v :: l,h => by simp only [V.renL,V.ren_same v fun o ho => h o (by simp [V.objsL,ho]),V.renL_same l fun o ho => h o (by simp [V.objsL,ho])]
 termination_by structural l => l
end
theorem map_ren_same {σ:Nat → Nat} {l:List V} (h:∀ o ∈ V.objsL l,σ o = o):l.map (V.ren σ) = l:=by rw [← renL_map]; exact V.renL_same l h
theorem BdEq.same {σ:Nat → Nat} {b:Bd} (hl:b.lives = true) (h:∀ o ∈ b.objs,σ o = o):BdEq σ b b:=by
 cases b with
 | dead => cases hl
 | var cs => exact (map_ren_same h).symm
 | arr cs => exact (map_ren_same h).symm
 | map es =>
  have key:∀ e ∈ es,e.1.ren σ = e.1 ∧ e.2.ren σ = e.2:=fun e he =>
   ⟨V.ren_same _ fun o ho => h o (List.mem_flatMap.2 ⟨e,he,by simp [ho]⟩),V.ren_same _ fun o ho => h o (List.mem_flatMap.2 ⟨e,he,by simp [ho]⟩)⟩
  refine ⟨fun e he => (key e he).1,?_⟩
  have:es.map (fun e => (e.1,e.2.ren σ)) = es:=by
   rw [List.map_congr_left (g:=id) fun e he => by rw [(key e he).2]; rfl]
   simp
  rw [this]
 | loop st p t fb f k => exact ⟨rfl,rfl,rfl,rfl,(map_ren_same h).symm⟩
theorem perm_map {f:Od → V × V} {π es:List (V × V)} (hp:π.Perm es):∀ O:List Od,es = O.map f → ∃ P:List Od,P.Perm O ∧ π = P.map f:=by
 induction hp with
 | nil =>
  intro O h
  cases O with
  | nil => exact ⟨[],List.Perm.nil,rfl⟩
  | cons _ _ => cases h
 | cons x _ ih =>
  intro O h
  cases O with
  | nil => cases h
  | cons o O =>
   simp only [List.map_cons,List.cons.injEq] at h
   obtain ⟨P,h1,rfl⟩:=ih O h.2
   exact ⟨o :: P,h1.cons o,by rw [h.1]; rfl⟩
 | swap x y l =>
  intro O h
  match O,h with
  | o :: q :: O,h =>
   simp only [List.map_cons,List.cons.injEq] at h
   obtain ⟨rfl,rfl,rfl⟩:=h
   exact ⟨q :: o :: O,List.Perm.swap o q O,rfl⟩
 | trans _ _ ih1 ih2 =>
  intro O h
  obtain ⟨P,h1,e1⟩:=ih2 O h
  obtain ⟨Q,h2,e2⟩:=ih1 P e1
  exact ⟨Q,h2.trans h1,e2⟩
theorem cpK_split (Hh:Heap) (P:List Od) (cs:List V) (q3:Ob) (xs:Heap):cpK Hh P cs q3 xs = (cpK Hh [] cs q3 xs).set Hh.length ⟨1,.map ((cpO (Hh.length + 20) P).map Od.e)⟩ ++ news P:=by
 unfold cpK
 rw [app_set0]
 simp [news]
theorem cpO_e (L0:Nat) (P:List Od) (hn:(P.map Od.w).Nodup) (O:List Od) (hp:P.Perm O):(cpO L0 P).map (fun o => ((o.e).1,(o.e).2.ren (sg L0 (P.map Od.w) (O.map Od.w)))) = P.map fun o => (kw o.w,.view (L0 + (O.map Od.w).idxOf o.w) 1 0 o.l.length 2 none):=by
 apply List.ext_getElem?
 intro i
 rw [List.getElem?_map,List.getElem?_map]
 cases hi:P[i]? with
 | none => rw [List.getElem?_eq_none (by rw [cpO_len]; exact List.getElem?_eq_none_iff.1 hi)]; rfl
 | some o =>
  rw [cpO_get hi]
  simp only [Option.map_some,Od.e,V.ren]
  rw [sg_at (w:=o.w) (by rw [List.getElem?_map,hi]; rfl)]
theorem cpO_e' (L0:Nat) (O:List Od) (hn:(O.map Od.w).Nodup):(cpO L0 O).map Od.e = O.map fun o => (kw o.w,.view (L0 + (O.map Od.w).idxOf o.w) 1 0 o.l.length 2 none):=by
 apply List.ext_getElem?
 intro i
 rw [List.getElem?_map,List.getElem?_map]
 cases hi:O[i]? with
 | none => rw [List.getElem?_eq_none (by rw [cpO_len]; exact List.getElem?_eq_none_iff.1 hi)]; rfl
 | some o =>
  rw [cpO_get hi]
  simp only [Option.map_some,Od.e]
  rw [idx_nodup hn (i:=i) (w:=o.w) (by rw [List.getElem?_map,hi]; rfl)]
theorem cp_alike {Hh:Heap} {a m:Nat} {P O:List Od} {cs:List V} {xs:Heap} (hx:xs.length = 16) (hk:(O.map Od.w).Nodup) (hp:P.Perm O) (ha:a < Hh.length) (hm:m < Hh.length)
  (hclo:∀ (o:Nat) (x:Ob),(cpK Hh [] cs ⟨P.length,.dead⟩ xs)[o]? = some x → x.bd.lives = true → ∀ i ∈ x.bd.objs,i < Hh.length + 20) :
  Alike (Hh.length + 20) (.norm,fr 52 (cpT Hh.length a m),cpK Hh P cs ⟨P.length,.dead⟩ xs) (.norm,fr 52 (cpT Hh.length a m),cpK Hh O cs ⟨O.length,.dead⟩ xs):=by
 have hkP:(P.map Od.w).Nodup:=(hp.map Od.w).nodup_iff.2 hk
 have hpw:(P.map Od.w).Perm (O.map Od.w):=hp.map Od.w
 have hlen:=hp.length_eq
 have hl0:(cpK Hh [] cs ⟨P.length,.dead⟩ xs).length = Hh.length + 20:=by simp [cpK,news,hx]
 obtain ⟨σ,eσ⟩:∃ σ,σ = sg (Hh.length + 20) (P.map Od.w) (O.map Od.w):=⟨_,rfl⟩
 obtain ⟨τ,eτ⟩:∃ τ,τ = sg (Hh.length + 20) (O.map Od.w) (P.map Od.w):=⟨_,rfl⟩
 have lowσ:∀ o,o < Hh.length + 20 → σ o = o:=fun o ho => by rw [eσ]; exact sg_low ho
 have lowτ:∀ o,o < Hh.length + 20 → τ o = o:=fun o ho => by rw [eτ]; exact sg_low ho
 refine ⟨rfl,σ,τ,?_,?_,?_,?_⟩
 ·rw [eσ,eτ]
  exact sg_ren hkP hpw (Nat.le_refl _) (by rw [cpK_split]; simp [hl0,news])
 ·show fr 52 _ = (fr 52 _).map _
  refine (map_ren_same fun o ho => lowσ o ?_).symm
  have:∀ v ∈ fr 52 (cpT Hh.length a m),∀ o ∈ v.objs,o < Hh.length + 20:=by
   intro v hv o ho
   unfold fr at hv
   obtain ⟨i,-,rfl⟩:=List.mem_map.1 hv
   unfold cpT at ho
   simp only [get] at ho
   repeat' split at ho
   all_goals simp [V.objs] at ho
   all_goals omega
  obtain ⟨v,hv,hov⟩:∃ v ∈ fr 52 (cpT Hh.length a m),o ∈ v.objs:=by
   generalize fr 52 (cpT Hh.length a m) = l at ho
   clear this
   induction l with
   | nil => cases ho
   | cons v l ih =>
    simp only [V.objsL,List.mem_append] at ho
    rcases ho with h | h
    ·exact ⟨v,by simp,h⟩
    ·obtain ⟨u,hu,hou⟩:=ih h
     exact ⟨u,by simp [hu],hou⟩
  exact this v hv o hov
 ·simp only
  rw [cpK_split,cpK_split Hh P]
  simp [news,cpK,hlen]
 ·intro o y hy
  simp only at hy ⊢
  rw [cpK_split,← hlen] at hy
  rw [cpK_split]
  rcases Nat.lt_or_ge o (Hh.length + 20) with ho | ho
  ·rw [lowτ o ho]
   rw [List.getElem?_append_left (by rw [List.length_set,hl0]; exact ho)] at hy ⊢
   by_cases e:o = Hh.length
   ·subst e
    rw [List.getElem?_set_self (by rw [hl0]; omega)] at hy ⊢
    cases hy
    refine ⟨_,rfl,rfl,fun _ => ⟨fun e he => ?_,?_⟩⟩
    ·obtain ⟨x,-,rfl⟩:=List.mem_map.1 he
     rfl
    ·rw [List.map_map]
     have h1:=cpO_e (Hh.length + 20) P hkP O hp
     have h2:=cpO_e' (Hh.length + 20) O hk
     rw [← eσ] at h1
     rw [show ((fun e:V × V => (e.1,e.2.ren σ)) ∘ Od.e) = fun o => ((o.e).1,(o.e).2.ren σ) from rfl,h1,h2]
     exact (hp.map _).symm
   ·rw [List.getElem?_set_ne (Ne.symm e)] at hy ⊢
    exact ⟨y,hy,rfl,fun hl => BdEq.same hl fun i hi => lowσ i (hclo o y hy hl i hi)⟩
  ·obtain ⟨i,rfl⟩:∃ i,o = Hh.length + 20 + i:=⟨o - (Hh.length + 20),by omega⟩
   rw [List.getElem?_append_right (by rw [List.length_set,hl0]; omega),List.length_set,hl0,Nat.add_sub_cancel_left] at hy
   unfold news at hy
   rw [List.getElem?_map,Option.map_eq_some_iff] at hy
   obtain ⟨q,hq,rfl⟩:=hy
   have hqw:(O.map Od.w)[i]? = some q.w:=by rw [List.getElem?_map,hq]; rfl
   have hqP:=idx_get (hpw.mem_iff.2 (List.mem_of_getElem? hqw))
   rw [eτ,sg_at hqw,List.getElem?_append_right (by rw [List.length_set,hl0]; omega),List.length_set,hl0,Nat.add_sub_cancel_left]
   generalize (P.map Od.w).idxOf q.w = j at hqP
   rw [List.getElem?_map,Option.map_eq_some_iff] at hqP
   obtain ⟨r,hr,hrw⟩:=hqP
   have hrO:r ∈ O:=hp.mem_iff.1 (List.mem_of_getElem? hr)
   obtain ⟨i',hi'⟩:=List.getElem?_of_mem hrO
   have:=same_od hk hi' hq hrw
   subst this
   rw [hq] at hi'
   cases hi'
   refine ⟨⟨1,.arr (flatP q.l)⟩,by unfold news; rw [List.getElem?_map,hr]; rfl,rfl,fun _ => BdEq.same rfl fun x hx => ?_⟩
   have:(Bd.arr (flatP q.l)).objs = []:=objsL_flat (flatP_obj _)
   rw [this] at hx
   cases hx
end Go.Am.T


set_option linter.unusedVariables false
set_option linter.unusedSimpArgs false
set_option linter.unusedSectionVars false
set_option maxRecDepth 10000
namespace Go.Am.T
attribute [local congr] selV_congr impB_congr
theorem am10_wp {N n:Nat} {args:List V} {h:Heap} {C:V → Heap → Prop} (ha:args.length = 1) (H:sx ⟨pureOf am,callA am N n,N,h.length⟩ am10.body (fr am10.nt (argsF 0 args)) (h ++ deads am10.sites) (retQ am10.res C)):∃ v h',callA am N (n + 1) 10 args h = some (v,h') ∧ C v h' :=
 call_keep at10 rfl ha (by decide) (sx_wp H)
def z16:List Pg:=List.replicate 16 ⟨[],.nils,[]⟩
structure CpI (H:Heap) (Q:List Pg) (nn:Int) (p:Nat) (Qc:List Pg) (xs:Heap):Prop where
 q16:Qc.length = 16
 xl:xs.length = p
 old:∀ j q,p ≤ j → Qc[j]? = some q → q = ⟨[],.nils,[]⟩
 new:∀ j q,j < p → Qc[j]? = some q → ∃ r,Q[j]? = some r ∧ q.l = r.l ∧ (∀ o ∈ q.R,o = H.length + 4 + j) ∧ ∀ x0 x1 x2 x3:Ob,PRow (H ++ ([x0,x1,x2,x3] ++ xs)) q.W q.l q.R
theorem CpI.next {H:Heap} {Q:List Pg} {nn:Int} {p:Nat} {Qc:List Pg} {xs:Heap} (C:CpI H Q nn p Qc xs) (hp:p < 16) {q r:Pg} (hq:Q[p]? = some q) (hr:r.l = q.l) (ho:∀ o ∈ r.R,o = H.length + 4 + p) {x:Ob} (hx:∀ x0 x1 x2 x3:Ob,PRow (H ++ ([x0,x1,x2,x3] ++ (xs ++ [x]))) r.W r.l r.R) :
  CpI H Q nn (p + 1) (Qc.set p r) (xs ++ [x]):=by
 have hpl:p < Qc.length:=by rw [C.q16]; exact hp
 refine ⟨by simp [C.q16],by simp [C.xl],fun j q' hj hq' => ?_,fun j q' hj hq' => ?_⟩
 ·rw [List.getElem?_set_ne (by omega)] at hq'
  exact C.old j q' (by omega) hq'
 ·by_cases e:p = j
  ·subst e
   rw [List.getElem?_set_self hpl] at hq'
   cases hq'
   exact ⟨q,hq,hr,ho,hx⟩
  ·rw [List.getElem?_set_ne e] at hq'
   obtain ⟨s,h1,h2,h3,h4⟩:=C.new j q' (by omega) hq'
   refine ⟨s,h1,h2,h3,fun x0 x1 x2 x3 => (h4 x0 x1 x2 x3).keep fun o ho' => ?_⟩
   have e1:H ++ ([x0,x1,x2,x3] ++ (xs ++ [x])) = (H ++ ([x0,x1,x2,x3] ++ xs)) ++ [x]:=by simp
   rw [e1,List.getElem?_append_left]
   have:=h3 o ho'
   have:=C.xl
   simp
   omega
def cpH (H:Heap) (es:List (V × V)) (cs:List V) (x2 x3:Ob) (xs:Heap):Heap:=H ++ ([⟨1,.map es⟩,⟨1,.var cs⟩,x2,x3] ++ xs)
def cpF (H:Heap) (O:List Od) (cs:List V) (xs:Heap):Heap:=H ++ (⟨1,.map ((cpO (H.length + 20) O).map Od.e)⟩ :: ⟨1,.var cs⟩ :: ⟨1,.dead⟩ :: ⟨O.length,.dead⟩ :: (xs ++ news O))
theorem hide_eq {H:Heap} {m:Nat} (hm:m < H.length) (cs:List V) (xs:Heap) :
  ((H ++ (⟨1,.map []⟩ :: ⟨1,.var cs⟩ :: ⟨0,.dead⟩ :: ⟨0,.dead⟩ :: xs)).set m ⟨1,.dead⟩).set (H.length + 2) ⟨1,.dead⟩ = cpK (H.set m ⟨1,.dead⟩) [] cs ⟨0,.dead⟩ xs:=by
 unfold cpK
 rw [List.set_append_left _ _ hm]
 have:H.length = (H.set m ⟨1,.dead⟩).length:=by simp
 rw [this,app_set]
 simp [news,cpO]
theorem live_set {h:Heap} {i v o:Nat} {x:Ob} (hx:(h.set i ⟨v,.dead⟩)[o]? = some x) (hl:x.bd.lives = true):h[o]? = some x:=by
 by_cases e:i = o
 ·subst e
  rcases Nat.lt_or_ge i h.length with k | k
  ·rw [List.getElem?_set_self k] at hx
   cases hx
   cases hl
  ·rw [List.getElem?_eq_none (by simpa using k)] at hx
   cases hx
 ·rwa [List.getElem?_set_ne e] at hx
theorem hide_eq3 {H:Heap} {m:Nat} (hm:m < H.length) (cs:List V) (xs:Heap) (k:Nat) :
  (((H ++ (⟨1,.map []⟩ :: ⟨1,.var cs⟩ :: ⟨0,.dead⟩ :: ⟨0,.dead⟩ :: xs)).set m ⟨1,.dead⟩).set (H.length + 2) ⟨1,.dead⟩).set (H.length + 3) ⟨k,.dead⟩ = cpK (H.set m ⟨1,.dead⟩) [] cs ⟨k,.dead⟩ xs:=by
 rw [hide_eq hm]
 unfold cpK
 have:H.length = (H.set m ⟨1,.dead⟩).length:=by simp
 rw [this,app_set]
 rfl
theorem show_eq {H:Heap} {m:Nat} {es:List (V × V)} (hm:H[m]? = some ⟨1,.map es⟩) (O:List Od) (cs:List V) (xs:Heap) :
  (cpK (H.set m ⟨1,.dead⟩) O cs ⟨O.length,.dead⟩ xs)[m]? = some ⟨1,.dead⟩ ∧ (cpK (H.set m ⟨1,.dead⟩) O cs ⟨O.length,.dead⟩ xs).set m ⟨1,.map es⟩ = cpF H O cs xs:=by
 have hl:=lt_of_get hm
 unfold cpK cpF
 refine ⟨by rw [List.getElem?_append_left (by simp; exact hl),List.getElem?_set_self hl],?_⟩
 rw [List.set_append_left _ _ (by simp; exact hl),List.set_set,List.length_set]
 have:H.set m ⟨1,.map es⟩ = H:=by
  apply List.ext_getElem?
  intro i
  by_cases e:m = i
  ·subst e; rw [List.getElem?_set_self hl,hm]
  ·rw [List.getElem?_set_ne e]
 rw [this]
theorem cp_md {H:Heap} {nn:Int} {Q Qc:List Pg} {O:List Od} {xs:Heap} (C:CpI H Q nn 16 Qc xs) (hq16:Q.length = 16) (hk:(O.map Od.w).Nodup) :
  MdAt (cpF H O (mcs Qc nn H.length) xs) (H.length + 1) H.length nn Qc (cpO (H.length + 20) O) ∧ (∀ x,Own (H.length + 1) H.length Qc (cpO (H.length + 20) O) x → H.length ≤ x) ∧ Qc.map Pg.l = Q.map Pg.l:=by
 have hx:=C.xl
 have hQ:∀ j q,Qc[j]? = some q → ∃ r,Q[j]? = some r ∧ q.l = r.l ∧ (∀ o ∈ q.R,o = H.length + 4 + j) ∧ ∀ x0 x1 x2 x3:Ob,PRow (H ++ ([x0,x1,x2,x3] ++ xs)) q.W q.l q.R:=fun j q hq =>
  C.new j q (by have:=(List.getElem?_eq_some_iff.1 hq).1; rw [C.q16] at this; exact this) hq
 have hO:∀ o ∈ cpO (H.length + 20) O,∃ i r,O[i]? = some r ∧ o = ⟨r.w,r.l,.view (H.length + 20 + i) 1 0 r.l.length 2 none,[H.length + 20 + i]⟩:=fun o ho => by
  obtain ⟨i,hi⟩:=List.getElem?_of_mem ho
  have hil:i < O.length:=by have:=(List.getElem?_eq_some_iff.1 hi).1; rwa [cpO_len] at this
  have hr:=List.getElem?_eq_getElem hil
  rw [cpO_get hr] at hi
  exact ⟨i,_,hr,(Option.some.inj hi).symm⟩
 have hj16:∀ {j q},Qc[j]? = some q → j < 16:=fun {j q} hq => by have:=(List.getElem?_eq_some_iff.1 hq).1; rwa [C.q16] at this
 have hQm:∀ q ∈ Qc,∃ j,Qc[j]? = some q:=fun q hq => List.getElem?_of_mem hq
 refine ⟨⟨by unfold cpF; rw [app_get]; rfl,by unfold cpF; rw [app_get0]; rfl,C.q16,fun q hq => ?_,fun o ho => ?_,fun i j q r hi hj hij x hx1 hx2 => ?_,fun i j o r hi hj hij x hx1 hx2 => ?_,fun q hq o ho x hx1 hx2 => ?_,fun q hq x hx1 hx2 => ?_,fun o ho x hx1 hx2 => ?_,by omega,by rw [cpO_w]; exact hk⟩,fun x hx => ?_,?_⟩
 ·obtain ⟨j,hj⟩:=hQm q hq
  obtain ⟨r,-,-,h3,h4⟩:=hQ j q hj
  refine (h4 ⟨1,.map ((cpO (H.length + 20) O).map Od.e)⟩ ⟨1,.var (mcs Qc nn H.length)⟩ ⟨1,.dead⟩ ⟨O.length,.dead⟩).keep fun o ho => ?_
  have e1:cpF H O (mcs Qc nn H.length) xs = (H ++ ([⟨1,.map ((cpO (H.length + 20) O).map Od.e)⟩,⟨1,.var (mcs Qc nn H.length)⟩,⟨1,.dead⟩,⟨O.length,.dead⟩] ++ xs)) ++ news O:=by simp [cpF]
  rw [e1,List.getElem?_append_left]
  have:=h3 o ho
  have:=hj16 hj
  simp
  omega
 ·obtain ⟨i,r,hr,rfl⟩:=hO o ho
  refine .inr ⟨H.length + 20 + i,1,[],fun _ h => by (cases h),rfl,rfl,?_⟩
  have e1:cpF H O (mcs Qc nn H.length) xs = (H ++ ([⟨1,.map ((cpO (H.length + 20) O).map Od.e)⟩,⟨1,.var (mcs Qc nn H.length)⟩,⟨1,.dead⟩,⟨O.length,.dead⟩] ++ xs)) ++ news O:=by simp [cpF]
  have e2:(H ++ ([(⟨1,.map ((cpO (H.length + 20) O).map Od.e)⟩:Ob),⟨1,.var (mcs Qc nn H.length)⟩,⟨1,.dead⟩,⟨O.length,.dead⟩] ++ xs)).length = H.length + 20:=by simp [hx]
  rw [e1,List.getElem?_append_right (by omega),e2,Nat.add_sub_cancel_left]
  unfold news
  rw [List.getElem?_map,hr]
  rfl
 ·obtain ⟨-,-,-,h1,-⟩:=hQ i q hi
  obtain ⟨-,-,-,h2,-⟩:=hQ j r hj
  have:=h1 x hx1
  have:=h2 x hx2
  omega
 ·obtain ⟨i',hi'⟩:∃ r,O[i]? = some r:=⟨_,List.getElem?_eq_getElem (by have:=(List.getElem?_eq_some_iff.1 hi).1; rwa [cpO_len] at this)⟩
  obtain ⟨j',hj'⟩:∃ r,O[j]? = some r:=⟨_,List.getElem?_eq_getElem (by have:=(List.getElem?_eq_some_iff.1 hj).1; rwa [cpO_len] at this)⟩
  rw [cpO_get hi'] at hi
  rw [cpO_get hj'] at hj
  cases hi
  cases hj
  simp only [List.mem_singleton] at hx1 hx2
  omega
 ·obtain ⟨j,hj⟩:=hQm q hq
  obtain ⟨-,-,-,h1,-⟩:=hQ j q hj
  obtain ⟨i,r,hr,rfl⟩:=hO o ho
  have:=h1 x hx1
  have:=hj16 hj
  simp only [List.mem_singleton] at hx2
  omega
 ·obtain ⟨j,hj⟩:=hQm q hq
  obtain ⟨-,-,-,h1,-⟩:=hQ j q hj
  have:=h1 x hx1
  simp only [List.mem_cons,List.not_mem_nil,or_false] at hx2
  omega
 ·obtain ⟨i,r,hr,rfl⟩:=hO o ho
  simp only [List.mem_singleton] at hx1
  simp only [List.mem_cons,List.not_mem_nil,or_false] at hx2
  omega
 ·rcases hx with rfl | rfl | ⟨q,hq,hx⟩ | ⟨o,ho,hx⟩
  ·omega
  ·omega
  ·obtain ⟨j,hj⟩:=hQm q hq
   obtain ⟨-,-,-,h1,-⟩:=hQ j q hj
   have:=h1 x hx
   omega
  ·obtain ⟨i,r,hr,rfl⟩:=hO o ho
   simp only [List.mem_singleton] at hx
   omega
 ·apply List.ext_getElem?
  intro j
  rw [List.getElem?_map,List.getElem?_map]
  cases hj:Qc[j]? with
  | none => rw [List.getElem?_eq_none (by rw [hq16,← C.q16]; exact List.getElem?_eq_none_iff.1 hj)]
  | some q =>
   obtain ⟨r,h1,h2,-,-⟩:=hQ j q hj
   rw [h1]
   simp [h2]
theorem copy_spec {N n:Nat} (hN:5000 ≤ N) (hn:4 ≤ n) {H:Heap} {a m:Nat} {nn:Int} {Q:List Pg} {O:List Od} (h:MdAt H a m nn Q O) (hp1:1 ≤ nn) (hl:∀ q ∈ Q,q.l.length ≤ 4096) (hO:∀ o ∈ O,o.l ≠ [] ∧ o.l.length ≤ 4900) :
  ∃ v' H',callA am N n 10 [.ptr a 1 0] H = some (v',H') ∧ ∃ tl Q' O',v' = .ptr (H.length + 1) 1 0 ∧ H' = H ++ tl ∧ MdAt H' (H.length + 1) H.length nn Q' O' ∧ Q'.map Pg.l = Q.map Pg.l ∧ O' = cpO (H.length + 20) O ∧ ∀ x,Own (H.length + 1) H.length Q' O' x → H.length ≤ x:=by
 obtain ⟨n,rfl⟩:∃ m,n = m + 1:=⟨n - 1,by omega⟩
 have h4:=h.app (deads 4)
 have c26:=@there_spec N n (by omega) _ a m nn Q h.q16 hp1 h4.ob'
 have q1:=@mcs_n Q nn m h.q16
 have q2:=@mcs_m Q nn m h.q16
 have ql:=@mcs_len Q nn m h.q16
 have oa:∀ l:Heap,(H ++ l)[a]? = some ⟨1,.var (mcs Q nn m)⟩:=fun l => (h.app l).ob'
 unfold deads at c26
 simp only [List.replicate] at c26
 obtain ⟨PW,ePW⟩:∃ PW,PW = Q.map Pg.W:=⟨_,rfl⟩
 have pl:PW.length = 16:=by rw [ePW]; simp [h.q16]
 have tk:List.take 16 (mcs Q nn m) = PW:=by unfold mcs; rw [ePW,List.take_append,List.length_map,h.q16,Nat.sub_self,List.take_zero,List.append_nil,List.take_of_length_le (by simp [h.q16])]
 refine am10_wp rfl ?_
 generalize mcs Q nn m = cs at *
 simp +contextual -implicitDefEqProofs (maxSteps:=10000000) only [sxb,↓sxd,plainD,stays,↓prim_pick,doOp,get,ins,del,dels,Nat.reduceLT,Nat.reduceEqDiff,↓reduceIte,reduceCtorEq,ne_eq,implies_true,prim,YLD,mkA,V.cells,Nat.reduceAdd,Nat.reduceSub,Nat.reduceMul,Nat.reduceLeDiff,loadA,cellsAt,nAg,packA,List.drop,List.take,List.head?,binA,unA,eqCells,eqCell,negB,fillA,storeA,Ob.with,indexedI,V.oneCell,intOf?,resA,resA1,packR,sealDepth,Int.reduceLT,Int.reduceLE,Int.reduceToNat,Int.reduceNeg,Int.reduceAdd,Int.reduceSub,Int.reduceMul,cond_true,cond_false,Int.reduceBNe,Int.reduceBEq,eq_self,deads,List.replicate,argsF,am10,isNil,app_get0,app_get,app_set0,app_set,c26,oa,q1,ql,tk,pl]
 refine sx_loop (fun i t h => ∃ Qc xs,t = fr 52 [(0,.ptr a 1 0),(3,.ptr (H.length + 1) 1 0),(21,.agg PW),(22,.int .i64 i)] ∧ i ≤ 16 ∧ CpI H Q nn i Qc xs ∧ h = cpH H [] (mcs Qc nn H.length) ⟨0,.dead⟩ ⟨0,.dead⟩ xs) 16 (by show 16 < N; omega) ⟨z16,[],rfl,by omega,⟨rfl,rfl,fun j q _ hq => List.eq_of_mem_replicate (List.mem_of_getElem? hq),fun j q hj => by omega⟩,rfl⟩ ?_
 rintro i t hh hi ⟨Qc,xs,rfl,hi16,C,rfl⟩
 by_cases hlt:i < 16
 ·have g1:decide ((i:Int) < 16) = true:=decide_eq_true (by omega)
  have w4:IntKind.i64.wrap ((i:Int) + 1) = ((i + 1:Nat):Int):=(wrap64 (by omega) (by omega)).trans (by omega)
  have hi1:i + 1 ≤ 16:=by omega
  have hq:Q[i]? = some (Q[i]'(by rw [h.q16]; exact hlt)):=List.getElem?_eq_getElem (by rw [h.q16]; exact hlt)
  generalize Q[i]'(by rw [h.q16]; exact hlt) = q at hq
  have hc:Qc[i]? = some (Qc[i]'(by rw [C.q16]; exact hlt)):=List.getElem?_eq_getElem (by rw [C.q16]; exact hlt)
  generalize Qc[i]'(by rw [C.q16]; exact hlt) = qc at hc
  have hrow:PRow (cpH H [] (mcs Qc nn H.length) ⟨0,.dead⟩ ⟨0,.dead⟩ xs) q.W q.l q.R:=(h.pg q (List.mem_of_getElem? hq)).keep fun o ho => List.getElem?_append_left ((h.pg q (List.mem_of_getElem? hq)).lt o ho)
  obtain ⟨W',x,R',c27,hrow',hR'⟩:=@clone27 N n (by omega) _ _ _ _ hrow (hl q (List.mem_of_getElem? hq))
  have hPW:PW[i]? = some q.W:=by rw [ePW,List.getElem?_map,hq]; rfl
  have pw1:List.take 1 (List.drop i PW) = [q.W]:=by
   rw [List.drop_eq_getElem_cons (by rw [pl]; exact hlt)]
   have:PW[i]'(by rw [pl]; exact hlt) = q.W:=by rw [List.getElem?_eq_getElem (by rw [pl]; exact hlt)] at hPW; simpa using hPW
   rw [this]; rfl
  have hi15:i ≤ 15:=by omega
  obtain ⟨w1,w2,w3,w4',w5,w6⟩:=hrow.shape
  obtain ⟨v1,v2,v3,v4,v5,v6⟩:=hrow'.shape
  have hlti:(i:Int) < 16:=by omega
  have qs:=@mcs_set Qc nn H.length i qc ⟨q.l,W',R'⟩ hc
  have qcl:=@mcs_len Qc nn H.length C.q16
  unfold cpH at *
  have hin:i + 1 ≤ 18:=by omega
  simp only [List.cons_append,List.nil_append,List.append_assoc] at c27
  simp +contextual -implicitDefEqProofs (maxSteps:=10000000) only [sxb,↓sxd,plainD,stays,↓prim_pick,doOp,get,ins,del,dels,Nat.reduceLT,Nat.reduceEqDiff,↓reduceIte,reduceCtorEq,ne_eq,implies_true,prim,YLD,mkA,V.cells,Nat.reduceAdd,Nat.reduceSub,Nat.reduceMul,Nat.reduceLeDiff,loadA,cellsAt,nAg,packA,List.drop,List.take,List.head?,binA,unA,eqCells,eqCell,negB,fillA,storeA,Ob.with,indexedI,V.oneCell,intOf?,resA,resA1,packR,sealDepth,Int.reduceLT,Int.reduceLE,Int.reduceToNat,Int.reduceNeg,Int.reduceAdd,Int.reduceSub,Int.reduceMul,cond_true,cond_false,Int.reduceBNe,Int.reduceBEq,eq_self,deads,List.replicate,argsF,g1,w4,hi15,pw1,c27,w1,v1,v2,hlti,app_get0,app_get,app_set0,app_set,List.append_assoc,qs,qcl,pl]
  refine ⟨fun _ => ⟨hlt,_,_,C.next (r:=⟨q.l,W',R'⟩) hlt hq rfl ?_ ?_,rfl⟩,fun h => absurd (by omega) h⟩
  ·intro o ho
   rw [hR' o ho]
   simp [C.xl]
   omega
  ·intro x0 x1 x2 x3
   refine hrow'.keep fun o ho => ?_
   have ho':o = H.length + (4 + xs.length):=by
    rw [hR' o ho]
    simp
    omega
   rw [ho']
   have e1:H ++ ([x0,x1,x2,x3] ++ (xs ++ [x])) = (H ++ ([x0,x1,x2,x3] ++ xs)) ++ [x]:=by simp
   rw [e1,List.getElem?_append_right (by simp; omega),List.getElem?_append_right (by simp; omega)]
   simp
 ·have e16:i = 16:=by omega
  subst e16
  have g1:decide (((16:Nat):Int) < 16) = false:=rfl
  clear hi hi16 hlt
  unfold cpH
  simp +contextual -implicitDefEqProofs (maxSteps:=10000000) only [sxb,↓sxd,plainD,stays,↓prim_pick,doOp,get,ins,del,dels,Nat.reduceLT,Nat.reduceEqDiff,↓reduceIte,reduceCtorEq,ne_eq,implies_true,prim,YLD,mkA,V.cells,Nat.reduceAdd,Nat.reduceSub,Nat.reduceMul,Nat.reduceLeDiff,loadA,cellsAt,nAg,packA,List.drop,List.take,List.head?,binA,unA,eqCells,eqCell,negB,fillA,storeA,Ob.with,indexedI,V.oneCell,intOf?,resA,resA1,packR,sealDepth,Int.reduceLT,Int.reduceLE,Int.reduceToNat,Int.reduceNeg,Int.reduceAdd,Int.reduceSub,Int.reduceMul,cond_true,cond_false,Int.reduceBNe,Int.reduceBEq,eq_self,deads,List.replicate,argsF,g1,oa,q2,ql]
  have hml:=h.ltm
  have hal:=h.lta
  have hHl:(H.set m ⟨1,.dead⟩).length = H.length:=by simp
  have hcl:=@mcs_len Qc nn H.length C.q16
  have hcm:=@mcs_m Qc nn H.length C.q16
  obtain ⟨hM,hown,hql⟩:=@cp_md H nn Q Qc O xs C h.q16 h.ks
  obtain ⟨s1,s2⟩:=@show_eq H m _ h.mp O (mcs Qc nn H.length) xs
  have hOr:∀ o ∈ O,ORow (H.set m ⟨1,.dead⟩) o.W o.l o.R ∧ o.l ≠ [] ∧ o.l.length ≤ 4900:=fun o ho => ⟨(h.od o ho).keep fun x hx => List.getElem?_set_ne fun e:m = x => h.doa o ho x hx (by simp [e]),hO o ho⟩
  have hrs:∀ P:List Od,P.Perm O → _:=fun P hP => @cp_rounds N n (by omega) (H.set m ⟨1,.dead⟩) a m P (mcs Qc nn H.length) xs hcl (by rw [hHl]; exact hcm) C.xl ((hP.map Od.w).nodup_iff.2 h.ks) (fun o ho => hOr o (hP.mem_iff.1 ho))
  obtain ⟨r,r1,r2⟩:=hrs O (List.Perm.refl _)
  have t38:(fr 52 [(0,V.ptr a 1 0),(3,V.ptr (List.length H + 1) 1 0),(34,V.ptr a 1 0),(35,V.ptr a 1 0),(36,V.ptr a 1 17),(37,V.map m 1)]).set 38 (.ptr (H.length + 2) 1 0) = fr 52 (cpT H.length a m):=by rw [fr_set]; simp [ins,cpT]
  have hide:=hide_eq hml (mcs Qc nn H.length) xs
  rw [hHl] at r1 r2
  have hmH:∀ l:Heap,(H ++ l)[m]? = some ⟨1,.map (O.map Od.e)⟩:=fun l => (h.app l).mp
  refine sx_rangeM (x:=⟨0,.dead⟩) (om:=some (m,1)) (es:=O.map Od.e) (r:=r) (e:=.norm) (t':=fr 52 (cpT H.length a m)) (h':=cpF H O (mcs Qc nn H.length) xs) (by rw [app_get]; rfl) ?_ ?_ ?_ ?_ ?_
  ·rw [ev_fr (by decide)]
   simp [get,mapOf,mapAt,hmH]
  ·show roundsM _ 38 39 40 41 (.ptr (H.length + 2) 1 0) _ (List.set (fr 52 _) 38 (.ptr (H.length + 2) 1 0)) ((List.set (H ++ _) m ⟨1,.dead⟩).set (H.length + 2) ⟨1,.dead⟩) = _
   rw [t38,hide]
   exact r1
  ·intro hclo
   show AnyOrder _ 38 39 40 41 (.ptr (H.length + 2) 1 0) cpClr [3] H.length _ (List.set (fr 52 _) 38 (.ptr (H.length + 2) 1 0)) ((List.set (H ++ _) m ⟨1,.dead⟩).set (H.length + 2) ⟨1,.dead⟩) r
   rw [t38,hide]
   intro π hπ
   obtain ⟨P,hP,rfl⟩:=perm_map hπ O rfl
   obtain ⟨r',r1',r2'⟩:=hrs P hP
   rw [hHl] at r1' r2'
   refine ⟨r',r1',?_⟩
   rw [r2,r2']
   have hL:(cpK (H.set m ⟨1,.dead⟩) [] (mcs Qc nn H.length) ⟨0,.dead⟩ xs).length = (H.set m ⟨1,.dead⟩).length + 20:=by simp [cpK,news,C.xl]
   rw [hL,← hHl]
   refine cp_alike C.xl h.ks hP (by simp; exact hal) (by simp; exact hml) fun o x hx hl i hi => ?_
   rw [← hide_eq3 hml] at hx
   have hx:=live_set (h:=H ++ _) (live_set (live_set hx hl) hl) hl
   rw [hHl] at hx
   have:=hclo.1 o x hx hl i hi
   simpa [C.xl] using this
  ·show (match (leaveM cpClr [3] H.length r).2.2[m]? with | some ⟨v,.dead⟩ => if v = 1 then some ((leaveM cpClr [3] H.length r).1,(leaveM cpClr [3] H.length r).2.1,(leaveM cpClr [3] H.length r).2.2.set m ⟨1,.map (O.map Od.e)⟩) else none | _ => none) = _
   rw [r2]
   simp only [s1,s2,↓reduceIte]
  ·unfold cpT
   simp +contextual -implicitDefEqProofs (maxSteps:=10000000) only [sxb,↓sxd,plainD,stays,↓prim_pick,doOp,get,ins,del,dels,Nat.reduceLT,Nat.reduceEqDiff,↓reduceIte,reduceCtorEq,ne_eq,implies_true,prim,YLD,mkA,V.cells,Nat.reduceAdd,Nat.reduceSub,Nat.reduceMul,Nat.reduceLeDiff,loadA,cellsAt,nAg,packA,List.drop,List.take,List.head?,binA,unA,eqCells,eqCell,negB,fillA,storeA,Ob.with,indexedI,V.oneCell,intOf?,resA,resA1,packR,sealDepth,Int.reduceLT,Int.reduceLE,Int.reduceToNat,Int.reduceNeg,Int.reduceAdd,Int.reduceSub,Int.reduceMul,cond_true,cond_false,Int.reduceBNe,Int.reduceBEq,eq_self,deads,List.replicate,argsF]
   exact ⟨_,Qc,_,rfl,hM,hql,rfl,hown⟩
end Go.Am.T


set_option linter.unusedVariables false
set_option linter.unusedSimpArgs false
set_option linter.unusedSectionVars false
set_option maxRecDepth 10000
namespace Go.Am.T
def Wr.who (x:Wr):Int × Int:=(x.nd,x.ep)
def vol (w:Int × Int) (x:Wr):Bool:=!x.du && (x.who == w)
def pgOf (L:List Wr) (p:Int):List Wr:=L.filter (fun x => x.pg == p)
def plOf (w:Int × Int):List Wr → List Wr → List (Int × Int)
 | _,[] => []
 | pre,x :: l => if vol w x = true then (x.pg,((pgOf pre x.pg).length:Int)) :: plOf w (pre ++ [x]) l else plOf w (pre ++ [x]) l
def dur (w:Int × Int):Nat → List Wr → List Wr
 | _,[] => []
 | k,x :: l => if vol w x = true then (match k with | 0 => x :: l | k + 1 => x.mark :: dur w k l) else x :: dur w k l
def los (w:Int × Int) (L:List Wr):List Wr:=L.filter (fun x => !vol w x)
theorem vol_iff {w:Int × Int} {x:Wr}:vol w x = true ↔ x.du = false ∧ x.who = w:=by
 unfold vol
 simp
theorem pgOf_app (a b:List Wr) (p:Int):pgOf (a ++ b) p = pgOf a p ++ pgOf b p:=by simp [pgOf]
theorem pgOf_cons (x:Wr) (l:List Wr) (p:Int):pgOf (x :: l) p = if x.pg = p then x :: pgOf l p else pgOf l p:=by
 unfold pgOf
 rw [List.filter_cons]
 simp only [beq_iff_eq]
theorem pgOf_one (x:Wr) (p:Int):pgOf [x] p = if x.pg = p then [x] else []:=by rw [pgOf_cons]; rfl
theorem mark_pg (x:Wr):x.mark.pg = x.pg:=rfl
theorem plOf_congr (w:Int × Int):∀ (l pre pre':List Wr),(∀ p,(pgOf pre p).length = (pgOf pre' p).length) → plOf w pre l = plOf w pre' l
 | [],_,_,_ => rfl
 | x :: l,pre,pre',h => by
  have ih:=plOf_congr w l (pre ++ [x]) (pre' ++ [x]) fun p => by rw [pgOf_app,pgOf_app,List.length_append,List.length_append,h p]
  unfold plOf
  rw [h x.pg,ih]
theorem plOf_snoc (w:Int × Int) (x:Wr):∀ (l pre:List Wr),plOf w pre (l ++ [x]) = plOf w pre l ++ (if vol w x = true then [(x.pg,((pgOf (pre ++ l) x.pg).length:Int))] else [])
 | [],pre => by
  simp only [List.nil_append,plOf,List.append_nil]
 | y :: l,pre => by
  have ih:=plOf_snoc w x l (pre ++ [y])
  simp only [List.cons_append,plOf,ih,List.append_assoc,List.nil_append]
  split <;> simp
def Pgs (Q:List Pg) (L:List Wr):Prop:=∀ (p:Nat) (q:Pg),Q[p]? = some q → q.l = pgOf L p
theorem marks_dur (w:Int × Int):∀ (l pre:List Wr) (k:Nat) (Q:List Pg),Pgs Q (pre ++ l) → (∀ x ∈ l,0 ≤ x.pg) → Pgs (marks Q ((plOf w pre l).take k)) (pre ++ dur w k l)
 | [],pre,k,Q,h,_ => by simpa [plOf,dur,marks] using h
 | x :: l,pre,k,Q,h,hp => by
  unfold plOf dur
  by_cases hv:vol w x = true
  ·rw [if_pos hv,if_pos hv]
   cases k with
   | zero => simpa [marks] using h
   | succ k =>
    rw [List.take_succ_cons,marks_cons]
    have ih:=marks_dur w l (pre ++ [x.mark]) k (markQ Q x.pg.toNat (pgOf pre x.pg).length) ?_ fun y hy => hp y (by simp [hy])
    ·rw [plOf_congr w l (pre ++ [x]) (pre ++ [x.mark]) fun p => by rw [pgOf_app,pgOf_app,pgOf_one,pgOf_one,mark_pg]; split <;> simp]
     simpa using ih
    ·intro p q hq
     obtain ⟨r,hr,-,-,hl⟩:=markQ_get hq
     have e:=h p r hr
     have hx:=hp x (by simp)
     rw [hl,e,pgOf_app,pgOf_app,pgOf_app,pgOf_one,pgOf_cons,mark_pg]
     by_cases ep:p = x.pg.toNat
     ·have ep':x.pg = (p:Int):=by omega
      rw [if_pos ep,if_pos ep',if_pos ep',ep']
      unfold markL
      rw [List.getElem?_append_right (Nat.le_refl _),Nat.sub_self]
      simp
     ·have ep':¬ x.pg = (p:Int):=by omega
      rw [if_neg ep,if_neg ep',if_neg ep']
      simp
  ·rw [if_neg hv,if_neg hv]
   have ih:=marks_dur w l (pre ++ [x]) k Q (by simpa using h) fun y hy => hp y (by simp [hy])
   simpa using ih
def Chain (L:List Wr):Prop:=L.Pairwise (fun x y => x.pg = y.pg → x.du = false → y.du = false ∧ y.who = x.who)
theorem Chain.vol {L:List Wr} (h:Chain L) (w:Int × Int):L.Pairwise (fun x y => x.pg = y.pg → vol w x = true → vol w y = true):=by
 refine List.Pairwise.imp (fun {x y} hxy e hx => ?_) h
 obtain ⟨h1,h2⟩:=vol_iff.1 hx
 obtain ⟨h3,h4⟩:=hxy e h1
 exact vol_iff.2 ⟨h3,h4.trans h2⟩
theorem cutQ_get {Q:List Pg} {p i j:Nat} {q:Pg} (h:(cutQ Q p i)[j]? = some q):∃ r,Q[j]? = some r ∧ q.l = (if j = p ∧ i < r.l.length then r.l.take i else r.l):=by
 unfold cutQ at h
 cases hp:Q[p]? with
 | none =>
  rw [hp] at h
  refine ⟨q,h,?_⟩
  by_cases e:j = p
  ·subst e; rw [hp] at h; cases h
  ·rw [if_neg (fun h => e h.1)]
 | some r =>
  rw [hp] at h
  simp only at h
  by_cases e:p = j
  ·subst e
   rw [List.getElem?_set_self (List.getElem?_eq_some_iff.1 hp).1] at h
   cases h
   refine ⟨r,hp,?_⟩
   unfold cutP
   by_cases e2:i < r.l.length
   ·rw [if_pos e2,if_pos ⟨rfl,e2⟩]
   ·rw [if_neg e2,if_neg (fun h => e2 h.2)]
  ·rw [List.getElem?_set_ne e] at h
   exact ⟨q,h,by rw [if_neg (fun h => e h.1.symm)]⟩
theorem cuts_los (w:Int × Int):∀ (l pre org:List Wr) (Q:List Pg),(∀ x ∈ l,0 ≤ x.pg) → l.Pairwise (fun x y => x.pg = y.pg → vol w x = true → vol w y = true) →
  (∀ (p:Nat) q,Q[p]? = some q → (q.l = pgOf pre p ++ pgOf l p ∧ (pgOf org p).length = (pgOf pre p).length) ∨ (q.l = pgOf pre p ∧ (pgOf pre p).length ≤ (pgOf org p).length ∧ ∀ x ∈ l,x.pg = (p:Int) → vol w x = true)) →
  Pgs (cuts Q (plOf w org l)) (pre ++ los w l)
 | [],pre,org,Q,_,_,h => by
  intro p q hq
  have hq:Q[p]? = some q:=hq
  show q.l = pgOf (pre ++ []) p
  rw [List.append_nil]
  rcases h p q hq with ⟨h1,-⟩ | ⟨h1,-⟩
  ·rw [h1]; simp [pgOf]
  ·exact h1
 | x :: l,pre,org,Q,hp,hw,h => by
  obtain ⟨hw1,hw2⟩:=List.pairwise_cons.1 hw
  have hx:=hp x (by simp)
  unfold plOf
  by_cases hv:vol w x = true
  ·rw [if_pos hv,cuts_cons]
   have hl:los w (x :: l) = los w l:=by simp [los,hv]
   rw [hl]
   refine cuts_los w l pre (org ++ [x]) _ (fun y hy => hp y (by simp [hy])) hw2 fun p q hq => ?_
   obtain ⟨r,hr,hql⟩:=cutQ_get hq
   simp only [Int.toNat_natCast] at hql
   rw [pgOf_app,pgOf_one]
   by_cases ep:p = x.pg.toNat
   ·have ep':x.pg = (p:Int):=by omega
    rw [if_pos ep']
    rcases h p r hr with ⟨h1,h2⟩ | ⟨h1,h2,h3⟩
    ·rw [pgOf_cons,if_pos ep'] at h1
     refine .inr ⟨?_,by simp; omega,fun y hy hyp => hw1 y hy (ep'.trans hyp.symm) hv⟩
     rw [hql,if_pos ⟨ep,by rw [h1,ep',h2]; simp⟩,h1,ep',h2]
     simp
    ·refine .inr ⟨?_,by simp; omega,fun y hy hyp => h3 y (by simp [hy]) hyp⟩
     rw [hql,if_neg (fun hh => by have:=hh.2; rw [h1,ep'] at this; omega),h1]
   ·have ep':¬ x.pg = (p:Int):=by omega
    rw [if_neg ep',List.append_nil]
    rw [if_neg (fun hh => ep hh.1)] at hql
    rcases h p r hr with ⟨h1,h2⟩ | ⟨h1,h2,h3⟩
    ·rw [pgOf_cons,if_neg ep'] at h1
     exact .inl ⟨hql.trans h1,h2⟩
    ·exact .inr ⟨hql.trans h1,h2,fun y hy hyp => h3 y (by simp [hy]) hyp⟩
  ·rw [if_neg hv]
   have hl:los w (x :: l) = x :: los w l:=by simp [los,hv]
   rw [hl]
   have:=cuts_los w l (pre ++ [x]) (org ++ [x]) Q (fun y hy => hp y (by simp [hy])) hw2 fun p q hq => ?_
   ·simpa using this
   ·rw [pgOf_app,pgOf_app,pgOf_one]
    rcases h p q hq with ⟨h1,h2⟩ | ⟨h1,h2,h3⟩
    ·rw [pgOf_cons] at h1
     refine .inl ⟨?_,by split <;> simp [h2]⟩
     rw [h1]
     split <;> simp
    ·have ep':¬ x.pg = (p:Int):=fun e => hv (h3 x (by simp) e)
     rw [if_neg ep',List.append_nil,List.append_nil]
     exact .inr ⟨h1,h2,fun y hy hyp => h3 y (by simp [hy]) hyp⟩
end Go.Am.T


set_option linter.unusedVariables false
set_option linter.unusedSimpArgs false
set_option linter.unusedSectionVars false
set_option maxRecDepth 10000
namespace Go.Am.T
inductive MkL (w:Int × Int):List Wr → List Wr → Prop
 | nil:MkL w [] []
 | same (x:Wr) {l' l:List Wr}:MkL w l' l → MkL w (x :: l') (x :: l)
 | mark (x:Wr) {l' l:List Wr}:vol w x = true → MkL w l' l → MkL w (x.mark :: l') (x :: l)
theorem MkL.refl (w:Int × Int):∀ l,MkL w l l
 | [] => .nil
 | x :: l => .same x (MkL.refl w l)
theorem MkL.len {w:Int × Int} {l' l:List Wr} (h:MkL w l' l):l'.length = l.length:=by
 induction h with
 | nil => rfl
 | same x _ ih => simp [ih]
 | mark x _ _ ih => simp [ih]
theorem MkL.get {w:Int × Int} {l' l:List Wr} (h:MkL w l' l):∀ {k:Nat} {x':Wr},l'[k]? = some x' → ∃ x,l[k]? = some x ∧ (x' = x ∨ vol w x = true ∧ x' = x.mark):=by
 induction h with
 | nil => intro k x' h; simp at h
 | same x _ ih =>
  intro k x' h
  cases k with
  | zero => exact ⟨x,rfl,.inl (by simpa using h.symm)⟩
  | succ k => exact ih (by simpa using h)
 | mark x hv _ ih =>
  intro k x' h
  cases k with
  | zero => exact ⟨x,rfl,.inr ⟨hv,by simpa using h.symm⟩⟩
  | succ k => exact ih (by simpa using h)
theorem MkL.mem {w:Int × Int} {l' l:List Wr} (h:MkL w l' l) {x':Wr} (hx:x' ∈ l'):∃ x ∈ l,x' = x ∨ vol w x = true ∧ x' = x.mark:=by
 obtain ⟨k,hk⟩:=List.getElem?_of_mem hx
 obtain ⟨x,h1,h2⟩:=h.get hk
 exact ⟨x,List.mem_of_getElem? h1,h2⟩
theorem MkL.pg {w:Int × Int} {l' l:List Wr} (h:MkL w l' l) (p:Int):MkL w (pgOf l' p) (pgOf l p):=by
 induction h with
 | nil => exact .nil
 | same x _ ih =>
  rw [pgOf_cons,pgOf_cons]
  split
  ·exact .same x ih
  ·exact ih
 | mark x hv _ ih =>
  rw [pgOf_cons,pgOf_cons,mark_pg]
  split
  ·exact .mark x hv ih
  ·exact ih
theorem dur_mk (w:Int × Int):∀ (l:List Wr) (k:Nat),MkL w (dur w k l) l
 | [],k => .nil
 | x :: l,k => by
  unfold dur
  by_cases hv:vol w x = true
  ·rw [if_pos hv]
   cases k with
   | zero => exact .refl w _
   | succ k => exact .mark x hv (dur_mk w l k)
  ·rw [if_neg hv]
   exact .same x (dur_mk w l k)
theorem dur_chain (w:Int × Int):∀ (l:List Wr) (k:Nat),Chain l → Chain (dur w k l)
 | [],k,h => h
 | x :: l,k,h => by
  obtain ⟨h1,h2⟩:=List.pairwise_cons.1 h
  unfold dur
  by_cases hv:vol w x = true
  ·rw [if_pos hv]
   cases k with
   | zero => exact h
   | succ k => exact List.pairwise_cons.2 ⟨fun y _ _ hd => absurd hd (by simp [Wr.mark]),dur_chain w l k h2⟩
  ·rw [if_neg hv]
   refine List.pairwise_cons.2 ⟨fun y' hy' e hd => ?_,dur_chain w l k h2⟩
   obtain ⟨y,hy,rfl | ⟨hvy,rfl⟩⟩:=(dur_mk w l k).mem hy'
   ·exact h1 _ hy e hd
   ·obtain ⟨q1,q2⟩:=h1 y hy e hd
    obtain ⟨r1,r2⟩:=vol_iff.1 hvy
    exact absurd (vol_iff.2 ⟨hd,q2.symm.trans r2⟩) hv
theorem mark_vol (w:Int × Int) (x:Wr):vol w x.mark = false:=by simp [vol,Wr.mark]
theorem plOf_dur (w:Int × Int):∀ (l pre:List Wr) (k:Nat),plOf w pre (dur w k l) = (plOf w pre l).drop k
 | [],pre,k => by simp [plOf,dur]
 | x :: l,pre,k => by
  unfold dur
  by_cases hv:vol w x = true
  ·rw [if_pos hv]
   cases k with
   | zero => rfl
   | succ k =>
    have ih:=plOf_dur w l (pre ++ [x]) k
    have e:=plOf_congr w (dur w k l) (pre ++ [x.mark]) (pre ++ [x]) fun p => by rw [pgOf_app,pgOf_app,pgOf_one,pgOf_one,mark_pg]; split <;> simp
    simp only [plOf,hv,mark_vol,↓reduceIte,Bool.false_eq_true,e,ih,List.drop_succ_cons]
  ·rw [if_neg hv]
   simp only [plOf,hv,↓reduceIte,Bool.false_eq_true]
   exact plOf_dur w l (pre ++ [x]) k
theorem vol_other {w w':Int × Int} {x:Wr} (h:vol w x = true) (hne:w' ≠ w):vol w' x = false:=by
 obtain ⟨h1,h2⟩:=vol_iff.1 h
 cases e:vol w' x with
 | false => rfl
 | true => exact absurd ((vol_iff.1 e).2.symm.trans h2) hne
theorem plOf_mk {w w':Int × Int} (hne:w' ≠ w) {l' l:List Wr} (h:MkL w l' l):∀ pre,plOf w' pre l' = plOf w' pre l:=by
 induction h with
 | nil => intro pre; rfl
 | same x _ ih => intro pre; simp only [plOf,ih]
 | mark x hv hh ih =>
  rename_i l1 l2
  intro pre
  have e:=plOf_congr w' l1 (pre ++ [x.mark]) (pre ++ [x]) fun p => by rw [pgOf_app,pgOf_app,pgOf_one,pgOf_one,mark_pg]; split <;> simp
  simp only [plOf,mark_vol,vol_other hv hne,↓reduceIte,Bool.false_eq_true,e,ih]
theorem plOf_none (w:Int × Int):∀ (l pre:List Wr),(∀ x ∈ l,vol w x = false) → plOf w pre l = []
 | [],_,_ => rfl
 | x :: l,pre,h => by
  simp only [plOf,h x (by simp),↓reduceIte,Bool.false_eq_true]
  exact plOf_none w l _ fun y hy => h y (by simp [hy])
theorem plOf_los {w w':Int × Int} (hne:w' ≠ w):∀ (l pre org:List Wr),l.Pairwise (fun x y => x.pg = y.pg → vol w x = true → vol w y = true) →
  (∀ p:Int,(pgOf pre p).length = (pgOf org p).length ∨ ∀ x ∈ l,x.pg = p → vol w x = true) → plOf w' pre (los w l) = plOf w' org l
 | [],_,_,_,_ => rfl
 | x :: l,pre,org,hw,h => by
  obtain ⟨hw1,hw2⟩:=List.pairwise_cons.1 hw
  by_cases hv:vol w x = true
  ·have hl:los w (x :: l) = los w l:=by simp [los,hv]
   rw [hl]
   simp only [plOf,vol_other hv hne,↓reduceIte,Bool.false_eq_true]
   refine plOf_los hne l pre (org ++ [x]) hw2 fun p => ?_
   by_cases e:x.pg = p
   ·exact .inr fun y hy hyp => hw1 y hy (e.trans hyp.symm) hv
   ·rw [pgOf_app,pgOf_one,if_neg e,List.append_nil]
    rcases h p with h1 | h1
    ·exact .inl h1
    ·exact .inr fun y hy hyp => h1 y (by simp [hy]) hyp
  ·have hl:los w (x :: l) = x :: los w l:=by simp [los,hv]
   have hp:(pgOf pre x.pg).length = (pgOf org x.pg).length:=by
    rcases h x.pg with h1 | h1
    ·exact h1
    ·exact absurd (h1 x (by simp) rfl) hv
   have ih:=plOf_los hne l (pre ++ [x]) (org ++ [x]) hw2 fun p => ?_
   ·rw [hl]
    simp only [plOf,hp,ih]
   ·rw [pgOf_app,pgOf_app,List.length_append,List.length_append]
    rcases h p with h1 | h1
    ·exact .inl (by rw [h1])
    ·exact .inr fun y hy hyp => h1 y (by simp [hy]) hyp
theorem pg_los (w:Int × Int) (L:List Wr) (p:Int):pgOf (los w L) p = (pgOf L p).filter (fun x => !vol w x):=by
 unfold pgOf los
 rw [List.filter_filter,List.filter_filter]
 congr 1
 funext x
 exact Bool.and_comm _ _
theorem filter_pre (w:Int × Int):∀ (A:List Wr),A.Pairwise (fun x y => vol w x = true → vol w y = true) → ∃ t,A = A.filter (fun x => !vol w x) ++ t ∧ ∀ x ∈ t,vol w x = true
 | [],_ => ⟨[],rfl,by simp⟩
 | x :: A,h => by
  obtain ⟨h1,h2⟩:=List.pairwise_cons.1 h
  by_cases hv:vol w x = true
  ·refine ⟨x :: A,?_,fun y hy => ?_⟩
   ·have:(x :: A).filter (fun x => !vol w x) = []:=by
     rw [List.filter_eq_nil_iff]
     intro y hy
     rcases List.mem_cons.1 hy with rfl | hy
     ·simp [hv]
     ·simp [h1 y hy hv]
    rw [this]
    rfl
   ·rcases List.mem_cons.1 hy with rfl | hy
    ·exact hv
    ·exact h1 y hy hv
  ·obtain ⟨t,e,ht⟩:=filter_pre w A h2
   refine ⟨t,?_,ht⟩
   rw [List.filter_cons]
   simp only [hv,Bool.not_false,↓reduceIte,List.cons_append]
   rw [← e]
theorem Chain.page {L:List Wr} (h:Chain L) (w:Int × Int) (p:Int):(pgOf L p).Pairwise (fun x y => T.vol w x = true → T.vol w y = true):=by
 have h1:=List.Pairwise.sublist (List.filter_sublist (p:=fun x:Wr => x.pg == p)) (h.vol w)
 refine List.Pairwise.imp_of_mem (fun {x y} hx hy hxy => hxy ?_) h1
 have ex:=(List.mem_filter.1 hx).2
 have ey:=(List.mem_filter.1 hy).2
 simp only [beq_iff_eq] at ex ey
 exact ex.trans ey.symm
theorem los_pre {L:List Wr} (h:Chain L) (w:Int × Int) (p:Int):∃ t,pgOf L p = pgOf (los w L) p ++ t ∧ ∀ x ∈ t,vol w x = true:=by
 rw [pg_los]
 exact filter_pre w _ (h.page w p)
structure LOk (nn:Int) (L:List Wr):Prop where
 ok:∀ x ∈ L,x.Ok
 pg:∀ x ∈ L,0 ≤ x.pg ∧ x.pg < nn
 ps:∀ p k x,(pgOf L p)[k]? = some x → x.ps = ((k + 1:Nat):Int)
 ch:Chain L
theorem LOk.dur {nn:Int} {L:List Wr} (h:LOk nn L) (w:Int × Int) (k:Nat):LOk nn (T.dur w k L):=by
 refine ⟨fun x' hx => ?_,fun x' hx => ?_,fun p i x' hx => ?_,dur_chain w L k h.ch⟩
 ·obtain ⟨x,h1,rfl | ⟨-,rfl⟩⟩:=(dur_mk w L k).mem hx
  ·exact h.ok _ h1
  ·exact mark_ok (h.ok _ h1)
 ·obtain ⟨x,h1,rfl | ⟨-,rfl⟩⟩:=(dur_mk w L k).mem hx
  ·exact h.pg _ h1
  ·exact h.pg x h1
 ·obtain ⟨x,h1,rfl | ⟨-,rfl⟩⟩:=((dur_mk w L k).pg p).get hx
  ·exact h.ps p i _ h1
  ·exact h.ps p i x h1
theorem LOk.los {nn:Int} {L:List Wr} (h:LOk nn L) (w:Int × Int):LOk nn (los w L):=by
 have hm:∀ x ∈ T.los w L,x ∈ L:=fun x hx => (List.mem_filter.1 hx).1
 refine ⟨fun x hx => h.ok x (hm x hx),fun x hx => h.pg x (hm x hx),fun p i x hx => ?_,List.Pairwise.sublist List.filter_sublist h.ch⟩
 obtain ⟨t,e,-⟩:=los_pre h.ch w p
 refine h.ps p i x ?_
 rw [e,List.getElem?_append_left (List.getElem?_eq_some_iff.1 hx).1]
 exact hx
theorem LOk.nil (nn:Int):LOk nn []:=⟨by simp,by simp,fun p k x h => by simp [pgOf] at h,List.Pairwise.nil⟩
theorem lastK_eq {l:List Wr} {x:Wr} (h:l.getLast? = some x):lastK l l.length = x:=by
 unfold lastK
 rw [List.take_length,List.getLastD_eq_getLast?,h]
 rfl
theorem whose_vol {nn:Int} {L:List Wr} (h:LOk nn L) {x:Wr} (hx:x ∈ L) (hd:x.du = false):whoseW (pgOf L x.pg) = (x.who,true):=by
 have hm:x ∈ pgOf L x.pg:=List.mem_filter.2 ⟨hx,by simp⟩
 obtain ⟨z,hz⟩:∃ z,(pgOf L x.pg).getLast? = some z:=by
  cases e:(pgOf L x.pg).getLast? with
  | none => rw [List.getLast?_eq_none_iff] at e; rw [e] at hm; cases hm
  | some z => exact ⟨z,rfl⟩
 have hz':=hz
 rw [List.getLast?_eq_getElem?] at hz'
 have hps:=h.ps _ _ _ hz'
 have hv:=(h.ch.page x.who x.pg)
 have hvz:vol x.who z = true:=by
  obtain ⟨i,hi⟩:=List.getElem?_of_mem hm
  have hil:=(List.getElem?_eq_some_iff.1 hi).1
  rcases Nat.lt_or_ge i ((pgOf L x.pg).length - 1) with hlt | hge
  ·have hh:=List.pairwise_iff_getElem.1 hv i ((pgOf L x.pg).length - 1) hil (by omega) hlt
   have e1:=(List.getElem?_eq_some_iff.1 hi).2
   have e2:=(List.getElem?_eq_some_iff.1 hz').2
   rw [e1,e2] at hh
   exact hh (vol_iff.2 ⟨hd,rfl⟩)
  ·have:i = (pgOf L x.pg).length - 1:=by omega
   subst this
   rw [hi] at hz'
   cases hz'
   exact vol_iff.2 ⟨hd,rfl⟩
 obtain ⟨v1,v2⟩:=vol_iff.1 hvz
 unfold whoseW
 rw [lastK_eq hz,if_neg (by
  rintro (e | e)
  ·omega
  ·rw [v1] at e; cases e)]
 exact congrArg (·,true) v2
theorem LOk.write {nn:Int} {L:List Wr} (h:LOk nn L) {w:Int × Int} {p:Nat} (hp:(p:Int) < nn) {B:List Int} (hB:B.length = 96) (hw:¬ ((whoseW (pgOf L p)).2 = true ∧ (whoseW (pgOf L p)).1 ≠ w)) :
  LOk nn (L ++ [⟨w.1,w.2,p,((pgOf L p).length + 1:Nat),B,false⟩]):=by
 refine ⟨fun x hx => ?_,fun x hx => ?_,fun q k x hx => ?_,?_⟩
 ·rcases List.mem_append.1 hx with hx | hx
  ·exact h.ok x hx
  ·obtain rfl:x = _:=by simpa using hx
   exact hB
 ·rcases List.mem_append.1 hx with hx | hx
  ·exact h.pg x hx
  ·obtain rfl:x = _:=by simpa using hx
   exact ⟨Int.natCast_nonneg _,hp⟩
 ·rw [pgOf_app,pgOf_one] at hx
  split at hx
  ·rename_i e
   have e:(p:Int) = q:=e
   subst e
   rcases Nat.lt_or_ge k (pgOf L p).length with hk | hk
   ·rw [List.getElem?_append_left hk] at hx
    exact h.ps _ _ _ hx
   ·have hl:=(List.getElem?_eq_some_iff.1 hx).1
    simp only [List.length_append,List.length_singleton] at hl
    have:k = (pgOf L p).length:=by omega
    subst this
    rw [List.getElem?_append_right (Nat.le_refl _),Nat.sub_self] at hx
    cases hx
    rfl
  ·rw [List.append_nil] at hx
   exact h.ps _ _ _ hx
 ·refine List.pairwise_append.2 ⟨h.ch,List.pairwise_singleton _ _,fun x hx y hy e hd => ?_⟩
  obtain rfl:y = _:=by simpa using hy
  refine ⟨rfl,?_⟩
  have e:x.pg = (p:Int):=e
  have hv:=whose_vol h hx hd
  rw [e] at hv
  rw [hv] at hw
  exact (Classical.not_not.1 fun hne => hw ⟨rfl,fun e => hne e.symm⟩)
structure Ab (nn:Int) (L:List Wr) (Q:List Pg) (O:List Od):Prop where
 pg:Pgs Q L
 od:∀ w,ordOf O w = plOf w [] L
 ne:∀ o ∈ O,o.l ≠ []
 ok:LOk nn L
theorem plOf_len (w:Int × Int):∀ (l pre:List Wr),(plOf w pre l).length ≤ l.length
 | [],_ => Nat.le_refl _
 | x :: l,pre => by
  have:=plOf_len w l (pre ++ [x])
  unfold plOf
  split <;> simp only [List.length_cons] <;> omega
theorem plOf_mem (w:Int × Int):∀ (l pre:List Wr) (y:Int × Int),y ∈ plOf w pre l → ∃ x ∈ l,y.1 = x.pg ∧ ∃ k:Nat,y.2 = (k:Int) ∧ k < (pgOf (pre ++ l) x.pg).length
 | [],_,y,h => by cases h
 | x :: l,pre,y,h => by
  have ih:=plOf_mem w l (pre ++ [x]) y
  rw [List.append_assoc] at ih
  unfold plOf at h
  split at h
  ·rcases List.mem_cons.1 h with rfl | h
   ·refine ⟨x,by simp,rfl,_,rfl,?_⟩
    rw [pgOf_app,List.length_append,pgOf_cons,if_pos rfl]
    simp
   ·obtain ⟨z,hz,h1⟩:=ih h
    exact ⟨z,by simp [hz],h1⟩
  ·obtain ⟨z,hz,h1⟩:=ih h
   exact ⟨z,by simp [hz],h1⟩
theorem Ab.valid {nn:Int} {L:List Wr} {Q:List Pg} {O:List Od} (h:Ab nn L Q O) (hQ:Q.length = 16) (hn:nn ≤ 16) (w:Int × Int):Valid Q (ordOf O w):=by
 rw [h.od w]
 intro y hy
 obtain ⟨x,hx,h1,k,h2,h3⟩:=plOf_mem w L [] y hy
 obtain ⟨p1,p2⟩:=h.ok.pg x hx
 have hlt:y.1.toNat < Q.length:=by rw [hQ]; omega
 have hq:=List.getElem?_eq_getElem hlt
 refine ⟨by omega,by omega,_,hq,?_⟩
 rw [h.pg _ _ hq,show ((y.1.toNat:Nat):Int) = x.pg by omega,h2]
 exact h3
theorem ordOf_putW (o:Od) (O:List Od) (w:Int × Int):ordOf (putO o O) w = if w = o.w then o.l else ordOf O w:=by
 unfold putO
 cases ha:O.any (fun x => o.w == x.w) with
 | true =>
  simp only
  induction O with
  | nil => simp at ha
  | cons x O ih =>
   unfold ordOf at ih ⊢
   simp only [List.map_cons,List.find?_cons]
   by_cases e:o.w = x.w
   ·have e1:(o.w == x.w) = true:=beq_iff_eq.2 e
    simp only [e1]
    by_cases e2:w = o.w
    ·have e3:(w == o.w) = true:=beq_iff_eq.2 e2
     simp [e3,e2]
    ·have e3:(w == o.w) = false:=beq_eq_false_iff_ne.2 e2
     have e4:(w == x.w) = false:=beq_eq_false_iff_ne.2 fun e5 => e2 (e5.trans e.symm)
     simp only [e3,e4,if_neg e2]
     cases ha2:O.any (fun x => o.w == x.w) with
     | true => rw [ih ha2,if_neg e2]
     | false =>
      rw [List.map_congr_left (l:=O) (g:=id),List.map_id]
      intro y hy
      have:=List.any_eq_false.1 ha2 y hy
      simp only [Bool.not_eq_true] at this
      rw [this]
      rfl
   ·have e1:(o.w == x.w) = false:=beq_eq_false_iff_ne.2 e
    have ha2:O.any (fun x => o.w == x.w) = true:=by simpa [List.any_cons,e1] using ha
    simp only [e1]
    by_cases e2:w = x.w
    ·have e3:(w == x.w) = true:=beq_iff_eq.2 e2
     have e4:¬ w = o.w:=fun e5 => e (e5.symm.trans e2)
     simp [e3,e4]
    ·have e3:(w == x.w) = false:=beq_eq_false_iff_ne.2 e2
     simp only [e3]
     exact ih ha2
 | false =>
  simp only
  unfold ordOf
  rw [List.find?_append]
  by_cases e2:w = o.w
  ·subst e2
   have:O.find? (fun x => o.w == x.w) = none:=by
    rw [List.find?_eq_none]
    intro x hx
    have:=List.any_eq_false.1 ha x hx
    simpa using this
   simp [this]
  ·have e3:(w == o.w) = false:=beq_eq_false_iff_ne.2 e2
   rw [if_neg e2]
   simp only [List.find?_cons,e3,List.find?_nil,Option.or_none]
theorem ordOf_filterW (O:List Od) (w u:Int × Int):ordOf (O.filter (fun x => !(w == x.w))) u = if u = w then [] else ordOf O u:=by
 induction O with
 | nil => unfold ordOf; simp
 | cons x O ih =>
  unfold ordOf at ih ⊢
  rw [List.filter_cons]
  by_cases e:w = x.w
  ·have e1:(w == x.w) = true:=beq_iff_eq.2 e
   simp only [e1,Bool.not_true,Bool.false_eq_true,↓reduceIte,ih,List.find?_cons]
   by_cases e2:u = w
   ·simp [e2]
   ·have e3:(u == x.w) = false:=beq_eq_false_iff_ne.2 fun h => e2 (h.trans e.symm)
    simp only [if_neg e2,e3]
  ·have e1:(w == x.w) = false:=beq_eq_false_iff_ne.2 e
   simp only [e1,Bool.not_false,↓reduceIte,List.find?_cons]
   by_cases e3:u = x.w
   ·have e4:(u == x.w) = true:=beq_iff_eq.2 e3
    have e5:¬ u = w:=fun h => e (h.symm.trans e3)
    simp only [e4,if_neg e5]
   ·have e4:(u == x.w) = false:=beq_eq_false_iff_ne.2 e3
    simp only [e4]
    exact ih
theorem Ab.write {nn:Int} {L:List Wr} {Q:List Pg} {O:List Od} (h:Ab nn L Q O) {w:Int × Int} {p:Nat} {q:Pg} (hq:Q[p]? = some q) (hp:(p:Int) < nn) {B:List Int} (hB:B.length = 96) (hw:¬ ((whoseW q.l).2 = true ∧ (whoseW q.l).1 ≠ w)) (W':V) (R':List Nat) (W2:V) (R2:List Nat) :
  Ab nn (L ++ [⟨w.1,w.2,p,(q.l.length + 1:Nat),B,false⟩]) (Q.set p ⟨q.l ++ [⟨w.1,w.2,p,(q.l.length + 1:Nat),B,false⟩],W',R'⟩) (putO ⟨w,ordOf O w ++ [((p:Int),(q.l.length:Int))],W2,R2⟩ O):=by
 have hql:=h.pg p q hq
 have hpl:=(List.getElem?_eq_some_iff.1 hq).1
 refine ⟨fun j r hj => ?_,fun u => ?_,fun o ho => ?_,?_⟩
 ·rw [pgOf_app,pgOf_one]
  by_cases e:p = j
  ·subst e
   rw [List.getElem?_set_self hpl] at hj
   cases hj
   rw [if_pos rfl,← hql]
  ·rw [List.getElem?_set_ne e] at hj
   rw [if_neg (fun h:(p:Int) = (j:Int) => e (by omega)),List.append_nil]
   exact h.pg j r hj
 ·rw [ordOf_putW,plOf_snoc,List.nil_append]
  by_cases e:u = w
  ·subst e
   rw [if_pos rfl,if_pos (by simp [vol,Wr.who]),h.od u,hql]
  ·rw [if_neg e,if_neg (fun hv => e ((vol_iff.1 hv).2.symm)),List.append_nil]
   exact h.od u
 ·rcases putO_mem ho with rfl | ⟨-,ho⟩
  ·simp
  ·exact h.ne o ho
 ·rw [hql]
  refine h.ok.write hp hB ?_
  rw [← hql]
  exact hw
theorem Ab.dur {nn:Int} {L:List Wr} {Q:List Pg} {O:List Od} (h:Ab nn L Q O) (w:Int × Int) (k:Nat) (W':V):Ab nn (T.dur w k L) (marks Q ((ordOf O w).take (min k (ordOf O w).length))) (restO O w (min k (ordOf O w).length) W'):=by
 refine ⟨?_,fun u => ?_,fun o ho => ?_,h.ok.dur w k⟩
 ·have:=marks_dur w L [] k Q h.pg fun x hx => (h.ok.pg x hx).1
  rw [h.od w]
  have e:(plOf w [] L).take (min k (plOf w [] L).length) = (plOf w [] L).take k:=by
   rcases Nat.le_total k (plOf w [] L).length with hk | hk
   ·rw [Nat.min_eq_left hk]
   ·rw [Nat.min_eq_right hk,List.take_length,List.take_of_length_le hk]
  rw [e]
  exact this
 ·have hown:(ordOf O w).drop (min k (ordOf O w).length) = plOf w [] (T.dur w k L):=by
   rw [plOf_dur,← h.od w]
   rcases Nat.le_total k (ordOf O w).length with hk | hk
   ·rw [Nat.min_eq_left hk]
   ·rw [Nat.min_eq_right hk,List.drop_length,List.drop_of_length_le hk]
  unfold restO
  split
  ·rename_i e
   rw [ordOf_filterW]
   split
   ·rename_i eu
    subst eu
    rw [← hown,e,List.drop_length]
   ·rename_i eu
    rw [plOf_mk eu (dur_mk w L k),h.od u]
  ·rw [ordOf_putW]
   simp only
   split
   ·rename_i eu
    subst eu
    exact hown
   ·rename_i eu
    rw [plOf_mk eu (dur_mk w L k),h.od u]
 ·unfold restO at ho
  split at ho
  ·exact h.ne o (List.mem_filter.1 ho).1
  ·rename_i e
   rcases putO_mem ho with rfl | ⟨-,ho⟩
   ·simp only
    intro e'
    rw [List.drop_eq_nil_iff] at e'
    omega
   ·exact h.ne o ho
theorem Ab.los {nn:Int} {L:List Wr} {Q:List Pg} {O:List Od} (h:Ab nn L Q O) (w:Int × Int) (k:Nat):Ab nn (T.los w (T.dur w k L)) (cuts (marks Q ((ordOf O w).take (min k (ordOf O w).length))) ((ordOf O w).drop (min k (ordOf O w).length))) (O.filter (fun x => !(w == x.w))):=by
 have h1:=Ab.dur h w k .nils
 have hdrop:(ordOf O w).drop (min k (ordOf O w).length) = plOf w [] (T.dur w k L):=by
  rw [plOf_dur,← h.od w]
  rcases Nat.le_total k (ordOf O w).length with hk | hk
  ·rw [Nat.min_eq_left hk]
  ·rw [Nat.min_eq_right hk,List.drop_length,List.drop_of_length_le hk]
 refine ⟨?_,fun u => ?_,fun o ho => h.ne o (List.mem_filter.1 ho).1,h1.ok.los w⟩
 ·rw [hdrop]
  exact cuts_los w (T.dur w k L) [] [] _ (fun x hx => (h1.ok.pg x hx).1) (h1.ok.ch.vol w) fun p q hq => .inl ⟨h1.pg p q hq,rfl⟩
 ·rw [ordOf_filterW]
  split
  ·rename_i e
   subst e
   exact (plOf_none u _ _ fun x hx => by simpa using (List.mem_filter.1 hx).2).symm
  ·rename_i e
   rw [plOf_los e _ [] [] (h1.ok.ch.vol w) (fun p => .inl rfl),plOf_mk e (dur_mk w L k),h.od u]
theorem Ab.new (nn:Int):Ab nn [] noQ []:=by
 refine ⟨fun p q hq => ?_,fun w => rfl,by simp,LOk.nil nn⟩
 have:=(List.mem_replicate.1 (List.mem_of_getElem? hq)).2
 rw [this]
 rfl
theorem ordOf_cp (O:List Od) (w:Int × Int):∀ L0,ordOf (cpO L0 O) w = ordOf O w:=by
 induction O with
 | nil => intro L0; rfl
 | cons o O ih =>
  intro L0
  unfold ordOf at ih ⊢
  simp only [cpO,List.find?_cons]
  cases w == o.w with
  | true => rfl
  | false => exact ih (L0 + 1)
theorem Ab.copy {nn:Int} {L:List Wr} {Q Q':List Pg} {O:List Od} (h:Ab nn L Q O) (hQ:Q'.map Pg.l = Q.map Pg.l) (L0:Nat):Ab nn L Q' (cpO L0 O):=by
 refine ⟨fun p q hq => ?_,fun w => by rw [ordOf_cp]; exact h.od w,fun o ho => ?_,h.ok⟩
 ·have h1:(Q'.map Pg.l)[p]? = some q.l:=by rw [List.getElem?_map,hq]; rfl
  rw [hQ,List.getElem?_map,Option.map_eq_some_iff] at h1
  obtain ⟨r,hr,e⟩:=h1
  rw [← e]
  exact h.pg p r hr
 ·obtain ⟨i,hi⟩:=List.getElem?_of_mem ho
  have hil:i < O.length:=by have:=(List.getElem?_eq_some_iff.1 hi).1; rwa [cpO_len] at this
  have hr:=List.getElem?_eq_getElem hil
  rw [cpO_get hr] at hi
  cases hi
  exact h.ne (O[i]) (List.getElem_mem hil)
end Go.Am.T


set_option linter.unusedVariables false
set_option linter.unusedSimpArgs false
set_option linter.unusedSectionVars false
set_option maxRecDepth 10000
namespace Go.Am.T
attribute [local congr] selV_congr impB_congr
theorem eqCells_ints {k:IntKind}:∀ {n:Nat} {A B:List Int},A.length = n → B.length = n → eqCells (List.replicate n (.i k)) (A.map (V.int k)) (B.map (V.int k)) = some (decide (A = B))
 | 0,[],[],_,_ => rfl
 | n + 1,a :: A,b :: B,h1,h2 => by
  simp only [List.replicate,List.map_cons,eqCells,eqCell,↓reduceIte,eqCells_ints (k:=k) (n:=n) (A:=A) (B:=B) (by simpa using h1) (by simpa using h2),Option.some.injEq]
  by_cases e:a = b <;> by_cases e2:A = B <;> simp [e,e2]
theorem PRow.read {H:Heap} {W:V} {l:List Wr} {R:List Nat} (h:PRow H W l R) (hne:l ≠ []):∃ o ver,∀ (k:Nat) (x:Wr),l[k]? = some x → x.Ok ∧ iaddrSA 101 W (.int .i64 (k:Int)) = some (.ret (.ptr o ver (k * 101))) ∧
  (∀ j n,j + n ≤ 101 → loadA (fun o => H[o]?) n (.ptr o ver (k * 101 + j)) = some ((x.cs.drop j).take n)):=by
 obtain ⟨hall,⟨h0,-⟩ | ⟨o,ver,cap,rest,hrs,-,hW,ho,hc⟩⟩:=h
 ·exact absurd h0 hne
 ·refine ⟨o,ver,fun k x hk => ?_⟩
  have hkl:=(List.getElem?_eq_some_iff.1 hk).1
  have hl:=flatW_len hall
  refine ⟨hall x (List.mem_of_getElem? hk),?_,fun j n hjn => ?_⟩
  ·rw [hW]
   have g0:(0:Int) ≤ (k:Int):=by omega
   have g1:(k:Int) < (l.length:Int):=by omega
   simp [iaddrSA,indexedI,intOf?,g0,g1]
  ·simp only [loadA,cellsAt,ho,↓reduceIte]
   rw [if_pos (by rw [List.length_append,hl]; omega),← flatW_at hall hk rest,List.drop_take,List.take_take,List.drop_drop,Nat.min_eq_left (by omega)]
theorem Wr.c0 (x:Wr):(x.cs.drop 0).take 2 = [.int .i64 x.nd,.int .i64 x.ep]:=rfl
theorem Wr.c3 (x:Wr):(x.cs.drop 3).take 1 = [.int .i64 x.ps]:=rfl
theorem Wr.cv {x:Wr} (h:x.Ok):(x.cs.drop 3).take 97 = .int .i64 x.ps :: x.b.map (V.int .u8):=by
 unfold Wr.Ok at h
 have:x.cs.drop 3 = (.int .i64 x.ps :: x.b.map (V.int .u8)) ++ [.bool x.du]:=rfl
 rw [this,List.take_append_of_le_length (by simp [h]),List.take_of_length_le (by simp [h])]
theorem Wr.cd {x:Wr} (h:x.Ok):(x.cs.drop 100).take 1 = [.bool x.du]:=by
 unfold Wr.Ok at h
 unfold Wr.cs Wr.hd
 rw [List.drop_append,List.drop_of_length_le (by simp),List.nil_append,List.drop_append,List.drop_of_length_le (by simp; omega),List.length_map,h]
 rfl
end Go.Am.T


set_option linter.unusedVariables false
set_option linter.unusedSimpArgs false
set_option linter.unusedSectionVars false
set_option maxRecDepth 10000
namespace Go.Am.T
def opW (nn:Int) (L:List Wr) (w:Int × Int) (p:Int) (B:List Int):(Int × Int) × List Wr :=
 if badA nn w p 0 = true then ((0,2),L)
 else if (whoseW (pgOf L p)).2 = true ∧ (whoseW (pgOf L p)).1 ≠ w then ((0,11),L)
 else if (pgOf L p).length = 4096 then ((0,5),L)
 else ((((pgOf L p).length + 1:Nat),0),L ++ [⟨w.1,w.2,p,((pgOf L p).length + 1:Nat),B,false⟩])
def opD (nn:Int) (L:List Wr) (w:Int × Int) (k:Int):(Int × Int) × List Wr :=
 if badA nn w 0 k = true then ((0,2),L) else (((min k.toNat (plOf w [] L).length:Nat),0),dur w k.toNat L)
def opL (nn:Int) (L:List Wr) (w:Int × Int) (k:Int):(Int × Int) × List Wr :=
 if badA nn w 0 k = true then ((0,2),L) else ((((plOf w [] L).length - min k.toNat (plOf w [] L).length:Nat),0),los w (dur w k.toNat L))
structure Md (H:Heap) (a m:Nat) (nn:Int) (L:List Wr) (Q:List Pg) (O:List Od):Prop where
 at_:MdAt H a m nn Q O
 ab:Ab nn L Q O
 n1:1 ≤ nn
 n16:nn ≤ 16
theorem badA_k {nn:Int} {w:Int × Int} {p k:Int} (h:badA nn w p k = false):0 ≤ k ∧ 0 ≤ p ∧ p < nn:=by
 unfold badA at h
 simp only [Bool.or_eq_false_iff,decide_eq_false_iff_not] at h
 omega
theorem pgOf_len (L:List Wr) (p:Int):(pgOf L p).length ≤ L.length:=List.length_filter_le _ _
theorem Md.page {H:Heap} {a m:Nat} {nn:Int} {L:List Wr} {Q:List Pg} {O:List Od} (h:Md H a m nn L Q O) {p:Nat} (hp:p < 16):∃ q,Q[p]? = some q ∧ q.l = pgOf L p:=by
 have hq:=List.getElem?_eq_getElem (show p < Q.length by rw [h.at_.q16]; exact hp)
 exact ⟨_,hq,h.ab.pg p _ hq⟩
theorem write_md {N n:Nat} (hN:5000 ≤ N) (hn:8 ≤ n) {H:Heap} {a m:Nat} {nn:Int} {L:List Wr} {Q:List Pg} {O:List Od} (h:Md H a m nn L Q O) (hL:L.length ≤ 4096) (w:Int × Int) (p:Int) {B:List Int} (hB:B.length = 96) :
  ∃ H' Q' O',callA am N n 11 [.ptr a 1 0,.agg (pcs w),.int .i64 p,.agg (B.map (V.int .u8))] H = some (.tup [.int .i64 (opW nn L w p B).1.1,.int .i64 (opW nn L w p B).1.2],H') ∧ Md H' a m nn (opW nn L w p B).2 Q' O' ∧ Bey H H' a m Q Q' O O':=by
 unfold opW
 by_cases hb:badA nn w p 0 = true
 ·obtain ⟨v',H',c,rfl,tl,rfl⟩:=@write_bad N n (by omega) H a m nn Q O h.at_ h.n1 w p hb (B.map (V.int .u8))
  rw [if_pos hb]
  exact ⟨_,Q,O,c,⟨h.at_.app _,h.ab,h.n1,h.n16⟩,Bey.app _⟩
 ·rw [if_neg hb]
  have hb:badA nn w p 0 = false:=by simpa using hb
  obtain ⟨-,p0,pn⟩:=badA_k hb
  obtain ⟨p,rfl⟩:∃ p':Nat,p = (p':Int):=⟨p.toNat,by omega⟩
  have n16:=h.n16
  obtain ⟨q,hq,hql⟩:=h.page (p:=p) (by omega)
  have hplen:=pgOf_len L p
  have hol:=plOf_len w L []
  obtain ⟨v',H',c,hc⟩:=@write_spec N n hN hn H a m nn Q O h.at_ h.n1 w p hb q hq (by rw [hql]; omega) B hB (by rw [h.ab.od w]; omega)
  rw [← hql]
  rcases hc with ⟨c1,c2,rfl,M,B1⟩ | ⟨c1,c2,rfl,M,B1⟩ | ⟨c1,c2,rfl,W',R',W2,R2,M,B1⟩
  ·rw [if_pos ⟨c1,c2⟩]
   exact ⟨_,Q,O,c,⟨M,h.ab,h.n1,h.n16⟩,B1⟩
  ·rw [if_neg c1,if_pos c2]
   exact ⟨_,Q,O,c,⟨M,h.ab,h.n1,h.n16⟩,B1⟩
  ·rw [if_neg c1,if_neg (by omega)]
   exact ⟨_,_,_,c,⟨M,h.ab.write hq pn hB c1 W' R' W2 R2,h.n1,h.n16⟩,B1⟩
theorem durable_md {N n:Nat} (hN:5000 ≤ N) (hn:8 ≤ n) {H:Heap} {a m:Nat} {nn:Int} {L:List Wr} {Q:List Pg} {O:List Od} (h:Md H a m nn L Q O) (hL:L.length ≤ 4096) (w:Int × Int) (k:Int) :
  ∃ H' Q' O',callA am N n 12 [.ptr a 1 0,.agg (pcs w),.int .i64 k] H = some (.tup [.int .i64 (opD nn L w k).1.1,.int .i64 (opD nn L w k).1.2],H') ∧ Md H' a m nn (opD nn L w k).2 Q' O' ∧ Bey H H' a m Q Q' O O':=by
 unfold opD
 by_cases hb:badA nn w 0 k = true
 ·obtain ⟨v',H',c,rfl,tl,rfl⟩:=@durable_bad N n (by omega) H a m nn Q O h.at_ h.n1 w k hb
  rw [if_pos hb]
  exact ⟨_,Q,O,c,⟨h.at_.app _,h.ab,h.n1,h.n16⟩,Bey.app _⟩
 ·rw [if_neg hb]
  have hb:badA nn w 0 k = false:=by simpa using hb
  obtain ⟨k0,-,-⟩:=badA_k hb
  obtain ⟨k,rfl⟩:∃ k':Nat,k = (k':Int):=⟨k.toNat,by omega⟩
  have hol:=plOf_len w L []
  obtain ⟨v',H',c,rfl,W',M,B1⟩:=@durable_spec N n hN (by omega) H a m nn Q O h.at_ h.n1 w k hb (h.ab.valid h.at_.q16 h.n16 w) (by rw [h.ab.od w]; omega)
  simp only [Int.toNat_natCast]
  rw [h.ab.od w] at c
  exact ⟨_,_,_,c,⟨M,h.ab.dur w k W',h.n1,h.n16⟩,B1⟩
theorem lose_md {N n:Nat} (hN:5000 ≤ N) (hn:8 ≤ n) {H:Heap} {a m:Nat} {nn:Int} {L:List Wr} {Q:List Pg} {O:List Od} (h:Md H a m nn L Q O) (hL:L.length ≤ 4096) (w:Int × Int) (k:Int) :
  ∃ H' Q' O',callA am N n 13 [.ptr a 1 0,.agg (pcs w),.int .i64 k] H = some (.tup [.int .i64 (opL nn L w k).1.1,.int .i64 (opL nn L w k).1.2],H') ∧ Md H' a m nn (opL nn L w k).2 Q' O' ∧ Bey H H' a m Q Q' O O':=by
 unfold opL
 by_cases hb:badA nn w 0 k = true
 ·obtain ⟨v',H',c,rfl,tl,rfl⟩:=@lose_bad N n (by omega) H a m nn Q O h.at_ h.n1 w k hb
  rw [if_pos hb]
  exact ⟨_,Q,O,c,⟨h.at_.app _,h.ab,h.n1,h.n16⟩,Bey.app _⟩
 ·rw [if_neg hb]
  have hb:badA nn w 0 k = false:=by simpa using hb
  obtain ⟨k0,-,-⟩:=badA_k hb
  obtain ⟨k,rfl⟩:∃ k':Nat,k = (k':Int):=⟨k.toNat,by omega⟩
  have hol:=plOf_len w L []
  obtain ⟨v',H',c,rfl,M,B1⟩:=@lose_spec N n hN (by omega) H a m nn Q O h.at_ h.n1 w k hb (h.ab.valid h.at_.q16 h.n16 w) (by rw [h.ab.od w]; omega)
  simp only [Int.toNat_natCast]
  rw [h.ab.od w] at c
  exact ⟨_,_,_,c,⟨M,h.ab.los w k,h.n1,h.n16⟩,B1⟩
theorem Md.app {H:Heap} {a m:Nat} {nn:Int} {L:List Wr} {Q:List Pg} {O:List Od} (h:Md H a m nn L Q O) (l:Heap):Md (H ++ l) a m nn L Q O:=⟨h.at_.app l,h.ab,h.n1,h.n16⟩
theorem Md.set {H:Heap} {a m:Nat} {nn:Int} {L:List Wr} {Q:List Pg} {O:List Od} (h:Md H a m nn L Q O) {o:Nat} (y:Ob) (ho:¬ Own a m Q O o):Md (H.set o y) a m nn L Q O:=⟨h.at_.set y ho,h.ab,h.n1,h.n16⟩
theorem Md.keep {H H':Heap} {a m:Nat} {nn:Int} {L:List Wr} {Q:List Pg} {O:List Od} (h:Md H a m nn L Q O) (hk:∀ x,Own a m Q O x → H'[x]? = H[x]?):Md H' a m nn L Q O:=⟨h.at_.keep hk,h.ab,h.n1,h.n16⟩
structure Went (kind:Int) (w:Int × Int) (a b:List Wr):Prop where
 same:∀ (k:Nat) (x y:Wr),a[k]? = some x → b[k]? = some y → y.ps = x.ps ∧ y.b = x.b ∧ y.nd = x.nd ∧ y.ep = x.ep ∧ (x.du = true → y.du = true)
 gone:∀ (k:Nat) (x:Wr),b.length ≤ k → a[k]? = some x → x.du = false ∧ x.nd = w.1 ∧ x.ep = w.2 ∧ kind = 3
 more:kind ≠ 1 → b.length ≤ a.length
theorem Went.refl (kind:Int) (w:Int × Int) (a:List Wr):Went kind w a a :=
 ⟨fun k x y hx hy => by rw [hx] at hy; cases hy; exact ⟨rfl,rfl,rfl,rfl,fun h => h⟩,fun k x hk hx => by have:=(List.getElem?_eq_some_iff.1 hx).1; omega,fun _ => Nat.le_refl _⟩
theorem Went.write (nn:Int) (L:List Wr) (w:Int × Int) (p:Int) (B:List Int) (j:Int):Went 1 w (pgOf L j) (pgOf (opW nn L w p B).2 j):=by
 unfold opW
 split
 ·exact .refl _ _ _
 split
 ·exact .refl _ _ _
 split
 ·exact .refl _ _ _
 ·simp only
  rw [pgOf_app]
  refine ⟨fun k x y hx hy => ?_,fun k x hk hx => ?_,fun h => absurd rfl h⟩
  ·rw [List.getElem?_append_left (List.getElem?_eq_some_iff.1 hx).1,hx] at hy
   cases hy
   exact ⟨rfl,rfl,rfl,rfl,fun h => h⟩
  ·have:=(List.getElem?_eq_some_iff.1 hx).1
   rw [List.length_append] at hk
   omega
theorem MkL.went {w:Int × Int} {kind:Int} {b a:List Wr} (h:MkL w b a):Went kind w a b:=by
 refine ⟨fun k x y hx hy => ?_,fun k x hk hx => ?_,fun _ => by rw [h.len]; exact Nat.le_refl _⟩
 ·obtain ⟨z,h1,h2⟩:=h.get hy
  rw [hx] at h1
  cases h1
  rcases h2 with rfl | ⟨-,rfl⟩
  ·exact ⟨rfl,rfl,rfl,rfl,fun h => h⟩
  ·exact ⟨rfl,rfl,rfl,rfl,fun _ => rfl⟩
 ·have:=(List.getElem?_eq_some_iff.1 hx).1
  rw [h.len] at hk
  omega
theorem Went.dur (nn:Int) (L:List Wr) (w:Int × Int) (k:Int) (j:Int):Went 2 w (pgOf L j) (pgOf (opD nn L w k).2 j):=by
 unfold opD
 split
 ·exact .refl _ _ _
 ·exact ((dur_mk w L _).pg j).went
theorem Went.los {nn:Int} {L:List Wr} (h:LOk nn L) (w:Int × Int) (k:Int) (j:Int):Went 3 w (pgOf L j) (pgOf (opL nn L w k).2 j):=by
 unfold opL
 split
 ·exact .refl _ _ _
 ·simp only
  have hm:=(dur_mk w L k.toNat).pg j
  have h1:Went 3 w (pgOf L j) (pgOf (T.dur w k.toNat L) j):=hm.went
  obtain ⟨t,e,ht⟩:=los_pre (h.dur w k.toNat).ch w j
  refine ⟨fun i x y hx hy => ?_,fun i x hi hx => ?_,fun _ => ?_⟩
  ·refine h1.same i x y hx ?_
   rw [e,List.getElem?_append_left (List.getElem?_eq_some_iff.1 hy).1]
   exact hy
  ·have hil:=(List.getElem?_eq_some_iff.1 hx).1
   have hlen:=hm.len
   have hi':=List.getElem?_eq_getElem (show i < (pgOf (T.dur w k.toNat L) j).length by omega)
   generalize (pgOf (T.dur w k.toNat L) j)[i]'(by omega) = y at hi'
   obtain ⟨z,z1,z2⟩:=hm.get hi'
   rw [hx] at z1
   cases z1
   rw [e,List.getElem?_append_right hi] at hi'
   have hv:=vol_iff.1 (ht y (List.mem_of_getElem? hi'))
   rcases z2 with rfl | ⟨-,rfl⟩
   ·obtain ⟨q1,q2⟩:=hv
    unfold Wr.who at q2
    exact ⟨q1,by rw [← q2],by rw [← q2],rfl⟩
   ·cases hv.1
  ·have:=hm.len
   rw [e,List.length_append] at this
   omega
theorem Chain.next {L:List Wr} (h:Chain L) (p:Int):∀ (k:Nat) (x y:Wr),(pgOf L p)[k]? = some x → (pgOf L p)[k + 1]? = some y → x.du = false → y.du = false ∧ y.nd = x.nd ∧ y.ep = x.ep:=by
 intro k x y hx hy hd
 have hp:=h.page x.who p
 obtain ⟨l1,e1⟩:=List.getElem?_eq_some_iff.1 hx
 obtain ⟨l2,e2⟩:=List.getElem?_eq_some_iff.1 hy
 have hh:=List.pairwise_iff_getElem.1 hp k (k + 1) l1 l2 (by omega)
 rw [e1,e2] at hh
 obtain ⟨q1,q2⟩:=vol_iff.1 (hh (vol_iff.2 ⟨hd,rfl⟩))
 unfold Wr.who at q2
 simp only [Prod.mk.injEq] at q2
 exact ⟨q1,q2.1,q2.2⟩
theorem opW_len (nn:Int) (L:List Wr) (w:Int × Int) (p:Int) (B:List Int):(opW nn L w p B).2.length ≤ L.length + 1:=by
 unfold opW
 repeat' split
 all_goals simp
theorem opD_len (nn:Int) (L:List Wr) (w:Int × Int) (k:Int):(opD nn L w k).2.length ≤ L.length:=by
 unfold opD
 split
 ·exact Nat.le_refl _
 ·simp only [(dur_mk w L _).len]; exact Nat.le_refl _
theorem opL_len (nn:Int) (L:List Wr) (w:Int × Int) (k:Int):(opL nn L w k).2.length ≤ L.length:=by
 unfold opL
 split
 ·exact Nat.le_refl _
 ·have h1:=List.length_filter_le (fun x => !vol w x) (dur w k.toNat L)
  rw [(dur_mk w L _).len] at h1
  exact h1
end Go.Am.T


set_option linter.unusedVariables false
set_option linter.unusedSimpArgs false
namespace Go.Am
variable {P:Program}
mutual
def bulkD {H:Type}:DataW H → Nat
 | .lit (.string bytes) => bytes.length + 1
 | .lit _ => 1
 | .nil => 1
 | .ptr d => bulkD d + 1
 | .slice elems spare => bulkAllD elems + bulkAllD spare + 1
 | .agg parts => bulkAllD parts + 1
 | .iface _ d => bulkD d + 1
 | .map entries => bulkEntriesD entries + 1
 | .held _ => 1
def bulkAllD {H:Type}:List (DataW H) → Nat
 | [] => 0
 | d :: r => bulkD d + bulkAllD r
def bulkEntriesD {H:Type}:List (Lit × DataW H) → Nat
 | [] => 0
 | x :: r => bulkEntryD x + bulkEntriesD r
def bulkEntryD {H:Type}:Lit × DataW H → Nat
 | (.string bytes,d) => bytes.length + bulkD d + 1
 | (_,d) => bulkD d + 1
end
section
variable {H:Type} {enc:TypeId × Value → H} {w:World} {sp:Nat → Bool} {held:Bool} {g:G} {M:Nat}
end
end Go.Am


set_option linter.unusedVariables false
set_option linter.unusedSimpArgs false
set_option linter.unusedSectionVars false
set_option maxRecDepth 10000
namespace Go.Am.T
attribute [local congr] selV_congr impB_congr
structure St where
 kind:Int
 pg:Int
 n:Int
 nd:Int
 ep:Int
 b:List Int
def St.cs (x:St):List V:=.int .i64 x.kind :: .int .i64 x.pg :: .int .i64 x.n :: .int .i64 x.nd :: .int .i64 x.ep :: x.b.map (V.int .u8)
theorem Own.app {a m:Nat} {Q:List Pg} {O:List Od} {H:Heap} {nn:Int} {L:List Wr} (M:Md H a m nn L Q O) {x:Nat} (h:Own a m Q O x):x < H.length:=M.at_.lt x h
end Go.Am.T


set_option linter.unusedVariables false
set_option linter.unusedSimpArgs false
set_option linter.unusedSectionVars false
set_option maxRecDepth 10000
namespace Go.Am.T
attribute [local congr] selV_congr impB_congr
def Gone (N:Nat) (m:V) (H:Heap):Prop:=∀ n T,1 ≤ n → callA am N n 26 [m] (H ++ T) = some (.bool false,H ++ T)
theorem Gone.app {N:Nat} {m:V} {H:Heap} (h:Gone N m H) (T:Heap):Gone N m (H ++ T):=fun n T' hn => by rw [List.append_assoc]; exact h n (T ++ T') hn
theorem am45_wp {N n:Nat} {args:List V} {h:Heap} {C:V → Heap → Prop} (ha:args.length = 3) (H:sx ⟨pureOf am,callA am N n,N,h.length⟩ am45.body (fr am45.nt (argsF 0 args)) (h ++ deads am45.sites) (retQ am45.res C)):∃ v h',callA am N (n + 1) 45 args h = some (v,h') ∧ C v h' :=
 call_keep at45 rfl ha (by decide) (sx_wp H)
theorem am21_wp {N n:Nat} {args:List V} {h:Heap} {C:V → Heap → Prop} (ha:args.length = 2) (H:sx ⟨pureOf am,callA am N n,N,h.length⟩ am21.body (fr am21.nt (argsF 0 args)) (h ++ deads am21.sites) (retQ am21.res C)):∃ v h',callA am N (n + 1) 21 args h = some (v,h') ∧ C v h' :=
 call_keep at21 rfl ha (by decide) (sx_wp H)
theorem am23_wp {N n:Nat} {args:List V} {h:Heap} {C:V → Heap → Prop} (ha:args.length = 2) (H:sx ⟨pureOf am,callA am N n,N,h.length⟩ am23.body (fr am23.nt (argsF 0 args)) (h ++ deads am23.sites) (retQ am23.res C)):∃ v h',callA am N (n + 1) 23 args h = some (v,h') ∧ C v h' :=
 call_keep at23 rfl ha (by decide) (sx_wp H)
def zV:List V:=[.int .i64 0,.int .u8 0,.int .u8 0,.int .u8 0,.int .u8 0,.int .u8 0,.int .u8 0,.int .u8 0,.int .u8 0,.int .u8 0,.int .u8 0,.int .u8 0,.int .u8 0,.int .u8 0,.int .u8 0,.int .u8 0,.int .u8 0,.int .u8 0,.int .u8 0,.int .u8 0,.int .u8 0,.int .u8 0,.int .u8 0,.int .u8 0,.int .u8 0,.int .u8 0,.int .u8 0,.int .u8 0,.int .u8 0,.int .u8 0,.int .u8 0,.int .u8 0,.int .u8 0,.int .u8 0,.int .u8 0,.int .u8 0,.int .u8 0,.int .u8 0,.int .u8 0,.int .u8 0,.int .u8 0,.int .u8 0,.int .u8 0,.int .u8 0,.int .u8 0,.int .u8 0,.int .u8 0,.int .u8 0,.int .u8 0,.int .u8 0,.int .u8 0,.int .u8 0,.int .u8 0,.int .u8 0,.int .u8 0,.int .u8 0,.int .u8 0,.int .u8 0,.int .u8 0,.int .u8 0,.int .u8 0,.int .u8 0,.int .u8 0,.int .u8 0,.int .u8 0,.int .u8 0,.int .u8 0,.int .u8 0,.int .u8 0,.int .u8 0,.int .u8 0,.int .u8 0,.int .u8 0,.int .u8 0,.int .u8 0,.int .u8 0,.int .u8 0,.int .u8 0,.int .u8 0,.int .u8 0,.int .u8 0,.int .u8 0,.int .u8 0,.int .u8 0,.int .u8 0,.int .u8 0,.int .u8 0,.int .u8 0,.int .u8 0,.int .u8 0,.int .u8 0,.int .u8 0,.int .u8 0,.int .u8 0,.int .u8 0,.int .u8 0,.int .u8 0]
theorem top_bad {N n:Nat} (hn:3 ≤ n) {m:V} {H:Heap} {e:Int} (he:e ≠ 0) (p:V) (f:Nat) (h:∀ T,callA am N (n - 1) 29 [m,.agg [.int .i64 0,.int .i64 1],p,.int .i64 0] (H ++ T) = some (.int .i64 e,H ++ T ++ [⟨1,.var [.int .i64 0,.int .i64 1]⟩])):∃ v' H',callA am N n 45 [m,p,.func f [] []] H = some (v',H') ∧ v' = .tup [.agg zV,.int .i64 e] ∧ ∃ tl,H' = H ++ tl:=by
 obtain ⟨n,rfl⟩:∃ m,n = m + 1:=⟨n - 1,by omega⟩
 have he':(e != 0) = true:=by simpa using he
 rw [Nat.add_sub_cancel] at h
 refine am45_wp rfl ?_
 simp +contextual -implicitDefEqProofs (maxSteps:=10000000) only [sxb,↓sxd,plainD,stays,↓prim_pick,doOp,get,ins,del,dels,Nat.reduceLT,Nat.reduceEqDiff,↓reduceIte,reduceCtorEq,ne_eq,implies_true,prim,YLD,mkA,V.cells,Nat.reduceAdd,Nat.reduceSub,Nat.reduceMul,Nat.reduceLeDiff,loadA,cellsAt,nAg,packA,List.drop,List.take,List.head?,binA,unA,eqCells,eqCell,negB,fillA,storeA,Ob.with,indexedI,V.oneCell,intOf?,resA,resA1,packR,sealDepth,Int.reduceLT,Int.reduceLE,Int.reduceToNat,Int.reduceNeg,Int.reduceAdd,Int.reduceSub,Int.reduceMul,cond_true,cond_false,Int.reduceBNe,Int.reduceBEq,eq_self,deads,List.replicate,argsF,am45,app_get0,app_get,app_set0,app_set,h,List.append_assoc,he']
 exact ⟨rfl,_,rfl⟩
theorem body_spec {N n:Nat} (hn:1 ≤ n) (x:Int) (H:Heap):callA am N n 20 [.int .u8 x] H = some (.agg (.int .u8 x :: [.int .u8 0,.int .u8 0,.int .u8 0,.int .u8 0,.int .u8 0,.int .u8 0,.int .u8 0,.int .u8 0,.int .u8 0,.int .u8 0,.int .u8 0,.int .u8 0,.int .u8 0,.int .u8 0,.int .u8 0,.int .u8 0,.int .u8 0,.int .u8 0,.int .u8 0,.int .u8 0,.int .u8 0,.int .u8 0,.int .u8 0,.int .u8 0,.int .u8 0,.int .u8 0,.int .u8 0,.int .u8 0,.int .u8 0,.int .u8 0,.int .u8 0,.int .u8 0,.int .u8 0,.int .u8 0,.int .u8 0,.int .u8 0,.int .u8 0,.int .u8 0,.int .u8 0,.int .u8 0,.int .u8 0,.int .u8 0,.int .u8 0,.int .u8 0,.int .u8 0,.int .u8 0,.int .u8 0,.int .u8 0,.int .u8 0,.int .u8 0,.int .u8 0,.int .u8 0,.int .u8 0,.int .u8 0,.int .u8 0,.int .u8 0,.int .u8 0,.int .u8 0,.int .u8 0,.int .u8 0,.int .u8 0,.int .u8 0,.int .u8 0,.int .u8 0,.int .u8 0,.int .u8 0,.int .u8 0,.int .u8 0,.int .u8 0,.int .u8 0,.int .u8 0,.int .u8 0,.int .u8 0,.int .u8 0,.int .u8 0,.int .u8 0,.int .u8 0,.int .u8 0,.int .u8 0,.int .u8 0,.int .u8 0,.int .u8 0,.int .u8 0,.int .u8 0,.int .u8 0,.int .u8 0,.int .u8 0,.int .u8 0,.int .u8 0,.int .u8 0,.int .u8 0,.int .u8 0,.int .u8 0,.int .u8 0,.int .u8 0]),H):=by
 obtain ⟨n,rfl⟩:∃ m,n = m + 1:=⟨n - 1,by omega⟩
 refine call_pure at20 rfl rfl (by decide) rfl (sx_wp ?_)
 simp +contextual -implicitDefEqProofs (maxSteps:=10000000) only [sxb,↓sxd,plainD,stays,↓prim_pick,doOp,get,ins,del,dels,Nat.reduceLT,Nat.reduceEqDiff,↓reduceIte,reduceCtorEq,ne_eq,implies_true,prim,YLD,mkA,V.cells,Nat.reduceAdd,Nat.reduceSub,Nat.reduceMul,Nat.reduceLeDiff,loadA,cellsAt,nAg,packA,List.drop,List.take,List.head?,binA,unA,eqCells,eqCell,negB,fillA,storeA,Ob.with,indexedI,V.oneCell,intOf?,resA,resA1,packR,sealDepth,Int.reduceLT,Int.reduceLE,Int.reduceToNat,Int.reduceNeg,Int.reduceAdd,Int.reduceSub,Int.reduceMul,cond_true,cond_false,Int.reduceBNe,Int.reduceBEq,eq_self,deads,List.replicate,argsF,am20]
end Go.Am.T


set_option linter.unusedVariables false
set_option linter.unusedSimpArgs false
set_option linter.unusedSectionVars false
set_option maxRecDepth 10000
namespace Go.Am.T
attribute [local congr] selV_congr impB_congr
theorem flatMap_agg {α:Type} (f:α → List V) (l:List α):(l.map fun x => V.agg (f x)).flatMap V.cells = l.flatMap f:=by
 induction l with
 | nil => rfl
 | cons x l ih => rw [List.map_cons,List.flatMap_cons,List.flatMap_cons,ih]; rfl
theorem PRow.shut {H:Heap} {W:V} {l:List Wr} {R:List Nat} (h:PRow H W l R):∃ m,V.shut (fun o => H[o]?) sealDepth W = some m ∧ IsL m 101 (l.map Wr.cs):=by
 obtain ⟨hall,⟨rfl,rfl | rfl,-⟩ | ⟨o,ver,cap,rest,hrs,-,rfl,ho,hc⟩⟩:=h
 ·exact ⟨.nils,rfl,isL_nils 101⟩
 ·exact ⟨.sl [] 101 (some 0),rfl,isL_sl rfl rfl⟩
 ·refine ⟨.sl (l.map fun x => V.agg x.cs) 101 cap,shut_view (by decide) ?_ (by simp) ?_,isL_sl (freeL_of_mem fun b hb => ?_) (by rw [List.map_map]; rfl)⟩
  ·intro e he
   obtain ⟨x,hx,rfl⟩:=List.mem_map.1 he
   refine ⟨Wr.len (hall x hx),?_,fun c hc => ⟨?_,List.all_eq_true.1 x.one c hc⟩⟩
   ·show wrapV x.cs = .agg x.cs
    rfl
   ·have hc:c ∈ x.cs:=hc
    unfold Wr.cs Wr.hd at hc
    simp only [List.mem_append,List.mem_cons,List.not_mem_nil,or_false,List.mem_map] at hc
    rcases hc with (rfl | rfl | rfl | rfl) | ⟨y,-,rfl⟩ | rfl <;> rfl
  ·rw [flatMap_agg]
   have hl:=flatW_len hall
   simp only [loadA,cellsAt,ho,↓reduceIte,Nat.zero_add,List.length_append,hl,List.drop_zero]
   rw [if_pos (by omega),List.take_append,hl,Nat.sub_self,List.take_zero,List.append_nil,List.take_of_length_le (by omega)]
   rfl
  ·obtain ⟨x,hx,rfl⟩:=List.mem_map.1 hb
   refine freeL_of_mem fun c hc => ?_
   unfold Wr.cs Wr.hd at hc
   simp only [List.mem_append,List.mem_cons,List.not_mem_nil,or_false,List.mem_map] at hc
   rcases hc with (rfl | rfl | rfl | rfl) | ⟨y,-,rfl⟩ | rfl <;> rfl
theorem ORow.shut {H:Heap} {W:V} {l:List (Int × Int)} {R:List Nat} (h:ORow H W l R):∃ m,V.shut (fun o => H[o]?) sealDepth W = some m ∧ IsL m 2 (l.map pcs):=by
 rcases h with ⟨rfl,rfl,-⟩ | ⟨o,ver,pre,hpre,-,rfl,ho⟩
 ·exact ⟨.nils,rfl,isL_nils 2⟩
 ·refine ⟨.sl (l.map fun x => V.agg (pcs x)) 2 none,shut_view (by decide) ?_ (by simp) ?_,isL_sl (freeL_of_mem fun b hb => ?_) (by rw [List.map_map]; rfl)⟩
  ·intro e he
   obtain ⟨x,hx,rfl⟩:=List.mem_map.1 he
   refine ⟨rfl,rfl,fun c hc => ?_⟩
   have hc:c ∈ pcs x:=hc
   simp only [pcs,List.mem_cons,List.not_mem_nil,or_false] at hc
   rcases hc with rfl | rfl <;> exact ⟨rfl,rfl⟩
  ·rw [flatMap_agg]
   have hl:=flatP_len l
   simp only [loadA,cellsAt,ho,↓reduceIte,List.length_append,hl,List.drop_left]
   rw [if_pos (by omega),List.take_of_length_le (by omega)]
   rfl
  ·obtain ⟨x,hx,rfl⟩:=List.mem_map.1 hb
   rfl
theorem am34_wp {N n:Nat} {args args':List V} {h:Heap} {v:V} (ha:args.length = 2) (hs:args.mapM (V.shut (fun o => h[o]?) sealDepth) = some args')
  (H:sx ⟨pureOf am,callA am N n,N,0⟩ am34.body (fr am34.nt (argsF 0 args')) (deads am34.sites) (retQ am34.res fun x h' => x = v ∧ v.plain = true)):callA am N (n + 1) 34 args h = some (v,h) :=
 call_look at34 rfl ha (by decide) hs (sx_wp H)
theorem am35_wp {N n:Nat} {args args':List V} {h:Heap} {v:V} (ha:args.length = 2) (hs:args.mapM (V.shut (fun o => h[o]?) sealDepth) = some args')
  (H:sx ⟨pureOf am,callA am N n,N,0⟩ am35.body (fr am35.nt (argsF 0 args')) (deads am35.sites) (retQ am35.res fun x h' => x = v ∧ v.plain = true)):callA am N (n + 1) 35 args h = some (v,h) :=
 call_look at35 rfl ha (by decide) hs (sx_wp H)
theorem eq_bytes_b (b:List Int) (d:Bool):∀ n,b.length = n → eqCells (List.replicate n (.i .u8) ++ [.b]) (b.map (V.int .u8) ++ [.bool d]) (b.map (V.int .u8) ++ [.bool d]) = some true:=by
 induction b with
 | nil => intro n hn; subst hn; simp [eqCells,eqCell]
 | cons x b ih =>
  intro n hn
  obtain ⟨n,rfl⟩:∃ m,n = m + 1:=⟨n - 1,by simp at hn; omega⟩
  have:=ih n (by simpa using hn)
  simp only [List.replicate,List.map_cons,List.cons_append,eqCells,eqCell,↓reduceIte,this]
  simp
theorem eqW_spec {N n:Nat} (hN:5000 ≤ N) (hn:1 ≤ n) {u v:V} {l:List Wr} {R1 R2:List Nat} {H:Heap} (r1:PRow H u l R1) (r2:PRow H v l R2) (hl:l.length ≤ 4096):callA am N n 34 [u,v] H = some (.bool true,H):=by
 obtain ⟨n,rfl⟩:∃ m,n = m + 1:=⟨n - 1,by omega⟩
 obtain ⟨m1,s1,i1⟩:=r1.shut
 obtain ⟨m2,s2,i2⟩:=r2.shut
 have la:=i1.len
 have lb:=i2.len
 rw [List.length_map] at la lb
 have na:=i1.nstr
 have nb:=i2.nstr
 have d0:((l.length:Int) != (l.length:Int)) = false:=by simp
 refine am34_wp (args':=[m1,m2]) rfl (by rw [List.mapM_cons,s1,List.mapM_cons,s2]; rfl) ?_
 simp +contextual -implicitDefEqProofs (maxSteps:=10000000) only [sxb,↓sxd,plainD,stays,↓prim_pick,doOp,get,ins,del,dels,Nat.reduceLT,Nat.reduceEqDiff,↓reduceIte,reduceCtorEq,ne_eq,implies_true,prim,YLD,mkA,V.cells,Nat.reduceAdd,Nat.reduceSub,Nat.reduceMul,Nat.reduceLeDiff,loadA,cellsAt,nAg,packA,List.drop,List.take,List.head?,binA,unA,eqCells,eqCell,negB,fillA,storeA,Ob.with,indexedI,V.oneCell,intOf?,resA,resA1,packR,sealDepth,Int.reduceLT,Int.reduceLE,Int.reduceToNat,Int.reduceNeg,Int.reduceAdd,Int.reduceSub,Int.reduceMul,cond_true,cond_false,Int.reduceBNe,Int.reduceBEq,eq_self,deads,List.replicate,argsF,am34,la,lb,d0]
 refine sx_loop (fun i t k => t = fr 26 [(0,m1),(1,m2),(12,.int .i64 (l.length:Nat)),(13,.int .i64 i)] ∧ i ≤ l.length ∧ k = []) 4096 (by show 4096 < N; omega) ⟨rfl,Nat.zero_le _,rfl⟩ ?_
 rintro i t k hi ⟨rfl,hiA,rfl⟩
 by_cases hlt:i < l.length
 ·have hlt':decide ((i:Int) < (l.length:Int)) = true:=decide_eq_true (by omega)
  have ha:=i1.at_ i
  have hb:=i2.at_ i
  have hx:l[i]? = some l[i]:=List.getElem?_eq_getElem hlt
  have hok:=r1.1 l[i] (List.getElem_mem hlt)
  generalize l[i] = x at hx hok
  rw [List.getElem?_map,hx] at ha hb
  simp only [Option.map_some] at ha hb
  have hcl:=Wr.len hok
  have htk:List.take 101 x.cs = x.cs:=List.take_of_length_le (by omega)
  have sall:∀ g,loadA g 101 (.iptr x.cs 0) = some x.cs:=fun g => by simp [loadA,hcl,htk]
  have heq:eqCells [.i .i64,.i .i64,.i .i64,.i .i64,.i .u8,.i .u8,.i .u8,.i .u8,.i .u8,.i .u8,.i .u8,.i .u8,.i .u8,.i .u8,.i .u8,.i .u8,.i .u8,.i .u8,.i .u8,.i .u8,.i .u8,.i .u8,.i .u8,.i .u8,.i .u8,.i .u8,.i .u8,.i .u8,.i .u8,.i .u8,.i .u8,.i .u8,.i .u8,.i .u8,.i .u8,.i .u8,.i .u8,.i .u8,.i .u8,.i .u8,.i .u8,.i .u8,.i .u8,.i .u8,.i .u8,.i .u8,.i .u8,.i .u8,.i .u8,.i .u8,.i .u8,.i .u8,.i .u8,.i .u8,.i .u8,.i .u8,.i .u8,.i .u8,.i .u8,.i .u8,.i .u8,.i .u8,.i .u8,.i .u8,.i .u8,.i .u8,.i .u8,.i .u8,.i .u8,.i .u8,.i .u8,.i .u8,.i .u8,.i .u8,.i .u8,.i .u8,.i .u8,.i .u8,.i .u8,.i .u8,.i .u8,.i .u8,.i .u8,.i .u8,.i .u8,.i .u8,.i .u8,.i .u8,.i .u8,.i .u8,.i .u8,.i .u8,.i .u8,.i .u8,.i .u8,.i .u8,.i .u8,.i .u8,.i .u8,.i .u8,.b] x.cs x.cs = some true:=by
   have:=eq_bytes_b x.b x.du 96 hok
   simp only [List.replicate,List.cons_append,List.nil_append] at this
   simp only [Wr.cs,Wr.hd,List.cons_append,List.nil_append,eqCells,eqCell,↓reduceIte,this]
   simp
  have w2:IntKind.i64.wrap ((i:Int) + 1) = ((i + 1:Nat):Int):=(wrap64 (by omega) (by omega)).trans (by omega)
  have hi1:i + 1 ≤ l.length:=by omega
  have hi2:i < 4096:=by omega
  simp +contextual -implicitDefEqProofs (maxSteps:=10000000) only [sxb,↓sxd,plainD,stays,↓prim_pick,doOp,get,ins,del,dels,Nat.reduceLT,Nat.reduceEqDiff,↓reduceIte,reduceCtorEq,ne_eq,implies_true,prim,YLD,mkA,V.cells,Nat.reduceAdd,Nat.reduceSub,Nat.reduceMul,Nat.reduceLeDiff,loadA,cellsAt,nAg,packA,List.drop,List.take,List.head?,binA,unA,eqCells,eqCell,negB,fillA,storeA,Ob.with,indexedI,V.oneCell,intOf?,resA,resA1,packR,sealDepth,Int.reduceLT,Int.reduceLE,Int.reduceToNat,Int.reduceNeg,Int.reduceAdd,Int.reduceSub,Int.reduceMul,cond_true,cond_false,Int.reduceBNe,Int.reduceBEq,eq_self,deads,List.replicate,argsF,la,hlt',ha,hb,sall,heq,w2,hi1,hi2,hlt,-loadA]
 ·have e:i = l.length:=by omega
  subst e
  have hlt':decide ((l.length:Int) < (l.length:Int)) = false:=decide_eq_false (by omega)
  simp +contextual -implicitDefEqProofs (maxSteps:=10000000) only [sxb,↓sxd,plainD,stays,↓prim_pick,doOp,get,ins,del,dels,Nat.reduceLT,Nat.reduceEqDiff,↓reduceIte,reduceCtorEq,ne_eq,implies_true,prim,YLD,mkA,V.cells,Nat.reduceAdd,Nat.reduceSub,Nat.reduceMul,Nat.reduceLeDiff,loadA,cellsAt,nAg,packA,List.drop,List.take,List.head?,binA,unA,eqCells,eqCell,negB,fillA,storeA,Ob.with,indexedI,V.oneCell,intOf?,resA,resA1,packR,sealDepth,Int.reduceLT,Int.reduceLE,Int.reduceToNat,Int.reduceNeg,Int.reduceAdd,Int.reduceSub,Int.reduceMul,cond_true,cond_false,Int.reduceBNe,Int.reduceBEq,eq_self,deads,List.replicate,argsF,la,hlt',plain_bool]
theorem eqP_spec {N n:Nat} (hN:5000 ≤ N) (hn:1 ≤ n) {u v:V} {A B:List (Int × Int)} {R1 R2:List Nat} {H:Heap} (r1:ORow H u A R1) (r2:ORow H v B R2) (hl:A.length ≤ 4096):callA am N n 35 [u,v] H = some (.bool (decide (A = B)),H):=by
 obtain ⟨n,rfl⟩:∃ m,n = m + 1:=⟨n - 1,by omega⟩
 obtain ⟨m1,s1,i1⟩:=r1.shut
 obtain ⟨m2,s2,i2⟩:=r2.shut
 have la:=i1.len
 have lb:=i2.len
 rw [List.length_map] at la lb
 have na:=i1.nstr
 have nb:=i2.nstr
 refine am35_wp (args':=[m1,m2]) rfl (by rw [List.mapM_cons,s1,List.mapM_cons,s2]; rfl) ?_
 by_cases hlen:A.length = B.length
 case neg =>
  have d0:((A.length:Int) != (B.length:Int)) = true:=by simp; omega
  have d2:decide (A = B) = false:=decide_eq_false (fun e => hlen (by rw [e]))
  simp +contextual -implicitDefEqProofs (maxSteps:=10000000) only [sxb,↓sxd,plainD,stays,↓prim_pick,doOp,get,ins,del,dels,Nat.reduceLT,Nat.reduceEqDiff,↓reduceIte,reduceCtorEq,ne_eq,implies_true,prim,YLD,mkA,V.cells,Nat.reduceAdd,Nat.reduceSub,Nat.reduceMul,Nat.reduceLeDiff,loadA,cellsAt,nAg,packA,List.drop,List.take,List.head?,binA,unA,eqCells,eqCell,negB,fillA,storeA,Ob.with,indexedI,V.oneCell,intOf?,resA,resA1,packR,sealDepth,Int.reduceLT,Int.reduceLE,Int.reduceToNat,Int.reduceNeg,Int.reduceAdd,Int.reduceSub,Int.reduceMul,cond_true,cond_false,Int.reduceBNe,Int.reduceBEq,eq_self,deads,List.replicate,argsF,am35,la,lb,d0,d2,plain_bool]
 have d0:((A.length:Int) != (B.length:Int)) = false:=by rw [hlen]; simp
 simp +contextual -implicitDefEqProofs (maxSteps:=10000000) only [sxb,↓sxd,plainD,stays,↓prim_pick,doOp,get,ins,del,dels,Nat.reduceLT,Nat.reduceEqDiff,↓reduceIte,reduceCtorEq,ne_eq,implies_true,prim,YLD,mkA,V.cells,Nat.reduceAdd,Nat.reduceSub,Nat.reduceMul,Nat.reduceLeDiff,loadA,cellsAt,nAg,packA,List.drop,List.take,List.head?,binA,unA,eqCells,eqCell,negB,fillA,storeA,Ob.with,indexedI,V.oneCell,intOf?,resA,resA1,packR,sealDepth,Int.reduceLT,Int.reduceLE,Int.reduceToNat,Int.reduceNeg,Int.reduceAdd,Int.reduceSub,Int.reduceMul,cond_true,cond_false,Int.reduceBNe,Int.reduceBEq,eq_self,deads,List.replicate,argsF,am35,la,lb,d0]
 refine sx_loop (fun i t k => t = fr 26 [(0,m1),(1,m2),(12,.int .i64 (A.length:Nat)),(13,.int .i64 i)] ∧ i ≤ A.length ∧ A.take i = B.take i ∧ k = []) 4096 (by show 4096 < N; omega) ⟨rfl,Nat.zero_le _,rfl,rfl⟩ ?_
 rintro i t k hi ⟨rfl,hiA,hpre,rfl⟩
 by_cases hlt:i < A.length
 ·have hlt':decide ((i:Int) < (A.length:Int)) = true:=decide_eq_true (by omega)
  have ha:=i1.at_ i
  have hb:=i2.at_ i
  rw [List.getElem?_map,List.getElem?_eq_getElem hlt] at ha
  rw [List.getElem?_map,List.getElem?_eq_getElem (by omega:i < B.length)] at hb
  simp only [Option.map_some,pcs] at ha hb
  have w2:IntKind.i64.wrap ((i:Int) + 1) = ((i + 1:Nat):Int):=(wrap64 (by omega) (by omega)).trans (by omega)
  by_cases he:A[i] = B[i]'(by omega)
  ·have d1:(A[i].1 == (B[i]'(by omega)).1) = true:=by simp [he]
   have d1':(A[i].2 == (B[i]'(by omega)).2) = true:=by simp [he]
   have hpre':A.take (i + 1) = B.take (i + 1):=by
    rw [List.take_add_one,List.take_add_one,hpre,List.getElem?_eq_getElem hlt,List.getElem?_eq_getElem (by omega:i < B.length),he]
   have hi1:i + 1 ≤ A.length:=by omega
   have hi2:i < 4096:=by omega
   simp +contextual -implicitDefEqProofs (maxSteps:=10000000) only [sxb,↓sxd,plainD,stays,↓prim_pick,doOp,get,ins,del,dels,Nat.reduceLT,Nat.reduceEqDiff,↓reduceIte,reduceCtorEq,ne_eq,implies_true,prim,YLD,mkA,V.cells,Nat.reduceAdd,Nat.reduceSub,Nat.reduceMul,Nat.reduceLeDiff,loadA,cellsAt,nAg,packA,List.drop,List.take,List.head?,binA,unA,eqCells,eqCell,negB,fillA,storeA,Ob.with,indexedI,V.oneCell,intOf?,resA,resA1,packR,sealDepth,Int.reduceLT,Int.reduceLE,Int.reduceToNat,Int.reduceNeg,Int.reduceAdd,Int.reduceSub,Int.reduceMul,cond_true,cond_false,Int.reduceBNe,Int.reduceBEq,eq_self,deads,List.replicate,argsF,la,hlt',ha,hb,d1,d1',w2,hpre',hi1,hi2,hlt,eqCells,eqCell]
  ·have d1:(A[i].1 == (B[i]'(by omega)).1 && A[i].2 == (B[i]'(by omega)).2) = false:=by
    cases e:(A[i].1 == (B[i]'(by omega)).1 && A[i].2 == (B[i]'(by omega)).2) with
    | false => rfl
    | true =>
     rw [Bool.and_eq_true,beq_iff_eq,beq_iff_eq] at e
     exact absurd (Prod.ext e.1 e.2) he
   have d2:decide (A = B) = false:=decide_eq_false (fun e => he (by subst e; rfl))
   simp +contextual -implicitDefEqProofs (maxSteps:=10000000) only [sxb,↓sxd,plainD,stays,↓prim_pick,doOp,get,ins,del,dels,Nat.reduceLT,Nat.reduceEqDiff,↓reduceIte,reduceCtorEq,ne_eq,implies_true,prim,YLD,mkA,V.cells,Nat.reduceAdd,Nat.reduceSub,Nat.reduceMul,Nat.reduceLeDiff,loadA,cellsAt,nAg,packA,List.drop,List.take,List.head?,binA,unA,eqCells,eqCell,negB,fillA,storeA,Ob.with,indexedI,V.oneCell,intOf?,resA,resA1,packR,sealDepth,Int.reduceLT,Int.reduceLE,Int.reduceToNat,Int.reduceNeg,Int.reduceAdd,Int.reduceSub,Int.reduceMul,cond_true,cond_false,Int.reduceBNe,Int.reduceBEq,eq_self,deads,List.replicate,argsF,la,hlt',ha,hb,d1,d2,plain_bool,eqCells,eqCell]
 ·have e:i = A.length:=by omega
  subst e
  have hlt':decide ((A.length:Int) < (A.length:Int)) = false:=decide_eq_false (by omega)
  have d2:decide (A = B) = true:=decide_eq_true (by
   rw [List.take_of_length_le (Nat.le_refl _),List.take_of_length_le (by omega)] at hpre
   exact hpre)
  simp +contextual -implicitDefEqProofs (maxSteps:=10000000) only [sxb,↓sxd,plainD,stays,↓prim_pick,doOp,get,ins,del,dels,Nat.reduceLT,Nat.reduceEqDiff,↓reduceIte,reduceCtorEq,ne_eq,implies_true,prim,YLD,mkA,V.cells,Nat.reduceAdd,Nat.reduceSub,Nat.reduceMul,Nat.reduceLeDiff,loadA,cellsAt,nAg,packA,List.drop,List.take,List.head?,binA,unA,eqCells,eqCell,negB,fillA,storeA,Ob.with,indexedI,V.oneCell,intOf?,resA,resA1,packR,sealDepth,Int.reduceLT,Int.reduceLE,Int.reduceToNat,Int.reduceNeg,Int.reduceAdd,Int.reduceSub,Int.reduceMul,cond_true,cond_false,Int.reduceBNe,Int.reduceBEq,eq_self,deads,List.replicate,argsF,la,hlt',d2,plain_bool]
end Go.Am.T


set_option linter.unusedVariables false
set_option linter.unusedSimpArgs false
set_option linter.unusedSectionVars false
set_option maxRecDepth 10000
namespace Go.Am.T
attribute [local congr] selV_congr impB_congr
def smB:ACode:=(ACode.block 3 (ACode.seq (ACode.region [{ dst:=(some 73),op:=(AOp.extract (Opd.tmp 72) 0),guard:=none },{ dst:=(some 74),op:=(AOp.extract (Opd.tmp 72) 1),guard:=none },{ dst:=(some 6),op:=(AOp.allocz 1 [(V.int IntKind.i64 0),(V.int IntKind.i64 0)]),guard:=none },{ dst:=none,op:=(AOp.store 2 (Opd.tmp 6) (Opd.tmp 73)),guard:=none },{ dst:=(some 7),op:=(AOp.move (Opd.tmp 74)),guard:=none }]) (ACode.seq (ACode.seq (ACode.region [{ dst:=(some 75),op:=(AOp.move (Opd.tmp 7)),guard:=none },{ dst:=(some 76),op:=(AOp.move (Opd.tmp 1)),guard:=none },{ dst:=(some 77),op:=(AOp.nilck (Opd.tmp 76)),guard:=none },{ dst:=(some 78),op:=(AOp.faddr 17 (Opd.tmp 77)),guard:=none },{ dst:=(some 79),op:=(AOp.load none (Opd.tmp 78)),guard:=none },{ dst:=(some 80),op:=(AOp.load (some 2) (Opd.tmp 6)),guard:=none },{ dst:=(some 81),op:=(AOp.mget true [(CK.i IntKind.i64),(CK.i IntKind.i64)] V.nils false (Opd.tmp 79) (Opd.tmp 80)),guard:=none },{ dst:=(some 82),op:=(AOp.call 35 [(Opd.tmp 75),(Opd.tmp 81)]),guard:=none },{ dst:=(some 83),op:=(AOp.un UnOp.not (Opd.tmp 82)),guard:=none }]) (ACode.clr [82,81,80,79,78,77,76,75,7,6])) (ACode.cond (Opd.tmp 83) (ACode.seq (ACode.clr [83,69,1]) (ACode.seq (ACode.region [{ dst:=(some 4),op:=(AOp.move (Opd.cst (V.bool false))),guard:=none }]) ACode.ret)) (ACode.seq (ACode.clr [83]) ACode.skip)))))
def smT (L a b ma:Nat):List (Nat × V):=[(0,.ptr a 1 0),(1,.ptr b 1 0),(65,.ptr a 1 0),(66,.ptr a 1 0),(67,.ptr a 1 17),(68,.map ma 1),(69,.ptr L 1 0)]
def JSm (J:List (Nat × V)):Prop:=J = [] ∨ ∃ v1 v2 v3 v4 v5,J = [(70,v1),(71,v2),(72,v3),(73,v4),(74,v5)]
def smK (Hh:Heap) (q:Ob):Heap:=Hh ++ [⟨1,.dead⟩,q]
def smClr:List Nat:=[83,82,81,80,79,78,77,76,75,74,73,72,71,70,7,6]
set_option maxHeartbeats 1000000 in
theorem sm_round {N n:Nat} (hN:5000 ≤ N) (hn:1 ≤ n) {Hh:Heap} {a b ma mb:Nat} {o:Od} {Ob':List Od} {cs:List V} {k:Nat} {bd:Bd} {J:List (Nat × V)} (hJ:JSm J) (hb:∀ l,(Hh ++ l)[b]? = some ⟨1,.var cs⟩) (hcl:cs.length = 18) (hcm:(cs.drop 17).take 1 = [.map mb 1])
  (hmb:Hh[mb]? = some ⟨1,.map (Ob'.map Od.e)⟩) (hr:ORow Hh o.W o.l o.R) (hr':ORow Hh (ordV Ob' o.w) (ordOf Ob' o.w) (ordR Ob' o.w)) (hl:o.l.length ≤ 4096) :
  (o.l = ordOf Ob' o.w → ∃ t' h',exec (pureOf am) (callA am N n) N Hh.length smB (roundM 70 71 72 o.e (fr 84 (smT Hh.length a b ma ++ J))) (smK Hh ⟨k,bd⟩) = some (.norm,t',h') ∧ ∃ J' b',t' = fr 84 (smT Hh.length a b ma ++ J') ∧ JSm J' ∧ h' = smK Hh ⟨k + 1,b'⟩) ∧
  (o.l ≠ ordOf Ob' o.w → ∃ t' h',exec (pureOf am) (callA am N n) N Hh.length smB (roundM 70 71 72 o.e (fr 84 (smT Hh.length a b ma ++ J))) (smK Hh ⟨k,bd⟩) = some (.ret,t',h') ∧ leaveM smClr [1] Hh.length (.ret,t',h') = (.ret,fr 84 [(0,.ptr a 1 0),(4,.bool false),(65,.ptr a 1 0),(66,.ptr a 1 0),(67,.ptr a 1 17),(68,.map ma 1)],smK Hh ⟨k + 1,.dead⟩)):=by
 obtain ⟨w1,w2,w3,w4,w5,w6⟩:=hr.shape
 obtain ⟨z1,z2,z3,z4,z5,z6⟩:=hr'.shape
 have c35:∀ l,callA am N n 35 [o.W,ordV Ob' o.w] (Hh ++ l) = some (.bool (decide (o.l = ordOf Ob' o.w)),Hh ++ l):=fun l =>
  eqP_spec hN hn (hr.keep fun x hx => List.getElem?_append_left (hr.lt x hx)) (hr'.keep fun x hx => List.getElem?_append_left (hr'.lt x hx)) hl
 have hmb':∀ l:Heap,(Hh ++ l)[mb]? = some ⟨1,.map (Ob'.map Od.e)⟩:=fun l => by rw [List.getElem?_append_left (lt_of_get hmb)]; exact hmb
 have mg:=fun l => mget_w (get:=fun x => (Hh ++ l)[x]?) (hmb' l) o.w
 obtain ⟨⟨nd,ep⟩,ol,oW,oR⟩:=o
 rw [round_fr]
 unfold smK smB
 unfold Od.e kw pcs at *
 simp only at *
 constructor
 ·intro he
  have hd:decide (ol = ordOf Ob' (nd,ep)) = true:=decide_eq_true he
  rw [hd] at c35
  refine @sx_exec ⟨pureOf am,callA am N n,N,Hh.length⟩ _ _ _ _ ?_
  rcases hJ with rfl | ⟨v1,v2,v3,v4,v5,rfl⟩ <;>
  ·unfold smT
   simp +contextual -implicitDefEqProofs (maxSteps:=10000000) only [sxb,↓sxd,plainD,stays,↓prim_pick,doOp,get,ins,del,dels,Nat.reduceLT,Nat.reduceEqDiff,↓reduceIte,reduceCtorEq,ne_eq,implies_true,prim,YLD,mkA,V.cells,Nat.reduceAdd,Nat.reduceSub,Nat.reduceMul,Nat.reduceLeDiff,loadA,cellsAt,nAg,packA,List.drop,List.take,List.head?,binA,unA,eqCells,eqCell,negB,fillA,storeA,Ob.with,indexedI,V.oneCell,intOf?,resA,resA1,packR,sealDepth,Int.reduceLT,Int.reduceLE,Int.reduceToNat,Int.reduceNeg,Int.reduceAdd,Int.reduceSub,Int.reduceMul,cond_true,cond_false,Int.reduceBNe,Int.reduceBEq,eq_self,deads,List.replicate,argsF,app_get0,app_get,app_set0,app_set,hb,hcl,hcm,w1,z1,mg,c35,pm35]
   exact ⟨_,_,rfl,.inr ⟨_,_,_,_,_,rfl⟩,rfl⟩
 ·intro he
  have hd:decide (ol = ordOf Ob' (nd,ep)) = false:=decide_eq_false he
  rw [hd] at c35
  have key:sx ⟨pureOf am,callA am N n,N,Hh.length⟩ smB (fr 84 (ins 72 (.tup [.agg [.int .i64 nd,.int .i64 ep],oW]) (ins 71 (.bool true) (ins 70 (.tup [.bool true,.agg [.int .i64 nd,.int .i64 ep],oW]) (smT Hh.length a b ma ++ J))))) (Hh ++ [⟨1,.dead⟩,⟨k,bd⟩]) fun e t' h' => e = .ret ∧ leaveM smClr [1] Hh.length (.ret,t',h') = (.ret,fr 84 [(0,.ptr a 1 0),(4,.bool false),(65,.ptr a 1 0),(66,.ptr a 1 0),(67,.ptr a 1 17),(68,.map ma 1)],Hh ++ [⟨1,.dead⟩,⟨k + 1,.dead⟩]):=by
   unfold smB
   rcases hJ with rfl | ⟨v1,v2,v3,v4,v5,rfl⟩ <;>
   ·unfold smT
    simp +contextual -implicitDefEqProofs (maxSteps:=10000000) only [sxb,↓sxd,plainD,stays,↓prim_pick,doOp,get,ins,del,dels,Nat.reduceLT,Nat.reduceEqDiff,↓reduceIte,reduceCtorEq,ne_eq,implies_true,prim,YLD,mkA,V.cells,Nat.reduceAdd,Nat.reduceSub,Nat.reduceMul,Nat.reduceLeDiff,loadA,cellsAt,nAg,packA,List.drop,List.take,List.head?,binA,unA,eqCells,eqCell,negB,fillA,storeA,Ob.with,indexedI,V.oneCell,intOf?,resA,resA1,packR,sealDepth,Int.reduceLT,Int.reduceLE,Int.reduceToNat,Int.reduceNeg,Int.reduceAdd,Int.reduceSub,Int.reduceMul,cond_true,cond_false,Int.reduceBNe,Int.reduceBEq,eq_self,deads,List.replicate,argsF,app_get0,app_get,app_set0,app_set,hb,hcl,hcm,w1,z1,mg,c35,pm35,leaveM,smClr,fr_clear,killA,List.foldl_cons,List.foldl_nil]
  have H1:=sx_wp key
  unfold wp at H1
  split at H1
  case h_2 => exact H1.elim
  rename_i e t1 h1 he'
  obtain ⟨rfl,hp⟩:=H1
  exact ⟨t1,h1,he',hp⟩
end Go.Am.T


set_option linter.unusedVariables false
set_option linter.unusedSimpArgs false
set_option linter.unusedSectionVars false
set_option maxRecDepth 10000
namespace Go.Am.T
attribute [local congr] selV_congr impB_congr
theorem Alike.refl {lo:Nat} {r:Ex × List V × Heap} (h:lo ≤ r.2.2.length):Alike lo r r:=by
 have hs:∀ l:List V,l.map (V.ren (fun o => o)) = l:=fun l => map_ren_same fun o _ => rfl
 exact ⟨rfl,fun o => o,fun o => o,Ren.id lo _ h,(hs _).symm,rfl,fun o y hy => ⟨y,hy,rfl,fun hl => BdEq.same hl fun _ _ => rfl⟩⟩
theorem ORow.not_map {H:Heap} {W:V} {l:List (Int × Int)} {R:List Nat} (h:ORow H W l R) {m:Nat} {es:List (V × V)} (hm:H[m]? = some ⟨1,.map es⟩):∀ o ∈ R,m ≠ o:=by
 rcases h with ⟨-,-,rfl⟩ | ⟨o,ver,pre,-,rfl,-,ho⟩
 ·intro o h; cases h
 ·rintro o' h' rfl
  obtain rfl:m = o:=by simpa using h'
  rw [hm] at ho
  cases ho
theorem sm_rounds {N n:Nat} (hN:5000 ≤ N) (hn:1 ≤ n) {Hh:Heap} {a b ma mb:Nat} {P Ob':List Od} {cs:List V} (hb:∀ l,(Hh ++ l)[b]? = some ⟨1,.var cs⟩) (hcl:cs.length = 18) (hcm:(cs.drop 17).take 1 = [.map mb 1])
  (hmb:Hh[mb]? = some ⟨1,.map (Ob'.map Od.e)⟩) (hr:∀ o ∈ P,ORow Hh o.W o.l o.R ∧ ORow Hh (ordV Ob' o.w) (ordOf Ob' o.w) (ordR Ob' o.w) ∧ o.l.length ≤ 4096 ∧ o.l = ordOf Ob' o.w) :
  ∃ r,roundsM (exec (pureOf am) (callA am N n) N Hh.length smB) 69 70 71 72 (.ptr Hh.length 1 0) (P.map Od.e) (fr 84 (smT Hh.length a b ma)) (smK Hh ⟨0,.dead⟩) = some r ∧
   leaveM smClr [1] Hh.length r = (.norm,fr 84 (smT Hh.length a b ma),smK Hh ⟨P.length,.dead⟩):=by
 have rdy:∀ J:List (Nat × V),JSm J → rdyM 69 70 71 (.ptr Hh.length 1 0) (fr 84 (smT Hh.length a b ma ++ J)) = true:=fun J hJ =>
  rdy_fr (by decide) (by rcases hJ with rfl | ⟨v1,v2,v3,v4,v5,rfl⟩ <;> simp [smT,get,V.same]) (by decide) (by decide)
 obtain ⟨t',h',⟨J,bd,rfl,hJ,rfl⟩,hrs⟩:=rounds_inv (f:=exec (pureOf am) (callA am N n) N Hh.length smB) (it:=69) (nx:=70) (ok:=71) (en:=72) (itv:=.ptr Hh.length 1 0)
  (fun i t h => ∃ J bd,t = fr 84 (smT Hh.length a b ma ++ J) ∧ JSm J ∧ h = smK Hh ⟨i,bd⟩) (P.map Od.e) 0 (fr 84 (smT Hh.length a b ma)) (smK Hh ⟨0,.dead⟩)
  ⟨[],.dead,by rw [List.append_nil],.inl rfl,rfl⟩ (fun i e t h hi hI => by
   obtain ⟨J,bd,rfl,hJ,rfl⟩:=hI
   rw [Nat.zero_add]
   refine ⟨rdy J hJ,?_⟩
   rw [List.getElem?_map,Option.map_eq_some_iff] at hi
   obtain ⟨o,ho,rfl⟩:=hi
   obtain ⟨r1,r2,r3,r4⟩:=hr o (List.mem_of_getElem? ho)
   obtain ⟨t',h',c1,J',b',e1,e2,e3⟩:=(@sm_round N n hN hn Hh a b ma mb o Ob' cs i bd J hJ hb hcl hcm hmb r1 r2 r3).1 r4
   exact ⟨t',h',c1,J',b',e1,e2,e3⟩) (fun t h hI => by
   obtain ⟨J,bd,rfl,hJ,rfl⟩:=hI
   exact rdy J hJ)
 refine ⟨_,hrs,?_⟩
 rw [Nat.zero_add,List.length_map]
 unfold leaveM
 simp only [over_fr,smClr,fr_clear]
 have hk3:∀ v b,killA Hh.length [1] (smK Hh ⟨v,b⟩) = smK Hh ⟨v,.dead⟩:=fun v b => by
  unfold killA smK
  simp only [List.foldl_cons,List.foldl_nil,app_get,List.getElem?_cons_succ,List.getElem?_cons_zero,app_set,List.set_cons_succ,List.set_cons_zero]
 rw [hk3]
 rcases hJ with rfl | ⟨v1,v2,v3,v4,v5,rfl⟩ <;> simp [smT,ins,dels,del]
theorem am17_wp {N n:Nat} {args:List V} {h:Heap} {C:V → Heap → Prop} (ha:args.length = 2) (H:sx ⟨pureOf am,callA am N n,N,h.length⟩ am17.body (fr am17.nt (argsF 0 args)) (h ++ deads am17.sites) (retQ am17.res C)):∃ v h',callA am N (n + 1) 17 args h = some (v,h') ∧ C v h' :=
 call_keep at17 rfl ha (by decide) (sx_wp H)
set_option maxHeartbeats 2000000 in
theorem same_md {N n:Nat} (hN:5000 ≤ N) (hn:4 ≤ n) {H:Heap} {a ma b mb:Nat} {nn:Int} {LA LB:List Wr} {QA QB:List Pg} {OA OB:List Od} (MA:Md H a ma nn LA QA OA) (MB:Md H b mb nn LB QB OB) (hp:∀ p:Int,pgOf LA p = pgOf LB p) (hm:ma ≠ mb) (ho:OA.length = OB.length) (hL:LA.length ≤ 4096) {r:Bool}
  (hc:(r = true ∧ ∀ o ∈ OA,o.l = ordOf OB o.w) ∨ (r = false ∧ ∃ o,OA = [o] ∧ o.l ≠ ordOf OB o.w)) (hOl:∀ o ∈ OA,o.l.length ≤ 4096) :
  ∃ v' H',callA am N n 17 [.ptr a 1 0,.ptr b 1 0] H = some (v',H') ∧ v' = .bool r ∧ ∃ tl,H' = H ++ tl:=by
 obtain ⟨n,rfl⟩:∃ m,n = m + 1:=⟨n - 1,by omega⟩
 have c26:=fun l => @there_spec N n (by omega) _ a ma nn QA MA.at_.q16 MA.n1 (MA.app l).at_.ob'
 have c26':=fun l => @there_spec N n (by omega) _ b mb nn QB MB.at_.q16 MB.n1 (MB.app l).at_.ob'
 have oa:∀ l:Heap,(H ++ l)[a]? = some ⟨1,.var (mcs QA nn ma)⟩:=fun l => (MA.app l).at_.ob'
 have ob:∀ l:Heap,(H ++ l)[b]? = some ⟨1,.var (mcs QB nn mb)⟩:=fun l => (MB.app l).at_.ob'
 have om:∀ l:Heap,(H ++ l)[ma]? = some ⟨1,.map (OA.map Od.e)⟩:=fun l => (MA.app l).at_.mp
 have om':∀ l:Heap,(H ++ l)[mb]? = some ⟨1,.map (OB.map Od.e)⟩:=fun l => (MB.app l).at_.mp
 have q1:=@mcs_n QA nn ma MA.at_.q16
 have q1':=@mcs_n QB nn mb MB.at_.q16
 have q2:=@mcs_m QA nn ma MA.at_.q16
 have q2':=@mcs_m QB nn mb MB.at_.q16
 have ql:=@mcs_len QA nn ma MA.at_.q16
 have ql':=@mcs_len QB nn mb MB.at_.q16
 have qp:=@mcs_p QA nn ma
 have qp':=@mcs_p QB nn mb
 have n1:=MA.n1
 have n16:=MA.n16
 have d0:(nn != nn) = false:=by simp
 have d1:((OA.length:Int) != (OB.length:Int)) = false:=by rw [ho]; simp
 have hml:∀ l,mlenA (fun x => (H ++ l)[x]?) (.map ma 1) = some (.int .i64 (OA.length:Nat)):=fun l => by simp [mlenA,mapAt,om]
 have hml':∀ l,mlenA (fun x => (H ++ l)[x]?) (.map mb 1) = some (.int .i64 (OB.length:Nat)):=fun l => by simp [mlenA,mapAt,om']
 refine am17_wp rfl ?_
 generalize hA:mcs QA nn ma = cA at *
 generalize hB:mcs QB nn mb = cB at *
 simp +contextual -implicitDefEqProofs (maxSteps:=10000000) only [sxb,↓sxd,plainD,stays,↓prim_pick,doOp,get,ins,del,dels,Nat.reduceLT,Nat.reduceEqDiff,↓reduceIte,reduceCtorEq,ne_eq,implies_true,prim,YLD,mkA,V.cells,Nat.reduceAdd,Nat.reduceSub,Nat.reduceMul,Nat.reduceLeDiff,loadA,cellsAt,nAg,packA,List.drop,List.take,List.head?,binA,unA,eqCells,eqCell,negB,fillA,storeA,Ob.with,indexedI,V.oneCell,intOf?,resA,resA1,packR,sealDepth,Int.reduceLT,Int.reduceLE,Int.reduceToNat,Int.reduceNeg,Int.reduceAdd,Int.reduceSub,Int.reduceMul,cond_true,cond_false,Int.reduceBNe,Int.reduceBEq,eq_self,deads,List.replicate,argsF,am17,c26,c26',pm26,oa,ob,q1,q1',q2,q2',ql,ql',d0,d1,hml,hml']
 obtain ⟨k,rfl⟩:∃ k:Nat,nn = (k:Int):=⟨nn.toNat,by omega⟩
 refine sx_loop (fun i t h => t = fr 84 [(0,.ptr a 1 0),(1,.ptr b 1 0),(46,.int .i64 (k:Int)),(47,.int .i64 i)] ∧ i ≤ k ∧ h = H ++ [⟨0,.dead⟩,⟨0,.dead⟩]) 16 (by show 16 < N; omega) ⟨rfl,Nat.zero_le _,rfl⟩ ?_
 rintro i t h hi ⟨rfl,hik,rfl⟩
 by_cases hlt:i < k
 ·have g1:decide ((i:Int) < (k:Int)) = true:=decide_eq_true (by omega)
  have hwr:IntKind.i64.wrap ((i:Int) + 1) = ((i + 1:Nat):Int):=(wrap64 (by omega) (by omega)).trans (by omega)
  obtain ⟨q,hq,eq⟩:=MA.page (p:=i) (by omega)
  obtain ⟨q',hq',eq'⟩:=MB.page (p:=i) (by omega)
  have l1:=pgOf_len LA i
  have r1:=(MA.app [⟨0,.dead⟩,⟨0,.dead⟩]).at_.pg q (List.mem_of_getElem? hq)
  have r2:=(MB.app [⟨0,.dead⟩,⟨0,.dead⟩]).at_.pg q' (List.mem_of_getElem? hq')
  rw [eq] at r1
  rw [eq',← hp] at r2
  have c34:=@eqW_spec N n hN (by omega) _ _ _ _ _ _ r1 r2 (by omega)
  have p1:=qp hq
  have p2:=qp' hq'
  have hi15:i ≤ 15:=by omega
  have hi17:i + 1 ≤ 18:=by omega
  have hi16:i < 16:=by omega
  obtain ⟨w1,w2,w3,w4,w5,w6⟩:=r1.shape
  obtain ⟨v1,v2,v3,v4,v5,v6⟩:=r2.shape
  have hi16':(i:Int) < 16:=by omega
  have hi17':i ≤ 17:=by omega
  simp +contextual -implicitDefEqProofs (maxSteps:=10000000) only [sxb,↓sxd,plainD,stays,↓prim_pick,doOp,get,ins,del,dels,Nat.reduceLT,Nat.reduceEqDiff,↓reduceIte,reduceCtorEq,ne_eq,implies_true,prim,YLD,mkA,V.cells,Nat.reduceAdd,Nat.reduceSub,Nat.reduceMul,Nat.reduceLeDiff,loadA,cellsAt,nAg,packA,List.drop,List.take,List.head?,binA,unA,eqCells,eqCell,negB,fillA,storeA,Ob.with,indexedI,V.oneCell,intOf?,resA,resA1,packR,sealDepth,Int.reduceLT,Int.reduceLE,Int.reduceToNat,Int.reduceNeg,Int.reduceAdd,Int.reduceSub,Int.reduceMul,cond_true,cond_false,Int.reduceBNe,Int.reduceBEq,eq_self,deads,List.replicate,argsF,g1,hwr,oa,ob,ql,ql',p1,p2,c34,pm34,hi15,hi16,hi16',hi17,hi17',hlt,w1,v1]
  omega
 have e16:i = k:=by omega
 subst e16
 have g1:decide ((i:Int) < (i:Int)) = false:=decide_eq_false (by omega)
 simp +contextual -implicitDefEqProofs (maxSteps:=10000000) only [sxb,↓sxd,plainD,stays,↓prim_pick,doOp,get,ins,del,dels,Nat.reduceLT,Nat.reduceEqDiff,↓reduceIte,reduceCtorEq,ne_eq,implies_true,prim,YLD,mkA,V.cells,Nat.reduceAdd,Nat.reduceSub,Nat.reduceMul,Nat.reduceLeDiff,loadA,cellsAt,nAg,packA,List.drop,List.take,List.head?,binA,unA,eqCells,eqCell,negB,fillA,storeA,Ob.with,indexedI,V.oneCell,intOf?,resA,resA1,packR,sealDepth,Int.reduceLT,Int.reduceLE,Int.reduceToNat,Int.reduceNeg,Int.reduceAdd,Int.reduceSub,Int.reduceMul,cond_true,cond_false,Int.reduceBNe,Int.reduceBEq,eq_self,deads,List.replicate,argsF,g1,oa,ql,q2]
 have hml0:=MA.at_.ltm
 have hHl:(H.set ma ⟨1,.dead⟩).length = H.length:=by simp
 obtain ⟨Hh,eHh⟩:∃ Hh,Hh = H.set ma ⟨1,.dead⟩:=⟨_,rfl⟩
 rw [← eHh] at hHl
 have hba:ma ≠ b:=fun e => by
  have h1:=MA.at_.mp
  rw [e,MB.at_.ob] at h1
  cases h1
 have obh:∀ l,(Hh ++ l)[b]? = some ⟨1,.var cB⟩:=fun l => by
  rw [List.getElem?_append_left (by rw [hHl]; exact MB.at_.lta),eHh,List.getElem?_set_ne hba,← hB]
  exact MB.at_.ob'
 have mbh:Hh[mb]? = some ⟨1,.map (OB.map Od.e)⟩:=by rw [eHh,List.getElem?_set_ne hm]; exact MB.at_.mp
 have ro:∀ o ∈ OA,ORow Hh o.W o.l o.R:=fun o ho' => ((MA.at_.od o ho')).keep fun x hx => by rw [eHh]; exact List.getElem?_set_ne ((MA.at_.od o ho').not_map MA.at_.mp x hx)
 have ro':∀ w,ORow Hh (ordV OB w) (ordOf OB w) (ordR OB w):=fun w => (ord_row MB.at_ w).keep fun x hx => by rw [eHh]; exact List.getElem?_set_ne ((ord_row MB.at_ w).not_map MA.at_.mp x hx)
 have t69:(fr 84 [(0,V.ptr a 1 0),(1,V.ptr b 1 0),(65,V.ptr a 1 0),(66,V.ptr a 1 0),(67,V.ptr a 1 17),(68,V.map ma 1)]).set 69 (.ptr H.length 1 0) = fr 84 (smT H.length a b ma):=by rw [fr_set]; simp [ins,smT]
 have hide:((H ++ [(⟨0,.dead⟩:Ob),⟨0,.dead⟩]).set ma ⟨1,.dead⟩).set H.length ⟨1,.dead⟩ = smK Hh ⟨0,.dead⟩:=by
  rw [List.set_append_left _ _ hml0,← eHh,← hHl]
  unfold smK
  rw [app_set0]
  rfl
 have hshow:∀ v,(smK Hh ⟨v,.dead⟩)[ma]? = some ⟨1,.dead⟩ ∧ (smK Hh ⟨v,.dead⟩).set ma ⟨1,.map (OA.map Od.e)⟩ = H ++ [⟨1,.dead⟩,⟨v,.dead⟩]:=fun v => by
  unfold smK
  rw [eHh]
  refine ⟨by rw [List.getElem?_append_left (by simpa using hml0),List.getElem?_set_self hml0],?_⟩
  rw [List.set_append_left _ _ (by simpa using hml0),List.set_set]
  have:H.set ma ⟨1,.map (OA.map Od.e)⟩ = H:=by
   apply List.ext_getElem?
   intro j
   by_cases e:ma = j
   ·subst e; rw [List.getElem?_set_self hml0,MA.at_.mp]
   ·rw [List.getElem?_set_ne e]
  rw [this]
 have hsl:∀ v,(smK Hh ⟨v,.dead⟩).length = H.length + 2:=fun v => by simp [smK,hHl]
 rcases hc with ⟨rfl,hall⟩ | ⟨rfl,o,hOA,hne⟩
 ·have hrs:∀ P:List Od,P.Perm OA → _:=fun P hP => @sm_rounds N n hN (by omega) Hh a b ma mb P OB cB obh ql' q2' mbh (fun o ho' => ⟨ro o (hP.mem_iff.1 ho'),ro' o.w,hOl o (hP.mem_iff.1 ho'),hall o (hP.mem_iff.1 ho')⟩)
  obtain ⟨r,r1,r2⟩:=hrs OA (List.Perm.refl _)
  rw [hHl] at r1 r2
  refine sx_rangeM (x:=⟨0,.dead⟩) (om:=some (ma,1)) (es:=OA.map Od.e) (r:=r) (e:=.norm) (t':=fr 84 (smT H.length a b ma)) (h':=H ++ [⟨1,.dead⟩,⟨OA.length,.dead⟩]) (by rw [app_get]; rfl) ?_ ?_ ?_ ?_ ?_
  ·rw [ev_fr (by decide)]
   simp [get,mapOf,mapAt,om]
  ·show roundsM _ 69 70 71 72 (.ptr H.length 1 0) _ (List.set (fr 84 _) 69 (.ptr H.length 1 0)) ((List.set (H ++ _) ma ⟨1,.dead⟩).set H.length ⟨1,.dead⟩) = _
   rw [t69,hide]
   exact r1
  ·intro hclo
   show AnyOrder _ 69 70 71 72 (.ptr H.length 1 0) smClr [1] H.length _ (List.set (fr 84 _) 69 (.ptr H.length 1 0)) ((List.set (H ++ _) ma ⟨1,.dead⟩).set H.length ⟨1,.dead⟩) r
   rw [t69,hide]
   intro π hπ
   obtain ⟨P,hP,rfl⟩:=perm_map hπ OA rfl
   obtain ⟨r',r1',r2'⟩:=hrs P hP
   rw [hHl] at r1' r2'
   refine ⟨r',r1',?_⟩
   rw [r2,r2',hP.length_eq]
   exact Alike.refl (by simp only [hsl]; exact Nat.le_refl _)
  ·show (match (leaveM smClr [1] H.length r).2.2[ma]? with | some ⟨v,.dead⟩ => if v = 1 then some ((leaveM smClr [1] H.length r).1,(leaveM smClr [1] H.length r).2.1,(leaveM smClr [1] H.length r).2.2.set ma ⟨1,.map (OA.map Od.e)⟩) else none | _ => none) = _
   rw [r2]
   simp only [hshow,↓reduceIte]
  ·unfold smT
   simp +contextual -implicitDefEqProofs (maxSteps:=10000000) only [sxb,↓sxd,plainD,stays,↓prim_pick,doOp,get,ins,del,dels,Nat.reduceLT,Nat.reduceEqDiff,↓reduceIte,reduceCtorEq,ne_eq,implies_true,prim,YLD,mkA,V.cells,Nat.reduceAdd,Nat.reduceSub,Nat.reduceMul,Nat.reduceLeDiff,loadA,cellsAt,nAg,packA,List.drop,List.take,List.head?,binA,unA,eqCells,eqCell,negB,fillA,storeA,Ob.with,indexedI,V.oneCell,intOf?,resA,resA1,packR,sealDepth,Int.reduceLT,Int.reduceLE,Int.reduceToNat,Int.reduceNeg,Int.reduceAdd,Int.reduceSub,Int.reduceMul,cond_true,cond_false,Int.reduceBNe,Int.reduceBEq,eq_self,deads,List.replicate,argsF]
   exact ⟨_,rfl⟩
 ·subst hOA
  obtain ⟨t',h',c1,c2⟩:=(@sm_round N n hN (by omega) Hh a b ma mb o OB cB 0 .dead [] (.inl rfl) obh ql' q2' mbh (ro o (by simp)) (ro' o.w) (hOl o (by simp))).2 hne
  rw [List.append_nil,hHl] at c1
  rw [hHl] at c2
  have hrdy:rdyM 69 70 71 (.ptr H.length 1 0) (fr 84 (smT H.length a b ma)) = true:=rdy_fr (by decide) (by simp [smT,get,V.same]) (by decide) (by decide)
  have hrun:roundsM (exec (pureOf am) (callA am N n) N H.length smB) 69 70 71 72 (.ptr H.length 1 0) [o.e] (fr 84 (smT H.length a b ma)) (smK Hh ⟨0,.dead⟩) = some (.ret,t',h'):=by
   simp only [roundsM,hrdy,c1]
  refine sx_rangeM (x:=⟨0,.dead⟩) (om:=some (ma,1)) (es:=[o.e]) (r:=(.ret,t',h')) (e:=.ret) (t':=fr 84 [(0,.ptr a 1 0),(4,.bool false),(65,.ptr a 1 0),(66,.ptr a 1 0),(67,.ptr a 1 17),(68,.map ma 1)]) (h':=H ++ [⟨1,.dead⟩,⟨1,.dead⟩]) (by rw [app_get]; rfl) ?_ ?_ ?_ ?_ ?_
  ·rw [ev_fr (by decide)]
   simp [get,mapOf,mapAt,om]
  ·show roundsM _ 69 70 71 72 (.ptr H.length 1 0) _ (List.set (fr 84 _) 69 (.ptr H.length 1 0)) ((List.set (H ++ _) ma ⟨1,.dead⟩).set H.length ⟨1,.dead⟩) = _
   rw [t69,hide]
   exact hrun
  ·intro hclo
   show AnyOrder _ 69 70 71 72 (.ptr H.length 1 0) smClr [1] H.length _ (List.set (fr 84 _) 69 (.ptr H.length 1 0)) ((List.set (H ++ _) ma ⟨1,.dead⟩).set H.length ⟨1,.dead⟩) _
   rw [t69,hide]
   intro π hπ
   have:π = [o.e]:=List.perm_singleton.1 hπ
   subst this
   refine ⟨_,hrun,?_⟩
   rw [c2]
   exact Alike.refl (by simp only [hsl]; exact Nat.le_refl _)
  ·show (match (leaveM smClr [1] H.length (.ret,t',h')).2.2[ma]? with | some ⟨v,.dead⟩ => if v = 1 then some ((leaveM smClr [1] H.length (.ret,t',h')).1,(leaveM smClr [1] H.length (.ret,t',h')).2.1,(leaveM smClr [1] H.length (.ret,t',h')).2.2.set ma ⟨1,.map ([o].map Od.e)⟩) else none | _ => none) = _
   rw [c2]
   simp only [hshow,↓reduceIte]
  ·simp +contextual -implicitDefEqProofs (maxSteps:=10000000) only [sxb,↓sxd,plainD,stays,↓prim_pick,doOp,get,ins,del,dels,Nat.reduceLT,Nat.reduceEqDiff,↓reduceIte,reduceCtorEq,ne_eq,implies_true,prim,YLD,mkA,V.cells,Nat.reduceAdd,Nat.reduceSub,Nat.reduceMul,Nat.reduceLeDiff,loadA,cellsAt,nAg,packA,List.drop,List.take,List.head?,binA,unA,eqCells,eqCell,negB,fillA,storeA,Ob.with,indexedI,V.oneCell,intOf?,resA,resA1,packR,sealDepth,Int.reduceLT,Int.reduceLE,Int.reduceToNat,Int.reduceNeg,Int.reduceAdd,Int.reduceSub,Int.reduceMul,cond_true,cond_false,Int.reduceBNe,Int.reduceBEq,eq_self,deads,List.replicate,argsF]
   exact ⟨_,rfl⟩
end Go.Am.T

