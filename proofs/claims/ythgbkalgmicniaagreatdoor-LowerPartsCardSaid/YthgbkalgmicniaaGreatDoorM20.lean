/- What is small has good parts. No program. -/
import Derived.Test.YthgbkalgmicniaaGreatDoorM19
import Derived.Test.YthgbkalgmicniaaGreatDoorM18
import Derived.Test.YthgbkalgmicniaaGreatDoorM08
import Derived.Test.YthgbkalgmicniaaGreatDoorTie
import Derived.Test.YthgbkalgmicniaaGreatDoorCards
import Derived.LaidSub
import Derived.Shelf.Vars
import Derived.Deep.DeepHandedRow
import Derived.WalkKit
import Derived.ProofKit
import Derived.Stop.Joined
set_option linter.all false
namespace Go.Proofs.YthgbkalgmicniaaGreatDoor
open Go.Abs
theorem YS (p q:List (Nat × Nat)):Y6 (p ++ q) = Y6 p + Y6 q:=by simp [Y6]
theorem YK (a:Nat × Nat) (q:List (Nat × Nat)):Y6 (a :: q) = a.1 + a.2 + Y6 q:=rfl
theorem ZaD {α:Type} {f:α → List (Nat × Nat)}:∀ {l:List α} {x:α},x ∈ l → Y6 (f x) ≤ Y6 (l.flatMap f)
 | a :: l,x,h=>by
  rw [List.flatMap_cons,YS]
  rcases List.mem_cons.1 h with rfl | h
  ·omega
  ·have:=ZaD (f:=f) h; omega
theorem ZdC {α:Type} {f:α → Nat × Nat}:∀ {l:List α} {x:α},x ∈ l → (f x).1 + (f x).2 ≤ Y6 (l.map f)
 | a :: l,x,h=>by
  rw [List.map_cons,YK]
  rcases List.mem_cons.1 h with rfl | h
  ·omega
  ·have:=ZdC (f:=f) h; omega
theorem VU {α:Type} {f:α → List (Nat × Nat)} (hf:∀ x,1 ≤ Y6 (f x)):∀ l:List α,l.length ≤ Y6 (l.flatMap f)
 | []=>Nat.zero_le _
 | a :: l=>by
  have:=VU hf l
  have:=hf a
  rw [List.flatMap_cons,YS,List.length_cons]; omega
theorem Zbs {α:Type} {f:α → Nat × Nat} (hf:∀ x,1 ≤ (f x).1 + (f x).2):∀ l:List α,l.length ≤ Y6 (l.map f)
 | []=>Nat.zero_le _
 | a :: l=>by
  have:=Zbs hf l
  have:=hf a
  rw [List.map_cons,YK,List.length_cons]; omega
theorem Zdp {α:Type} {f:α → List (Nat × Nat)} {g:α → Nat} {c:Nat} (h:∀ x,g x ≤ c * Y6 (f x)):∀ l:List α,(l.map g).sum ≤ c * Y6 (l.flatMap f)
 | []=>Nat.zero_le _
 | a :: l=>by
  have:=Zdp h l
  have:=h a
  rw [List.flatMap_cons,YS,List.map_cons,List.sum_cons,Nat.mul_add]; omega
theorem Am.Vk (a:Am):1 ≤ a.sz:=by simp only [Am.sz]; omega
theorem ZeI (e:GE):1 ≤ Y6 (itE e):=by unfold itE; rw [YK]; omega
theorem Ze0 (b:GB):1 ≤ Y6 (itB b):=by unfold itB; rw [YK]; omega
theorem Zho (x:Ins):1 ≤ Y6 (itI x):=by unfold itI; rw [YK]; omega
def WJ (a:Am):Prop:=a.pred.length ≤ 140737488355328 ∧ ∀ t ∈ a.args,t.Nm
structure ZhN (x:Ins):Prop where
 h:∀ a ∈ x.heads,WJ a
 b:∀ b ∈ x.body,WJ b.lit.a ∧ ∀ e ∈ b.elems,(∀ t ∈ e.tuple,t.Nm) ∧ ∀ g ∈ e.cond,WJ g.a
 t:∀ t ∈ x.tuple,t.Nm
theorem WJ.good {a:Am} (h:WJ a) (hs:a.sz ≤ 1000000):a.Good:=⟨h.1,hs,h.2⟩
theorem Zhd {l:List Tm} (h:∀ t ∈ l,t.Nm) (hs:Tm.sz.szs l ≤ 999999):XK l:=⟨hs,h⟩
theorem Znx {e:GE} (hn:(∀ t ∈ e.tuple,t.Nm) ∧ ∀ g ∈ e.cond,WJ g.a) {k:Nat} (hk:k ≤ 999999) (hs:Y6 (itE e) ≤ k):e.Good ∧ XK e.tuple ∧ e.cond.length ≤ k:=by
 unfold itE at hs
 rw [YK] at hs
 have hl:=Zbs (f:=fun g:GL=>((0:Nat),g.a.sz)) (fun g=>by have:=Am.Vk g.a; simp only; omega) e.cond
 have ht:=Zhd hn.1 (by simp only at hs; omega)
 refine ⟨⟨by have:=ht.len; omega,fun t h=>ht.arg h,by omega,fun g hg=>(hn.2 g hg).good ?_⟩,ht,by omega⟩
 have:=ZdC (f:=fun g:GL=>((0:Nat),g.a.sz)) hg
 simp only at this; omega
theorem Zn6 {b:GB} (hn:WJ b.lit.a ∧ ∀ e ∈ b.elems,(∀ t ∈ e.tuple,t.Nm) ∧ ∀ g ∈ e.cond,WJ g.a) {k:Nat} (hk:k ≤ 999999) (hs:Y6 (itB b) ≤ k) :
  b.Good ∧ b.elems.length ≤ k ∧ ∀ e ∈ b.elems,e.Good ∧ XK e.tuple ∧ e.cond.length ≤ k:=by
 unfold itB at hs
 rw [YK] at hs
 have hl:=VU ZeI b.elems
 have he:∀ e ∈ b.elems,e.Good ∧ XK e.tuple ∧ e.cond.length ≤ k:=fun e h=>Znx (hn.2 e h) hk (by have:=ZaD (f:=itE) h; omega)
 exact ⟨⟨hn.1.good (by simp only at hs; omega),by omega,fun e h=>(he e h).1⟩,by omega,he⟩
theorem Zfe (l:List GB):V4 l ≤ 2 * Y6 (l.flatMap itB):=Zdp (g:=fun b:GB=>2 * b.elems.length) (fun b=>by
 have:=VU ZeI b.elems
 unfold itB; rw [YK]; omega) l
theorem Ziz (x:Ins):ZbI x ≤ 11 * Y6 (itI x):=by
 have h1:=Zfe x.body
 have h2:=VU Ze0 x.body
 have h3:Y6 (x.body.flatMap itB) ≤ Y6 (itI x):=by unfold itI; rw [YK,YS]; omega
 have:=Zho x
 unfold ZbI; omega
theorem Ziv (I:List Ins):costs I ≤ 11 * Y6 (I.flatMap itI):=Zdp (g:=ZbI) Ziz I
theorem ZkX (b:GB):(atB b).length ≤ Y6 (itB b):=by
 have h:(b.elems.flatMap atE).length ≤ Y6 (b.elems.flatMap itE):=by
  induction b.elems with
  | nil=>simp
  | cons e l ih =>
   have:=Zbs (f:=fun g:GL=>((0:Nat),g.a.sz)) (fun g=>by have:=Am.Vk g.a; simp only; omega) e.cond
   rw [List.flatMap_cons,List.flatMap_cons,List.length_append,YS,atE,List.length_map,itE,YK]; omega
 unfold atB itB atL
 rw [List.length_append,YK]
 split
 ·simp only [List.length_singleton]; omega
 ·simp only [List.length_nil]; omega
theorem ZkO (x:Ins):(atI x).length ≤ Y6 (itI x):=by
 have h:(x.body.flatMap atB).length ≤ Y6 (x.body.flatMap itB):=by
  induction x.body with
  | nil=>simp
  | cons b l ih =>
   have:=ZkX b
   rw [List.flatMap_cons,List.flatMap_cons,List.length_append,YS]; omega
 have h2:=Zbs (f:=fun a:Am=>((0:Nat),a.sz)) (fun a=>by have:=Am.Vk a; simp only; omega) x.heads
 unfold atI itI
 rw [List.length_append,YK,YS]; omega
theorem ZjB (I:List Ins):(Vr I).length ≤ Y6 (I.flatMap itI):=by
 unfold Vr
 induction I with
 | nil=>simp
 | cons x l ih =>
  have:=ZkO x
  rw [List.flatMap_cons,List.flatMap_cons,List.length_append,YS]; omega
theorem ZlV {x:Ins} (hn:ZhN x) {k:Nat} (hk:k ≤ 999999) (hs:Y6 (itI x) ≤ k):x.Good ∧ XK x.tuple ∧ x.heads.length ≤ k ∧ x.body.length ≤ k ∧ ∀ b ∈ x.body,b.Good ∧ b.elems.length ≤ k ∧ ∀ e ∈ b.elems,e.Good ∧ XK e.tuple ∧ e.cond.length ≤ k:=by
 have h0:=hs
 unfold itI at hs
 rw [YK,YS] at hs
 simp only at hs
 have h2:=Zbs (f:=fun a:Am=>((0:Nat),a.sz)) (fun a=>by have:=Am.Vk a; simp only; omega) x.heads
 have h3:=VU Ze0 x.body
 have ht:=Zhd hn.t (show Tm.sz.szs x.tuple ≤ 999999 by omega)
 have hb:∀ b ∈ x.body,b.Good ∧ b.elems.length ≤ k ∧ ∀ e ∈ b.elems,e.Good ∧ XK e.tuple ∧ e.cond.length ≤ k:=fun b h=>Zn6 (hn.b b h) hk (by have:=ZaD (f:=itB) h; omega)
 refine ⟨⟨by omega,fun a ha=>(hn.h a ha).good ?_,by omega,fun b h=>(hb b h).1,by have:=ht.len; omega,fun t h=>ht.arg h⟩,ht,by omega,by omega,hb⟩
 have:=ZdC (f:=fun a:Am=>((0:Nat),a.sz)) ha
 simp only at this; omega
theorem ZlT {x:Ins} (hn:ZhN x) {k:Nat} (hk:k ≤ 400) (hs:Y6 (itI x) ≤ k) (hv:Ya x = true) (hb:∀ b ∈ x.body,b.kind = 1 ∨ (b.kind = 3 ∧ b.op = 6 ∧ b.no = false)):ZiE x:=by
 obtain ⟨h1,h2,h3,h4,h5⟩:=ZlV hn (show k ≤ 999999 by omega) hs
 have hbd:=(YC hv).2.2.2.2.2.2.2
 refine ⟨h1,hv,by omega,by omega,?_,fun b h=>⟨(h5 b h).1,hb b h,by have:=(h5 b h).2.1; omega,fun hk3 e he=>?_,fun hk3=>?_⟩,h2⟩
 ·have:=Zfe x.body
  have h3:Y6 (x.body.flatMap itB) ≤ Y6 (itI x):=by unfold itI; rw [YK,YS]; omega
  omega
 ·obtain ⟨g1,g2,g3⟩:=(h5 b h).2.2 e he
  have hbb:=hbd b h
  unfold WA at hbb
  rw [if_neg (by omega),if_pos hk3] at hbb
  simp only [Bool.or_eq_false_iff,List.any_eq_false] at hbb
  have hbe:=hbb.2 e he
  simp only [ZaI,Bool.or_eq_true,not_or,Bool.not_eq_true,List.any_eq_true,not_exists,beq_eq_false_iff_ne] at hbe
  exact ⟨g1,fun e0=>by simp [e0] at hbe,List.all_eq_true.2 fun t ht=>by have:=hbe.1.2; simp at this; simpa using this t ht,g2,by omega⟩
 ·have hbb:=hbd b h
  unfold WA at hbb
  rw [if_neg (by omega),if_pos hk3] at hbb
  simp only [Bool.or_eq_false_iff,decide_eq_false_iff_not] at hbb
  omega
end Go.Proofs.YthgbkalgmicniaaGreatDoor

/- The example of the chapter: awake. -/
namespace Go.Proofs.YthgbkalgmicniaaGreatDoor
open Go.Abs
set_option maxRecDepth 100000
theorem numL_sm:∀ (l:List Am) (k:Nat) (M:List (List UInt8 × Int)),SmN M → k + l.length ≤ 1000000 → SmN (Zcz k l M)
 | [],k,M,h,_=>h
 | a :: l,k,M,h,hk=>by
  simp only [List.length_cons] at hk
  refine numL_sm l (k + 1) _ (fun p hp=>?_) (by omega)
  rcases Zbf hp with rfl | hp
  ·simp only; omega
  ·exact h p hp
theorem adds_sm:∀ (l:List Am) (t:Tb),SmN t.M → SmN (t.adds l).M
 | [],t,h=>h
 | a :: l,t,h=>by
  have:t.adds (a :: l) = (t.add a).adds l:=rfl
  rw [this]
  refine adds_sm l _ ?_
  unfold Tb.add
  split
  ·intro p hp
   rcases Zbf hp with rfl | hp
   ·simp
   ·exact h p hp
  ·exact h
theorem Ziq {I:List Ins} (h:(Vr I).length ≤ 100000):SmN (Xo I):=by
 refine numL_sm _ 0 _ (adds_sm _ tb0 (fun p hp=>by cases hp)) ?_
 have h1:=(WQ ltA (tb0.adds (Vr I)).A).length_eq
 have h2:=Zex (Vr I)
 unfold Zo; omega
theorem ZmX (n:Int) (h:-9223372036854775808 ≤ n ∧ n ≤ 9223372036854775807):(ZcZ n).Nm:=.mk _ _ _ _ (by simp) (by decide) h (by simp)
theorem ZiF (s:List UInt8) (h:s.length ≤ 140737488355328):(JO s).Nm:=.mk _ _ _ _ h (by decide) (by decide) (by simp)
theorem nm0 (s:List UInt8) (h:s.length ≤ 140737488355328):WJ ⟨s,[]⟩:=⟨h,by simp⟩
theorem ZiS (g:GL) (h:WJ g.a):WJ (Zik g).lit.a ∧ ∀ e ∈ (Zik g).elems,(∀ t ∈ e.tuple,t.Nm) ∧ ∀ g ∈ e.cond,WJ g.a:=⟨h,fun e he=>by cases he⟩
theorem Zlw (k:Int) (hk:-9223372036854775808 ≤ k ∧ k ≤ 9223372036854775807) (s p:List UInt8) (hs:s.length ≤ 140737488355328) (hp:p.length ≤ 140737488355328) (b:Bool):(∀ t ∈ [ZcZ k,JO s],t.Nm) ∧ ∀ g ∈ [(⟨b,⟨p,[]⟩⟩:GL)],WJ g.a :=
 ⟨(show Yj Tm.Nm [ZcZ k,JO s] from ⟨ZmX k hk,ZiF s hs,trivial⟩).mem,fun g hg=>by simp only [List.mem_singleton] at hg; subst hg; exact nm0 _ hp⟩
theorem ex_nm:Yj ZhN exI :=
 ⟨⟨fun a ha=>(by simp only [exX1,List.mem_singleton] at ha; subst ha; exact nm0 _ (by decide)),fun b hb=>(by cases hb),fun t ht=>(by cases ht)⟩,
  ⟨(show Yj WJ [exB,exC] from ⟨nm0 _ (by decide),nm0 _ (by decide),trivial⟩).mem,fun b hb=>(by simp only [exX2,List.mem_singleton] at hb; subst hb; exact ZiS _ (nm0 _ (by decide))),fun t ht=>(by cases ht)⟩,
  ⟨fun a ha=>(by simp only [exX3,List.mem_singleton] at ha; subst ha; exact nm0 _ (by decide)),fun b hb=>by
   simp only [exX3,List.mem_singleton] at hb; subst hb
   exact ⟨nm0 _ (by decide),(show Yj (fun e:GE=>(∀ t ∈ e.tuple,t.Nm) ∧ ∀ g ∈ e.cond,WJ g.a) [exE1,exE2,exE3] from
    ⟨Zlw 2 (by decide) [120] [98] (by decide) (by decide) false,Zlw 3 (by decide) [121] [99] (by decide) (by decide) false,Zlw 3 (by decide) [121] [97] (by decide) (by decide) true,trivial⟩).mem⟩,fun t ht=>(by cases ht)⟩,
  ⟨fun a ha=>(by cases ha),fun b hb=>(by simp only [exX4,List.mem_singleton] at hb; subst hb; exact ZiS _ (nm0 _ (by decide))),fun t ht=>by simp only [exX4,List.mem_singleton] at ht; subst ht; exact ZiF _ (by decide)⟩,trivial⟩
theorem ex_v:exI.all Ya = true:=by kernel_rfl
theorem ex_tot:Y6 (exI.flatMap itI) = 27:=by kernel_rfl
theorem ex_b:Yj (fun x:Ins=>∀ b ∈ x.body,b.kind = 1 ∨ (b.kind = 3 ∧ b.op = 6 ∧ b.no = false)) exI:=by
 refine ⟨fun b hb=>(by cases hb),fun b hb=>?_,fun b hb=>?_,fun b hb=>?_,trivial⟩
 ·simp only [exX2,List.mem_singleton] at hb; subst hb; exact .inl rfl
 ·simp only [exX3,List.mem_singleton] at hb; subst hb; exact .inr ⟨rfl,rfl,rfl⟩
 ·simp only [exX4,List.mem_singleton] at hb; subst hb; exact .inl rfl
theorem ex_ok:LOk exI:=by
 have ht:=ex_tot
 refine ⟨fun x hx=>ZlT (ex_nm.mem x hx) (k:=400) (Nat.le_refl _) (by have:=ZaD (f:=itI) hx; omega) (List.all_eq_true.1 ex_v x hx) (ex_b.mem x hx),?_,by decide,?_⟩
 ·have:=ZjB exI; omega
 ·have:=Ziv exI
  rw [ex_sorted]; simp only [List.length_cons,List.length_nil]; omega
end Go.Proofs.YthgbkalgmicniaaGreatDoor

/- Awake: the walk. -/
namespace Go.Proofs.YthgbkalgmicniaaGreatDoor
open Go.Abs
set_option maxRecDepth 100000
theorem ex_st0:st0 exI = ⟨4,[],0⟩:=by rw [st0,ex_sorted]; rfl
def exO:Option Pen:=some (exX4.pen [2])
theorem ZlQ (n:Nat):∀ i (h:i < exI.length),ZaK (Xo exI) (n + 1) (runN n exI i) exI[i] = if i + 1 = exI.length then exO else none:=by
 intro i h
 have h4:i < 4:=h
 have hc:i = 0 ∨ i = 1 ∨ i = 2 ∨ i = 3:=by omega
 rcases hc with rfl | rfl | rfl | rfl
 ·rw [if_neg (by decide)]; exact ZiI _ _
 ·rw [if_neg (by decide)]; exact Zjg _ _
 ·rw [if_neg (by decide)]
  have:=Ziu (n + 1)
  unfold runN
  rw [ex_st0]
  exact this
 ·rw [if_pos (by decide)]; exact Zln _ _
theorem ZeX (n:Nat):runN n exI exI.length = ⟨6,exP,0⟩:=by
 unfold runN
 rw [ex_st0,List.take_length]
 exact Zlh _
def exGP:GP:=⟨6,[[97],[98],[99],[100],[],[]],[1,2,3,4],exP,[⟨0,[2],[4]⟩]⟩
theorem Zk8 (n:Nat):Zhw n exI exO = .tup [exGP.enc,.int .i64 0]:=by
 unfold Zhw gpL nms
 rw [ZeX,ex_sorted]
 rfl
theorem ex_gok:exGP.Ok:=by
 refine ⟨by decide,by decide,by decide,by decide,?_,?_⟩
 ·exact (show Yj (fun y:GR=>y.head.length ≤ 1000000 ∧ y.body.length ≤ 1000000 ∧ y.w.length ≤ 1000000) exP from ⟨by decide,by decide,by decide,by decide,by decide,by decide,by decide,trivial⟩).mem
 ·intro y hy; simp only [exGP,List.mem_singleton] at hy; subst hy; exact ⟨by decide,by decide⟩
def ZmU (x:GR):AV:=.agg [.bool x.choice,.sl 1 (x.head.map (AV.int .i64)) .full,.bool x.sum,.int .i64 x.bound,.sl 1 (x.body.map (AV.int .i64)) .full,.sl 1 (x.w.map (AV.int .i64)) .full]
def ZlZ (x:GM):AV:=.agg [.int .i64 x.level,.sl 1 (x.lits.map (AV.int .i64)) .full,.sl 1 (x.w.map (AV.int .i64)) .full]
def Zkw (x:GP):AV:=.agg [.int .i64 x.n,.sl 1 (x.names.map .str) .full,.sl 1 (x.shows.map (AV.int .i64)) .full,.sl 6 (x.rules.map ZmU) .full,.sl 3 (x.min.map ZlZ) .full]
theorem Zko (x:GP):WkS (Zkw x) x.enc:=WkS.ZbX ⟨.refl _,Wp _ _ _,Wp _ _ _,
 .sl _ _ _ _ (by simp) (fun i h h'=>by simp only [List.getElem_map]; exact WkS.ZbX ⟨.refl _,Wp _ _ _,.refl _,.refl _,Wp _ _ _,Wp _ _ _,trivial⟩),
 .sl _ _ _ _ (by simp) (fun i h h'=>by simp only [List.getElem_map]; exact WkS.ZbX ⟨.refl _,Wp _ _ _,Wp _ _ _,trivial⟩),trivial⟩
theorem u29 (x:GP) (h:x.Ok):Pure Tryz.prog 29 [x.enc,Zkw x] (.bool true):=Pure.wk (s29 x h) ⟨.refl _,.deep (Zko x),trivial⟩
theorem u11:ZR Tryz.prog 11 [] (.bool true):=by
 intro n H hn hT
 refine Zm tok (Zb Tryz.func11 rfl rfl) (by simp) fun B=>?_
 refine Za tok rfl rfl ?_
 simp only [go_sem,simprocAttr]
 refine Za tok rfl rfl ?_
 simp only [go_sem,simprocAttr]
 refine Zq (Zb Tryz.func37 rfl rfl) (u37) rfl ?_
 simp only [go_sem,simprocAttr]
 have h28:=b28 (n + 1) (full n [] H) exI ex_ok (Nat.succ_pos n) (hT.full hn) (Ziq ex_ok.al) exO (.sl 2 [] .full) (ZV (fun _ h=>by cases h) (fun _ _ e=>by cases e)) (by rw [ex_sorted]; exact (show Yj (fun a:Am=>(Y1 a).length ≤ 200) [exA,exB,exC,exD] from ⟨by decide,by decide,by decide,by decide,trivial⟩).mem)
  (ZlQ (n + 1)) (fun h=>by cases h) (fun p hp=>by cases hp; exact ⟨2,by unfold SmI; omega,rfl,by decide⟩) (by rw [ZeX]) (by rw [ZeX,ex_sorted]; decide) (by rw [ZeX]; decide)
 rw [Zk8] at h28
 refine XZ (Zb Tryz.func28 rfl rfl) h28 (by simp only [go_sem,simprocAttr]) ?_
 simp only [go_sem,simprocAttr]
 refine Za tok rfl rfl ?_
 simp only [go_sem,simprocAttr]
 refine ⟨rfl,rfl,rfl,rfl,rfl,rfl,rfl,rfl,rfl,rfl,rfl,rfl,rfl,rfl,rfl,rfl,rfl,rfl,rfl,rfl,?_⟩
 refine Za tok rfl rfl ?_
 simp only [go_sem,simprocAttr]
 refine Zq (Zb Tryz.func29 rfl rfl) (u29 exGP ex_gok) (by simp only [go_sem,simprocAttr]; rfl) ?_
 simp only [go_sem,simprocAttr]
 refine Zi rfl rfl ?_
 exact Ze (.refl _) (.bool _) rfl
end Go.Proofs.YthgbkalgmicniaaGreatDoor

/- The size of instances: the walk. -/
namespace Go.Proofs.YthgbkalgmicniaaGreatDoor
open Go.Abs
set_option maxRecDepth 100000
abbrev ZaW (I:List Ins):AV:=.sl 8 (I.map Ins.enc) .any
def hF (a:Am):Nat × Nat:=(0,a.sz)
def cF (g:GL):Nat × Nat:=(0,g.a.sz)
def sz0 (I:List Ins) (H:Zf) (i:Nat):Zh:=⟨[(4,.int .i64 i),(3,.int .i64 (Yn 0 ((I.take i).flatMap itI))),(0,ZaW I)],[],H⟩
def sz1 (I:List Ins) (H:Zf) (i:Nat) (N:Int) (x:Ins) (k:Nat):Zh:=⟨[(5,.int .i64 k),(4,.int .i64 i),(3,.int .i64 (Yn N ((x.heads.take k).map hF))),(0,ZaW I)],[],H⟩
def sz2 (I:List Ins) (H:Zf) (i:Nat) (N:Int) (x:Ins) (k:Nat):Zh:=⟨[(6,.int .i64 k),(4,.int .i64 i),(3,.int .i64 (Yn N ((x.body.take k).flatMap itB))),(0,ZaW I)],[],H⟩
def sz3 (n:Nat) (I:List Ins) (H:Zf) (i k:Nat) (N:Int) (b:GB) (j:Nat):Zh:=⟨[(8,.int .i64 j),(7,.ptr n 7 0),(6,.int .i64 k),(4,.int .i64 i),(3,.int .i64 (Yn N ((b.elems.take j).flatMap itE))),(0,ZaW I)],[(7,.box b.cs)],H⟩
def sz4 (n:Nat) (I:List Ins) (H:Zf) (i k j:Nat) (N:Int) (b:GB) (e:GE) (m:Nat):Zh:=⟨[(9,.int .i64 m),(8,.int .i64 j),(7,.ptr n 7 0),(6,.int .i64 k),(4,.int .i64 i),(3,.int .i64 (Yn N ((e.cond.take m).map cF))),(0,ZaW I)],[(7,.box b.cs)],H⟩
theorem it1 (x:Ins):∀ p ∈ itI x,p.1 ≤ 1 ∧ 1 ≤ p.1 + p.2:=by
 intro p hp
 have hE:∀ e:GE,∀ p ∈ itE e,p.1 ≤ 1 ∧ 1 ≤ p.1 + p.2:=fun e p hp=>by
  rcases List.mem_cons.1 hp with rfl | hp
  ·exact ⟨by simp,by simp⟩
  ·obtain ⟨g,_,rfl⟩:=List.mem_map.1 hp; exact ⟨by simp,by have:=Am.Vk g.a; simpa using this⟩
 have hB:∀ b:GB,∀ p ∈ itB b,p.1 ≤ 1 ∧ 1 ≤ p.1 + p.2:=fun b p hp=>by
  rcases List.mem_cons.1 hp with rfl | hp
  ·exact ⟨by simp,by simp⟩
  ·obtain ⟨e,_,hp⟩:=List.mem_flatMap.1 hp; exact hE e p hp
 rcases List.mem_cons.1 hp with rfl | hp
 ·exact ⟨by simp,by simp⟩
 ·rcases List.mem_append.1 hp with hp | hp
  ·obtain ⟨a,_,rfl⟩:=List.mem_map.1 hp; exact ⟨by simp,by have:=Am.Vk a; simpa using this⟩
  ·obtain ⟨b,_,hp⟩:=List.mem_flatMap.1 hp; exact hB b p hp
theorem Jl {N:Int} {p q:List (Nat × Nat)} (h:400 < Yn N p):Yn N (p ++ q) = Yn N p:=by rw [XH,Jf h]
theorem Zm5 (n B:Nat) (I:List Ins) (H:Zf) (i:Nat) (h:i < I.length) (N:Int) (hN:0 ≤ N ∧ N ≤ 402) :
  AKc ⟨Tryz.prog,tt,⟨none,B⟩,n,Tryz.f13.ntmps⟩ [.code (Y9 Tryz.f13).snd.snd.fst.snd.fst.fst.snd.fst.fst.snd.fst.snd]
   (fun e s'=>e = .normal ∧ AWk n Tryz.f13.ntmps s' ⟨[(4,.int .i64 i),(3,.int .i64 (Yn N (I[i].heads.map hF))),(0,ZaW I)],[],H⟩) (sz1 I H i N I[i] 0):=by
 have hgd:∀ d,(I.map Ins.enc).getD i d = I[i].enc:=fun d=>getD_map Ins.enc _ _ h d
 obtain ⟨x,hx⟩:∃ x,x = I[i]:=⟨_,rfl⟩
 rw [← hx] at hgd ⊢
 have hp1:∀ l:List Am,∀ p ∈ l.map hF,p.1 ≤ 1 ∧ 1 ≤ p.1 + p.2:=fun l p hp=>by obtain ⟨a,_,rfl⟩:=List.mem_map.1 hp; exact ⟨by simp [hF],by have:=Am.Vk a; simpa [hF] using this⟩
 repeat refine kn rfl ?_
 refine Zy (sz1 I H i N x) x.heads.length rfl ?_ ?_
 ·unfold sz1
  refine Zg ?_ ?_ ?_ ?_ <;> repeat' first|exact trivial|refine q0 ?_|exact qb|exact q1|exact q2|exact q3|exact rfl|refine And.intro ?_ ?_|exact qA rfl|exact Inside.ptr _ _ _ (.inr ⟨rfl,rfl⟩)|exact Tm.ins _|exact Tm.Zj _ _|exact Am.ins _|exact Am.Zj _ _|refine Zd ?_|refine Tm.Zc ?_|refine Am.Zc ?_
  all_goals first | exact (Zu _).inside | skip
 intro k hk
 refine Yi rfl ?_
 have hbd:=stpF_bd ((x.heads.take k).map hF) (n:=N) (fun p hp=>(hp1 _ p hp).1) hN.1 hN.2
 unfold sz1
 rcases Nat.lt_or_ge k x.heads.length with h2 | h2
 ·by_cases h4:Yn N ((x.heads.take k).map hF) ≤ 400
  ·have hkl:k ≤ 400:=by
    by_cases hN4:N ≤ 400
    ·have:=stpF_len ((x.heads.take k).map hF) (hp1 _) hN.1 hN4 h4
     rw [List.length_map,List.length_take_of_le hk] at this; omega
    ·rw [Jf (by omega)] at h4; omega
   have hsu:(x.heads.take (k + 1)).map hF = (x.heads.take k).map hF ++ [hF x.heads[k]]:=by rw [List.take_succ_eq_append_getElem h2,List.map_append]; rfl
   rw [hsu,XH]
   generalize Yn N ((x.heads.take k).map hF) = N0 at *
   have hw:IntKind.i64.wrap (400 - N0) = 400 - N0:=IntWalk.i64_in _ (by omega)
   have hc:=JB x.heads[k].sz (m:=400 - N0) (by omega)
   have hst:Yn N0 [hF x.heads[k]] = N0 + Yw x.heads[k].sz (400 - N0):=by rw [ZfP,stp,if_pos h4]; simp [hF]
   have hw2:IntKind.i64.wrap (N0 + Yw x.heads[k].sz (400 - N0)) = N0 + Yw x.heads[k].sz (400 - N0):=IntWalk.i64_in _ (by omega)
   refine Za tok rfl rfl ?_
   simp only [go_sem,simprocAttr,hgd,h,h2,h4]
   refine Zp rfl rfl rfl ?_
   refine Za tok rfl rfl ?_
   simp only [go_sem,simprocAttr,hgd,h,h2,hw,getD_map Am.enc _ _ h2]
   refine Zq (Zb Tryz.func14 rfl rfl) (z14 x.heads[k] (400 - N0) (by omega) (by omega)) (by simp only [go_sem,simprocAttr,hw2]) ?_
   simp only [go_sem,simprocAttr,hw2]
   refine Za tok rfl rfl ?_
   simp only [go_sem,simprocAttr]
   refine Zt rfl ?_
   rw [hst]
   refine Zg ?_ ?_ ?_ ?_ <;> repeat' first|exact trivial|refine q0 ?_|exact qb|exact q1|exact q2|exact q3|exact rfl|refine And.intro ?_ ?_|exact qA rfl|exact Inside.ptr _ _ _ (.inr ⟨rfl,rfl⟩)|exact Tm.ins _|exact Tm.Zj _ _|exact Am.ins _|exact Am.Zj _ _|refine Zd ?_|refine Tm.Zc ?_|refine Am.Zc ?_
   ·simp only [go_sem,simprocAttr]
    rw [IntWalk.i64_in _ (by omega)]; exact .refl _
   all_goals first | exact (Zu _).inside | skip
  ·have hbig:Yn N ((x.heads.take k).map hF) = Yn N (x.heads.map hF):=by
    conv=>rhs; rw [← List.take_append_drop k x.heads,List.map_append]
    rw [Jl (by omega)]
   refine Za tok rfl rfl ?_
   simp only [go_sem,simprocAttr,hgd,h,h2,h4]
   refine Zn rfl rfl rfl ?_
   refine Yh rfl rfl rfl rfl ?_
   refine Zt rfl ?_
   refine ⟨rfl,?_⟩
   rw [hbig]
   refine Zg ?_ ?_ ?_ ?_ <;> repeat' first|exact trivial|refine q0 ?_|exact qb|exact q1|exact q2|exact q3|exact rfl|refine And.intro ?_ ?_|exact qA rfl|exact Inside.ptr _ _ _ (.inr ⟨rfl,rfl⟩)|exact Tm.ins _|exact Tm.Zj _ _|exact Am.ins _|exact Am.Zj _ _|refine Zd ?_|refine Tm.Zc ?_|refine Am.Zc ?_
   all_goals first | exact (Zu _).inside | skip
 ·have hk':k = x.heads.length:=by omega
  subst hk'
  refine Za tok rfl rfl ?_
  simp only [go_sem,simprocAttr,hgd,h,Nat.not_lt.2 h2]
  refine Zn rfl rfl rfl ?_
  refine Yh rfl rfl rfl rfl ?_
  refine Zt rfl ?_
  refine ⟨rfl,?_⟩
  rw [List.take_length]
  refine Zg ?_ ?_ ?_ ?_ <;> repeat' first|exact trivial|refine q0 ?_|exact qb|exact q1|exact q2|exact q3|exact rfl|refine And.intro ?_ ?_|exact qA rfl|exact Inside.ptr _ _ _ (.inr ⟨rfl,rfl⟩)|exact Tm.ins _|exact Tm.Zj _ _|exact Am.ins _|exact Am.Zj _ _|refine Zd ?_|refine Tm.Zc ?_|refine Am.Zc ?_
  all_goals first | exact (Zu _).inside | skip
theorem pB (b:GB):∀ p ∈ itB b,p.1 ≤ 1 ∧ 1 ≤ p.1 + p.2:=fun p hp=>it1 ⟨0,[],0,0,[b],0,0,[]⟩ p (by simp [itI]; exact .inr hp)
theorem pE (e:GE):∀ p ∈ itE e,p.1 ≤ 1 ∧ 1 ≤ p.1 + p.2:=fun p hp=>pB ⟨0,⟨false,⟨[],[]⟩⟩,false,0,[e],0,0⟩ p (by simp [itB]; exact .inr hp)
theorem pFl {α:Type} {f:α → List (Nat × Nat)} (h:∀ x,∀ p ∈ f x,p.1 ≤ 1 ∧ 1 ≤ p.1 + p.2) (l:List α):∀ p ∈ l.flatMap f,p.1 ≤ 1 ∧ 1 ≤ p.1 + p.2:=fun p hp=>by
 obtain ⟨x,_,hp⟩:=List.mem_flatMap.1 hp; exact h x p hp
theorem few {α:Type} {f:α → List (Nat × Nat)} (h:∀ x,∀ p ∈ f x,p.1 ≤ 1 ∧ 1 ≤ p.1 + p.2) (hf:∀ x,1 ≤ Y6 (f x)) {N:Int} (hN:0 ≤ N) (l:List α) (h4:Yn N (l.flatMap f) ≤ 400):l.length ≤ 400:=by
 by_cases hN4:N ≤ 400
 ·have ht:=stpF_tot (l.flatMap f) (fun p hp=>(pFl h l p hp).1) hN hN4
  have:=ht.1.1 h4
  have:=VU hf l
  omega
 ·rw [Jf (by omega)] at h4; omega
theorem Znl (n B:Nat) (I:List Ins) (H:Zf) (i k j:Nat) (b:GB) (hj:j < b.elems.length) (N:Int) (hN:0 ≤ N ∧ N ≤ 402) :
  AKc ⟨Tryz.prog,tt,⟨none,B⟩,n,Tryz.f13.ntmps⟩ [.code (Y9 Tryz.f13).snd.snd.fst.snd.fst.fst.snd.fst.fst.snd.snd.snd.fst.fst.snd.fst.fst.snd.snd.snd.fst.fst.snd.fst.fst.snd.snd]
   (fun e s'=>e = .normal ∧ AWk n Tryz.f13.ntmps s' ⟨[(8,.int .i64 j),(7,.ptr n 7 0),(6,.int .i64 k),(4,.int .i64 i),(3,.int .i64 (Yn N (b.elems[j].cond.map cF))),(0,ZaW I)],[(7,.box b.cs)],H⟩) (sz4 n I H i k j N b b.elems[j] 0):=by
 have hge:∀ d,(b.elems.map GE.enc).getD j d = b.elems[j].enc:=fun d=>getD_map GE.enc _ _ hj d
 obtain ⟨e,he⟩:∃ e,e = b.elems[j]:=⟨_,rfl⟩
 rw [← he] at hge ⊢
 have hp1:∀ l:List GL,∀ p ∈ l.map cF,p.1 ≤ 1 ∧ 1 ≤ p.1 + p.2:=fun l p hp=>by obtain ⟨a,_,rfl⟩:=List.mem_map.1 hp; exact ⟨by simp [cF],by have:=Am.Vk a.a; simpa [cF] using this⟩
 repeat refine kn rfl ?_
 refine Zy (sz4 n I H i k j N b e) e.cond.length rfl ?_ ?_
 ·unfold sz4
  refine Zg ?_ ?_ ?_ ?_ <;> repeat' first|exact trivial|refine q0 ?_|exact qb|exact q1|exact q2|exact q3|exact rfl|refine And.intro ?_ ?_|exact qA rfl|exact Inside.ptr _ _ _ (.inr ⟨rfl,rfl⟩)|exact Tm.ins _|exact Tm.Zj _ _|exact Am.ins _|exact Am.Zj _ _|refine Zd ?_|refine Tm.Zc ?_|refine Am.Zc ?_
  all_goals first | exact (Zu _).inside | exact (ZB _).inside | exact (Zx _).inside | skip
 intro m hm
 refine Yi rfl ?_
 have hbd:=stpF_bd ((e.cond.take m).map cF) (n:=N) (fun p hp=>(hp1 _ p hp).1) hN.1 hN.2
 unfold sz4
 rcases Nat.lt_or_ge m e.cond.length with h2 | h2
 ·by_cases h4:Yn N ((e.cond.take m).map cF) ≤ 400
  ·have hkl:m ≤ 400:=by
    by_cases hN4:N ≤ 400
    ·have:=stpF_len ((e.cond.take m).map cF) (hp1 _) hN.1 hN4 h4
     rw [List.length_map,List.length_take_of_le hm] at this; omega
    ·rw [Jf (by omega)] at h4; omega
   have hsu:(e.cond.take (m + 1)).map cF = (e.cond.take m).map cF ++ [cF e.cond[m]]:=by rw [List.take_succ_eq_append_getElem h2,List.map_append]; rfl
   rw [hsu,XH]
   generalize Yn N ((e.cond.take m).map cF) = N0 at *
   have hw:IntKind.i64.wrap (400 - N0) = 400 - N0:=IntWalk.i64_in _ (by omega)
   have hc:=JB e.cond[m].a.sz (m:=400 - N0) (by omega)
   have hst:Yn N0 [cF e.cond[m]] = N0 + Yw e.cond[m].a.sz (400 - N0):=by rw [ZfP,stp,if_pos h4]; simp [cF]
   have hw2:IntKind.i64.wrap (N0 + Yw e.cond[m].a.sz (400 - N0)) = N0 + Yw e.cond[m].a.sz (400 - N0):=IntWalk.i64_in _ (by omega)
   refine Za tok rfl rfl ?_
   simp only [go_sem,simprocAttr,hge,hj,h2,h4]
   refine Zp rfl rfl rfl ?_
   refine Za tok rfl rfl ?_
   simp only [go_sem,simprocAttr,hge,hj,h2,hw,getD_map GL.enc _ _ h2]
   refine Zq (Zb Tryz.func14 rfl rfl) (z14 e.cond[m].a (400 - N0) (by omega) (by omega)) (by simp only [go_sem,simprocAttr,hw2]) ?_
   simp only [go_sem,simprocAttr,hw2]
   refine Za tok rfl rfl ?_
   simp only [go_sem,simprocAttr]
   refine Zt rfl ?_
   rw [hst]
   refine Zg ?_ ?_ ?_ ?_ <;> repeat' first|exact trivial|refine q0 ?_|exact qb|exact q1|exact q2|exact q3|exact rfl|refine And.intro ?_ ?_|exact qA rfl|exact Inside.ptr _ _ _ (.inr ⟨rfl,rfl⟩)|exact Tm.ins _|exact Tm.Zj _ _|exact Am.ins _|exact Am.Zj _ _|refine Zd ?_|refine Tm.Zc ?_|refine Am.Zc ?_
   ·simp only [go_sem,simprocAttr]
    rw [IntWalk.i64_in _ (by omega)]; exact .refl _
   all_goals first | exact (Zu _).inside | exact (ZB _).inside | exact (Zx _).inside | skip
  ·have hbig:Yn N ((e.cond.take m).map cF) = Yn N (e.cond.map cF):=by
    conv=>rhs; rw [← List.take_append_drop m e.cond,List.map_append]
    rw [Jl (by omega)]
   refine Za tok rfl rfl ?_
   simp only [go_sem,simprocAttr,hge,hj,h2,h4]
   refine Zn rfl rfl rfl ?_
   refine Yh rfl rfl rfl rfl ?_
   refine Zt rfl ?_
   refine ⟨rfl,?_⟩
   rw [hbig]
   refine Zg ?_ ?_ ?_ ?_ <;> repeat' first|exact trivial|refine q0 ?_|exact qb|exact q1|exact q2|exact q3|exact rfl|refine And.intro ?_ ?_|exact qA rfl|exact Inside.ptr _ _ _ (.inr ⟨rfl,rfl⟩)|exact Tm.ins _|exact Tm.Zj _ _|exact Am.ins _|exact Am.Zj _ _|refine Zd ?_|refine Tm.Zc ?_|refine Am.Zc ?_
   all_goals first | exact (Zu _).inside | exact (ZB _).inside | exact (Zx _).inside | skip
 ·have hk':m = e.cond.length:=by omega
  subst hk'
  refine Za tok rfl rfl ?_
  simp only [go_sem,simprocAttr,hge,hj,Nat.not_lt.2 h2]
  refine Zn rfl rfl rfl ?_
  refine Yh rfl rfl rfl rfl ?_
  refine Zt rfl ?_
  refine ⟨rfl,?_⟩
  rw [List.take_length]
  refine Zg ?_ ?_ ?_ ?_ <;> repeat' first|exact trivial|refine q0 ?_|exact qb|exact q1|exact q2|exact q3|exact rfl|refine And.intro ?_ ?_|exact qA rfl|exact Inside.ptr _ _ _ (.inr ⟨rfl,rfl⟩)|exact Tm.ins _|exact Tm.Zj _ _|exact Am.ins _|exact Am.Zj _ _|refine Zd ?_|refine Tm.Zc ?_|refine Am.Zc ?_
  all_goals first | exact (Zu _).inside | exact (ZB _).inside | exact (Zx _).inside | skip
theorem ZnE (n B:Nat) (I:List Ins) (H:Zf) (i k:Nat) (b:GB) (N:Int) (hN:0 ≤ N ∧ N ≤ 402) :
  AKc ⟨Tryz.prog,tt,⟨none,B⟩,n,Tryz.f13.ntmps⟩ [.code (Y9 Tryz.f13).snd.snd.fst.snd.fst.fst.snd.fst.fst.snd.snd.snd.fst.fst.snd.fst.fst.snd.snd.snd]
   (fun e s'=>e = .normal ∧ AWk n Tryz.f13.ntmps s' ⟨[(6,.int .i64 k),(4,.int .i64 i),(3,.int .i64 (Yn N (b.elems.flatMap itE))),(0,ZaW I)],[],H⟩) (sz3 n I H i k N b 0):=by
 repeat refine kn rfl ?_
 refine Zy (sz3 n I H i k N b) b.elems.length rfl ?_ ?_
 ·unfold sz3
  refine Zg ?_ ?_ ?_ ?_ <;> repeat' first|exact trivial|refine q0 ?_|exact qb|exact q1|exact q2|exact q3|exact rfl|refine And.intro ?_ ?_|exact qA rfl|exact Inside.ptr _ _ _ (.inr ⟨rfl,rfl⟩)|exact Tm.ins _|exact Tm.Zj _ _|exact Am.ins _|exact Am.Zj _ _|refine Zd ?_|refine Tm.Zc ?_|refine Am.Zc ?_
  all_goals first | exact (Zu _).inside | exact (ZB _).inside | exact (Zx _).inside | skip
 intro j hj
 refine Yi rfl ?_
 have hbd:=stpF_bd ((b.elems.take j).flatMap itE) (n:=N) (fun p hp=>(pFl pE _ p hp).1) hN.1 hN.2
 unfold sz3
 rcases Nat.lt_or_ge j b.elems.length with h2 | h2
 ·by_cases h4:Yn N ((b.elems.take j).flatMap itE) ≤ 400
  ·have hkl:j ≤ 400:=by
    have:=few pE ZeI hN.1 (b.elems.take j) h4
    rw [List.length_take_of_le hj] at this; exact this
   have hsu:(b.elems.take (j + 1)).flatMap itE = (b.elems.take j).flatMap itE ++ itE b.elems[j]:=XT itE b.elems j h2
   rw [hsu,XH]
   have hge:∀ d,(b.elems.map GE.enc).getD j d = b.elems[j].enc:=fun d=>getD_map GE.enc _ _ h2 d
   obtain ⟨e,he⟩:∃ e,e = b.elems[j]:=⟨_,rfl⟩
   generalize Yn N ((b.elems.take j).flatMap itE) = N0 at *
   have hw:IntKind.i64.wrap (400 - N0) = 400 - N0:=IntWalk.i64_in _ (by omega)
   obtain ⟨N1,hN1⟩:∃ N1,N1 = stp N0 (1,Tm.sz.szs e.tuple):=⟨_,rfl⟩
   have hc:=JB (Tm.sz.szs e.tuple) (m:=400 - N0) (by omega)
   have hN1':N1 = N0 + (1 + Yw (Tm.sz.szs e.tuple) (400 - N0)):=by rw [hN1,stp,if_pos h4]; simp
   have hw1:IntKind.i64.wrap (1 + Yw (Tm.sz.szs e.tuple) (400 - N0)) = 1 + Yw (Tm.sz.szs e.tuple) (400 - N0):=IntWalk.i64_in _ (by omega)
   have hw2:IntKind.i64.wrap (N0 + (1 + Yw (Tm.sz.szs e.tuple) (400 - N0))) = N1:=by rw [← hN1']; exact IntWalk.i64_in _ (by omega)
   have hit:Yn N0 (itE e) = Yn N1 (e.cond.map cF):=by unfold itE; rw [Vy,← hN1]; rfl
   rw [← he] at hge ⊢
   rw [hit]
   have hb1:0 ≤ N1 ∧ N1 ≤ 402:=by omega
   refine Za tok rfl rfl ?_
   simp only [go_sem,simprocAttr,h2,h4]
   refine Zp rfl rfl rfl ?_
   refine Za tok rfl rfl ?_
   simp only [go_sem,simprocAttr,h2,hge,hw]
   refine Zq (Zb Tryz.func43 rfl rfl) (z43 e.tuple (400 - N0) (by omega) (by omega) (fun u hu m' h0' h1'=>z94 u m' h0' h1')) (by simp only [go_sem,simprocAttr,hw1,hw2]) ?_
   simp only [go_sem,simprocAttr,hw1,hw2]
   refine Za tok rfl rfl ?_
   simp only [go_sem,simprocAttr]
   refine XF ⟨[(8,.int .i64 j),(7,.ptr n 7 0),(6,.int .i64 k),(4,.int .i64 i),(3,.int .i64 (Yn N1 (e.cond.map cF))),(0,ZaW I)],[(7,.box b.cs)],H⟩ ?_ ?_
   ·rw [he]
    refine Yx ?_ (Znl n B I H i k j b h2 N1 hb1)
    unfold sz4
    refine Zg ?_ ?_ ?_ ?_ <;> repeat' first|exact trivial|refine q0 ?_|exact qb|exact q1|exact q2|exact q3|exact rfl|refine And.intro ?_ ?_|exact qA rfl|exact Inside.ptr _ _ _ (.inr ⟨rfl,rfl⟩)|exact Tm.ins _|exact Tm.Zj _ _|exact Am.ins _|exact Am.Zj _ _|refine Zd ?_|refine Tm.Zc ?_|refine Am.Zc ?_
    all_goals first | exact (Zu _).inside | exact (ZB _).inside | exact (Zx _).inside | skip
   have hb2:=stpF_bd (e.cond.map cF) (n:=N1) (fun p hp=>by obtain ⟨a,_,rfl⟩:=List.mem_map.1 hp; simp [cF]) hb1.1 hb1.2
   refine Za tok rfl rfl ?_
   simp only [go_sem,simprocAttr]
   refine Zt rfl ?_
   refine Zg ?_ ?_ ?_ ?_ <;> repeat' first|exact trivial|refine q0 ?_|exact qb|exact q1|exact q2|exact q3|exact rfl|refine And.intro ?_ ?_|exact qA rfl|exact Inside.ptr _ _ _ (.inr ⟨rfl,rfl⟩)|exact Tm.ins _|exact Tm.Zj _ _|exact Am.ins _|exact Am.Zj _ _|refine Zd ?_|refine Tm.Zc ?_|refine Am.Zc ?_
   ·simp only [go_sem,simprocAttr]
    rw [IntWalk.i64_in _ (by omega)]; exact .refl _
   all_goals first | exact (Zu _).inside | exact (ZB _).inside | exact (Zx _).inside | skip
  ·have hbig:Yn N ((b.elems.take j).flatMap itE) = Yn N (b.elems.flatMap itE):=by
    conv=>rhs; rw [← List.take_append_drop j b.elems,List.flatMap_append]
    rw [Jl (by omega)]
   refine Za tok rfl rfl ?_
   simp only [go_sem,simprocAttr,h2,h4]
   refine Zn rfl rfl rfl ?_
   refine Yh rfl rfl rfl rfl ?_
   refine Zt rfl ?_
   refine ⟨rfl,?_⟩
   rw [hbig]
   refine Zg ?_ ?_ ?_ ?_ <;> repeat' first|exact trivial|refine q0 ?_|exact qb|exact q1|exact q2|exact q3|exact rfl|refine And.intro ?_ ?_|exact qA rfl|exact Inside.ptr _ _ _ (.inr ⟨rfl,rfl⟩)|exact Tm.ins _|exact Tm.Zj _ _|exact Am.ins _|exact Am.Zj _ _|refine Zd ?_|refine Tm.Zc ?_|refine Am.Zc ?_
   all_goals first | exact (Zu _).inside | exact (ZB _).inside | exact (Zx _).inside | skip
 ·have hk':j = b.elems.length:=by omega
  subst hk'
  refine Za tok rfl rfl ?_
  simp only [go_sem,simprocAttr,Nat.not_lt.2 h2]
  refine Zn rfl rfl rfl ?_
  refine Yh rfl rfl rfl rfl ?_
  refine Zt rfl ?_
  refine ⟨rfl,?_⟩
  rw [List.take_length]
  refine Zg ?_ ?_ ?_ ?_ <;> repeat' first|exact trivial|refine q0 ?_|exact qb|exact q1|exact q2|exact q3|exact rfl|refine And.intro ?_ ?_|exact qA rfl|exact Inside.ptr _ _ _ (.inr ⟨rfl,rfl⟩)|exact Tm.ins _|exact Tm.Zj _ _|exact Am.ins _|exact Am.Zj _ _|refine Zd ?_|refine Tm.Zc ?_|refine Am.Zc ?_
  all_goals first | exact (Zu _).inside | exact (ZB _).inside | exact (Zx _).inside | skip
theorem ZnR (n B:Nat) (I:List Ins) (H:Zf) (i:Nat) (h:i < I.length) (N:Int) (hN:0 ≤ N ∧ N ≤ 402) :
  AKc ⟨Tryz.prog,tt,⟨none,B⟩,n,Tryz.f13.ntmps⟩ [.code (Y9 Tryz.f13).snd.snd.fst.snd.fst.fst.snd.fst.fst.snd.snd.snd]
   (fun e s'=>e = .normal ∧ AWk n Tryz.f13.ntmps s' ⟨[(4,.int .i64 i),(3,.int .i64 (Yn N (I[i].body.flatMap itB))),(0,ZaW I)],[],H⟩) (sz2 I H i N I[i] 0):=by
 have hgd:∀ d,(I.map Ins.enc).getD i d = I[i].enc:=fun d=>getD_map Ins.enc _ _ h d
 obtain ⟨x,hx⟩:∃ x,x = I[i]:=⟨_,rfl⟩
 rw [← hx] at hgd ⊢
 repeat refine kn rfl ?_
 refine Zy (sz2 I H i N x) x.body.length rfl ?_ ?_
 ·unfold sz2
  refine Zg ?_ ?_ ?_ ?_ <;> repeat' first|exact trivial|refine q0 ?_|exact qb|exact q1|exact q2|exact q3|exact rfl|refine And.intro ?_ ?_|exact qA rfl|exact Inside.ptr _ _ _ (.inr ⟨rfl,rfl⟩)|exact Tm.ins _|exact Tm.Zj _ _|exact Am.ins _|exact Am.Zj _ _|refine Zd ?_|refine Tm.Zc ?_|refine Am.Zc ?_
  all_goals first | exact (Zu _).inside | skip
 intro k hk
 refine Yi rfl ?_
 have hbd:=stpF_bd ((x.body.take k).flatMap itB) (n:=N) (fun p hp=>(pFl pB _ p hp).1) hN.1 hN.2
 unfold sz2
 rcases Nat.lt_or_ge k x.body.length with h2 | h2
 ·by_cases h4:Yn N ((x.body.take k).flatMap itB) ≤ 400
  ·have hkl:k ≤ 400:=by
    have:=few pB Ze0 hN.1 (x.body.take k) h4
    rw [List.length_take_of_le hk] at this; exact this
   have hsu:(x.body.take (k + 1)).flatMap itB = (x.body.take k).flatMap itB ++ itB x.body[k]:=XT itB x.body k h2
   rw [hsu,XH]
   have hgb:∀ d,(x.body.map GB.enc).getD k d = x.body[k].enc:=fun d=>getD_map GB.enc _ _ h2 d
   obtain ⟨b,hb⟩:∃ b,b = x.body[k]:=⟨_,rfl⟩
   rw [← hb] at hgb ⊢
   generalize Yn N ((x.body.take k).flatMap itB) = N0 at *
   have hw:IntKind.i64.wrap (400 - N0) = 400 - N0:=IntWalk.i64_in _ (by omega)
   obtain ⟨N1,hN1⟩:∃ N1,N1 = stp N0 (1,b.lit.a.sz):=⟨_,rfl⟩
   have hc:=JB b.lit.a.sz (m:=400 - N0) (by omega)
   have hN1':N1 = N0 + (1 + Yw b.lit.a.sz (400 - N0)):=by rw [hN1,stp,if_pos h4]; simp
   have hw1:IntKind.i64.wrap (1 + Yw b.lit.a.sz (400 - N0)) = 1 + Yw b.lit.a.sz (400 - N0):=IntWalk.i64_in _ (by omega)
   have hw2:IntKind.i64.wrap (N0 + (1 + Yw b.lit.a.sz (400 - N0))) = N1:=by rw [← hN1']; exact IntWalk.i64_in _ (by omega)
   have hit:Yn N0 (itB b) = Yn N1 (b.elems.flatMap itE):=by unfold itB; rw [Vy,← hN1]
   rw [hit]
   have hb1:0 ≤ N1 ∧ N1 ≤ 402:=by omega
   refine Za tok rfl rfl ?_
   simp only [go_sem,simprocAttr,hgd,h,h2,h4]
   refine Zp rfl rfl rfl ?_
   refine Za tok rfl rfl ?_
   simp only [go_sem,simprocAttr,hgd,h,h2,hgb]
   refine Za tok rfl rfl ?_
   simp only [go_sem,simprocAttr,hw]
   refine Zq (Zb Tryz.func14 rfl rfl) (z14 b.lit.a (400 - N0) (by omega) (by omega)) (by simp only [go_sem,simprocAttr,hw1,hw2]) ?_
   simp only [go_sem,simprocAttr,hw1,hw2]
   refine Za tok rfl rfl ?_
   simp only [go_sem,simprocAttr]
   refine XF ⟨[(6,.int .i64 k),(4,.int .i64 i),(3,.int .i64 (Yn N1 (b.elems.flatMap itE))),(0,ZaW I)],[],H⟩ ?_ ?_
   ·refine Yx ?_ (ZnE n B I H i k b N1 hb1)
    unfold sz3
    refine Zg ?_ ?_ ?_ ?_ <;> repeat' first|exact trivial|refine q0 ?_|exact qb|exact q1|exact q2|exact q3|exact rfl|refine And.intro ?_ ?_|exact qA rfl|exact Inside.ptr _ _ _ (.inr ⟨rfl,rfl⟩)|exact Tm.ins _|exact Tm.Zj _ _|exact Am.ins _|exact Am.Zj _ _|refine Zd ?_|refine Tm.Zc ?_|refine Am.Zc ?_
    all_goals first | exact (Zu _).inside | exact Zk.ZG (ZC fun c hc=>((GB.bcs b).mem c hc).inside) | exact ZC (fun c hc=>((GB.bcs b).mem c hc).inside) | exact (ZB _).inside | exact (Zx _).inside | skip
   have hb2:=stpF_bd (b.elems.flatMap itE) (n:=N1) (fun p hp=>(pFl pE _ p hp).1) hb1.1 hb1.2
   refine Za tok rfl rfl ?_
   simp only [go_sem,simprocAttr]
   refine Zt rfl ?_
   refine Zg ?_ ?_ ?_ ?_ <;> repeat' first|exact trivial|refine q0 ?_|exact qb|exact q1|exact q2|exact q3|exact rfl|refine And.intro ?_ ?_|exact qA rfl|exact Inside.ptr _ _ _ (.inr ⟨rfl,rfl⟩)|exact Tm.ins _|exact Tm.Zj _ _|exact Am.ins _|exact Am.Zj _ _|refine Zd ?_|refine Tm.Zc ?_|refine Am.Zc ?_
   ·simp only [go_sem,simprocAttr]
    rw [IntWalk.i64_in _ (by omega)]; exact .refl _
   all_goals first | exact (Zu _).inside | skip
  ·have hbig:Yn N ((x.body.take k).flatMap itB) = Yn N (x.body.flatMap itB):=by
    conv=>rhs; rw [← List.take_append_drop k x.body,List.flatMap_append]
    rw [Jl (by omega)]
   refine Za tok rfl rfl ?_
   simp only [go_sem,simprocAttr,hgd,h,h2,h4]
   refine Zn rfl rfl rfl ?_
   refine Yh rfl rfl rfl rfl ?_
   refine Zt rfl ?_
   refine ⟨rfl,?_⟩
   rw [hbig]
   refine Zg ?_ ?_ ?_ ?_ <;> repeat' first|exact trivial|refine q0 ?_|exact qb|exact q1|exact q2|exact q3|exact rfl|refine And.intro ?_ ?_|exact qA rfl|exact Inside.ptr _ _ _ (.inr ⟨rfl,rfl⟩)|exact Tm.ins _|exact Tm.Zj _ _|exact Am.ins _|exact Am.Zj _ _|refine Zd ?_|refine Tm.Zc ?_|refine Am.Zc ?_
   all_goals first | exact (Zu _).inside | skip
 ·have hk':k = x.body.length:=by omega
  subst hk'
  refine Za tok rfl rfl ?_
  simp only [go_sem,simprocAttr,hgd,h,Nat.not_lt.2 h2]
  refine Zn rfl rfl rfl ?_
  refine Yh rfl rfl rfl rfl ?_
  refine Zt rfl ?_
  refine ⟨rfl,?_⟩
  rw [List.take_length]
  refine Zg ?_ ?_ ?_ ?_ <;> repeat' first|exact trivial|refine q0 ?_|exact qb|exact q1|exact q2|exact q3|exact rfl|refine And.intro ?_ ?_|exact qA rfl|exact Inside.ptr _ _ _ (.inr ⟨rfl,rfl⟩)|exact Tm.ins _|exact Tm.Zj _ _|exact Am.ins _|exact Am.Zj _ _|refine Zd ?_|refine Tm.Zc ?_|refine Am.Zc ?_
  all_goals first | exact (Zu _).inside | skip
theorem z13 (I:List Ins):Pure Tryz.prog 13 [ZaW I] (.int .i64 (Yn 0 (I.flatMap itI))):=by
 intro n H
 refine Zm tok (Zb Tryz.func13 rfl rfl) (by simp) fun B=>?_
 refine Za tok rfl rfl ?_
 simp only [go_sem,simprocAttr]
 refine Za tok rfl rfl ?_
 simp only [go_sem,simprocAttr]
 refine Za tok rfl rfl ?_
 simp only [go_sem,simprocAttr]
 refine XF ⟨[(3,.int .i64 (Yn 0 (I.flatMap itI))),(0,ZaW I)],[],H⟩ ?_ ?_
 ·repeat refine kn rfl ?_
  refine Zy (sz0 I H) I.length rfl ?_ ?_
  ·unfold sz0
   refine Zg ?_ ?_ ?_ ?_ <;> repeat' first|exact trivial|refine q0 ?_|exact qb|exact q1|exact q2|exact q3|exact rfl|refine And.intro ?_ ?_|exact qA rfl|exact Inside.ptr _ _ _ (.inr ⟨rfl,rfl⟩)|exact Tm.ins _|exact Tm.Zj _ _|exact Am.ins _|exact Am.Zj _ _|refine Zd ?_|refine Tm.Zc ?_|refine Am.Zc ?_
   all_goals first | exact (Zu _).inside | skip
  intro i hi
  refine Yi rfl ?_
  have hbd:=stpF_bd ((I.take i).flatMap itI) (n:=0) (fun p hp=>by obtain ⟨x,_,hp⟩:=List.mem_flatMap.1 hp; exact (it1 x p hp).1) (by omega) (by omega)
  rcases Nat.lt_or_ge i I.length with h | h
  ·have hsu:(I.take (i + 1)).flatMap itI = (I.take i).flatMap itI ++ itI I[i]:=XT itI I i h
   by_cases h4:Yn 0 ((I.take i).flatMap itI) ≤ 400
   ·have hle:=stpF_len ((I.take i).flatMap itI) (n:=0) (fun p hp=>by obtain ⟨x,_,hp⟩:=List.mem_flatMap.1 hp; exact it1 x p hp) (by omega) (by omega) h4
    have hil:i ≤ 400:=by
     have:=VU Zho (I.take i)
     have ht:=stpF_tot ((I.take i).flatMap itI) (n:=0) (fun p hp=>by obtain ⟨x,_,hp⟩:=List.mem_flatMap.1 hp; exact (it1 x p hp).1) (by omega) (by omega)
     have:=ht.1.1 h4
     rw [List.length_take_of_le hi] at *; omega
    have hgd:∀ d,(I.map Ins.enc).getD i d = I[i].enc:=fun d=>getD_map Ins.enc _ _ h d
    unfold sz0
    obtain ⟨x,hx⟩:∃ x,x = I[i]:=⟨_,rfl⟩
    rw [← hx] at hgd hsu
    rw [hsu,XH]
    generalize Yn 0 ((I.take i).flatMap itI) = N0 at *
    have hw:IntKind.i64.wrap (400 - N0) = 400 - N0:=IntWalk.i64_in _ (by omega)
    refine Za tok rfl rfl ?_
    simp only [go_sem,simprocAttr,h,h4]
    refine Zp rfl rfl rfl ?_
    refine Za tok rfl rfl ?_
    simp only [go_sem,simprocAttr,hgd,h,hw]
    refine Zq (Zb Tryz.func43 rfl rfl) (z43 x.tuple (400 - N0) (by omega) (by omega) (fun u hu m' h0' h1'=>z94 u m' h0' h1')) (by simp only [go_sem,simprocAttr,hw]) ?_
    simp only [go_sem,simprocAttr,hw]
    obtain ⟨N1,hN1⟩:∃ N1,N1 = stp N0 (1,Tm.sz.szs x.tuple):=⟨_,rfl⟩
    have hc:=JB (Tm.sz.szs x.tuple) (m:=400 - N0) (by omega)
    have hN1':N1 = N0 + (1 + Yw (Tm.sz.szs x.tuple) (400 - N0)):=by rw [hN1,stp,if_pos h4]; simp
    have hw1:IntKind.i64.wrap (1 + Yw (Tm.sz.szs x.tuple) (400 - N0)) = 1 + Yw (Tm.sz.szs x.tuple) (400 - N0):=IntWalk.i64_in _ (by omega)
    have hw2:IntKind.i64.wrap (N0 + (1 + Yw (Tm.sz.szs x.tuple) (400 - N0))) = N1:=by rw [← hN1']; exact IntWalk.i64_in _ (by omega)
    simp only [hw1,hw2]
    have hit:Yn N0 (itI x) = Yn (Yn N1 (x.heads.map hF)) (x.body.flatMap itB):=by
     unfold itI; rw [Vy,← hN1,XH]; rfl
    rw [hit]
    have hb1:0 ≤ N1 ∧ N1 ≤ 402:=by omega
    refine Za tok rfl rfl ?_
    simp only [go_sem,simprocAttr]
    refine XF ⟨[(4,.int .i64 i),(3,.int .i64 (Yn N1 (x.heads.map hF))),(0,ZaW I)],[],H⟩ ?_ ?_
    ·rw [hx]
     refine Yx ?_ (Zm5 n B I H i h N1 hb1)
     unfold sz1
     refine Zg ?_ ?_ ?_ ?_ <;> repeat' first|exact trivial|refine q0 ?_|exact qb|exact q1|exact q2|exact q3|exact rfl|refine And.intro ?_ ?_|exact qA rfl|exact Inside.ptr _ _ _ (.inr ⟨rfl,rfl⟩)|exact Tm.ins _|exact Tm.Zj _ _|exact Am.ins _|exact Am.Zj _ _|refine Zd ?_|refine Tm.Zc ?_|refine Am.Zc ?_
     all_goals first | exact (Zu _).inside | skip
    have hb2:=stpF_bd (x.heads.map hF) (n:=N1) (fun p hp=>by obtain ⟨a,_,rfl⟩:=List.mem_map.1 hp; simp [hF]) hb1.1 hb1.2
    generalize Yn N1 (x.heads.map hF) = N2 at *
    refine Za tok rfl rfl ?_
    simp only [go_sem,simprocAttr]
    refine XF ⟨[(4,.int .i64 i),(3,.int .i64 (Yn N2 (x.body.flatMap itB))),(0,ZaW I)],[],H⟩ ?_ ?_
    ·rw [hx]
     refine Yx ?_ (ZnR n B I H i h N2 hb2)
     unfold sz2
     refine Zg ?_ ?_ ?_ ?_ <;> repeat' first|exact trivial|refine q0 ?_|exact qb|exact q1|exact q2|exact q3|exact rfl|refine And.intro ?_ ?_|exact qA rfl|exact Inside.ptr _ _ _ (.inr ⟨rfl,rfl⟩)|exact Tm.ins _|exact Tm.Zj _ _|exact Am.ins _|exact Am.Zj _ _|refine Zd ?_|refine Tm.Zc ?_|refine Am.Zc ?_
     all_goals first | exact (Zu _).inside | skip
    have hb3:=stpF_bd (x.body.flatMap itB) (n:=N2) (fun p hp=>(pFl pB _ p hp).1) hb2.1 hb2.2
    refine Za tok rfl rfl ?_
    simp only [go_sem,simprocAttr]
    refine Zt rfl ?_
    refine Zg ?_ ?_ ?_ ?_ <;> repeat' first|exact trivial|refine q0 ?_|exact qb|exact q1|exact q2|exact q3|exact rfl|refine And.intro ?_ ?_|exact qA rfl|exact Inside.ptr _ _ _ (.inr ⟨rfl,rfl⟩)|exact Tm.ins _|exact Tm.Zj _ _|exact Am.ins _|exact Am.Zj _ _|refine Zd ?_|refine Tm.Zc ?_|refine Am.Zc ?_
    ·simp only [go_sem,simprocAttr]
     rw [IntWalk.i64_in _ (by omega)]; exact .refl _
    all_goals first | exact (Zu _).inside | skip
   ·have hbig:Yn 0 ((I.take i).flatMap itI) = Yn 0 (I.flatMap itI):=by
     conv=>rhs; rw [← List.take_append_drop i I,List.flatMap_append]
     rw [Jl (by omega)]
    unfold sz0
    refine Za tok rfl rfl ?_
    simp only [go_sem,simprocAttr,h,h4]
    refine Zn rfl rfl rfl ?_
    refine Yh rfl rfl rfl rfl ?_
    refine Zt rfl ?_
    refine ⟨rfl,?_⟩
    rw [hbig]
    refine Zg ?_ ?_ ?_ ?_ <;> repeat' first|exact trivial|refine q0 ?_|exact qb|exact q1|exact q2|exact q3|exact rfl|refine And.intro ?_ ?_|exact qA rfl|exact Inside.ptr _ _ _ (.inr ⟨rfl,rfl⟩)|exact Tm.ins _|exact Tm.Zj _ _|exact Am.ins _|exact Am.Zj _ _|refine Zd ?_|refine Tm.Zc ?_|refine Am.Zc ?_
    all_goals first | exact (Zu _).inside | skip
  ·have hi':i = I.length:=by omega
   subst hi'
   unfold sz0
   refine Za tok rfl rfl ?_
   simp only [go_sem,simprocAttr,Nat.not_lt.2 h]
   refine Zn rfl rfl rfl ?_
   refine Yh rfl rfl rfl rfl ?_
   refine Zt rfl ?_
   refine ⟨rfl,?_⟩
   rw [List.take_length]
   refine Zg ?_ ?_ ?_ ?_ <;> repeat' first|exact trivial|refine q0 ?_|exact qb|exact q1|exact q2|exact q3|exact rfl|refine And.intro ?_ ?_|exact qA rfl|exact Inside.ptr _ _ _ (.inr ⟨rfl,rfl⟩)|exact Tm.ins _|exact Tm.Zj _ _|exact Am.ins _|exact Am.Zj _ _|refine Zd ?_|refine Tm.Zc ?_|refine Am.Zc ?_
   all_goals first | exact (Zu _).inside | skip
 ·refine Za tok rfl rfl ?_
  simp only [go_sem,simprocAttr]
  refine Zi rfl rfl ?_
  exact Ze (.refl _) (.int _ _) rfl
end Go.Proofs.YthgbkalgmicniaaGreatDoor

/- Plain instances out of any: what the law builds. No program. -/
namespace Go.Proofs.YthgbkalgmicniaaGreatDoor
open Go.Abs
end Go.Proofs.YthgbkalgmicniaaGreatDoor

/- LowerAlone: the walk. -/
namespace Go.Proofs.YthgbkalgmicniaaGreatDoor
open Go.Abs
set_option maxRecDepth 100000
end Go.Proofs.YthgbkalgmicniaaGreatDoor

/- The laws' rows: what they read, as data; the variables that they list; the end of a call. -/
namespace Go.Proofs.YthgbkalgmicniaaGreatDoor
open Go.Abs Go.ChangeShapes Go.WideShapes Go.ChangeAt Go.RowKit
set_option maxRecDepth 100000
def rdS:List TypeId:=[3,4,5,9,22,27,28,29,31,33,39,41,44,47,50,52]
theorem rdOk:Zga tt rdS = true:=by kernel_rfl
theorem wf_i64 {n:Int} (h:(Lit.int .i64 n).wf = true):-9223372036854775808 ≤ n ∧ n ≤ 9223372036854775807:=by
 simp [Lit.wf,IntKind.min,IntKind.max,IntKind.signed,IntKind.bits] at h; omega
theorem wf_u8 {n:Int} (h:(Lit.int .u8 n).wf = true):0 ≤ n ∧ n ≤ 255:=by
 simp [Lit.wf,IntKind.min,IntKind.max,IntKind.signed,IntKind.bits] at h; omega
theorem Zfh {n:Nat} (h:n ≤ reachBytes):n ≤ 140737488355328:=Nat.le_trans h (by decide)
theorem r3:tt 3 = some ⟨.int .i64,1,8,[.int .i64 0]⟩:=rfl
theorem r4:tt 4 = some ⟨.bool,1,1,[.bool false]⟩:=rfl
theorem r5:tt 5 = some ⟨.int .u8,1,1,[.int .u8 0]⟩:=rfl
theorem r9:tt 9 = some ⟨.str,1,16,[.str []]⟩:=rfl
theorem r27:tt 27 = some ⟨.slice 33,1,24,[.sl 2 [] .full]⟩:=rfl
theorem r28:tt 28 = some ⟨.slice 52,1,24,[.sl 9 [] .full]⟩:=rfl
theorem r29:tt 29 = some ⟨.slice 47,1,24,[.sl 4 [] .full]⟩:=rfl
theorem r31:tt 31 = some ⟨.struct [(0,5),(1,27),(2,3),(3,3),(4,28),(5,3),(6,3),(7,29)],8,112,[.int .u8 0,.sl 2 [] .full,.int .i64 0,.int .i64 0,.sl 9 [] .full,.int .i64 0,.int .i64 0,.sl 4 [] .full]⟩:=rfl
theorem r33:tt 33 = some ⟨.struct [(0,9),(1,29)],2,40,[.str [],.sl 4 [] .full]⟩:=rfl
theorem r39:tt 39 = some ⟨.slice 44,1,24,[.sl 3 [] .full]⟩:=rfl
theorem r41:tt 41 = some ⟨.struct [(0,29),(1,39)],2,48,[.sl 4 [] .full,.sl 3 [] .full]⟩:=rfl
theorem r44:tt 44 = some ⟨.struct [(0,4),(1,33)],3,48,[.bool false,.str [],.sl 4 [] .full]⟩:=rfl
theorem r47:tt 47 = some ⟨.struct [(0,5),(1,3),(2,9),(3,29)],4,56,[.int .u8 0,.int .i64 0,.str [],.sl 4 [] .full]⟩:=rfl
theorem r50:tt 50 = some ⟨.slice 41,1,24,[.sl 2 [] .full]⟩:=rfl
theorem r52:tt 52 = some ⟨.struct [(0,5),(1,44),(4,4),(5,5),(6,50),(7,5),(8,3)],9,104,[.int .u8 0,.bool false,.str [],.sl 4 [] .full,.bool false,.int .u8 0,.sl 2 [] .full,.int .u8 0,.int .i64 0]⟩:=rfl
theorem Zge {α:Type} {p:α → Prop} {enc:α → List AV}:∀ {xs:List (List AV)},(∀ x ∈ xs,∃ a,x = enc a ∧ p a) → ∃ l:List α,xs = l.map enc ∧ ∀ a ∈ l,p a
 | [],_=>⟨[],rfl,by simp⟩
 | x :: xs,h=>by
  obtain ⟨a,h1,h2⟩:=h x (by simp)
  obtain ⟨l,h3,h4⟩:=Zge (xs:=xs) (fun y hy=>h y (by simp [hy]))
  exact ⟨a :: l,by rw [h1,h3]; rfl,fun b hb=>by rcases List.mem_cons.1 hb with rfl | hb; exact h2; exact h4 b hb⟩
theorem Zgu {t:TypeId} {cs:List AV} (h:Y7 tt t cs):(t = 47 → ∃ u:Tm,cs = u.cs ∧ u.Nm) ∧ (t = 29 → ∃ l:List Tm,cs = [.sl 4 (l.map Tm.enc) .any] ∧ ∀ u ∈ l,u.Nm):=by
 induction h with
 | int h hd hw=>exact ⟨fun e=>(by subst e; rw [r47] at h; cases h; cases hd),fun e=>(by subst e; rw [r29] at h; cases h; cases hd)⟩
 | bool h hd=>exact ⟨fun e=>(by subst e; rw [r47] at h; cases h; cases hd),fun e=>(by subst e; rw [r29] at h; cases h; cases hd)⟩
 | str h hd hl=>exact ⟨fun e=>(by subst e; rw [r47] at h; cases h; cases hd),fun e=>(by subst e; rw [r29] at h; cases h; cases hd)⟩
 | slice xs h hd he hx hl ih =>
  refine ⟨fun e=>(by subst e; rw [r47] at h; cases h; cases hd),fun e=>?_⟩
  subst e
  rw [r29] at h; cases h; cases hd
  rw [r47] at he; cases he
  obtain ⟨l,h1,h2⟩:=Zge (enc:=Tm.cs) (p:=Tm.Nm) (fun x hx=>(ih x hx).1 rfl)
  refine ⟨l,?_,h2⟩
  rw [h1,List.map_map]
  congr 2
  exact List.map_congr_left fun u _=>by simp [XB,ZE.isAgg,Tm.Zjy]
 | struct h hd ps hl hf ih =>
  refine ⟨fun e=>?_,fun e=>(by subst e; rw [r29] at h; cases h; cases hd)⟩
  subst e
  rw [r47] at h; cases h; cases hd
  match ps,hl with
  | [p0,p1,p2,p3],_ =>
   obtain ⟨k,rfl,hk⟩:=(hf 0 (by simp) (by simp)).X7 r5 rfl
   obtain ⟨n,rfl,hn⟩:=(hf 1 (by simp) (by simp)).X7 r3 rfl
   obtain ⟨s,rfl,hs⟩:=(hf 2 (by simp) (by simp)).Ze6 r9 rfl
   obtain ⟨l,rfl,hl⟩:=(ih 3 (by simp) (by simp)).2 rfl
   exact ⟨.mk k n s l,rfl,.mk k n s l (Zfh hs) (wf_u8 hk) (wf_i64 hn) hl⟩
theorem Zf5 {cs:List AV} (h:Y7 tt 33 cs):∃ a:Am,cs = a.cs ∧ WJ a:=by
 obtain ⟨ps,rfl,hl,hf⟩:=h.VG r33 rfl
 match ps,hl with
 | [p0,p1],_ =>
  obtain ⟨s,rfl,hs⟩:=(hf 0 (by simp) (by simp)).Ze6 r9 rfl
  obtain ⟨l,rfl,hl⟩:=(Zgu (hf 1 (by simp) (by simp))).2 rfl
  exact ⟨⟨s,l⟩,rfl,Zfh hs,hl⟩
theorem Zji {cs:List AV} (h:Y7 tt 44 cs):∃ a:GL,cs = a.cs ∧ WJ a.a:=by
 obtain ⟨ps,rfl,hl,hf⟩:=h.VG r44 rfl
 match ps,hl with
 | [p0,p1],_ =>
  obtain ⟨b,rfl⟩:=(hf 0 (by simp) (by simp)).ZcW r4 rfl
  obtain ⟨a,rfl,ha⟩:=Zf5 (hf 1 (by simp) (by simp))
  exact ⟨⟨b,a⟩,rfl,ha⟩
theorem Zbj {α:Type} {e t k:Nat} {r re:ZE} {cs:List AV} {enc:α → AV} {acs:α → List AV} {p:α → Prop} (h:Y7 tt t cs) (hr:tt t = some r) (hd:r.td = .slice e) (he:tt e = some re) (hk:re.size = k) (ha:re.isAgg = true)
  (hc:∀ x,enc x = .agg (acs x)) (hf:∀ cs,Y7 tt e cs → ∃ a:α,cs = acs a ∧ p a):∃ l:List α,cs = [.sl k (l.map enc) .any] ∧ ∀ a ∈ l,p a:=by
 obtain ⟨xs,rfl,hx,_⟩:=h.Zhs hr hd he
 obtain ⟨l,rfl,h2⟩:=Zge (enc:=acs) (p:=p) (fun x hx'=>hf x (hx x hx'))
 refine ⟨l,?_,h2⟩
 rw [List.map_map,hk]
 congr 2
 exact List.map_congr_left fun u _=>by simp only [Function.comp,XB,ha,if_true,hc]
theorem ZjS {cs:List AV} (h:Y7 tt 27 cs):∃ l:List Am,cs = [.sl 2 (l.map Am.enc) .any] ∧ ∀ a ∈ l,WJ a:=Zbj h r27 rfl r33 rfl rfl (fun _=>rfl) fun _ h=>Zf5 h
theorem ZjE {cs:List AV} (h:Y7 tt 39 cs):∃ l:List GL,cs = [.sl 3 (l.map GL.enc) .any] ∧ ∀ a ∈ l,WJ a.a:=Zbj h r39 rfl r44 rfl rfl (fun _=>rfl) fun _ h=>Zji h
theorem ZkJ {cs:List AV} (h:Y7 tt 41 cs):∃ e:GE,cs = e.cs ∧ ((∀ t ∈ e.tuple,t.Nm) ∧ ∀ g ∈ e.cond,WJ g.a):=by
 obtain ⟨ps,rfl,hl,hf⟩:=h.VG r41 rfl
 match ps,hl with
 | [p0,p1],_ =>
  obtain ⟨l,rfl,hl⟩:=(Zgu (hf 0 (by simp) (by simp))).2 rfl
  obtain ⟨c,rfl,hc⟩:=ZjE (hf 1 (by simp) (by simp))
  exact ⟨⟨l,c⟩,rfl,hl,hc⟩
theorem Zkn {cs:List AV} (h:Y7 tt 50 cs):∃ l:List GE,cs = [.sl 2 (l.map GE.enc) .any] ∧ ∀ e ∈ l,(∀ t ∈ e.tuple,t.Nm) ∧ ∀ g ∈ e.cond,WJ g.a:=Zbj h r50 rfl r41 rfl rfl (fun _=>rfl) fun _ h=>ZkJ h
theorem Zlj {cs:List AV} (h:Y7 tt 52 cs):∃ b:GB,cs = b.cs ∧ (WJ b.lit.a ∧ ∀ e ∈ b.elems,(∀ t ∈ e.tuple,t.Nm) ∧ ∀ g ∈ e.cond,WJ g.a):=by
 obtain ⟨ps,rfl,hl,hf⟩:=h.VG r52 rfl
 match ps,hl with
 | [p0,p1,p2,p3,p4,p5,p6],_ =>
  obtain ⟨k,rfl,_⟩:=(hf 0 (by simp) (by simp)).X7 r5 rfl
  obtain ⟨g,rfl,hg⟩:=Zji (hf 1 (by simp) (by simp))
  obtain ⟨no,rfl⟩:=(hf 2 (by simp) (by simp)).ZcW r4 rfl
  obtain ⟨f,rfl,_⟩:=(hf 3 (by simp) (by simp)).X7 r5 rfl
  obtain ⟨es,rfl,he⟩:=Zkn (hf 4 (by simp) (by simp))
  obtain ⟨o,rfl,_⟩:=(hf 5 (by simp) (by simp)).X7 r5 rfl
  obtain ⟨b,rfl,_⟩:=(hf 6 (by simp) (by simp)).X7 r3 rfl
  exact ⟨⟨k,g,no,f,es,o,b⟩,rfl,hg,he⟩
theorem ZjC {cs:List AV} (h:Y7 tt 28 cs):∃ l:List GB,cs = [.sl 9 (l.map GB.enc) .any] ∧ ∀ b ∈ l,WJ b.lit.a ∧ ∀ e ∈ b.elems,(∀ t ∈ e.tuple,t.Nm) ∧ ∀ g ∈ e.cond,WJ g.a:=Zbj h r28 rfl r52 rfl rfl (fun _=>rfl) fun _ h=>Zlj h
theorem ZjX {cs:List AV} (h:Y7 tt 31 cs):∃ x:Ins,cs = x.cs ∧ ZhN x:=by
 obtain ⟨ps,rfl,hl,hf⟩:=h.VG r31 rfl
 match ps,hl with
 | [p0,p1,p2,p3,p4,p5,p6,p7],_ =>
  obtain ⟨k,rfl,_⟩:=(hf 0 (by simp) (by simp)).X7 r5 rfl
  obtain ⟨hs,rfl,hh⟩:=ZjS (hf 1 (by simp) (by simp))
  obtain ⟨lo,rfl,_⟩:=(hf 2 (by simp) (by simp)).X7 r3 rfl
  obtain ⟨up,rfl,_⟩:=(hf 3 (by simp) (by simp)).X7 r3 rfl
  obtain ⟨b,rfl,hb⟩:=ZjC (hf 4 (by simp) (by simp))
  obtain ⟨w,rfl,_⟩:=(hf 5 (by simp) (by simp)).X7 r3 rfl
  obtain ⟨lv,rfl,_⟩:=(hf 6 (by simp) (by simp)).X7 r3 rfl
  obtain ⟨l,rfl,hl⟩:=(Zgu (hf 7 (by simp) (by simp))).2 rfl
  exact ⟨⟨k,hs,lo,up,b,w,lv,l⟩,rfl,hh,hb,hl⟩
theorem ZlB {cs:List AV} (h:Y7 tt 33 cs):∃ a:Am,Zd5 tt 33 cs = a.enc ∧ WJ a:=by
 obtain ⟨a,rfl,h2⟩:=Zf5 h; exact ⟨a,rfl,h2⟩
theorem ZjV {cs:List AV} (h:Y7 tt 31 cs):∃ x:Ins,Zd5 tt 31 cs = x.enc ∧ ZhN x:=by
 obtain ⟨a,rfl,h2⟩:=ZjX h; exact ⟨a,rfl,h2⟩
/-! The variables of Go's library. -/
theorem own:ownKnob Tryz.prog.godebug = none:=by kernel_rfl
theorem ZmG : Tryz.prog.globalNamed "internal/strconv.uint64pow10" = some 1 := by kernel_rfl
theorem gPowT:(Tryz.prog.globals[1]?).map (·.type) = some 384:=by kernel_rfl
theorem cells384:Tryz.prog.cellsOf 384 = 20:=by kernel_rfl
theorem cells310:Tryz.prog.cellsOf 310 = 1:=by kernel_rfl
theorem ZjH {W : World} (h : laidMetH Tryz.prog Rows.lowerTellsRow.laid W) : Lib.TabIs Tryz.prog W "internal/strconv.uint64pow10" .u64 Lib.pow10Tab := by
 have h1 := laidMetH.filter (fun x => x.1 == "internal/strconv.uint64pow10") h
 exact Lib.tabIs_of_head (rest:=[]) ZmG gPowT Tryz.underlying384 Tryz.underlying310 cells310 cells384 h1
def Zcw (W:World):Env where
 F:=fun b o=>if b = 0 ∨ b = 1 then none else W.cell? ⟨b,o,none⟩
 m:=fun l k=>if l = 0 ∧ k = 0 then some 0 else if l = 0 ∧ k = 1 then some 1 else none
 hist:=fun _ _ _=>none
 g:=fun _ _=>none
 qd:=false
def Zei (m:Int):Zf:=fun l k=>if l = 0 ∧ k = 0 then some (.var 0 3 [.int .i64 m]) else if l = 0 ∧ k = 1 then some (.var 1 384 (Lib.pow10Tab.map (.int .u64))) else none
theorem Zmg (m:Int):Tabs (Zei m):=⟨m,3,384,rfl,rfl⟩
theorem ZjZ {W : World} (hsh : W.ShapedOpen Tryz.prog) (hL : Lib.TabIs Tryz.prog W "internal/strconv.uint64pow10" .u64 Lib.pow10Tab) :
  ∃ m,W.heap[0]? = some (.cells #[.int .i64 m] 3 (0,0)) ∧ W.heap[1]? = some (.cells (Lib.pow10Tab.map fun z=>Value.int .u64 z).toArray 384 (0,0)):=by
 obtain ⟨m,hm⟩:=cell_of_shapedOpen_int (P:=Tryz.prog) (g:=0) (t:=3) (zero:=#[.int .i64 0]) hsh (of_decide_eq_true (by kernel_rfl)) (by kernel_rfl) rfl (by kernel_rfl) (by kernel_rfl) Tryz.underlying3
 obtain ⟨cs,h1,h2,_⟩:=hsh.1 0 #[.int .i64 0] 3 (of_decide_eq_true (by kernel_rfl)) (by kernel_rfl)
 obtain ⟨cs3,h3,h4,_⟩:=hsh.1 1 (Array.replicate 20 (.int .u64 0)) 384 (of_decide_eq_true (by kernel_rfl)) (by kernel_rfl)
 refine ⟨m,?_,?_⟩
 ·have hs:cs.size = 1:=h2
  simp only [World.cell?,h1] at hm
  rw [h1]
  have:cs = #[.int .i64 m]:=by
   apply Array.ext_getElem?
   intro i
   cases i with
   | zero=>simpa using hm
   | succ i=>rw [Array.getElem?_eq_none (by omega),Array.getElem?_eq_none (by simp)]
  rw [this]
 ·unfold Lib.TabIs World.var? at hL
  rw [ZmG] at hL
  simp only [Option.bind_some,h3] at hL
  rw [h3,Option.some.inj hL]
theorem ZmR {W:World} {m:Int} (h0:W.heap[0]? = some (.cells #[.int .i64 m] 3 (0,0))) (h3:W.heap[1]? = some (.cells (Lib.pow10Tab.map fun z=>Value.int .u64 z).toArray 384 (0,0))):ZJ 1 (Zei m) (Zcw W) W:=by
 have hm:∀ l k b,(Zcw W).m l k = some b → (l = 0 ∧ k = 0 ∧ b = 0) ∨ (l = 0 ∧ k = 1 ∧ b = 1):=fun l k b h=>by
  simp only [Zcw] at h
  split at h
  ·rename_i e; cases h; exact .inl ⟨e.1,e.2,rfl⟩
  ·split at h
   ·rename_i e; cases h; exact .inr ⟨e.1,e.2,rfl⟩
   ·cases h
 refine { norm:=⟨fun l k hl=>?_,fun _ _ _=>rfl,fun _ _ _ _=>rfl⟩,F:=fun b o v h=>?_,blk:=fun l k b hl h=>?_,dom:=fun l k hl h=>?_,nobuf:=fun l k h=>absurd rfl h,inj:=fun l k l' k' b h h'=>?_,injg:=fun _ _ _ _ _ h=>(by cases h),mg:=fun _ _ _ _ _ _ h=>(by cases h),mF:=fun l k b o h=>?_,lt:=fun b h=>?_ }
 ·simp only [Zcw]; rw [if_neg (by omega),if_neg (by omega)]
 ·simp only [Zcw] at h; split at h
  ·cases h
  ·exact h
 ·simp only [Zei] at h
  split at h
  ·rename_i e; obtain ⟨rfl,rfl⟩:=e; cases h
   exact ⟨rfl,rfl,_,h0,VRs.cons (.int _ _) (VRs.nil _)⟩
  ·split at h
   ·rename_i e; obtain ⟨rfl,rfl⟩:=e; cases h
    exact ⟨rfl,rfl,_,h3,by simp,fun i h1 h2=>by simp only [List.getElem_map,List.toList_toArray]; exact .int _ _⟩
   ·cases h
 ·simp only [Zei] at h
  split at h
  ·cases h
  ·rename_i c1
   split at h
   ·cases h
   ·rename_i c2
    simp only [Zcw]
    rw [if_neg c1,if_neg c2]; simp
 ·rcases hm _ _ _ h with ⟨rfl,rfl,rfl⟩ | ⟨rfl,rfl,rfl⟩ <;> rcases hm _ _ _ h' with ⟨rfl,rfl,e⟩ | ⟨rfl,rfl,e⟩ <;> first | (cases e; done) | exact ⟨trivial,trivial⟩ | exact ⟨rfl,rfl⟩ | simp
 ·rcases hm _ _ _ h with ⟨_,_,rfl⟩ | ⟨_,_,rfl⟩ <;> simp [Zcw]
 ·rcases h with ⟨l,k,h⟩ | ⟨l,k,h⟩
  ·rcases hm _ _ _ h with ⟨_,_,rfl⟩ | ⟨_,_,rfl⟩
   ·exact (Array.getElem?_eq_some_iff.1 h0).1
   ·exact (Array.getElem?_eq_some_iff.1 h3).1
  ·cases h
theorem Zk7 {W W':World} {m:Int} {E':Env} (h0:W.heap[0]? = some (.cells #[.int .i64 m] 3 (0,0))) (h3:W.heap[1]? = some (.cells (Lib.pow10Tab.map fun z=>Value.int .u64 z).toArray 384 (0,0)))
  (hh:ZJ 1 (Zei m) E' W') (hx:Ext 1 (Zcw W) W E' W'):Go.RowKit.Below W.heap.size W W':=by
 refine ⟨hx.os,hx.tape,hx.output,hx.size,fun k hk=>?_⟩
 by_cases e0:k = 0
 ·subst e0
  obtain ⟨_,_,c,h1,h2⟩:=hh.blk 0 0 (.var 0 3 [.int .i64 m]) (by omega) rfl
  obtain ⟨x,r,hr,hv,hn⟩:=h2.YR
  cases hv
  rw [h1,h0,show c = #[.int .i64 m] from Array.toList_inj.1 (by rw [hr,hn.of_nil])]
 ·by_cases e3:k = 1
  ·subst e3
   obtain ⟨_,_,c,h1,h2⟩:=hh.blk 0 1 (.var 1 384 (Lib.pow10Tab.map (.int .u64))) (by omega) rfl
   rw [h1,h3,show c = _ from Array.toList_inj.1 (VRs.ZkR h2)]
  ·refine hx.block k hk ?_
   rintro (⟨l,j,h⟩ | ⟨l,j,h⟩)
   ·simp only [Zcw] at h
    split at h
    ·cases h; exact e0 rfl
    ·split at h
     ·cases h; exact e3 rfl
     ·cases h
   ·cases h
theorem ZiH {H:Type} {enc:TypeId × Value → H} (f:Nat) (ts:List TypeId) (hts:∀ t ∈ ts,t ∈ rdS) (h:∀ cs,ZfA tt ts cs → ZR Tryz.prog f (wraps tt ts cs) (.bool true))
  (W:World) (base:Nat) (args:Array Value) (ds:List (DataW H)) (ps:List MemPlace) (hA:DataW.TrodAll enc Tryz.prog W 0 (fun _=>true) true ts args.toList ds ps)
  (hok:∀ (j:Nat) t v,ts[j]? = some t → args.toList[j]? = some v → Value.okWide Tryz.prog W .any base t v) (hw:∀ n ∈ DataW.weightsEach Tryz.prog ts ds,n ≤ reachBytes)
  (hsh : W.ShapedOpen Tryz.prog) (hL : Lib.TabIs Tryz.prog W "internal/strconv.uint64pow10" .u64 Lib.pow10Tab) :
  Calls Tryz.prog f args W fun e W'=>e = .returned (.bool true) ∧ Go.RowKit.Below W.heap.size W W':=by
 obtain ⟨m,h0,h3⟩:=ZjZ hsh hL
 obtain ⟨cs,hf,hv⟩:=Zhh (E:=Zcw W) (X:=fun b=>b = 0 ∨ b = 1) tok rdS rdOk (fun b o v hX hc=>by simp only [Zcw]; rw [if_neg hX]; exact hc)
  (fun b o v hX hc=>by
   rcases hX with rfl | rfl
   ·simp only [World.cell?,h0] at hc
    cases o with
    | zero=>simp at hc; exact .inl ⟨m,hc.symm⟩
    | succ o=>simp at hc
   ·simp only [World.cell?,h3] at hc
    simp only [Option.isSome_none,Bool.false_eq_true,if_false,List.getElem?_toArray,List.getElem?_map,Option.map_eq_some_iff] at hc
    obtain ⟨z,_,rfl⟩:=hc
    exact .inr ⟨z,rfl⟩) ts args.toList ds ps hA hts hok hw
 have hc:=h cs hf 1 (Zei m) Nat.one_pos (Zmg m) (Zcw W) W args.toList (ZmR h0 h3) hv
 refine Calls.mono hc ?_
 rintro e W' ⟨r,v,H',E',rfl,⟨rfl,rfl⟩,h1,h2,h4⟩
 cases h1
 exact ⟨rfl,Zk7 h0 h3 h2 h4⟩
end Go.Proofs.YthgbkalgmicniaaGreatDoor

/- The laws' rows: from a walk that ends with true to the row's statement. -/
namespace Go.Proofs.YthgbkalgmicniaaGreatDoor
open Go.Abs Go.ChangeShapes Go.WideShapes Go.ChangeAt Go.RowKit
set_option maxRecDepth 100000

theorem laidOut : laidOutB Tryz.prog = true := by kernel_rfl
theorem ZlI : rdS.all (fun t => Tryz.prog.readableRec t && decide (t < Tryz.prog.types.size)) = true := by kernel_rfl
theorem Zmu {t : TypeId} (h : t ∈ rdS) : Tryz.prog.readableRec t = true ∧ t < Tryz.prog.types.size := by
  have := List.all_eq_true.1 ZlI t h
  simpa using this

theorem ZbA {H : Type} {enc : TypeId × Value → H} {P : Program} {W : World} {b : Nat} {sp : Nat → Bool} {hd : Bool} : ∀ {ts : List TypeId} {vs : List Value} {ds : List (DataW H)} {ps : List MemPlace}, DataW.TrodAll enc P W b sp hd ts vs ds ps → ds.length = ts.length
  | [], [], [], _, _ => rfl
  | t :: ts, v :: vs, d :: ds, ps, h => by
    obtain ⟨p, q, _, h2, _⟩ := h
    simp only [List.length_cons, ZbA h2]
  | [], _ :: _, _, _, h => h.elim
  | [], [], _ :: _, _, h => h.elim
  | _ :: _, [], _, _, h => h.elim
  | _ :: _, _ :: _, [], _, h => h.elim

theorem Zd7 {H : Type} {enc : TypeId × Value → H} {W W' : World} (hb : Go.RowKit.Below W.heap.size W W') : ∀ {ts : List TypeId} {vs : List Value} {ds : List (DataW H)} {ps : List MemPlace}, (∀ t ∈ ts, t ∈ rdS) →
    DataW.TrodAll enc Tryz.prog W 0 (fun _ => true) true ts vs ds ps → (∀ x ∈ ps, x.block < W.heap.size) → DataW.TrodAll enc Tryz.prog W' 0 (fun b => decide (b < W.heap.size)) true ts vs ds ps
  | [], [], [], _, _, h, _ => h
  | t :: ts, v :: vs, d :: ds, ps, hts, h, hlt => by
    obtain ⟨p, q, h1, h2, rfl⟩ := h
    have hr := Zmu (hts t (List.mem_cons_self ..))
    exact ⟨p, q, Go.RowKit.Below.trod laidOut hr.1 hr.2 h1 hb (fun x hx => hlt x (List.mem_append_left _ hx)), Zd7 hb (fun t h => hts t (List.mem_cons_of_mem _ h)) h2 (fun x hx => hlt x (List.mem_append_right _ hx)), rfl⟩
  | [], _ :: _, _, _, _, h, _ => h.elim
  | [], [], _ :: _, _, _, h, _ => h.elim
  | _ :: _, [], _, _, _, h, _ => h.elim
  | _ :: _, _ :: _, [], _, _, h, _ => h.elim

theorem ZnV : Tryz.prog.underlying 4 = some .bool := by kernel_rfl

/-- A law's post, from its walk. -/
theorem ZiP {H : Type} {enc : TypeId × Value → H} (f : Nat) (fn : Func) (s : ChangeSpec) (ts : List TypeId) (hp : fn.params.toList = ts) (hr : fn.resultTypes = #[4]) (hs : s.vars = [])
    (hfn : ∀ ds : List (DataW H), ds.length = ts.length → s.fn H ds = { results := [.lit (.bool true)], args := ds })
    (hts : ∀ t ∈ ts, t ∈ rdS) (h : ∀ cs, ZfA tt ts cs → ZR Tryz.prog f (wraps tt ts cs) (.bool true))
    (W : World) (base : Nat) (args : Array Value) (ds gs : List (DataW H)) (before : List MemPlace)
    (hval : ∀ (j : Nat) t v, fn.params[j]? = some t → args[j]? = some v → Value.okWide Tryz.prog W .any base t v)
    (hW : DataW.Whole enc Tryz.prog fn.params.toList s.vars false W args.toList ds gs before)
    (hw : ∀ n ∈ DataW.weightsEach Tryz.prog ts ds, n ≤ reachBytes)
    (hsh : W.ShapedOpen Tryz.prog) (hL : Lib.TabIs Tryz.prog W "internal/strconv.uint64pow10" .u64 Lib.pow10Tab) :
    Calls Tryz.prog f args W fun e W' => ∃ v, e = .returned v ∧ s.post enc Tryz.prog fn false true false false W args v W' := by
  have hlt := hW.lt
  have hW' := hW
  obtain ⟨p, q, hA, hV, rfl, hfz, hnd⟩ := hW
  rw [hs] at hV
  obtain ⟨rfl, rfl⟩ := trodVars_none hV
  rw [hp] at hA
  simp only [List.append_nil] at hlt hW'
  have hval' : ∀ (j : Nat) t v, ts[j]? = some t → args.toList[j]? = some v → Value.okWide Tryz.prog W .any base t v := fun j t v h1 h2 =>
    hval j t v (by rw [← hp] at h1; simpa using h1) (by simpa using h2)
  have w := ZiH f ts hts h W base args ds p hA hval' hw hsh hL
  refine w.mono fun e W' ⟨he, hg⟩ => ?_
  subst he
  refine ⟨_, rfl, ds, [], p, [], p, [], hW', ?_, ?_, ?_, hg.frame _, fun h => by cases h⟩
  · rw [List.append_nil, hfn ds (ZbA hA), hr]
    exact trodAll_mk1 (shut_bool ZnV true)
  · rw [List.append_nil, hfn ds (ZbA hA), hp]
    exact Zd7 hg hts hA hlt
  · rw [List.append_nil, hfn ds (ZbA hA), hs]
    exact rfl

theorem Zgp {H : Type} {ts : List TypeId} {ds : List (DataW H)} (h : (DataW.weightsEach Tryz.prog (ts ++ []) (ds ++ [])).all (· ≤ reachBytes) = true) : ∀ n ∈ DataW.weightsEach Tryz.prog ts ds, n ≤ reachBytes := by
  intro n hn
  rw [List.append_nil, List.append_nil] at h
  simpa using List.all_eq_true.1 h n hn

def Zku : DataW Unit → List Value
  | .lit (.int k n) => [.int k n]
  | _ => []
def Zkz : DataW Unit → List Value
  | .agg l => l.flatMap Zku
  | d => Zku d
def ZlW : DataW Unit → List Value
  | .agg l => l.flatMap Zkz
  | d => Zkz d
def lay (d : DataW Unit) : Obj → Obj
  | .cells _ t frozen => .cells (ZlW d).toArray t frozen
  | o => o
/-- A world for the witness: the settled one, Go's own tables holding what their initialisers lay. -/
noncomputable def laidWorld (os : Os) : World :=
  { World.holding Tryz.prog os ⟨#[], #[], []⟩ with heap := (((((World.holding Tryz.prog os ⟨#[], #[], []⟩).heap.modify 4 (lay Rows.laid_math_bits_deBruijn32tab)).modify 5 (lay Rows.laid_math_bits_deBruijn64tab)).modify 1
      (lay Rows.laid_internal_strconv_uint64pow10)).modify 3 (lay Rows.laid_unicode_utf8_acceptRanges)).modify 2 (lay Rows.laid_unicode_utf8_first) }
theorem laid_met (os : Os) (args : Array Value) : laidMet Tryz.prog Rows.lowerTellsRow.laid ((laidWorld os).forCall (fun _ _ => 0) ⟨#[], args, []⟩).memory :=
  laidMet_of_run' 8 (by kernel_rfl) (by kernel_rfl)
end Go.Proofs.YthgbkalgmicniaaGreatDoor
