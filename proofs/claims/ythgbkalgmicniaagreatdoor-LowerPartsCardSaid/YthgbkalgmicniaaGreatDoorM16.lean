/- The table of instances. -/
import Derived.Test.YthgbkalgmicniaaGreatDoorM15
import Derived.Test.YthgbkalgmicniaaGreatDoorM14
import Derived.Test.YthgbkalgmicniaaGreatDoorM12
set_option linter.all false
namespace Go.Abs
open Go.Proofs.YthgbkalgmicniaaGreatDoor
def atE (e:GE):List Am:=e.cond.map GL.a
def atL (b:GB):List Am:=if b.kind = 1 then [b.lit.a] else []
def atB (b:GB):List Am:=atL b ++ b.elems.flatMap atE
def atI (x:Ins):List Am:=x.heads ++ x.body.flatMap atB
def Vr (l:List Ins):List Am:=l.flatMap atI
def tb0:Tb:=⟨[],[]⟩
theorem Tb.Zab (t:Tb) (p q:List Am):t.adds (p ++ q) = (t.adds p).adds q:=by simp [Tb.adds]
theorem XT {α β:Type} (f:α → List β) (l:List α) (i:Nat) (h:i < l.length):(l.take (i + 1)).flatMap f = (l.take i).flatMap f ++ f l[i]:=by
 rw [List.take_succ_eq_append_getElem h,List.flatMap_append]; simp
theorem Vf {α β:Type} (f:α → List β) (l:List α) (i:Nat):((l.take i).flatMap f).length ≤ (l.flatMap f).length:=by
 conv=>rhs; rw [← List.take_append_drop i l,List.flatMap_append,List.length_append]
 omega
theorem Zex (p:List Am):(tb0.adds p).A.length ≤ p.length:=by have:=Tb.adds_len p tb0; simp only [tb0,List.length_nil] at this ⊢; omega
def Zcz (k:Nat):List Am → List (List UInt8 × Int) → List (List UInt8 × Int)
 | [],M=>M
 | a :: r,M=>Zcz (k + 1) r (Xv (Y1 a) ((k:Int) + 1) M)
theorem Zeh (a:Am):∀ (l:List Am) (k:Nat) (M:List (List UInt8 × Int)),Zcz k (l ++ [a]) M = Xv (Y1 a) (((k + l.length:Nat):Int) + 1) (Zcz k l M)
 | [],k,M=>rfl
 | b :: l,k,M=>by
  simp only [List.cons_append,Zcz,Zeh a l,List.length_cons]
  congr 1; omega
def Zo (I:List Ins):List Am:=sortB ltA (tb0.adds (Vr I)).A
def Xo (I:List Ins):List (List UInt8 × Int):=Zcz 0 (Zo I) (tb0.adds (Vr I)).M
theorem ZbY {P:Am → Prop}:∀ (l:List Am) (t:Tb),(∀ a ∈ t.A,P a) → (∀ a ∈ l,P a) → ∀ a ∈ (t.adds l).A,P a
 | [],t,h,_=>h
 | b :: l,t,h,hl=>by
  have:t.adds (b :: l) = (t.add b).adds l:=rfl
  rw [this]
  refine ZbY l _ (fun a ha=>?_) (fun a ha=>hl a (by simp [ha]))
  unfold Tb.add at ha
  split at ha
  ·rcases List.mem_append.1 ha with ha | ha
   ·exact h a ha
   ·simp only [List.mem_singleton] at ha; subst ha; exact hl a (by simp)
  ·exact h a ha
theorem Zeb {I:List Ins} (h:∀ x ∈ I,x.Good):∀ a ∈ Vr I,a.Good:=fun a ha=>by
 obtain ⟨x,hx,ha⟩:=List.mem_flatMap.1 ha
 rcases List.mem_append.1 ha with ha | ha
 ·exact (h x hx).h a ha
 ·obtain ⟨b,hb,ha⟩:=List.mem_flatMap.1 ha
  have hb:=(h x hx).b b hb
  rcases List.mem_append.1 ha with ha | ha
  ·unfold atL at ha
   split at ha
   ·simp only [List.mem_singleton] at ha; subst ha; exact hb.lit
   ·cases ha
  ·obtain ⟨e,he,ha⟩:=List.mem_flatMap.1 ha
   obtain ⟨y,hy,rfl⟩:=List.mem_map.1 ha
   exact (hb.e e he).c y hy
theorem Zjf {G:Zf} {l:Nat} {t:Tb} (h1:G l 3 = some (.box (tbC l t))) (h2:G l 200 = some (tbA t)) (h3:G l 12 = some (.map (Vl t.M))):tbH G l t = G:=by
 unfold tbH; rw [X3 h3,X3 h2,X3 h1]
end Go.Abs
namespace Go.Proofs.YthgbkalgmicniaaGreatDoor
open Go.Abs
set_option maxRecDepth 100000
theorem Zgz {P:Program} {T:TT} {n:Nat} {t ty:Nat} {v:AV} {s:Zh} {Q:AV → Zf → Prop} (r:ZE) (l k off:Nat) (cs:List AV) (h1:lkv s.tmps t = .ptr l k off) (h2:full n s.L s.H l k = some (.box cs)) (h3:T ty = some r)
  (h4:off + r.size ≤ cs.length) (h5:r.isAgg = false → off < cs.length) (hv:Wk (if r.isAgg then .agg ((cs.drop off).take r.size) else (cs.drop off).getD 0 .dead) v) (hb:Below n v) (hQ:Q v s.H) :
  PostF P T n [.cell t ty] Q .ret s:=by
 refine ⟨by simp only [List.mem_singleton,forall_eq,YH]; exact ⟨l,k,off,cs,r,h1,h2,h3,h4,h5⟩,[v],⟨?_,trivial⟩,by simpa using hb,hQ⟩
 simp only [Zf0,h1,h2,h3]
 rw [if_pos ⟨h4,h5⟩]; exact hv
theorem Zl1 (x:GL):Pure Tryz.prog 115 [x.enc] x.a.enc:=by
 intro n H
 refine Zm tok (Zb Tryz.func115 rfl rfl) (by simp) fun B=>?_
 refine Za tok rfl rfl ?_
 simp only [go_sem,simprocAttr]
 refine Za tok rfl rfl ?_
 simp only [go_sem,simprocAttr]
 refine Zi rfl rfl ?_
 refine Xa (.inl rfl) _ n 2 0 x.a.cs (by simp only [go_sem,simprocAttr]) (by simp only [go_sem,simprocAttr,full]) rfl (Nat.le_refl _) (by simp only [go_sem,simprocAttr]) ?_ (x.a.blw n) rfl
 simp only [go_sem,simprocAttr]
 exact .refl _
def zTb:Zk:=.box [.sl 2 [] .full,.nilm]
def L64 (n:Nat) (t:Tb):List (Nat × Zk):=[(2,zTb),(3,.box (tbC n t)),(12,.map (Vl t.M)),(200,tbA t)]
theorem Zi9 {cx:Cx} {o:Oper} {args:List Operand} {ts:List TypeId} {tm:List (Nat × AV)} {L:List (Nat × Zk)} {H:Zf} {t:Tb} {K:Zh → Prop} {hs:List Am} {ow:Own}
  (hP:cx.P = Tryz.prog) (hn:0 < cx.n) (hT:Tabs H) (h3:lkb L 3 = some (.box (tbC cx.n t))) (h200:lkb L 200 = some (tbA t)) (h12:lkb L 12 = some (.map (Vl t.M))) (hg:∀ a ∈ hs,a.Good) (hlen:t.A.length + hs.length ≤ 1000000)
  (ha:Xj cx.T (evT tm) args ts = [.ptr cx.n 3 0,.sl 2 (hs.map Am.enc) ow]) (hk:K ⟨YP tm o.dst (.tup []),setb (setb (setb L 12 (.map (Vl (t.adds hs).M))) 200 (tbA (t.adds hs))) 3 (.box (tbC cx.n (t.adds hs))),H⟩):JM cx false o (.func 113) args ts ⟨tm,L,H⟩ K:=by
 have hs0:tbH (full cx.n L H) cx.n t = full cx.n L H:=Zjf (by simp only [full,if_true]; exact h3) (by simp only [full,if_true]; exact h200) (by simp only [full,if_true]; exact h12)
 have h:=Zn3 (cx.n + 1) (full cx.n L H) cx.n t (Nat.lt_succ_self _) hn (hT.full hn) hs ow hg hlen
 rw [hs0] at h
 refine Xk (caps:=[]) (avs:=[.ptr cx.n 3 0,.sl 2 (hs.map Am.enc) ow]) rfl (by rw [hP]; exact Zb Tryz.func113 rfl rfl) (by rw [hP,List.append_nil]; exact h) ha ?_
 rintro r H1 ⟨rfl,rfl⟩
 exact ⟨_,H,by unfold tbH; rw [ZU,ZU,ZU],.refl _ _,hk⟩
def ZkF (n:Nat) (I:List Ins) (H:Zf) (i:Nat):Zh :=
 ⟨[(16,.int .i64 i),(15,.int .i64 I.length),(14,.sl 8 (I.map Ins.enc) .any),(3,.ptr n 3 0),(2,.ptr n 2 0)],L64 n (tb0.adds (Vr (I.take i))),H⟩
def ZkT (n:Nat) (I:List Ins) (i:Nat) (x:Ins) (p:List Am) (H:Zf) (j:Nat):Zh :=
 ⟨[(26,.int .i64 j),(25,.int .i64 x.body.length),(24,.sl 9 (x.body.map GB.enc) .any),(16,.int .i64 i),(15,.int .i64 I.length),(14,.sl 8 (I.map Ins.enc) .any),(3,.ptr n 3 0),(2,.ptr n 2 0)],
  L64 n (tb0.adds (p ++ (x.body.take j).flatMap atB)),H⟩
def ZlF (n:Nat) (I:List Ins) (i:Nat) (x:Ins) (j:Nat) (b:GB) (p:List Am) (H:Zf) (k:Nat):Zh :=
 ⟨[(41,.int .i64 k),(40,.int .i64 b.elems.length),(39,.sl 2 (b.elems.map GE.enc) .any),(26,.int .i64 j),(25,.int .i64 x.body.length),(24,.sl 9 (x.body.map GB.enc) .any),(16,.int .i64 i),(15,.int .i64 I.length),(14,.sl 8 (I.map Ins.enc) .any),(3,.ptr n 3 0),(2,.ptr n 2 0)],
  L64 n (tb0.adds (p ++ (b.elems.take k).flatMap atE)),H⟩
def Zk2 (n:Nat) (A:List Am) (M:List (List UInt8 × Int)) (H:Zf) (i:Nat):Zh :=
 ⟨[(58,.int .i64 i),(57,.int .i64 A.length),(56,.msl 2 n 200 A.length),(3,.ptr n 3 0),(2,.ptr n 2 0)],[(2,zTb),(3,.box [.msl 2 n 200 A.length,.map n 12]),(12,.map (Vl (Zcz 0 (A.take i) M))),(200,.ZN 33 2 (fl Am.cs A) A.length)],H⟩
theorem b64 (n:Nat) (H:Zf) (I:List Ins) (hI:∀ x ∈ I,x.Good) (hn:0 < n) (hT:Tabs H) (hlen:(Vr I).length ≤ 100000) (hil:I.length ≤ 100000) (lm km:Nat) (hlm:lm < n) (hf:H lm km = none) :
  Zr Tryz.prog n 64 [.sl 8 (I.map Ins.enc) .any] H fun r H'=>r = .agg [.sl 2 ((Zo I).map Am.enc) .any,.map lm km] ∧ H' = H.upd lm km (.map (Vl (Xo I))):=by
 refine Zm tok (Zb Tryz.func64 rfl rfl) (by simp) fun B=>?_
 refine Za tok rfl rfl ?_
 simp only [go_sem,simprocAttr]
 refine Za tok rfl rfl ?_
 simp only [go_sem,simprocAttr]
 repeat refine kn rfl ?_
 refine Wl 3 200 0 33 2 rfl rfl rfl ?_
 simp only [go_sem,simprocAttr,List.set_cons_zero]
 refine Za tok rfl rfl ?_
 simp only [go_sem,simprocAttr]
 repeat refine kn rfl ?_
 refine Zy (ZkF n I H) I.length rfl ?_ ?_
 ·unfold ZkF L64 zTb
  refine Zg ?_ ?_ ?_ ?_ <;> repeat' first|exact trivial|refine q0 ?_|exact qb|exact q1|exact q2|exact q3|exact rfl|refine And.intro ?_ ?_|exact qA rfl|exact Inside.ptr _ _ _ (.inr ⟨rfl,rfl⟩)|exact Tm.ins _|exact Tm.Zj _ _|exact Am.ins _|exact Am.Zj _ _|refine Zd ?_|refine Tm.Zc ?_|refine Am.Zc ?_
  all_goals first | exact (Zu _).inside | exact (ZF _).inside | exact (Zx _).inside | exact Inside.ptr _ _ _ (.inr ⟨rfl,rfl⟩) | exact Inside.map _ _ (.inr ⟨rfl,rfl⟩) | exact YE (.inr ⟨rfl,rfl⟩) | exact (ZV (fun _ h=>by cases h) (fun _ _ e=>by cases e)).inside | exact Inside.nilm | exact ZC fun c hc=>((Z8 (n:=n) _).1 c hc).inside | exact ZC fun c hc=>(Am.JI (n:=n) _ c hc).inside | skip
  all_goals exact 0
 intro i hi
 refine Yi rfl ?_
 rcases Nat.lt_or_ge i I.length with h | h
 ·have hx:=hI _ (List.getElem_mem h)
  have hpl:(Vr (I.take (i + 1))).length ≤ 100000:=Nat.le_trans (Vf atI I (i + 1)) hlen
  have hat:Vr (I.take (i + 1)) = Vr (I.take i) ++ atI I[i]:=XT atI I i h
  obtain ⟨x,hxe⟩:∃ x,x = I[i]:=⟨_,rfl⟩
  have hgd:∀ d,(I.map Ins.enc).getD i d = x.enc:=fun d=>by rw [hxe]; exact getD_map Ins.enc _ _ h d
  rw [← hxe] at hx hat
  unfold ZkF L64 zTb
  generalize Vr (I.take i) = p at *
  have hml:=Zex
  rw [hat,atI] at hpl
  simp only [List.length_append] at hpl
  refine Za tok rfl rfl ?_
  simp only [go_sem,simprocAttr,h]
  refine Zp rfl rfl rfl ?_
  refine Za tok rfl rfl ?_
  simp only [go_sem,simprocAttr,hgd,h]
  refine Za tok rfl rfl ?_
  simp only [go_sem,simprocAttr]
  refine Zi9 (t:=tb0.adds p) rfl hn hT rfl rfl rfl (hs:=x.heads) (ow:=.any) hx.h (by have:=hml p; omega) (by simp only [go_sem,simprocAttr]) ?_
  simp only [go_sem,simprocAttr,setb]
  rw [← Tb.Zab]
  refine Za tok rfl rfl ?_
  simp only [go_sem,simprocAttr]
  repeat refine kn rfl ?_
  refine Zy (ZkT n I i x (p ++ x.heads) H) x.body.length rfl ?_ ?_
  ·unfold ZkT L64 zTb
   rw [List.take_zero,List.flatMap_nil,List.append_nil]
   refine Zg ?_ ?_ ?_ ?_ <;> repeat' first|exact trivial|refine q0 ?_|exact qb|exact q1|exact q2|exact q3|exact rfl|refine And.intro ?_ ?_|exact qA rfl|exact Inside.ptr _ _ _ (.inr ⟨rfl,rfl⟩)|exact Tm.ins _|exact Tm.Zj _ _|exact Am.ins _|exact Am.Zj _ _|refine Zd ?_|refine Tm.Zc ?_|refine Am.Zc ?_
   all_goals first | exact (Zu _).inside | exact (ZF _).inside | exact (Zx _).inside | exact Inside.ptr _ _ _ (.inr ⟨rfl,rfl⟩) | exact Inside.map _ _ (.inr ⟨rfl,rfl⟩) | exact YE (.inr ⟨rfl,rfl⟩) | exact (ZV (fun _ h=>by cases h) (fun _ _ e=>by cases e)).inside | exact Inside.nilm | exact ZC fun c hc=>((Z8 (n:=n) _).1 c hc).inside | exact ZC fun c hc=>(Am.JI (n:=n) _ c hc).inside | skip
   all_goals exact 0
  intro j hj
  refine Yi rfl ?_
  rcases Nat.lt_or_ge j x.body.length with h2 | h2
  ·obtain ⟨b,hbe⟩:∃ b,b = x.body[j]:=⟨_,rfl⟩
   have hb:b.Good:=by rw [hbe]; exact hx.b _ (List.getElem_mem h2)
   have hgb:∀ d,(x.body.map GB.enc).getD j d = b.enc:=fun d=>by rw [hbe]; exact getD_map GB.enc _ _ h2 d
   have hat2:(x.body.take (j + 1)).flatMap atB = (x.body.take j).flatMap atB ++ atB b:=by rw [hbe]; exact XT atB x.body j h2
   have hpl2:=Vf atB x.body (j + 1)
   rw [hat2] at hpl2
   unfold ZkT L64 zTb
   rw [hat2]
   generalize (x.body.take j).flatMap atB = q at *
   simp only [List.length_append,atB] at hpl2
   refine Za tok rfl rfl ?_
   simp only [go_sem,simprocAttr,h2]
   refine Zp rfl rfl rfl ?_
   refine Za tok rfl rfl ?_
   simp only [go_sem,simprocAttr,hgb,h2]
   refine Za tok rfl rfl ?_
   simp only [go_sem,simprocAttr]
   obtain ⟨t1,ht1⟩:∃ t1,t1 = tb0.adds (p ++ x.heads ++ q ++ atL b):=⟨_,rfl⟩
   refine XF ⟨[(7,.ptr n 7 0),(26,.int .i64 j),(25,.int .i64 x.body.length),(24,.sl 9 (x.body.map GB.enc) .any),(16,.int .i64 i),(15,.int .i64 I.length),(14,.sl 8 (I.map Ins.enc) .any),(3,.ptr n 3 0),(2,.ptr n 2 0)],(7,.box b.cs) :: [(2,.box [.sl 2 [] .full,.nilm]),(3,.box (tbC n t1)),(12,.map (Vl t1.M)),(200,tbA t1)],H⟩ ?_ ?_
   ·by_cases hk:b.kind = 1
    ·have e1:atL b = [b.lit.a]:=by rw [atL,if_pos hk]
     rw [e1] at ht1 hpl2
     refine Zp rfl rfl (by simp only [go_sem,simprocAttr,hk]) ?_
     refine Za tok rfl rfl ?_
     simp only [go_sem,simprocAttr]
     refine ⟨rfl,?_⟩
     refine Zi9 (t:=tb0.adds (p ++ x.heads ++ q)) rfl hn hT rfl rfl rfl (hs:=[b.lit.a]) (ow:=.full) (by simp only [List.mem_singleton,forall_eq]; exact hb.lit) (by have:=hml (p ++ x.heads ++ q); simp only [List.length_append,List.length_cons,List.length_nil] at *; omega) (by simp only [go_sem,simprocAttr]) ?_
     simp only [go_sem,simprocAttr,setb]
     rw [← Tb.Zab,← ht1]
     refine Zt rfl ?_
     refine ⟨rfl,?_⟩
     refine Zg ?_ ?_ ?_ ?_ <;> repeat' first|exact trivial|refine q0 ?_|exact qb|exact q1|exact q2|exact q3|exact rfl|refine And.intro ?_ ?_|exact qA rfl|exact Inside.ptr _ _ _ (.inr ⟨rfl,rfl⟩)|exact Tm.ins _|exact Tm.Zj _ _|exact Am.ins _|exact Am.Zj _ _|refine Zd ?_|refine Tm.Zc ?_|refine Am.Zc ?_
     all_goals first | exact (Zu _).inside | exact (ZF _).inside | exact (Zx _).inside | exact Inside.ptr _ _ _ (.inr ⟨rfl,rfl⟩) | exact Inside.map _ _ (.inr ⟨rfl,rfl⟩) | exact YE (.inr ⟨rfl,rfl⟩) | exact (ZV (fun _ h=>by cases h) (fun _ _ e=>by cases e)).inside | exact Inside.nilm | exact ZC fun c hc=>((Z8 (n:=n) _).1 c hc).inside | exact ZC fun c hc=>(Am.JI (n:=n) _ c hc).inside | skip
    ·have hk':(b.kind == 1) = false:=by simpa using hk
     have e1:atL b = []:=by rw [atL,if_neg hk]
     rw [e1,List.append_nil] at ht1
     subst ht1
     refine Zn rfl rfl (by simp only [go_sem,simprocAttr,hk']) ?_
     refine ZM rfl ?_
     refine Zt rfl ?_
     refine ⟨rfl,?_⟩
     refine Zg ?_ ?_ ?_ ?_ <;> repeat' first|exact trivial|refine q0 ?_|exact qb|exact q1|exact q2|exact q3|exact rfl|refine And.intro ?_ ?_|exact qA rfl|exact Inside.ptr _ _ _ (.inr ⟨rfl,rfl⟩)|exact Tm.ins _|exact Tm.Zj _ _|exact Am.ins _|exact Am.Zj _ _|refine Zd ?_|refine Tm.Zc ?_|refine Am.Zc ?_
     all_goals first | exact (Zu _).inside | exact (ZF _).inside | exact (Zx _).inside | exact Inside.ptr _ _ _ (.inr ⟨rfl,rfl⟩) | exact Inside.map _ _ (.inr ⟨rfl,rfl⟩) | exact YE (.inr ⟨rfl,rfl⟩) | exact (ZV (fun _ h=>by cases h) (fun _ _ e=>by cases e)).inside | exact Inside.nilm | exact ZC fun c hc=>((Z8 (n:=n) _).1 c hc).inside | exact ZC fun c hc=>(Am.JI (n:=n) _ c hc).inside | skip
   refine Za tok rfl rfl ?_
   simp only [go_sem,simprocAttr]
   repeat refine kn rfl ?_
   rw [ht1]
   refine Zy (ZlF n I i x j b (p ++ x.heads ++ q ++ atL b) H) b.elems.length rfl ?_ ?_
   ·unfold ZlF L64 zTb
    rw [List.take_zero,List.flatMap_nil,List.append_nil]
    refine Zg ?_ ?_ ?_ ?_ <;> repeat' first|exact trivial|refine q0 ?_|exact qb|exact q1|exact q2|exact q3|exact rfl|refine And.intro ?_ ?_|exact qA rfl|exact Inside.ptr _ _ _ (.inr ⟨rfl,rfl⟩)|exact Tm.ins _|exact Tm.Zj _ _|exact Am.ins _|exact Am.Zj _ _|refine Zd ?_|refine Tm.Zc ?_|refine Am.Zc ?_
    all_goals first | exact (Zu _).inside | exact (ZF _).inside | exact (Zx _).inside | exact Inside.ptr _ _ _ (.inr ⟨rfl,rfl⟩) | exact Inside.map _ _ (.inr ⟨rfl,rfl⟩) | exact YE (.inr ⟨rfl,rfl⟩) | exact (ZV (fun _ h=>by cases h) (fun _ _ e=>by cases e)).inside | exact Inside.nilm | exact ZC fun c hc=>((Z8 (n:=n) _).1 c hc).inside | exact ZC fun c hc=>(Am.JI (n:=n) _ c hc).inside | skip
   intro k hk
   refine Yi rfl ?_
   rcases Nat.lt_or_ge k b.elems.length with h3 | h3
   ·obtain ⟨e,hee⟩:∃ e,e = b.elems[k]:=⟨_,rfl⟩
    have he:e.Good:=by rw [hee]; exact hb.e _ (List.getElem_mem h3)
    have hge:∀ d,(b.elems.map GE.enc).getD k d = e.enc:=fun d=>by rw [hee]; exact getD_map GE.enc _ _ h3 d
    have hat3:(b.elems.take (k + 1)).flatMap atE = (b.elems.take k).flatMap atE ++ atE e:=by rw [hee]; exact XT atE b.elems k h3
    have hpl3:=Vf atE b.elems (k + 1)
    rw [hat3] at hpl3
    unfold ZlF L64 zTb
    rw [hat3]
    generalize (b.elems.take k).flatMap atE = q3 at *
    simp only [List.length_append] at hpl3
    refine Za tok rfl rfl ?_
    simp only [go_sem,simprocAttr,h3]
    refine Zp rfl rfl rfl ?_
    refine Za tok rfl rfl ?_
    simp only [go_sem,simprocAttr,hge,h3]
    refine Za tok rfl rfl ?_
    simp only [go_sem,simprocAttr]
    refine ZH (Zb Tryz.func114 rfl rfl) (ZnA e.cond he.cl 115 [] GL.a ⟨⟨_,_,Zb Tryz.func115 rfl rfl⟩,fun y _=>Abs.Pure.tabs (Zl1 y),fun _=>trivial⟩) hn hT rfl ?_
    simp only [go_sem,simprocAttr]
    refine Zi9 (t:=tb0.adds (p ++ x.heads ++ q ++ atL b ++ q3)) rfl hn hT rfl rfl rfl (hs:=atE e) (ow:=.any) (fun a ha=>by obtain ⟨y,hy,rfl⟩:=List.mem_map.1 ha; exact he.c y hy) (by have:=hml (p ++ x.heads ++ q ++ atL b ++ q3); simp only [List.length_append] at *; omega) (by simp only [go_sem,simprocAttr,atE]) ?_
    simp only [go_sem,simprocAttr,setb]
    rw [← Tb.Zab,List.append_assoc _ q3 _]
    have hel:=hb.el
    refine Za tok rfl rfl ?_
    simp only [go_sem,simprocAttr]
    refine Zt rfl ?_
    refine Zg ?_ ?_ ?_ ?_ <;> repeat' first|exact trivial|refine q0 ?_|exact qb|exact q1|exact q2|exact q3|exact rfl|refine And.intro ?_ ?_|exact qA rfl|exact Inside.ptr _ _ _ (.inr ⟨rfl,rfl⟩)|exact Tm.ins _|exact Tm.Zj _ _|exact Am.ins _|exact Am.Zj _ _|refine Zd ?_|refine Tm.Zc ?_|refine Am.Zc ?_
    ·simp only [go_sem,simprocAttr]
     rw [IntWalk.i64_in _ (by omega)]; exact .refl _
    all_goals first | exact (Zu _).inside | exact (ZF _).inside | exact (Zx _).inside | exact Inside.ptr _ _ _ (.inr ⟨rfl,rfl⟩) | exact Inside.map _ _ (.inr ⟨rfl,rfl⟩) | exact YE (.inr ⟨rfl,rfl⟩) | exact (ZV (fun _ h=>by cases h) (fun _ _ e=>by cases e)).inside | exact Inside.nilm | exact ZC fun c hc=>((Z8 (n:=n) _).1 c hc).inside | exact ZC fun c hc=>(Am.JI (n:=n) _ c hc).inside | skip
   ·refine Za tok rfl rfl ?_
    simp only [go_sem,simprocAttr,Nat.not_lt.2 h3]
    refine Zn rfl rfl rfl ?_
    refine Yh rfl rfl rfl rfl ?_
    have hk':k = b.elems.length:=by omega
    subst hk'
    unfold L64 zTb
    rw [List.take_length]
    have hbl:=hx.bl
    have eA:p ++ x.heads ++ q ++ atL b ++ b.elems.flatMap atE = p ++ x.heads ++ (q ++ atB b):=by simp only [atB,List.append_assoc]
    rw [eA]
    refine Za tok rfl rfl ?_
    simp only [go_sem,simprocAttr]
    refine Zt rfl ?_
    refine Zg ?_ ?_ ?_ ?_ <;> repeat' first|exact trivial|refine q0 ?_|exact qb|exact q1|exact q2|exact q3|exact rfl|refine And.intro ?_ ?_|exact qA rfl|exact Inside.ptr _ _ _ (.inr ⟨rfl,rfl⟩)|exact Tm.ins _|exact Tm.Zj _ _|exact Am.ins _|exact Am.Zj _ _|refine Zd ?_|refine Tm.Zc ?_|refine Am.Zc ?_
    ·simp only [go_sem,simprocAttr]
     rw [IntWalk.i64_in _ (by omega)]; exact .refl _
    all_goals first | exact (Zu _).inside | exact (ZF _).inside | exact (Zx _).inside | exact Inside.ptr _ _ _ (.inr ⟨rfl,rfl⟩) | exact Inside.map _ _ (.inr ⟨rfl,rfl⟩) | exact YE (.inr ⟨rfl,rfl⟩) | exact (ZV (fun _ h=>by cases h) (fun _ _ e=>by cases e)).inside | exact Inside.nilm | exact ZC fun c hc=>((Z8 (n:=n) _).1 c hc).inside | exact ZC fun c hc=>(Am.JI (n:=n) _ c hc).inside | skip
  ·refine Za tok rfl rfl ?_
   simp only [go_sem,simprocAttr,Nat.not_lt.2 h2]
   refine Zn rfl rfl rfl ?_
   refine Yh rfl rfl rfl rfl ?_
   have hj':j = x.body.length:=by omega
   subst hj'
   unfold L64 zTb
   rw [List.take_length]
   rw [hat,atI,← List.append_assoc p]
   refine Za tok rfl rfl ?_
   simp only [go_sem,simprocAttr]
   refine Zt rfl ?_
   refine Zg ?_ ?_ ?_ ?_ <;> repeat' first|exact trivial|refine q0 ?_|exact qb|exact q1|exact q2|exact q3|exact rfl|refine And.intro ?_ ?_|exact qA rfl|exact Inside.ptr _ _ _ (.inr ⟨rfl,rfl⟩)|exact Tm.ins _|exact Tm.Zj _ _|exact Am.ins _|exact Am.Zj _ _|refine Zd ?_|refine Tm.Zc ?_|refine Am.Zc ?_
   ·simp only [go_sem,simprocAttr]
    rw [IntWalk.i64_in _ (by omega)]; exact .refl _
   all_goals first | exact (Zu _).inside | exact (ZF _).inside | exact (Zx _).inside | exact Inside.ptr _ _ _ (.inr ⟨rfl,rfl⟩) | exact Inside.map _ _ (.inr ⟨rfl,rfl⟩) | exact YE (.inr ⟨rfl,rfl⟩) | exact (ZV (fun _ h=>by cases h) (fun _ _ e=>by cases e)).inside | exact Inside.nilm | exact ZC fun c hc=>((Z8 (n:=n) _).1 c hc).inside | exact ZC fun c hc=>(Am.JI (n:=n) _ c hc).inside | skip
 ·refine Za tok rfl rfl ?_
  simp only [go_sem,simprocAttr,Nat.not_lt.2 h]
  refine Zn rfl rfl rfl ?_
  refine Yh rfl rfl rfl rfl ?_
  have hi':i = I.length:=by omega
  subst hi'
  rw [List.take_length]
  have hgA:ZkB (tb0.adds (Vr I)).A:=ZbY (P:=Am.Good) (Vr I) tb0 (by simp [tb0]) (Zeb hI)
  have hlA:=Zex (Vr I)
  have hsl:(Zo I).length = (tb0.adds (Vr I)).A.length:=(WQ ltA _).length_eq
  have hgS:∀ a ∈ Zo I,a.Good:=fun a ha=>hgA a ((WQ ltA _).mem_iff.1 ha)
  unfold Xo
  have hss:sortB ltA (tb0.adds (Vr I)).A = Zo I:=rfl
  unfold L64 zTb
  refine Za tok rfl rfl ?_
  simp only [go_sem,simprocAttr,tbC]
  refine Xk (caps:=[]) (avs:=[.msl 2 n 200 (tb0.adds (Vr I)).A.length,.fn (.func 81) []]) rfl (Zb Tryz.func116 rfl rfl) (ZnH (n + 1) _ n 200 2 (tb0.adds (Vr I)).A (Nat.lt_succ_self n) hgA (by omega) (by simp only [go_sem,simprocAttr,tbA])) (by simp only [go_sem,simprocAttr]) ?_
  rintro r H1 ⟨rfl,rfl⟩
  rw [hss,← hsl]
  refine ⟨_,H,(ZU n _ H 200 _).symm,.refl _ _,?_⟩
  simp only [go_sem,simprocAttr]
  have hlS:(Zo I).length ≤ 100000:=by omega
  generalize Zo I = A at *
  generalize (tb0.adds (Vr I)).M = M at *
  refine Za tok rfl rfl ?_
  simp only [go_sem,simprocAttr]
  repeat refine kn rfl ?_
  refine Zy (Zk2 n A M H) A.length rfl ?_ ?_
  ·unfold Zk2 zTb
   rw [List.take_zero]
   refine Zg ?_ ?_ ?_ ?_ <;> repeat' first|exact trivial|refine q0 ?_|exact qb|exact q1|exact q2|exact q3|exact rfl|refine And.intro ?_ ?_|exact qA rfl|exact Inside.ptr _ _ _ (.inr ⟨rfl,rfl⟩)|exact Tm.ins _|exact Tm.Zj _ _|exact Am.ins _|exact Am.Zj _ _|refine Zd ?_|refine Tm.Zc ?_|refine Am.Zc ?_
   all_goals first | exact (Zu _).inside | exact (ZF _).inside | exact (Zx _).inside | exact Inside.ptr _ _ _ (.inr ⟨rfl,rfl⟩) | exact Inside.map _ _ (.inr ⟨rfl,rfl⟩) | exact YE (.inr ⟨rfl,rfl⟩) | exact (ZV (fun _ h=>by cases h) (fun _ _ e=>by cases e)).inside | exact Inside.nilm | exact ZC fun c hc=>((Z8 (n:=n) _).1 c hc).inside | exact ZC fun c hc=>(Am.JI (n:=n) _ c hc).inside | skip
  intro i hi
  refine Yi rfl ?_
  unfold zTb
  rcases Nat.lt_or_ge i A.length with h | h
  ·have hgA:=hgS _ (List.getElem_mem h)
   have hgi:=Zlu Am.cs2 A i h
   have hfl:=fl_len Am.cs2 A
   have hput:=Za1 kinj_str (AV.int .i64) (Y1 A[i]) ((i:Int) + 1) (Zcz 0 (A.take i) M)
   have hkk:∀ p ∈ Vl (Zcz 0 (A.take i) M),Yv tt 9 p.1 = true:=fun p hp=>by
    obtain ⟨q,_,rfl⟩:=List.mem_map.1 hp; exact Jv _
   have hsn:Zcz 0 (A.take (i + 1)) M = Xv (Y1 A[i]) ((i:Int) + 1) (Zcz 0 (A.take i) M):=by
    rw [List.take_succ_eq_append_getElem h,Zeh,List.length_take,Nat.zero_add,Nat.min_eq_left (by omega)]
   have hwi:IntKind.i64.wrap ((i:Int) + 1) = (i:Int) + 1:=by rw [IntWalk.i64_in _ (by omega)]
   refine Za tok rfl rfl ?_
   simp only [go_sem,simprocAttr,h]
   refine Zp rfl rfl rfl ?_
   refine Za tok rfl rfl ?_
   simp only [go_sem,simprocAttr,h,hgi]
   refine ⟨⟨by omega,by omega⟩,?_⟩
   refine YX tok mixed drawO rfl rfl rfl ?_
   simp only [go_sem,simprocAttr]
   refine ZH (Zb Tryz.func17 rfl rfl) (Zjx A[i] hgA) hn hT (by simp only [go_sem,simprocAttr,hwi,hput]) ?_
   simp only [go_sem,simprocAttr,hwi,hput]
   refine ⟨hkk,?_⟩
   rw [← hsn]
   refine Za tok rfl rfl ?_
   simp only [go_sem,simprocAttr]
   refine Zt rfl ?_
   unfold Zk2 zTb
   refine Zg ?_ ?_ ?_ ?_ <;> repeat' first|exact trivial|refine q0 ?_|exact qb|exact q1|exact q2|exact q3|exact rfl|refine And.intro ?_ ?_|exact qA rfl|exact Inside.ptr _ _ _ (.inr ⟨rfl,rfl⟩)|exact Tm.ins _|exact Tm.Zj _ _|exact Am.ins _|exact Am.Zj _ _|refine Zd ?_|refine Tm.Zc ?_|refine Am.Zc ?_
   ·simp only [go_sem,simprocAttr,hwi]
    exact .refl _
   all_goals first | exact (Zu _).inside | exact (ZF _).inside | exact (Zx _).inside | exact Inside.ptr _ _ _ (.inr ⟨rfl,rfl⟩) | exact Inside.map _ _ (.inr ⟨rfl,rfl⟩) | exact YE (.inr ⟨rfl,rfl⟩) | exact (ZV (fun _ h=>by cases h) (fun _ _ e=>by cases e)).inside | exact Inside.nilm | exact ZC fun c hc=>((Z8 (n:=n) _).1 c hc).inside | exact ZC fun c hc=>(Am.JI (n:=n) _ c hc).inside | skip
  ·refine Za tok rfl rfl ?_
   simp only [go_sem,simprocAttr,Nat.not_lt.2 h]
   refine Zn rfl rfl rfl ?_
   refine Yh rfl rfl rfl rfl ?_
   have hi':i = A.length:=by omega
   subst hi'
   rw [List.take_length]
   repeat refine kn rfl ?_
   refine Yx (X5 (tm':=[(2,.ptr n 2 0),(3,.ptr n 3 0)]) (j0:=3) (i:=0) (j:=200) 1 (show 1 < 71 by decide) (A.map Am.enc) (by decide) rfl rfl rfl (Ze5 Am.cs Am.enc (fun _=>rfl) A) (by simp) (fun x hx=>?_) (fun c hc=>(Am.JI A c hc).inside) (fun q hq=>?_) (fun q hq=>?_)) ?_
   ·obtain ⟨u,_,rfl⟩:=List.mem_map.1 hx; rfl
   ·simp only [List.mem_cons,List.not_mem_nil,or_false] at hq
    rcases hq with rfl | rfl
    ·exact ⟨by simp,.refl _,Y4 (by decide)⟩
    ·exact ⟨by simp,.refl _,Y4 (by decide)⟩
   ·have hx:∀ q,Inside n q (.sl 2 [] .full):=fun q=>(ZV (n:=n) (fun _ h=>by cases h) (fun _ _ e=>by cases e)).inside
    exact Yj.mem (p:=fun q:Nat × Zk=>q.2.Inside n (fun k=>k ≠ 200)) (l:=[(2,.box [.sl 2 [] .full,.nilm]),(3,.box [.dead,.map n 12]),(12,.map (Vl (Zcz 0 A M)))])
     ⟨Zk.ZG ⟨hx _,.nilm,trivial⟩,Zk.ZG ⟨.dead,.map _ _ (.inr ⟨rfl,by decide⟩),trivial⟩,⟨fun a ha=>((Z8 (n:=n) _).1 a ha).inside,by simp [Zk.at_]⟩,trivial⟩ q hq
   simp only [go_sem,simprocAttr,setb,delb,List.set_cons_zero]
   have hx:∀ q,Inside n q (.sl 2 [] .full):=fun q=>(ZV (n:=n) (fun _ h=>by cases h) (fun _ _ e=>by cases e)).inside
   have hth:∀ k,k ≠ 12 → Zew n 12 (.ptr n k 0):=fun k h=>.inl (Y4 h)
   have hne:¬ lm = n:=by omega
   refine Zf3 12 lm km _ [(2,.ptr n 2 0),(3,.ptr n 3 0)] hlm hf rfl (Z8 _) ⟨⟨hth _ (by decide),by simp [lkv,ren]; exact .refl _⟩,⟨hth _ (by decide),by simp [lkv,ren]; exact .refl _⟩,trivial⟩
    ⟨⟨⟨.inl (hx _),.inl .nilm,trivial⟩,rfl,rfl⟩,⟨⟨.inl (ZO _).inside,.inr (.inr (.inl rfl)),trivial⟩,rfl,rfl⟩,trivial⟩ ?_
   simp only [go_sem,simprocAttr,JU,delb,Zk.WI,ren]
   refine Za tok rfl rfl ?_
   simp only [go_sem,simprocAttr]
   refine Zi rfl rfl ?_
   refine Zgz _ n 2 0 [.sl 2 (A.map Am.enc) .any,.map lm km] (by simp only [go_sem,simprocAttr]) (by simp only [go_sem,simprocAttr,full]) rfl (Nat.le_refl _) (by simp only [go_sem,simprocAttr]) ?_ (YL fun c hc=>?_) ⟨rfl,rfl⟩
   ·simp only [go_sem,simprocAttr]
    exact .refl _
   ·simp only [List.mem_cons,List.not_mem_nil,or_false] at hc
    rcases hc with rfl | rfl
    ·exact ZO _
    ·exact .map _ _ hlm
end Go.Proofs.YthgbkalgmicniaaGreatDoor

/- The groups of an aggregate: the walk. -/
namespace Go.Abs
open Go.Proofs.YthgbkalgmicniaaGreatDoor
theorem WU {α:Type} {P:List α → Prop} (l:List α) (nil:P []) (snoc:∀ p e,P p → P (p ++ [e])):P l:=by
 have:∀ r:List α,P r.reverse:=fun r=>by
  induction r with
  | nil=>exact nil
  | cons a r ih=>rw [List.reverse_cons]; exact snoc _ _ ih
 have:=this l.reverse
 rwa [List.reverse_reverse] at this
theorem VH {M:List (List UInt8 × Int)} {P:Gp → Prop}:∀ {l:List GE},(∀ e ∈ l,∀ ls,ls ≠ [] → (∀ x ∈ ls,∃ e' ∈ l,x = Y5 (e'.cond.map (YT M))) → P ⟨keyE e.tuple,e.tuple,ls⟩) → ∀ g ∈ Yr M l,P g:=by
 intro l h g hg
 have key:∀ (p:List GE),(∀ e ∈ p,e ∈ l) → ∀ g ∈ Yr M p,(∃ e ∈ l,g.key = keyE e.tuple ∧ g.tup = e.tuple) ∧ g.ls ≠ [] ∧ ∀ x ∈ g.ls,∃ e' ∈ l,x = Y5 (e'.cond.map (YT M)):=by
  intro p
  induction p using WU with
  | nil=>intro _ g hg; cases hg
  | snoc p e ih =>
   intro hp g hg
   have ih:=ih (fun x hx=>hp x (by simp [hx]))
   have he:=hp e (by simp)
   rw [Vw] at hg
   cases hx:(Yr M p)[ixG (keyE e.tuple) (Yr M p)]? with
   | none =>
    rw [(VK hx).1] at hg
    rcases List.mem_append.1 hg with hg | hg
    ·exact ih g hg
    ·simp only [List.mem_singleton] at hg; subst hg
     exact ⟨⟨e,he,rfl,rfl⟩,by simp,fun x hx=>by simp only [List.mem_singleton] at hx; exact ⟨e,he,hx⟩⟩
   | some g0 =>
    rw [VD hx] at hg
    have hm:=List.mem_of_getElem? hx
    obtain ⟨h1,h2,h3⟩:=ih g0 hm
    rcases List.mem_or_eq_of_mem_set hg with hg | rfl
    ·exact ih g hg
    ·refine ⟨h1,?_,fun x hx=>?_⟩
     ·unfold YJ; split
      ·exact h2
      ·simp
     ·unfold YJ at hx
      split at hx
      ·exact h3 x hx
      ·rcases List.mem_append.1 hx with hx | hx
       ·exact h3 x hx
       ·simp only [List.mem_singleton] at hx; exact ⟨e,he,hx⟩
 obtain ⟨⟨e,he,h1,h2⟩,h3,h4⟩:=key l (fun _ h=>h) g hg
 have:=h e he g.ls h3 h4
 cases g; simp only at h1 h2; subst h1 h2; exact this
theorem ZcK (M:List (List UInt8 × Int)) (l:List GE):(Yr M l).length ≤ l.length:=by
 induction l using WU with
 | nil=>simp [Yr]
 | snoc p e ih =>
  rw [Vw]
  cases hx:(Yr M p)[ixG (keyE e.tuple) (Yr M p)]? with
  | none=>rw [(VK hx).1]; simp; exact ih
  | some g0=>rw [VD hx]; simp; omega
theorem ZaJ (l:List LInt) (x:LInt):(YJ l x).length ≤ l.length + 1:=by unfold YJ; split <;> simp
theorem ZeV (M:List (List UInt8 × Int)) (l:List GE):∀ g ∈ Yr M l,g.ls.length ≤ l.length:=by
 induction l using WU with
 | nil=>intro g hg; cases hg
 | snoc p e ih =>
  intro g hg
  rw [Vw] at hg
  rw [List.length_append,List.length_singleton]
  cases hx:(Yr M p)[ixG (keyE e.tuple) (Yr M p)]? with
  | none =>
   rw [(VK hx).1] at hg
   rcases List.mem_append.1 hg with hg | hg
   ·have:=ih g hg; omega
   ·simp only [List.mem_singleton] at hg; subst hg; simp
  | some g0 =>
   rw [VD hx] at hg
   have h0:=ih g0 (List.mem_of_getElem? hx)
   rcases List.mem_or_eq_of_mem_set hg with hg | rfl
   ·have:=ih g hg; omega
   ·have:=ZaJ g0.ls (Y5 (e.cond.map (YT M)))
    simp only; omega
def Lg (n:Nat) (gb:GB) (gs:List Gp):List (Nat × Zk) :=
 (3,.box gb.cs) :: (16,.map []) :: (17,.map (Y0 AV.str (evG n) (gIx 0 gs))) :: (18,.map (Y0 AV.str JW (Vd gs))) :: (200,.buf 9 1 gs.length) :: YM 0 gs
end Go.Abs
namespace Go.Proofs.YthgbkalgmicniaaGreatDoor
open Go.Abs
set_option maxRecDepth 100000
def ZaP (n l b:Nat) (gb:GB) (gs:List Gp):List (Nat × AV) :=
 [(21,.int .i64 gb.elems.length),(20,.sl 2 (gb.elems.map GE.enc) .any),(0,.ptr l b 0),(3,.ptr n 3 0),(4,.int .i64 0),(5,.map n 16),(6,.map n 17),(7,.sl 1 ((gs.map Gp.key).map .str) (.buf n 200)),(8,.map n 18)]
def ZjA (n l b:Nat) (gb:GB) (M:List (List UInt8 × Int)) (H:Zf) (i:Nat):Zh :=
 ⟨(22,.int .i64 i) :: ZaP n l b gb (Yr M (gb.elems.take i)),Lg n gb (Yr M (gb.elems.take i)),H⟩
theorem Zlv {n:Nat} {p:Nat × List LInt} {q:Nat → Prop} (h:q (300 + p.1)):Inside n q (evG n p) :=
 .sl _ _ _ (fun i hi j hj=>by
  have:((p.2.map Zw)[i]'hi).cells[j] = Zw (p.2[i]'(by simpa using hi)):=by
   simp only [List.getElem_map] at hj ⊢
   have:j = 0:=by simp [AV.cells] at hj; exact hj
   subst this; rfl
  rw [this]; exact (Zz _).inside) (fun l j e=>by cases e; exact .inr ⟨rfl,h⟩)
theorem X6 {n:Nat} {gs:List Gp} {q:Nat → Prop} (h:∀ j,j < gs.length → q (300 + j)):Yj (fun c=>Inside n q c) ((Y0 AV.str (evG n) (gIx 0 gs)).map (fun x=>x.fst) ++ (Y0 AV.str (evG n) (gIx 0 gs)).map (fun x=>x.snd)):=by
 refine ZC fun c hc=>?_
 have hix:∀ (gs:List Gp) (i:Nat),∀ p ∈ gIx i gs,i ≤ p.2.1 ∧ p.2.1 < i + gs.length:=by
  intro gs
  induction gs with
  | nil=>intro i p hp; cases hp
  | cons g r ih =>
   intro i p hp
   simp only [gIx,List.mem_cons] at hp
   simp only [List.length_cons]
   rcases hp with rfl | hp
   ·simp
   ·have:=ih _ p hp; omega
 rcases List.mem_append.1 hc with hc | hc
 ·obtain ⟨p,hp,rfl⟩:=List.mem_map.1 hc
  obtain ⟨q',_,rfl⟩:=List.mem_map.1 hp
  exact .str _
 ·obtain ⟨p,hp,rfl⟩:=List.mem_map.1 hc
  obtain ⟨q',hq,rfl⟩:=List.mem_map.1 hp
  have:=hix gs 0 q' hq
  exact Zlv (h _ (by omega))
theorem YB (gs:List Gp) (j:Nat):lkb (YM 0 gs) (300 + j) = (gs[j]?).map fun g=>.buf 61 1 g.ls.length:=by
 have:=lkb_bufs gs 0 j; rwa [Nat.zero_add] at this
theorem ZfM {gs:List Gp}:∀ {i:Nat} {p:Nat × Zk},p ∈ YM i gs → ∃ j g,p.1 = 300 + (i + j) ∧ gs[j]? = some g ∧ p.2 = .buf 61 1 g.ls.length:=by
 induction gs with
 | nil=>intro i p hp; cases hp
 | cons g r ih =>
  intro i p hp
  simp only [YM,List.mem_cons] at hp
  rcases hp with rfl | hp
  ·exact ⟨0,g,rfl,rfl,rfl⟩
  ·obtain ⟨j,g',h1,h2,h3⟩:=ih hp
   exact ⟨j + 1,g',by rw [h1]; omega,by simpa using h2,h3⟩
theorem Xb {gs:List Gp} {L:List (Nat × Zk)} (h:∀ j,j < gs.length → lkb L (300 + j) = lkb (YM 0 gs) (300 + j)):Yj (fun p=>lkb L p.1 = some p.2) (YM 0 gs):=ZC fun p hp=>by
 obtain ⟨j,g,h1,h2,h3⟩:=ZfM hp
 have hj:j < gs.length:=(List.getElem?_eq_some_iff.1 h2).1
 rw [h1,Nat.zero_add,h j hj,YB,h2,h3]; rfl
theorem Xz {n:Nat} {gs:List Gp} {q:Nat → Prop}:Yj (fun p:Nat × Zk=>p.2.Inside n q) (YM 0 gs):=ZC fun p hp=>by
 obtain ⟨j,g,h1,h2,h3⟩:=ZfM hp
 rw [h3]; exact Zk.ZaY _ _ _
theorem XC {n:Nat} {gs:List Gp} {q:Nat → Prop}:Yj (fun c=>Inside n q c) ((Y0 AV.str JW (Vd gs)).map (fun x=>x.fst) ++ (Y0 AV.str JW (Vd gs)).map (fun x=>x.snd)):=by
 refine ZC fun c hc=>?_
 rcases List.mem_append.1 hc with hc | hc
 ·obtain ⟨p,hp,rfl⟩:=List.mem_map.1 hc
  obtain ⟨q',_,rfl⟩:=List.mem_map.1 hp
  exact .str _
 ·obtain ⟨p,hp,rfl⟩:=List.mem_map.1 hc
  obtain ⟨q',hq,rfl⟩:=List.mem_map.1 hp
  exact (ZB _).inside
end Go.Proofs.YthgbkalgmicniaaGreatDoor

/- What an aggregate collects. No program. -/
namespace Go.Abs
open Go.Proofs.YthgbkalgmicniaaGreatDoor
theorem Zh1 (t:List Tm) (c:LInt) (gs:List Gp):(Zep t c gs).map Gp.key = if (gs[ixG (keyE t) gs]?).isSome then gs.map Gp.key else gs.map Gp.key ++ [keyE t]:=by
 cases h:gs[ixG (keyE t) gs]? with
 | none=>rw [(VK h).1]; simp
 | some g =>
  rw [VD h]
  simp only [Option.isSome_some,if_true,List.map_set]
  have:(gs.map Gp.key)[ixG (keyE t) gs]? = some g.key:=by simp [h]
  obtain ⟨h1,h2⟩:=List.getElem?_eq_some_iff.1 this
  rw [← h2]; exact List.set_getElem_self h1
theorem Zfx {k:List UInt8}:∀ {gs:List Gp},gs[ixG k gs]? = none ↔ k ∉ gs.map Gp.key
 | []=>by simp [ixG]
 | g :: r=>by
  simp only [ixG,List.map_cons,List.mem_cons,not_or]
  split
  ·rename_i h; simp [h]
  ·rename_i h
   rw [List.getElem?_cons_succ,Zfx]
   exact ⟨fun hn=>⟨fun e=>h e.symm,hn⟩,fun hn=>hn.2⟩
theorem Zkb (M:List (List UInt8 × Int)) (l:List GE):((Yr M l).map Gp.key).Nodup:=by
 induction l using WU with
 | nil=>simp [Yr]
 | snoc p e ih =>
  rw [Vw,Zh1]
  split
  ·exact ih
  ·rename_i h
   have h:(Yr M p)[ixG (keyE e.tuple) (Yr M p)]? = none:=by simpa using h
   exact List.nodup_append.2 ⟨ih,by simp,fun a ha c hc e'=>by simp only [List.mem_singleton] at hc; subst hc; subst e'; exact Zfx.1 h ha⟩
theorem ixG_at:∀ {gs:List Gp} (_:(gs.map Gp.key).Nodup) (i:Nat) (h:i < gs.length),ixG gs[i].key gs = i
 | g :: r,hn,0,h=>by simp [ixG]
 | g :: r,hn,i + 1,h=>by
  rw [List.map_cons,List.nodup_cons] at hn
  simp only [List.getElem_cons_succ,ixG]
  have hi:i < r.length:=by simpa using h
  rw [if_neg (fun e=>hn.1 (by rw [e]; exact List.mem_map.2 ⟨r[i],List.getElem_mem hi,rfl⟩)),ixG_at hn.2 i hi]
structure Cs where
 base:Int
 w:Wm
 s:St
def St.bad (s:St):St:=⟨s.n,s.rules,140⟩
def XE (fn:Int) (c:Cs) (g:Gp):Cs :=
 if (Yg fn g.tup).2 = false then ⟨c.base,c.w,c.s.bad⟩
 else if (Yg fn g.tup).1 = 0 then c
 else if Zd4 g.ls = true then ⟨c.base + (Yg fn g.tup).1,c.w,c.s⟩
 else ⟨c.base,Xv (c.s.stands g.ls).1 ((getM (c.s.stands g.ls).1 c.w).getD 0 + (Yg fn g.tup).1) c.w,(c.s.stands g.ls).2⟩
def Yk (fn:Int) (s:St) (gs:List Gp):Cs:=gs.foldl (XE fn) ⟨0,[],s⟩
def Yf (fn:Int) (s:St) (gs:List Gp):Cs :=
 if (Yk fn s gs).base + Xi (Yk fn s gs).w > 1048576 then ⟨(Yk fn s gs).base,(Yk fn s gs).w,(Yk fn s gs).s.bad⟩ else Yk fn s gs
theorem Za0 (fn:Int) (s:St) (gs:List Gp) (g:Gp):Yk fn s (gs ++ [g]) = XE fn (Yk fn s gs) g:=by simp [Yk]
structure ZhH (g:Gp):Prop where
 ne:g.tup ≠ []
 l:g.ls.length ≤ 400
 sm:SmL g.ls
 e:g.ls ≠ []
theorem Zdt {fn:Int} {t:List Tm} (h:(Yg fn t).2 = true):0 ≤ (Yg fn t).1 ∧ (Yg fn t).1 ≤ 1048576:=by
 unfold Yg at *
 split
 ·simp
 ·rename_i hf
  rw [if_neg hf] at h
  cases t with
  | nil=>simp at h
  | cons t r=>simp at h; simp; omega
structure Zhu (k:Int) (i:Nat) (c:Cs):Prop where
 b:0 ≤ c.base ∧ c.base ≤ i * 1048576
 w:∀ p ∈ c.w,SmI p.1 ∧ 0 ≤ p.2 ∧ p.2 ≤ i * 1048576
 l:c.w.length ≤ i
 n:(c.w.map Prod.fst).Nodup
 f:c.s.Fit (k + i * 401)
theorem St.Fit.bad {s:St} {k:Int} (h:s.Fit k):s.bad.Fit k:=⟨h.n,h.r⟩
theorem Zif {s:St} {k:Int} (hs:s.Fit k) (hk:k ≤ 1000000) {l:List LInt} (hl:SmL l):SmI (s.stands l).1:=by
 have hn:=hs.n
 unfold St.stands
 split
 ·rename_i x
  exact (hl [x] (by simp)).2 x (by simp)
 ·show SmI (s.n + 1); unfold SmI; omega
theorem ZhQ {k:Int} {i:Nat} {c:Cs} {fn:Int} {g:Gp} (h:Zhu k i c) (hg:ZhH g) (hk:k + i * 401 ≤ 900000):Zhu k (i + 1) (XE fn c g):=by
 obtain ⟨hb,hw,hl,hn,hf⟩:=h
 have hf':=fun (k':Int) (hk':k + (i:Int) * 401 ≤ k')=>hf.mono hk'
 have hww:∀ p ∈ c.w,SmI p.1 ∧ 0 ≤ p.2 ∧ p.2 ≤ ((i + 1:Nat):Int) * 1048576:=fun p hp=>by
  obtain ⟨h1,h2,h3⟩:=hw p hp; exact ⟨h1,h2,by omega⟩
 unfold XE
 split
 ·exact ⟨⟨hb.1,by simp only; omega⟩,hww,by simp only; omega,hn,(hf.mono (by omega)).bad⟩
 rename_i hok
 have hok:(Yg fn g.tup).2 = true:=by simpa using hok
 have hbd:=Zdt hok
 split
 ·exact ⟨⟨hb.1,by omega⟩,hww,by omega,hn,hf.mono (by omega)⟩
 split
 ·exact ⟨⟨by simp only; omega,by simp only; omega⟩,hww,by simp only; omega,hn,hf.mono (by omega)⟩
 ·have hsm:=Zif hf (by omega) hg.sm
  refine ⟨⟨hb.1,by simp only; omega⟩,fun p hp=>?_,?_,ZcM hn,(Zds _ hf).mono (by have:=hg.l; omega)⟩
  ·rcases Zbf hp with rfl | hp
   ·refine ⟨hsm,?_⟩
    cases hgm:getM (c.s.stands g.ls).1 c.w with
    | none=>simp; omega
    | some v =>
     have:=(hw _ (Zbw hgm)).2
     simp only [Option.getD_some] at this ⊢; omega
   ·exact hww p hp
  ·have:=ZfI (c.s.stands g.ls).1 ((getM (c.s.stands g.ls).1 c.w).getD 0 + (Yg fn g.tup).1) c.w
   simp only
   split at this <;> omega
theorem Zd2 {k:Int} {fn:Int} {s:St} (hs:s.Fit k):∀ gs:List Gp,(∀ g ∈ gs,ZhH g) → k + (gs.length:Int) * 401 ≤ 900000 → Zhu k gs.length (Yk fn s gs):=by
 intro gs
 induction gs using WU with
 | nil=>intro _ _; exact ⟨⟨by simp [Yk],by simp [Yk]⟩,by simp [Yk],by simp [Yk],by simp [Yk],by simpa [Yk] using hs⟩
 | snoc p g ih =>
  intro h1 h2
  rw [List.length_append,List.length_singleton] at h2 ⊢
  rw [Za0]
  exact ZhQ (ih (fun x hx=>h1 x (by simp [hx])) (by omega)) (h1 g (by simp)) (by omega)
theorem Zhu.wok {k:Int} {i:Nat} {c:Cs} (h:Zhu k i c) (hi:i ≤ 400):WOk c.w :=
 ⟨⟨by have:=h.l; omega,fun p hp=>by have:=(h.w p hp).2; omega⟩,h.n,fun p hp=>(h.w p hp).1⟩
end Go.Abs

/- What an aggregate collects: the walk. -/
namespace Go.Proofs.YthgbkalgmicniaaGreatDoor
open Go.Abs
set_option maxRecDepth 100000
def tmX (n l b:Nat) (gs:List Gp) (base:Int) (i:Nat):List (Nat × AV) :=
 [(64,.int .i64 i),(63,.int .i64 gs.length),(62,.sl 1 ((gs.map Gp.key).map .str) .any),(0,.ptr l b 0),(3,.ptr n 3 0),(4,.int .i64 base),(5,.map n 16),(6,.map n 17),(8,.map n 18)]
def LX (n:Nat) (gb:GB) (gs:List Gp) (w:Wm):List (Nat × Zk) :=
 (3,.box gb.cs) :: (16,.map (Y3 w)) :: (17,.map (Y0 AV.str (evG n) (gIx 0 gs))) :: (18,.map (Y0 AV.str JW (Vd gs))) :: YM 0 gs
def sX (n l b:Nat) (gb:GB) (gs:List Gp) (H:Zf) (F:Fr) (s:St) (i:Nat):Zh :=
 ⟨tmX n l b gs (Yk gb.fn s (gs.take i)).base i,LX n gb gs (Yk gb.fn s (gs.take i)).w,bxH H l b F (Yk gb.fn s (gs.take i)).s⟩
theorem ZhU (gs:List Gp) (i:Nat) (h:i < gs.length) (d:AV):((gs.map Gp.key).map AV.str).getD i d = .str gs[i].key:=by
 rw [List.getD_eq_getElem?_getD]; simp [h]
theorem ZlS (n:Nat) (H:Zf) (l b:Nat) (F:Fr) (s:St) (hl:l < n) (h0:0 < l) (hF:F.bel n) (hs:s.Fit 300000) (hT0:Tabs H) (gb:GB) (gs:List Gp) (hG:∀ g ∈ gs,ZhH g) (hnd:(gs.map Gp.key).Nodup) (hgl:gs.length ≤ 400)
  (l0 k0:Nat) (hl0:l0 < n) (hf0:H l0 k0 = none) (hd3:¬(l0 = l ∧ k0 = b)) (hd4:¬(l0 = l ∧ k0 = b + 1)) (B:Nat) (ob:Nat) :
  AKc ⟨Tryz.prog,tt,⟨none,B⟩,n,Tryz.f197.ntmps⟩ [.code (Y9 Tryz.f197).snd.snd.snd.snd.snd.snd]
   (PostF Tryz.prog tt n Tryz.f197.results.toList fun r H'=>r = .tup [.int .i64 (Yf gb.fn s gs).base,.map l0 k0] ∧ H' = bxH (H.upd l0 k0 (.map (Y3 (Yf gb.fn s gs).w))) l b F (Yf gb.fn s gs).s)
   ⟨[(21,.int .i64 ob),(20,.sl 2 (gb.elems.map GE.enc) .any),(0,.ptr l b 0),(3,.ptr n 3 0),(4,.int .i64 0),(5,.map n 16),(6,.map n 17),(7,.sl 1 ((gs.map Gp.key).map .str) (.buf n 200)),(8,.map n 18)],
    (3,.box gb.cs) :: (16,.map []) :: (17,.map (Y0 AV.str (evG n) (gIx 0 gs))) :: (18,.map (Y0 AV.str JW (Vd gs))) :: (200,.buf 9 1 gs.length) :: YM 0 gs,bxH H l b F s⟩:=by
 have hne:¬ l = n:=by omega
 have hn:0 < n:=by omega
 have hinv:∀ i,i ≤ gs.length → Zhu 300000 (gs.take i).length (Yk gb.fn s (gs.take i)):=fun i hi=>Zd2 hs (gs.take i) (fun g hg=>hG g (List.mem_of_mem_take hg)) (by rw [List.length_take]; omega)
 refine Za tok rfl rfl ?_
 simp only [go_sem,simprocAttr]
 refine XF (sX n l b gb gs H F s gs.length) ?_ ?_
 ·repeat refine kn rfl ?_
  refine Zy (sX n l b gb gs H F s) gs.length rfl ?_ ?_
  ·unfold sX tmX LX
   rw [List.take_zero]
   refine Zg ?_ ?_ ?_ ?_ <;> repeat' first|exact trivial|refine q0 ?_|exact qb|exact q1|exact q2|exact q3|exact rfl|refine And.intro ?_ ?_|exact qA rfl|exact Inside.ptr _ _ _ (.inr ⟨rfl,rfl⟩)|exact Tm.ins _|exact Tm.Zj _ _|exact Am.ins _|exact Am.Zj _ _|refine Zd ?_|refine Tm.Zc ?_|refine Am.Zc ?_
   all_goals first | exact Wk.any _ _ _ | exact (Xh _).inside | exact Inside.ptr _ _ _ (.inl hl) | exact Inside.map _ _ (.inr ⟨rfl,rfl⟩) | exact (Zx _).inside | exact XC | exact Xz | exact Xb (fun j hj=>by simp only [lkb]; (repeat rw [if_neg (by omega)])) | exact X6 (fun j hj=>by simp only [lkb]; (repeat rw [if_neg (by omega)]); rw [YB]; simp [hj]) | exact ZC fun c hc=>((Yc (n:=n) _).1 c hc).inside | skip
  intro i hi
  refine Yi rfl ?_
  rcases Nat.lt_or_ge i gs.length with h | h
  ·obtain ⟨g,hge⟩:∃ g,g = gs[i]:=⟨_,rfl⟩
   have hg:ZhH g:=by rw [hge]; exact hG _ (List.getElem_mem h)
   have hx1:ixG g.key gs = i:=by rw [hge]; exact ixG_at hnd i h
   have hx2:gs[ixG g.key gs]? = some g:=by rw [hx1,hge]; exact List.getElem?_eq_getElem h
   have hsn:Yk gb.fn s (gs.take (i + 1)) = XE gb.fn (Yk gb.fn s (gs.take i)) g:=by rw [List.take_succ_eq_append_getElem h,Za0,hge]
   have hci:=hinv i hi
   rw [List.length_take,Nat.min_eq_left hi] at hci
   have hself:sX n l b gb gs H F s (i + 1) = ⟨tmX n l b gs (Yk gb.fn s (gs.take (i + 1))).base (i + 1),LX n gb gs (Yk gb.fn s (gs.take (i + 1))).w,bxH H l b F (Yk gb.fn s (gs.take (i + 1))).s⟩:=rfl
   rw [hself,hsn]
   generalize Yk gb.fn s (gs.take i) = c at *
   have hgk:∀ d,((gs.map Gp.key).map AV.str).getD i d = .str g.key:=fun d=>by rw [hge]; exact ZhU gs i h d
   have hkt:∀ p ∈ Y0 AV.str JW (Vd gs),Yv tt 9 p.1 = true:=fun p hp=>by
    obtain ⟨q,_,rfl⟩:=List.mem_map.1 hp; exact Jv _
   have hkp:∀ p ∈ Y0 AV.str (evG n) (gIx 0 gs),Yv tt 9 p.1 = true:=fun p hp=>by
    obtain ⟨q,_,rfl⟩:=List.mem_map.1 hp; exact Jv _
   have hlt:∀ re,lookA re (AV.str g.key) (Y0 AV.str JW (Vd gs)) false = .sl 4 (g.tup.map Tm.enc) .any:=fun re=>by
    rw [JH kinj_str JW re g.key (Vd gs),Zde,hx2]; rfl
   have hlg:∀ re,lookA re (AV.str g.key) (Y0 AV.str (evG n) (gIx 0 gs)) false = .sl 1 (g.ls.map Zw) (.buf n (300 + i)):=fun re=>by
    rw [JH kinj_str (evG n) re g.key (gIx 0 gs),Zby,hx2,hx1]; simp [evG]
   obtain ⟨t0,tr,htr⟩:∃ t0 tr,g.tup = t0 :: tr:=by
    cases ht:g.tup with
    | nil=>exact absurd ht hg.ne
    | cons a r=>exact ⟨a,r,rfl⟩
   have hw:=ZnK gb.fn t0 tr
   rw [← htr] at hw
   unfold tmX LX
   refine Za tok rfl rfl ?_
   simp only [go_sem,simprocAttr,h]
   refine Zp rfl rfl rfl ?_
   refine Za tok rfl rfl ?_
   simp only [go_sem,simprocAttr,hgk,h]
   refine Za tok rfl rfl ?_
   simp only [go_sem,simprocAttr,hlt]
   refine ⟨hkt,?_⟩
   refine Zq (Zb Tryz.func289 rfl rfl) (hw) rfl ?_
   simp only [go_sem,simprocAttr]
   have hc0:=hci.b
   refine XF ⟨[(64,.int .i64 i),(63,.int .i64 gs.length),(62,.sl 1 ((gs.map Gp.key).map .str) .any),(0,.ptr l b 0),(3,.ptr n 3 0),(4,.int .i64 (XE gb.fn c g).base),(5,.map n 16),(6,.map n 17),(8,.map n 18)],LX n gb gs (XE gb.fn c g).w,bxH H l b F (XE gb.fn c g).s⟩ ?_ ?_
   ·cases hok:(Yg gb.fn g.tup).2 with
    | false =>
     have hst:XE gb.fn c g = ⟨c.base,c.w,c.s.bad⟩:=by rw [XE,if_pos hok]
     rw [hst]
     refine Za tok rfl rfl ?_
     simp only [go_sem,simprocAttr]
     refine Zp rfl rfl rfl ?_
     have hbx:=bxH_box (H:=H) (l:=l) (b:=b) (F:=F) (s:=c.s)
     have hb2:=Zdq (H:=H) (l:=l) (b:=b) (F:=F) (s:=c.s) c.s.bad rfl
     have hbl:=XD (b:=b) hF hl c.s.bad
     refine Za tok rfl rfl ?_
     simp only [go_sem,simprocAttr,hne,hbx,bxC]
     refine ⟨.inr hbl,?_⟩
     simp only [bxC,St.bad] at hb2
     rw [hb2]
     refine Zt rfl ?_
     refine ⟨rfl,?_⟩
     unfold LX
     refine Zg ?_ ?_ ?_ ?_ <;> repeat' first|exact trivial|refine q0 ?_|exact qb|exact q1|exact q2|exact q3|exact rfl|refine And.intro ?_ ?_|exact qA rfl|exact Inside.ptr _ _ _ (.inr ⟨rfl,rfl⟩)|exact Tm.ins _|exact Tm.Zj _ _|exact Am.ins _|exact Am.Zj _ _|refine Zd ?_|refine Tm.Zc ?_|refine Am.Zc ?_
     all_goals first | exact Wk.any _ _ _ | exact (Xh _).inside | exact Inside.ptr _ _ _ (.inl hl) | exact Inside.map _ _ (.inr ⟨rfl,rfl⟩) | exact (Zx _).inside | exact XC | exact Xz | exact Xb (fun j hj=>by simp only [lkb]; (repeat rw [if_neg (by omega)])) | exact X6 (fun j hj=>by simp only [lkb]; (repeat rw [if_neg (by omega)]); rw [YB]; simp [hj]) | exact ZC fun c hc=>((Yc (n:=n) _).1 c hc).inside | skip
     all_goals exact 0
    | true =>
    have hbd:=Zdt hok
    by_cases hz:(Yg gb.fn g.tup).1 = 0
    ·have hst:XE gb.fn c g = c:=by rw [XE,if_neg (by rw [hok]; decide),if_pos hz]
     rw [hst]
     refine Za tok rfl rfl ?_
     simp only [go_sem,simprocAttr]
     refine Zn rfl rfl rfl ?_
     refine Za tok rfl rfl ?_
     simp only [go_sem,simprocAttr]
     refine Zp rfl rfl (by simp only [go_sem,simprocAttr,hz]) ?_
     refine ZM rfl ?_
     refine Zt rfl ?_
     refine ⟨rfl,?_⟩
     unfold LX
     refine Zg ?_ ?_ ?_ ?_ <;> repeat' first|exact trivial|refine q0 ?_|exact qb|exact q1|exact q2|exact q3|exact rfl|refine And.intro ?_ ?_|exact qA rfl|exact Inside.ptr _ _ _ (.inr ⟨rfl,rfl⟩)|exact Tm.ins _|exact Tm.Zj _ _|exact Am.ins _|exact Am.Zj _ _|refine Zd ?_|refine Tm.Zc ?_|refine Am.Zc ?_
     all_goals first | exact Wk.any _ _ _ | exact (Xh _).inside | exact Inside.ptr _ _ _ (.inl hl) | exact Inside.map _ _ (.inr ⟨rfl,rfl⟩) | exact (Zx _).inside | exact XC | exact Xz | exact Xb (fun j hj=>by simp only [lkb]; (repeat rw [if_neg (by omega)])) | exact X6 (fun j hj=>by simp only [lkb]; (repeat rw [if_neg (by omega)]); rw [YB]; simp [hj]) | exact ZC fun c hc=>((Yc (n:=n) _).1 c hc).inside | skip
     all_goals exact 0
    ·have hz':((Yg gb.fn g.tup).1 == 0) = false:=by simpa using hz
     have hba:=(ZmP g.ls (by have:=hg.l; omega)).args (args':=[.sl 1 (g.ls.map Zw) (.buf n (300 + i))]) ⟨.any _ _ _,trivial⟩
     have hTc:Tabs (bxH H l b F c.s):=Tabs.up hT0 fun k=>Za6 (by omega)
     refine Za tok rfl rfl ?_
     simp only [go_sem,simprocAttr]
     refine Zn rfl rfl rfl ?_
     refine Za tok rfl rfl ?_
     simp only [go_sem,simprocAttr]
     refine Zn rfl rfl (by simp only [go_sem,simprocAttr,hz']) ?_
     refine Za tok rfl rfl ?_
     simp only [go_sem,simprocAttr,hlg]
     refine ⟨hkp,?_⟩
     refine ZH (Zb Tryz.func135 rfl rfl) hba hn hTc (by simp only [go_sem,simprocAttr]) ?_
     simp only [go_sem,simprocAttr]
     cases hbr:Zd4 g.ls with
     | true =>
      have hst:XE gb.fn c g = ⟨c.base + (Yg gb.fn g.tup).1,c.w,c.s⟩:=by rw [XE,if_neg (by rw [hok]; decide),if_neg hz,if_pos hbr]
      have hw1:IntKind.i64.wrap (c.base + (Yg gb.fn g.tup).1) = c.base + (Yg gb.fn g.tup).1:=by rw [IntWalk.i64_in _ (by omega)]
      rw [hst]
      refine Zp rfl rfl rfl ?_
      refine Za tok rfl rfl ?_
      simp only [go_sem,simprocAttr,hw1]
      refine Zt rfl ?_
      refine ⟨rfl,?_⟩
      unfold LX
      refine Zg ?_ ?_ ?_ ?_ <;> repeat' first|exact trivial|refine q0 ?_|exact qb|exact q1|exact q2|exact q3|exact rfl|refine And.intro ?_ ?_|exact qA rfl|exact Inside.ptr _ _ _ (.inr ⟨rfl,rfl⟩)|exact Tm.ins _|exact Tm.Zj _ _|exact Am.ins _|exact Am.Zj _ _|refine Zd ?_|refine Tm.Zc ?_|refine Am.Zc ?_
      all_goals first | exact Wk.any _ _ _ | exact (Xh _).inside | exact Inside.ptr _ _ _ (.inl hl) | exact Inside.map _ _ (.inr ⟨rfl,rfl⟩) | exact (Zx _).inside | exact XC | exact Xz | exact Xb (fun j hj=>by simp only [lkb]; (repeat rw [if_neg (by omega)])) | exact X6 (fun j hj=>by simp only [lkb]; (repeat rw [if_neg (by omega)]); rw [YB]; simp [hj]) | exact ZC fun c hc=>((Yc (n:=n) _).1 c hc).inside | skip
      all_goals exact 0
     | false =>
      have hst:XE gb.fn c g = ⟨c.base,Xv (c.s.stands g.ls).1 ((getM (c.s.stands g.ls).1 c.w).getD 0 + (Yg gb.fn g.tup).1) c.w,(c.s.stands g.ls).2⟩:=by rw [XE,if_neg (by rw [hok]; decide),if_neg hz,if_neg (by rw [hbr]; decide)]
      rw [hst]
      refine Zn rfl rfl rfl ?_
      refine Za tok rfl rfl ?_
      simp only [go_sem,simprocAttr,hlg]
      refine ⟨hkp,?_⟩
      have hsd:=fun L=>(Zmk (n + 1) (full n L H) l b F c.s (by omega) (hF.mono (Nat.le_succ n)) (hci.f.mono (by omega)) g.ls hg.sm (by have:=hg.l; omega)).args (args':=[.ptr l b 0,.sl 1 (g.ls.map Zw) (.buf n (300 + i))]) ⟨.refl _,.any _ _ _,trivial⟩
      refine X0 hl hF (Zb Tryz.func136 rfl rfl) (hsd _) (by simp only [go_sem,simprocAttr]) ?_
      have hkw:∀ p ∈ Y3 c.w,Yv tt 3 p.1 = true:=fun p hp=>by
       obtain ⟨q,_,rfl⟩:=List.mem_map.1 hp; rfl
      have hput:=Za1 kinj_int (AV.int .i64) (c.s.stands g.ls).1 ((getM (c.s.stands g.ls).1 c.w).getD 0 + (Yg gb.fn g.tup).1) c.w
      have hvb:0 ≤ (getM (c.s.stands g.ls).1 c.w).getD 0 ∧ (getM (c.s.stands g.ls).1 c.w).getD 0 ≤ 1000000000:=by
       cases hgm:getM (c.s.stands g.ls).1 c.w with
       | none=>simp
       | some v=>have:=(hci.w _ (Zbw hgm)).2; simp only [Option.getD_some] at this ⊢; omega
      have hw1:IntKind.i64.wrap ((getM (c.s.stands g.ls).1 c.w).getD 0 + (Yg gb.fn g.tup).1) = (getM (c.s.stands g.ls).1 c.w).getD 0 + (Yg gb.fn g.tup).1:=by rw [IntWalk.i64_in _ (by omega)]
      have hlw2:∀ re,re = (⟨.int .i64,1,8,[.int .i64 0]⟩:ZE) → lookA re (AV.int .i64 (c.s.stands g.ls).1) (Y3 c.w) false = .int .i64 ((getM (c.s.stands g.ls).1 c.w).getD 0):=fun re hre=>by
       rw [JH kinj_int (AV.int .i64) re (c.s.stands g.ls).1 c.w,hre]; cases getM (c.s.stands g.ls).1 c.w <;> rfl
      have hlw3:=hlw2 _ rfl
      generalize (getM (c.s.stands g.ls).1 c.w).getD 0 = v0 at *
      simp only [go_sem,simprocAttr,hlw3,hw1,hput]
      refine ⟨⟨rfl,hkw⟩,⟨rfl,hkw⟩,?_⟩
      refine Zt rfl ?_
      refine ⟨rfl,?_⟩
      unfold LX
      refine Zg ?_ ?_ ?_ ?_ <;> repeat' first|exact trivial|refine q0 ?_|exact qb|exact q1|exact q2|exact q3|exact rfl|refine And.intro ?_ ?_|exact qA rfl|exact Inside.ptr _ _ _ (.inr ⟨rfl,rfl⟩)|exact Tm.ins _|exact Tm.Zj _ _|exact Am.ins _|exact Am.Zj _ _|refine Zd ?_|refine Tm.Zc ?_|refine Am.Zc ?_
      all_goals first | exact Wk.any _ _ _ | exact (Xh _).inside | exact Inside.ptr _ _ _ (.inl hl) | exact Inside.map _ _ (.inr ⟨rfl,rfl⟩) | exact (Zx _).inside | exact XC | exact Xz | exact Xb (fun j hj=>by simp only [lkb]; (repeat rw [if_neg (by omega)])) | exact X6 (fun j hj=>by simp only [lkb]; (repeat rw [if_neg (by omega)]); rw [YB]; simp [hj]) | exact ZC fun c hc=>((Yc (n:=n) _).1 c hc).inside | skip
      all_goals exact 0
   ·unfold LX
    refine Za tok rfl rfl ?_
    simp only [go_sem,simprocAttr]
    refine Zt rfl ?_
    refine Zg ?_ ?_ ?_ ?_ <;> repeat' first|exact trivial|refine q0 ?_|exact qb|exact q1|exact q2|exact q3|exact rfl|refine And.intro ?_ ?_|exact qA rfl|exact Inside.ptr _ _ _ (.inr ⟨rfl,rfl⟩)|exact Tm.ins _|exact Tm.Zj _ _|exact Am.ins _|exact Am.Zj _ _|refine Zd ?_|refine Tm.Zc ?_|refine Am.Zc ?_
    ·simp only [go_sem,simprocAttr]
     rw [IntWalk.i64_in _ (by omega)]; exact .refl _
    all_goals first | exact Wk.any _ _ _ | exact (Xh _).inside | exact Inside.ptr _ _ _ (.inl hl) | exact Inside.map _ _ (.inr ⟨rfl,rfl⟩) | exact (Zx _).inside | exact XC | exact Xz | exact Xb (fun j hj=>by simp only [lkb]; (repeat rw [if_neg (by omega)])) | exact X6 (fun j hj=>by simp only [lkb]; (repeat rw [if_neg (by omega)]); rw [YB]; simp [hj]) | exact ZC fun c hc=>((Yc (n:=n) _).1 c hc).inside | skip
    all_goals exact 0
  ·have hi':i = gs.length:=by omega
   subst hi'
   have hself:sX n l b gb gs H F s gs.length = ⟨tmX n l b gs (Yk gb.fn s (gs.take gs.length)).base gs.length,LX n gb gs (Yk gb.fn s (gs.take gs.length)).w,bxH H l b F (Yk gb.fn s (gs.take gs.length)).s⟩:=rfl
   rw [hself]
   generalize Yk gb.fn s (gs.take gs.length) = c at *
   unfold tmX LX
   refine Za tok rfl rfl ?_
   simp only [go_sem,simprocAttr,Nat.not_lt.2 h]
   refine Zn rfl rfl rfl ?_
   refine Yh rfl rfl rfl rfl ?_
   refine Zt rfl ?_
   refine ⟨rfl,?_⟩
   refine Zg ?_ ?_ ?_ ?_ <;> repeat' first|exact trivial|refine q0 ?_|exact qb|exact q1|exact q2|exact q3|exact rfl|refine And.intro ?_ ?_|exact qA rfl|exact Inside.ptr _ _ _ (.inr ⟨rfl,rfl⟩)|exact Tm.ins _|exact Tm.Zj _ _|exact Am.ins _|exact Am.Zj _ _|refine Zd ?_|refine Tm.Zc ?_|refine Am.Zc ?_
   all_goals first | exact Wk.any _ _ _ | exact (Xh _).inside | exact Inside.ptr _ _ _ (.inl hl) | exact Inside.map _ _ (.inr ⟨rfl,rfl⟩) | exact (Zx _).inside | exact XC | exact Xz | exact Xb (fun j hj=>by simp only [lkb]; (repeat rw [if_neg (by omega)])) | exact X6 (fun j hj=>by simp only [lkb]; (repeat rw [if_neg (by omega)]); rw [YB]; simp [hj]) | exact ZC fun c hc=>((Yc (n:=n) _).1 c hc).inside | skip
   all_goals exact 0
 have hself:sX n l b gb gs H F s gs.length = ⟨tmX n l b gs (Yk gb.fn s gs).base gs.length,LX n gb gs (Yk gb.fn s gs).w,bxH H l b F (Yk gb.fn s gs).s⟩:=by unfold sX; rw [List.take_length]
 rw [hself]
 have hci:=hinv gs.length (Nat.le_refl _)
 rw [List.take_length] at hci
 have hwk:=hci.wok hgl
 have htb:0 ≤ Xi (Yk gb.fn s gs).w ∧ Xi (Yk gb.fn s gs).w ≤ 167772160000:=by
  have h1:=ZgI (p:=(Yk gb.fn s gs).w.map Prod.snd) (c:=419430400) (fun x hx=>by
   obtain ⟨p,hp,rfl⟩:=List.mem_map.1 hx
   have:=(hci.w p hp).2
   omega)
  have h2:(((Yk gb.fn s gs).w.map Prod.snd).length:Int) ≤ 400:=by rw [List.length_map]; have:=hci.l; omega
  have h3:=Int.mul_le_mul_of_nonneg_right h2 (show (0:Int) ≤ 419430400 by decide)
  unfold Xi
  exact ⟨h1.1,by omega⟩
 have hcb:=hci.b
 unfold Yf
 generalize Yk gb.fn s gs = c at *
 have hw1:IntKind.i64.wrap (c.base + Xi c.w) = c.base + Xi c.w:=by rw [IntWalk.i64_in _ (by omega)]
 unfold tmX LX
 refine Za tok rfl rfl ?_
 simp only [go_sem,simprocAttr]
 refine XZ (Zb Tryz.func137 rfl rfl) (Zle (n + 1) _ n 16 c.w (Nat.lt_succ_self n) hwk.sm (by simp only [go_sem,simprocAttr])) (by simp only [go_sem,simprocAttr]) ?_
 simp only [go_sem,simprocAttr,hw1]
 obtain ⟨c',hc'⟩:∃ c',c' = (if c.base + Xi c.w > 1048576 then (⟨c.base,c.w,c.s.bad⟩:Cs) else c):=⟨_,rfl⟩
 rw [← hc']
 have hcb':c'.base = c.base:=by rw [hc']; split <;> rfl
 have hcw':c'.w = c.w:=by rw [hc']; split <;> rfl
 refine XF ⟨[(0,.ptr l b 0),(4,.int .i64 c.base),(5,.map n 16)],[(16,.map (Y3 c.w))],bxH H l b F c'.s⟩ ?_ ?_
 ·by_cases ht:c.base + Xi c.w > 1048576
  ·have hs':c'.s = c.s.bad:=by rw [hc',if_pos ht]
   rw [hs']
   have ht':decide (1048576 < c.base + Xi c.w) = true:=by simpa using ht
   refine Zp rfl rfl (by simp only [go_sem,simprocAttr,ht']) ?_
   have hbx:=bxH_box (H:=H) (l:=l) (b:=b) (F:=F) (s:=c.s)
   have hb2:=Zdq (H:=H) (l:=l) (b:=b) (F:=F) (s:=c.s) c.s.bad rfl
   have hbl:=XD (b:=b) hF hl c.s.bad
   refine Za tok rfl rfl ?_
   simp only [go_sem,simprocAttr,hne,hbx,bxC]
   refine ⟨.inr hbl,?_⟩
   simp only [bxC,St.bad] at hb2
   rw [hb2]
   refine Zt rfl ?_
   refine ⟨rfl,?_⟩
   refine Zg ?_ ?_ ?_ ?_ <;> repeat' first|exact trivial|refine q0 ?_|exact qb|exact q1|exact q2|exact q3|exact rfl|refine And.intro ?_ ?_|exact qA rfl|exact Inside.ptr _ _ _ (.inr ⟨rfl,rfl⟩)|exact Tm.ins _|exact Tm.Zj _ _|exact Am.ins _|exact Am.Zj _ _|refine Zd ?_|refine Tm.Zc ?_|refine Am.Zc ?_
   all_goals first | exact Inside.ptr _ _ _ (.inl hl) | exact Inside.map _ _ (.inr ⟨rfl,rfl⟩) | exact ZC fun c hc=>((Yc (n:=n) _).1 c hc).inside | skip
   all_goals exact 0
  ·have hs':c'.s = c.s:=by rw [hc',if_neg ht]
   rw [hs']
   have ht':decide (1048576 < c.base + Xi c.w) = false:=by simp; omega
   refine Zn rfl rfl (by simp only [go_sem,simprocAttr,ht']) ?_
   refine ZM rfl ?_
   refine Zt rfl ?_
   refine ⟨rfl,?_⟩
   refine Zg ?_ ?_ ?_ ?_ <;> repeat' first|exact trivial|refine q0 ?_|exact qb|exact q1|exact q2|exact q3|exact rfl|refine And.intro ?_ ?_|exact qA rfl|exact Inside.ptr _ _ _ (.inr ⟨rfl,rfl⟩)|exact Tm.ins _|exact Tm.Zj _ _|exact Am.ins _|exact Am.Zj _ _|refine Zd ?_|refine Tm.Zc ?_|refine Am.Zc ?_
   all_goals first | exact Inside.ptr _ _ _ (.inl hl) | exact Inside.map _ _ (.inr ⟨rfl,rfl⟩) | exact ZC fun c hc=>((Yc (n:=n) _).1 c hc).inside | skip
   all_goals exact 0
 ·rw [hcb',hcw']
  refine Za tok rfl rfl ?_
  simp only [go_sem,simprocAttr]
  repeat refine kn rfl ?_
  refine Yx (s':=⟨[(4,.int .i64 c.base),(5,.map n 16)],[(16,.map (Y3 c.w))],bxH H l b F c'.s⟩) ?_ ?_
  ·refine Zg ?_ ?_ ?_ ?_ <;> repeat' first|exact trivial|refine q0 ?_|exact qb|exact q1|exact q2|exact q3|exact rfl|refine And.intro ?_ ?_|exact qA rfl|exact Inside.ptr _ _ _ (.inr ⟨rfl,rfl⟩)|exact Tm.ins _|exact Tm.Zj _ _|exact Am.ins _|exact Am.Zj _ _|refine Zd ?_|refine Tm.Zc ?_|refine Am.Zc ?_
   all_goals first | exact Inside.map _ _ (.inr ⟨rfl,rfl⟩) | exact ZC fun c hc=>((Yc (n:=n) _).1 c hc).inside | skip
  have hne0:¬ l0 = n:=by omega
  refine Zf3 16 l0 k0 _ [(4,.int .i64 c.base),(5,.map l0 k0)] hl0 (by rw [Xt hd3 hd4]; exact hf0) rfl (Yc _) ⟨⟨.inl (.int _ _),by simp [lkv,ren]; exact .refl _⟩,⟨.inr (.inr (.inl rfl)),by simp [lkv,ren]; exact .refl _⟩,trivial⟩ trivial ?_
  refine Zi rfl rfl ?_
  refine ZhG (.refl _) (.refl _) (.int _ _) (.map _ _ hl0) ⟨rfl,?_⟩
  exact Zaq hd3 hd4 _
end Go.Proofs.YthgbkalgmicniaaGreatDoor
