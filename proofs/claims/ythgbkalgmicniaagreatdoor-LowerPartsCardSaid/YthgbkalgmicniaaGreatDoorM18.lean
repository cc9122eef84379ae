/- An instance: the walk. -/
import Derived.Test.YthgbkalgmicniaaGreatDoorM17
import Derived.Test.YthgbkalgmicniaaGreatDoorM16
set_option linter.all false
namespace Go.Abs
open Go.Proofs.YthgbkalgmicniaaGreatDoor
theorem Zi7 {s:St} {k:Int} (h b:List Int) (hs:s.Fit k):(s.XL h b).Fit (k + 1):=by
 unfold St.XL
 split
 ·exact hs.mono (by omega)
 ·exact (hs.rule _ _).choose
theorem ZjT {s:St} {k:Int} (x:Ins) (h b:List Int) (hs:s.Fit k):(s.low x h b).Fit (k + 3):=by
 unfold St.low
 split
 ·exact hs.mono (by omega)
 split
 ·exact (hs.rule _ _).mono (by omega)
 ·exact ((hs.aux.sum _ _ _).rule _ _).mono (by omega)
theorem Zj8 {s:St} {k:Int} (x:Ins) (h b:List Int) (hs:s.Fit k):(s.upp x h b).Fit (k + 3):=by
 unfold St.upp
 split
 ·exact hs.mono (by omega)
 split
 ·exact (hs.sum _ _ _).mono (by omega)
 ·exact ((hs.aux.sum _ _ _).rule _ _).mono (by omega)
theorem Zgg {s:St} {k:Int} (x:Ins) (h:List Int) (l:List Cnd) (hs:s.Fit k):(s.choice x h l).Fit (k + 2 * l.length + 7):=by
 unfold St.choice
 split
 ·split
  ·exact hs.mono (by omega)
  ·exact (ZcX h l hs).choose.mono (by omega)
 ·exact (Zj8 _ _ _ (ZjT _ _ _ (Zi7 _ _ (Zbv l hs)))).mono (by omega)
theorem Zee (l:List Cnd):(Xf l).length ≤ l.length:=List.length_filter_le _ _
def ZbI (x:Ins):Nat:=V4 x.body + 2 * x.body.length + 7
theorem Zhy {M:List (List UInt8 × Int)} (hsm:SmN M) {n:Nat} {s:St} {k:Int} (hs:s.Fit k) {x:Ins} (hb:∀ b ∈ x.body,BOk b) (hk:k + (V4 x.body:Nat) ≤ 300000):(Zba M n s x).Fit (k + (ZbI x:Nat)):=by
 obtain ⟨_,h2⟩:=Zed (n:=n) hsm hs hb hk
 have hl:=Zee (Yb M n s x.body).1
 rw [Za5] at hl
 unfold Zba ZbI
 split
 ·exact h2.mono (by omega)
 split
 ·exact (ZcX _ _ h2).mono (by unfold Zcf; omega)
 split
 ·exact (Zgg _ _ _ h2).mono (by unfold Zcf; omega)
 split
 ·exact (Zbv _ h2).mono (by unfold Zcf; omega)
 ·exact h2.mono (by omega)
structure ZiE (x:Ins):Prop where
 g:x.Good
 v:Ya x = true
 hl:x.heads.length ≤ 10000
 bl:x.body.length ≤ 10000
 c:V4 x.body ≤ 100000
 b:∀ b ∈ x.body,BOk b
 ts:XK x.tuple
theorem J3 {L':List (Nat × Zk)} {k:Nat} {x:Zk}:∀ {L:List (Nat × Zk)},lkb L k = some x → lkb (L ++ L') k = some x
 | (i,b) :: r,h=>by
  simp only [List.cons_append,lkb] at h ⊢
  split
  ·rename_i e; rw [if_pos e] at h; exact h
  ·rename_i e; rw [if_neg e] at h; exact J3 h
theorem Zaz {n o:Nat} {p:List Cnd} {L:List (Nat × Zk)} (h:Ji n o p) (hL:∀ k x,1000 ≤ k → lkb (pendL p) k = some x → lkb L k = some x):Yj (fun q=>lkb L q.1 = some q.2) (pendL p):=ZC fun q hq=>by
 obtain ⟨w,h1,l,m,h2⟩:=Jg h hq
 obtain ⟨j,_,_,h3⟩:=VL h h2
 rw [h1]
 exact hL q.1 _ (by have:=h3.2.1; omega) (ZbF h h2)
theorem J4 {n m o:Nat} {p:List Cnd} {q:Nat → Prop} (h:Ji m o p):Yj (fun x:Nat × Zk=>x.2.Inside n q) (pendL p):=ZC fun x hx=>by
 obtain ⟨w,h1,_⟩:=Jg h hx
 rw [h1]
 exact ⟨fun a ha=>((Yc (n:=n) w).1 a ha).inside,by simp [Zk.at_]⟩
theorem Zlq {cx:Cx} {o:Oper} {args:List Operand} {ts:List TypeId} {tm:List (Nat × AV)} {L:List (Nat × Zk)} {H:Zf} {l b:Nat} {F:Fr} {s s':St} {K:Zh → Prop} {f:FuncId} {fn:Func} {c:Code} {r:AV} {avs:List AV}
  (hl:l < cx.n) (hF:F.bel cx.n) (hf:Fun cx.P f fn c) (h:Zr cx.P (cx.n + 1) f avs (bxH (full cx.n L H) l b F s) fun r' H'=>r' = r ∧ H' = bxH (full cx.n L H) l b F s')
  (ha:Xj cx.T (evT tm) args ts = avs) (hk:K ⟨YP tm o.dst r,L,bxH H l b F s'⟩):Zgm cx o (.func f) args ts ⟨tm,L,bxH H l b F s⟩ K:=by
 have hne:l ≠ cx.n:=by omega
 refine ⟨f,fn,c,[],r,L,bxH H l b F s',rfl,hf,?_,Zay hF hl _ _,hk⟩
 rw [List.append_nil,ha]
 show Zr _ _ _ _ (full cx.n L (bxH H l b F s)) _
 rw [Yz hne,Yz hne]; exact h
theorem Zih {n l b kk:Nat} (h:l ≠ n) (L:List (Nat × Zk)) (H:Zf) (p:Pen):full n L (V9 H l b kk p) = V9 (full n L H) l b kk p:=by
 unfold V9; rw [XI _ _ _ _ _ _ h,XI _ _ _ _ _ _ h,XI _ _ _ _ _ _ h]
theorem Pen.bcs {n:Nat} (p:Pen):Yj (fun c=>Below n c) p.cs:=⟨.int _ _,.int _ _,ZB _,ZK (fun y hy=>by simp only [List.map_cons,List.map_nil,List.mem_singleton] at hy; subst hy; exact Zz _),trivial⟩
theorem Fr.bel.one {F:Fr} {n l b:Nat} (h:F.bel n) (hl:l < n):(F.one l b).bel n:=by
 obtain ⟨g1,g2,g3,g4,_⟩:=h
 exact ⟨g1,g2,.msl _ _ _ _ hl,g4,trivial⟩
theorem Zkp {n l b kk:Nat} {F:Fr} {H:Zf} (hF:F.bel n) (hl:l < n) (s s':St) (p:Pen):Z5 n (bxH H l b F s) (bxH (V9 H l b kk p) l b (F.one l b) s'):=fun l' k' y hy hb=>by
 by_cases c1:l' = l ∧ k' = b
 ·obtain ⟨rfl,rfl⟩:=c1
  rw [bxH_box] at hb; cases hb
  exact .inr (XD (hF.one hl) hl s')
 by_cases c2:l' = l ∧ k' = b + 1
 ·obtain ⟨rfl,rfl⟩:=c2
  rw [bxH_rules] at hb; cases hb
  exact .inr (Vz s')
 rw [Xt c1 c2] at hb ⊢
 unfold V9 at hb
 by_cases c3:l' = l ∧ k' = b + 2
 ·obtain ⟨rfl,rfl⟩:=c3
  rw [Zf.upd_same] at hb; cases hb
  exact .inr ⟨fun a ha=>by simp only [Zk.avs,List.mem_singleton] at ha; subst ha; exact .ptr _ _ _ hl,by simp [Zk.at_]⟩
 rw [Zf.upd_ne _ _ c3] at hb
 by_cases c4:l' = l ∧ k' = kk
 ·obtain ⟨rfl,rfl⟩:=c4
  rw [Zf.upd_same] at hb; cases hb
  refine .inr ⟨fun a ha=>?_,by simp [Zk.at_]⟩
  simp only [Zk.avs,List.map_cons,List.map_nil,List.cons_append,List.nil_append,List.mem_cons,List.not_mem_nil,or_false] at ha
  rcases ha with rfl | rfl
  ·exact .str _
  ·exact .ptr _ _ _ hl
 rw [Zf.upd_ne _ _ c4] at hb
 by_cases c5:l' = l ∧ k' = b + 10
 ·obtain ⟨rfl,rfl⟩:=c5
  rw [Zf.upd_same] at hb; cases hb
  exact .inr (Zk.YV p.bcs)
 rw [Zf.upd_ne _ _ c5] at hb
 exact .inl hb
theorem Zc9.full {H:Zf} {l b kk n:Nat} {F:Fr} (h:Zc9 H l b kk F) (hl:l < n) (L:List (Nat × Zk)):Zc9 (full n L H) l b kk F :=
 ⟨h.pn,h.kn,by rw [ZL hl]; exact h.p,by rw [ZL hl]; exact h.k,by rw [ZL hl]; exact h.f,h.d⟩
end Go.Abs
namespace Go.Proofs.YthgbkalgmicniaaGreatDoor
open Go.Abs
set_option maxRecDepth 100000
def Zdn (n l b:Nat) (x:Ins) (p:List Cnd) (i:Nat):List (Nat × AV) :=
 [(13,.int .i64 i),(12,.int .i64 x.body.length),(11,.sl 9 (x.body.map GB.enc) .any),(4,.sl 1 (p.map Cnd.enc) (.buf n 200)),(3,.ptr n 3 0),(0,.ptr l b 0)]
def L70 (x:Ins) (p:List Cnd):List (Nat × Zk):=(3,.box x.cs) :: (200,.buf 260 1 p.length) :: pendL p
def s70 (n l b:Nat) (M:List (List UInt8 × Int)) (H:Zf) (F:Fr) (s:St) (x:Ins) (i:Nat):Zh :=
 ⟨Zdn n l b x (Yb M n s (x.body.take i)).1 i,L70 x (Yb M n s (x.body.take i)).1,bxH H l b F (Yb M n s (x.body.take i)).2⟩
def op70a:Opt:=⟨true,false,fun d=>if d = 29 then .heap else .auto,[]⟩
theorem Zg2 {n:Nat} {q:Nat → Prop} {p:List Cnd} {o:Nat} (h:Ji n o p) (hq:∀ l k w m,Cnd.pend l k w m ∈ p → q k) {c:Cnd} (hc:c ∈ p):Inside n q c.enc:=by
 obtain ⟨i,h1,h2,h3⟩:=VL h hc
 cases c with
 | lit x=>exact .ifc _ _ (.int _ _)
 | con x=>exact .ifc _ _ (.bool _)
 | pend l' k' w m =>
  obtain ⟨rfl,rfl,_⟩:=h3
  refine .ifc _ _ (.agg _ fun i hi=>?_)
  exact (show Yj (fun c=>Inside l' q c) [.map l' (1000 + _),.int .i64 m] from ⟨.map _ _ (.inr ⟨rfl,hq _ _ _ _ hc⟩),.int _ _,trivial⟩).mem _ (List.getElem_mem hi)
theorem Zbh {n k:Nat} {q:Nat → Prop} {p:List Cnd} {o:Nat} (h:Ji n o p) (hq:∀ l k w m,Cnd.pend l k w m ∈ p → q k) {ow:Own} (hj:∀ l j,ow = .buf l j → l = n ∧ q j):Inside n q (.sl k (p.map Cnd.enc) ow) :=
 .sl _ _ _ (fun i hi j hj=>by
  have hm:((p.map Cnd.enc)[i]).cells[j] ∈ ((p.map Cnd.enc)[i]).cells:=List.getElem_mem hj
  have hi':i < p.length:=by simpa using hi
  have he:(p.map Cnd.enc)[i] = (p[i]).enc:=by simp
  simp only [he] at hm ⊢
  simp only [Cnd.Jb,List.mem_singleton] at hm ⊢
  rw [hm]
  exact Zg2 h hq (List.getElem_mem hi')) (fun l j e=>.inr (hj l j e))
theorem Zj7 {n k:Nat} {q:Nat → Prop} {p p':List Cnd} {o:Nat} (h:Ji n o p) (hp:∀ c ∈ p',c ∈ p) (hq:∀ l k w m,Cnd.pend l k w m ∈ p → q k) {ow:Own} (hj:∀ l j,ow = .buf l j → l = n ∧ q j):Inside n q (.sl k (p'.map Cnd.enc) ow) :=
 .sl _ _ _ (fun i hi j hj=>by
  have hm:((p'.map Cnd.enc)[i]).cells[j] ∈ ((p'.map Cnd.enc)[i]).cells:=List.getElem_mem hj
  have hi':i < p'.length:=by simpa using hi
  have he:(p'.map Cnd.enc)[i] = (p'[i]).enc:=by simp
  simp only [he] at hm ⊢
  simp only [Cnd.Jb,List.mem_singleton] at hm ⊢
  rw [hm]
  exact Zg2 h hq (hp _ (List.getElem_mem hi'))) (fun l j e=>.inr (hj l j e))
theorem Zcc {n j:Nat} (hk:j < 1000):∀ {p:List Cnd} {o:Nat},Ji n o p → delb (pendL p) j = pendL p
 | [],_,_=>rfl
 | a :: r,o,h=>by
  have ih:=Zcc hk h.2
  cases a with
  | lit x=>exact ih
  | con x=>exact ih
  | pend l' k' w m' =>
   have h4:=h.1.2.1
   simp only [pendL,delb] at ih ⊢
   first | (rw [if_neg (by omega),ih]) | (rw [List.filter_cons_of_pos (by simp; omega),ih])
theorem YC {x:Ins} (h:Ya x = true):(1 ≤ x.kind ∧ x.kind ≤ 3) ∧ (-1 ≤ x.lower ∧ x.lower ≤ 1048576) ∧ (-1 ≤ x.upper ∧ x.upper ≤ 1048576) ∧ (0 ≤ x.weight ∧ x.weight ≤ 1048576) ∧ (-2147483647 ≤ x.level ∧ x.level ≤ 2147483647) ∧ x.tuple.all ZW = true ∧ (∀ a ∈ x.heads,Yt a = true) ∧ ∀ b ∈ x.body,WA b = false:=by
 simp only [Ya,wOk,Bool.and_eq_true,decide_eq_true_eq,Bool.not_eq_true',List.any_eq_false] at h
 obtain ⟨⟨⟨⟨⟨⟨⟨⟨⟨h1,h2⟩,h3,h4⟩,h5,h6⟩,h7,h8⟩,h9⟩,h10⟩,h11⟩,h12⟩,h13⟩:=h
 refine ⟨⟨h1,h2⟩,⟨h3,h4⟩,⟨h5,h6⟩,⟨h7,h8⟩,⟨h9,h10⟩,List.all_eq_true.2 fun t ht=>by simpa using h11 t ht,fun a ha=>by simpa using h12 a ha,fun b hb=>by simpa using h13 b hb⟩
def op70b:Opt:=⟨true,true,fun d=>if d = 72 then .pure else if d = 75 then .call else if d = 76 then .call else .auto,[]⟩
theorem ZcG {n o:Nat} {p:List Cnd} (h:Ji n o p) {L:List (Nat × Zk)} (hL:∀ k x,1000 ≤ k → lkb (pendL p) k = some x → lkb L k = some x):∀ l k w m,Cnd.pend l k w m ∈ p → (lkb L k).isSome = true:=fun l k w m hc=>by
 obtain ⟨j,_,_,h3⟩:=VL h hc
 rw [hL k _ (by have:=h3.2.1; omega) (ZbF h hc)]; rfl
theorem b70 (n:Nat) (H:Zf) (l b kk:Nat) (F:Fr) (s:St) (hl:l < n) (h0:0 < l) (hF:F.bel n) (hs:s.Fit 100000) (lm km:Nat) (M:List (List UInt8 × Int)) (hnum:F.num = .map lm km) (hlm:lm < n) (hd1:¬(lm = l ∧ km = b)) (hd2:¬(lm = l ∧ km = b + 1))
  (hM:H lm km = some (.map (Vl M))) (hsm:SmN M) (hT0:Tabs H) (x:Ins) (hx:ZiE x) (hN:∀ p,ZaK M n s x = some p → Zc9 H l b kk F) :
  Zr Tryz.prog n 70 [.ptr l b 0,x.enc] (bxH H l b F s) fun r H'=>r = .tup [] ∧ H' = match ZaK M n s x with | none=>bxH H l b F (Zba M n s x) | some p=>bxH (V9 H l b kk p) l b (F.one l b) (Zba M n s x):=by
 have hne:¬ l = n:=by omega
 have hn:0 < n:=by omega
 have hbl:=hx.bl
 have hat:∀ i,Ji n 0 (Yb M n s (x.body.take i)).1 ∧ (Yb M n s (x.body.take i)).2.Fit 200000:=fun i=>by
  have hc:V4 (x.body.take i) ≤ V4 x.body:=by
   conv=>rhs; rw [← List.take_append_drop i x.body]
   unfold V4; rw [List.map_append,List.sum_append]; omega
  have:=hx.c
  obtain ⟨h1,h2⟩:=Zed (n:=n) (l:=x.body.take i) hsm hs (fun b hb=>hx.b b (List.mem_of_mem_take hb)) (by omega)
  exact ⟨h1,h2.mono (by omega)⟩
 refine Zm tok (Zb Tryz.func70 rfl rfl) (by simp) fun B=>?_
 refine Za tok rfl rfl ?_
 simp only [go_sem,simprocAttr]
 refine Za tok rfl rfl ?_
 simp only [go_sem,simprocAttr]
 repeat refine kn rfl ?_
 refine WS 4 200 260 1 rfl rfl ?_
 refine Za tok rfl rfl ?_
 simp only [go_sem,simprocAttr]
 refine XF (s70 n l b M H F s x x.body.length) ?_ ?_
 ·repeat refine kn rfl ?_
  refine Zy (s70 n l b M H F s x) x.body.length rfl ?_ ?_
  ·unfold s70 Zdn L70
   rw [List.take_zero]
   have e0:Yb M n s [] = ([],s):=rfl
   simp only [e0,pendL,List.map_nil,List.length_nil]
   refine Zg ?_ ?_ ?_ ?_ <;> repeat' first|exact trivial|refine q0 ?_|exact qb|exact q1|exact q2|exact q3|exact rfl|refine And.intro ?_ ?_|exact qA rfl|exact Inside.ptr _ _ _ (.inr ⟨rfl,rfl⟩)|exact Tm.ins _|exact Tm.Zj _ _|exact Am.ins _|exact Am.Zj _ _|refine Zd ?_|refine Tm.Zc ?_|refine Am.Zc ?_
   all_goals first | exact (ZF _).inside | exact Inside.ptr _ _ _ (.inl hl) | exact Zc (fun _ h=>by cases h) rfl | skip
   all_goals exact 0
  intro i hi
  refine Yi rfl ?_
  obtain ⟨hi1,hi2⟩:=hat i
  have hil:=Za5 M n s (x.body.take i)
  rw [List.length_take,Nat.min_eq_left hi] at hil
  rcases Nat.lt_or_ge i x.body.length with h | h
  ·have hbo:=hx.b _ (List.getElem_mem h)
   have hbe:∀ d,(x.body.map GB.enc).getD i d = x.body[i].enc:=fun d=>getD_map GB.enc _ _ h d
   have hsn:Yb M n s (x.body.take (i + 1)) = ZbH M n (Yb M n s (x.body.take i)) x.body[i]:=by rw [List.take_succ_eq_append_getElem h,Zaf]
   have hself:s70 n l b M H F s x (i + 1) = ⟨Zdn n l b x (Yb M n s (x.body.take (i + 1))).1 (i + 1),L70 x (Yb M n s (x.body.take (i + 1))).1,bxH H l b F (Yb M n s (x.body.take (i + 1))).2⟩:=rfl
   rw [hself,hsn]
   obtain ⟨y,hy⟩:∃ y,y = x.body[i]:=⟨_,rfl⟩
   rw [← hy] at hbo hbe ⊢
   generalize Yb M n s (x.body.take i) = ps at *
   obtain ⟨p,s1⟩:=ps
   simp only at hi1 hi2 hil ⊢
   have hp6:lkb (pendL p) 6 = none:=Zbx (by omega) hi1
   have hs6:∀ X,lkb (setb (pendL p) 6 X) 6 = some X:=fun X=>by rw [lkb_setb,if_pos rfl]
   have hsk:∀ X k,1000 ≤ k → lkb (setb (pendL p) 6 X) k = lkb (pendL p) k:=fun X k hk=>by rw [lkb_setb,if_neg (by omega)]
   unfold Zdn L70
   refine Za tok rfl rfl ?_
   simp only [go_sem,simprocAttr,h]
   refine Zp rfl rfl rfl ?_
   refine Za tok rfl rfl ?_
   simp only [go_sem,simprocAttr,hbe,h,hp6,hs6,setb_setb]
   refine Yx (s':=⟨(6,.ptr n 6 0) :: Zdn n l b x p i,(6,.box y.cs) :: L70 x p,bxH H l b F s1⟩) ?_ ?_
   ·unfold Zdn L70
    refine Zg ?_ ?_ ?_ ?_ <;> repeat' first|exact trivial|refine q0 ?_|exact qb|exact q1|exact q2|exact q3|exact rfl|refine And.intro ?_ ?_|exact qA rfl|exact Inside.ptr _ _ _ (.inr ⟨rfl,rfl⟩)|exact Tm.ins _|exact Tm.Zj _ _|exact Am.ins _|exact Am.Zj _ _|refine Zd ?_|refine Tm.Zc ?_|refine Am.Zc ?_
    all_goals first | exact (ZF _).inside | exact (Zx _).inside | exact (ZB _).inside | exact (ZO _).inside | exact Inside.ptr _ _ _ (.inl hl) | exact J4 hi1 | exact Zaz hi1 (fun k x hk hx=>by simp only [lkb]; (repeat rw [if_neg (by omega)]); first | exact hx | (rw [hsk _ _ hk]; exact hx)) | exact Zbh hi1 (ZcG hi1 (fun k x hk hx=>by simp only [lkb]; (repeat rw [if_neg (by omega)]); exact hx)) (fun l j e=>by cases e; exact ⟨rfl,rfl⟩) | (show lkb _ 6 = some _; simp only [lkb]; (repeat rw [if_neg (by decide)]); rw [hs6]; rfl) | skip
    all_goals exact 0
   unfold Zdn L70
   have hTs:Tabs (bxH H l b F s1):=Tabs.up hT0 fun k=>Za6 (by omega)
   have hbx:bxH H l b F s1 l b = some (.box (F.a :: .map lm km :: [.int .i64 s1.n,.msl 6 l (b + 1) s1.rules.length,F.pn,F.kn,.int .i64 s1.err])):=by rw [bxH_box,bxC,hnum]
   have hHM:bxH H l b F s1 lm km = some (.map (Vl M)):=by rw [Xt hd1 hd2]; exact hM
   simp only [go_sem,simprocAttr]
   refine Za tok rfl rfl ?_
   simp only [go_sem,simprocAttr]
   by_cases hk1:y.kind = 1
   ·have hst:ZbH M n (p,s1) y = (p ++ [.lit (YT M y.lit)],s1):=by rw [ZbH,if_pos hk1]
    rw [hst]
    refine Zp rfl rfl (by simp only [go_sem,simprocAttr,hk1]) ?_
    repeat refine kn rfl ?_
    refine WH tok mixed op70a rfl rfl (by kernel_rfl) (by kernel_rfl) ?_
    simp only [go_sem,simprocAttr,op70a]
    refine XZ (Zb Tryz.func119 rfl rfl) (ZlY (n + 1) _ l b F.a _ lm km M (show l < n + 1 by omega) (show lm < n + 1 by omega) (by show full n _ (bxH H l b F s1) l b = _; rw [ZL hl]; exact hbx) (by show full n _ (bxH H l b F s1) lm km = _; rw [ZL hlm]; exact hHM) hsm (Nat.succ_pos _) (hTs.full hn) y.lit hbo.g.lit) (by simp only [go_sem,simprocAttr]) ?_
    simp only [go_sem,simprocAttr,op70a]
    refine ⟨rfl,⟨ZQ (by omega),by omega⟩,?_⟩
    have e2:p.map Cnd.enc ++ [AV.ifc 160 (.int .i64 (YT M y.lit))] = (p ++ [Cnd.lit (YT M y.lit)]).map Cnd.enc:=by simp [VY]
    have e3:p.length + 1 = (p ++ [Cnd.lit (YT M y.lit)]).length:=by simp
    have hi1':Ji n 0 (p ++ [.lit (YT M y.lit)]):=Jc hi1 (Zal hsm _)
    have hKL:∀ k x,1000 ≤ k → lkb (pendL (p ++ [.lit (YT M y.lit)])) k = some x → lkb (pendL p) k = some x:=fun k x _ h=>by
     rw [pendL_append,show pendL [Cnd.lit (YT M y.lit)] = [] from rfl,List.append_nil] at h; exact h
    rw [e2,e3]
    generalize p ++ [Cnd.lit (YT M y.lit)] = p' at *
    refine Za tok rfl rfl ?_
    simp only [go_sem,simprocAttr]
    refine Zt rfl ?_
    refine Zg ?_ ?_ ?_ ?_ <;> repeat' first|exact trivial|refine q0 ?_|exact qb|exact q1|exact q2|exact q3|exact rfl|refine And.intro ?_ ?_|exact qA rfl|exact Inside.ptr _ _ _ (.inr ⟨rfl,rfl⟩)|exact Tm.ins _|exact Tm.Zj _ _|exact Am.ins _|exact Am.Zj _ _|refine Zd ?_|refine Tm.Zc ?_|refine Am.Zc ?_
    ·simp only [go_sem,simprocAttr]
     rw [IntWalk.i64_in _ (by omega)]; exact .refl _
    all_goals first | exact (ZF _).inside | exact (Zx _).inside | exact (ZB _).inside | exact (ZO _).inside | exact Inside.ptr _ _ _ (.inl hl) | exact J4 hi1' | exact Zaz hi1' (fun k x hk hx=>by simp only [lkb]; (repeat rw [if_neg (by omega)]); exact hKL k x hk hx) | exact Zbh hi1' (ZcG hi1' (fun k x hk hx=>by simp only [lkb]; (repeat rw [if_neg (by omega)]); exact hx)) (fun l j e=>by cases e; exact ⟨rfl,rfl⟩) | skip
    all_goals exact 0
   ·obtain ⟨hk3,hop,hno⟩:y.kind = 3 ∧ y.op = 6 ∧ y.no = false:=by rcases hbo.k with h | h; exact absurd h hk1; exact h
    have hst:ZbH M n (p,s1) y = (p ++ [Xp n (1000 + p.length) (Yf y.fn s1 (Yr M y.elems)) y.bound],(Yf y.fn s1 (Yr M y.elems)).s):=by rw [ZbH,if_neg hk1]
    rw [hst]
    have hcon:=fun L (hf:lkb L (1000 + p.length) = none)=>Znc (n + 1) (full n L H) l b F s1 (by omega) h0 (hF.mono (Nat.le_succ n)) (hi2.mono (by omega)) lm km M hnum (by omega) hd1 hd2 (by rw [ZL hlm]; exact hM) hsm (hT0.full hn) y (hbo.e hk3) hbo.el hop hno (hbo.bd hk3) n (1000 + p.length) (Nat.lt_succ_self n) (by simp only [full,if_true]; exact hf) (by omega) (by omega)
    obtain ⟨hwo,_,_⟩:=Za3 (fn:=y.fn) hsm (hbo.e hk3) hbo.el (hi2.mono (k':=300000) (by omega))
    generalize Yf y.fn s1 (Yr M y.elems) = c at *
    have hk1b:(y.kind == 1) = false:=by rw [hk3]; rfl
    refine Zn rfl rfl (by simp only [go_sem,simprocAttr,hk1b]) ?_
    refine Za tok rfl rfl ?_
    simp only [go_sem,simprocAttr]
    have hfr:∀ X Y Z,lkb ((6,X) :: (3,Y) :: (200,Z) :: pendL p) (1000 + p.length) = none:=fun X Y Z=>by
     simp only [lkb]; rw [if_neg (by omega),if_neg (by omega),if_neg (by omega)]; exact Zbr hi1 _ (by omega)
    have hse:∀ X Y Z V,setb ((6,X) :: (3,Y) :: (200,Z) :: pendL p) (1000 + p.length) V = (6,X) :: (3,Y) :: (200,Z) :: (pendL p ++ [(1000 + p.length,V)]):=fun X Y Z V=>by
     simp only [setb]; rw [if_neg (by omega),if_neg (by omega),if_neg (by omega),ZaM _ hi1 _ (by omega)]
    refine Xk (caps:=[]) (avs:=[.ptr l b 0,y.enc]) rfl (Zb Tryz.func120 rfl rfl) (by rw [Yz hne]; exact hcon _ (hfr _ _ _)) (by simp only [go_sem,simprocAttr]) ?_
    rintro r H1 ⟨rfl,rfl⟩
    refine ⟨_,bxH H l b F c.s,by rw [← ZU,hse,Yz hne],Zay hF hl _ _,?_⟩
    simp only [go_sem,simprocAttr]
    refine ⟨⟨Zhf _,ZQ (by omega),by omega⟩,?_⟩
    have e2:p.map Cnd.enc ++ [(Xp n (1000 + p.length) c y.bound).enc] = (p ++ [Xp n (1000 + p.length) c y.bound]).map Cnd.enc:=by simp
    have e3:p.length + 1 = (p ++ [Xp n (1000 + p.length) c y.bound]).length:=by simp
    have hatc:AtC n (0 + p.length) (Xp n (1000 + p.length) c y.bound):=by
     unfold Xp
     split
     ·trivial
     split
     ·trivial
     ·exact ⟨rfl,by rw [Nat.zero_add],hwo⟩
    have hi1':Ji n 0 (p ++ [Xp n (1000 + p.length) c y.bound]):=Jc hi1 hatc
    have hKL:∀ k x,1000 ≤ k → lkb (pendL (p ++ [Xp n (1000 + p.length) c y.bound])) k = some x → lkb (pendL p ++ [(1000 + p.length,.map (Y3 c.w))]) k = some x:=fun k x _ h=>by
     rw [pendL_append] at h
     unfold Xp at h
     split at h
     ·rw [show pendL [Cnd.con true] = [] from rfl,List.append_nil] at h; exact J3 h
     split at h
     ·rw [show pendL [Cnd.con false] = [] from rfl,List.append_nil] at h; exact J3 h
     ·exact h
    rw [e2,e3]
    generalize p ++ [Xp n (1000 + p.length) c y.bound] = p' at *
    refine Za tok rfl rfl ?_
    simp only [go_sem,simprocAttr]
    refine Zt rfl ?_
    refine Zg ?_ ?_ ?_ ?_ <;> repeat' first|exact trivial|refine q0 ?_|exact qb|exact q1|exact q2|exact q3|exact rfl|refine And.intro ?_ ?_|exact qA rfl|exact Inside.ptr _ _ _ (.inr ⟨rfl,rfl⟩)|exact Tm.ins _|exact Tm.Zj _ _|exact Am.ins _|exact Am.Zj _ _|refine Zd ?_|refine Tm.Zc ?_|refine Am.Zc ?_
    ·simp only [go_sem,simprocAttr]
     rw [IntWalk.i64_in _ (by omega)]; exact .refl _
    all_goals first | exact (ZF _).inside | exact (Zx _).inside | exact (ZB _).inside | exact (ZO _).inside | exact Inside.ptr _ _ _ (.inl hl) | exact J4 hi1' | exact Zaz hi1' (fun k x hk hx=>by simp only [lkb]; (repeat rw [if_neg (by omega)]); exact hKL k x hk hx) | exact Zbh hi1' (ZcG hi1' (fun k x hk hx=>by simp only [lkb]; (repeat rw [if_neg (by omega)]); exact hx)) (fun l j e=>by cases e; exact ⟨rfl,rfl⟩) | skip
    all_goals exact 0
  ·have hi':i = x.body.length:=by omega
   subst hi'
   have hself:s70 n l b M H F s x x.body.length = ⟨Zdn n l b x (Yb M n s (x.body.take x.body.length)).1 x.body.length,L70 x (Yb M n s (x.body.take x.body.length)).1,bxH H l b F (Yb M n s (x.body.take x.body.length)).2⟩:=rfl
   rw [hself]
   generalize Yb M n s (x.body.take x.body.length) = ps at *
   obtain ⟨p,s1⟩:=ps
   simp only at hi1 hi2 hil ⊢
   unfold Zdn L70
   refine Za tok rfl rfl ?_
   simp only [go_sem,simprocAttr,Nat.not_lt.2 h]
   refine Zn rfl rfl rfl ?_
   refine Yh rfl rfl rfl rfl ?_
   refine Zt rfl ?_
   refine ⟨rfl,?_⟩
   refine Zg ?_ ?_ ?_ ?_ <;> repeat' first|exact trivial|refine q0 ?_|exact qb|exact q1|exact q2|exact q3|exact rfl|refine And.intro ?_ ?_|exact qA rfl|exact Inside.ptr _ _ _ (.inr ⟨rfl,rfl⟩)|exact Tm.ins _|exact Tm.Zj _ _|exact Am.ins _|exact Am.Zj _ _|refine Zd ?_|refine Tm.Zc ?_|refine Am.Zc ?_
   all_goals first | exact (ZF _).inside | exact (Zx _).inside | exact (ZB _).inside | exact (ZO _).inside | exact Inside.ptr _ _ _ (.inl hl) | exact J4 hi1 | exact Zaz hi1 (fun k x hk hx=>by simp only [lkb]; (repeat rw [if_neg (by omega)]); exact hx) | exact Zbh hi1 (ZcG hi1 (fun k x hk hx=>by simp only [lkb]; (repeat rw [if_neg (by omega)]); exact hx)) (fun l j e=>by cases e; exact ⟨rfl,rfl⟩) | skip
   all_goals exact 0
 obtain ⟨hi1,hi2⟩:=hat x.body.length
 have hil:=Za5 M n s (x.body.take x.body.length)
 have hself:s70 n l b M H F s x x.body.length = ⟨Zdn n l b x (Yb M n s (x.body.take x.body.length)).1 x.body.length,L70 x (Yb M n s (x.body.take x.body.length)).1,bxH H l b F (Yb M n s (x.body.take x.body.length)).2⟩:=rfl
 rw [hself]
 rw [List.take_length] at *
 unfold ZaK Zba Zcf at *
 generalize Yb M n s x.body = ps at *
 obtain ⟨p,s1⟩:=ps
 simp only at hi1 hi2 hil ⊢
 have hok:∀ L,(∀ k x,1000 ≤ k → lkb (pendL p) k = some x → lkb L k = some x) → ∀ c ∈ p,c.Ok (n + 1) l b (full n L H):=fun L hL c hc=>by
  obtain ⟨j,_,_,h3⟩:=VL hi1 hc
  cases c with
  | lit y=>exact h3
  | con y=>trivial
  | pend l' k' w m =>
   obtain ⟨rfl,rfl,hw⟩:=h3
   exact ⟨Nat.lt_succ_self _,hw,by simp only [full,if_true]; exact hL _ _ (by omega) (ZbF hi1 hc),by omega,by omega⟩
 have hpb:∀ c ∈ p,Below (n + 1) c.enc:=fun c hc=>Zb9 (hok (pendL p) (fun _ _ _ h=>h) c hc)
 unfold Zdn L70
 refine Za tok rfl rfl ?_
 simp only [go_sem,simprocAttr]
 have hset:=fun G=>(ZnQ (n + 1) G p hpb (by omega)).args (args':=[.sl 1 (p.map Cnd.enc) (.buf n 200)]) ⟨.any _ _ _,trivial⟩
 refine XZ (Zb Tryz.func121 rfl rfl) (hset _) (by simp only [go_sem,simprocAttr]) ?_
 simp only [go_sem,simprocAttr]
 refine Za tok rfl rfl ?_
 simp only [go_sem,simprocAttr]
 cases hno:p.any isNo with
 | true =>
  have hse:W9 p = ([],false):=by rw [W9,if_pos hno]
  simp only [go_sem,simprocAttr,hse]
  refine Zp rfl rfl rfl ?_
  refine Zi rfl rfl ?_
  exact ⟨by simp [YH],[],trivial,by simp,rfl,rfl⟩
 | false =>
  have hse:W9 p = (Xf p,true):=by rw [W9,if_neg (by rw [hno]; decide)]
  simp only [go_sem,simprocAttr,hse]
  refine Zn rfl rfl rfl ?_
  refine ZM rfl ?_
  have hTs:Tabs (bxH H l b F s1):=Tabs.up hT0 fun k=>Za6 (by omega)
  have hbx:bxH H l b F s1 l b = some (.box (F.a :: .map lm km :: [.int .i64 s1.n,.msl 6 l (b + 1) s1.rules.length,F.pn,F.kn,.int .i64 s1.err])):=by rw [bxH_box,bxC,hnum]
  have hHM:bxH H l b F s1 lm km = some (.map (Vl M)):=by rw [Xt hd1 hd2]; exact hM
  have hhl:=hx.hl
  have hmap:∀ L,PC Tryz.prog (n + 1) 123 [.sl 2 (x.heads.map Am.enc) .any,.bfn (.func 124) [.ptr l b 0]] (full n L (bxH H l b F s1)) (Zw (x.heads.map (numOf M))):=fun L=>by
   have hbf:Below (n + 1) (.bfn (.func 124) [.ptr l b 0]):=.bfn _ _ fun i hi=>(show Yj (fun c=>Below (n + 1) c) [.ptr l b 0] from ⟨.ptr _ _ _ (by omega),trivial⟩).mem _ (List.getElem_mem hi)
   exact ZmA (n + 1) x.heads (by omega) 124 [.ptr l b 0] _ _ (Zb Tryz.func124 rfl rfl) (x.heads.map (numOf M)) (by simp) (fun _=>full n L (bxH H l b F s1)) hbf (ZO _)
    (fun j hj L2=>Zr.mono (Zj0 (n + 1 + 1) (full (n + 1) L2 (full n L (bxH H l b F s1))) l b F.a _ lm km M (by omega) (by omega) (by rw [ZL (show l < n + 1 by omega),ZL hl]; exact hbx) (by rw [ZL (show lm < n + 1 by omega),ZL hlm]; exact hHM) (Nat.succ_pos _) ((hTs.full hn).full (Nat.succ_pos _)) x.heads[j] (hx.g.h _ (List.getElem_mem hj))) (by rintro r H1 ⟨rfl,rfl⟩; exact ⟨by simp,rfl⟩)) (fun _ _=>.refl _ _)
  have hnm:∀ z ∈ x.heads.map (numOf M),SmI z:=fun z hz=>by
   obtain ⟨a,_,rfl⟩:=List.mem_map.1 hz
   have:=Zdj hsm a
   unfold SmI; omega
  refine YX tok mixed drawO rfl rfl rfl ?_
  simp only [go_sem,simprocAttr]
  refine XZ (Zb Tryz.func123 rfl rfl) (hmap _) (by simp only [go_sem,simprocAttr]) ?_
  simp only [go_sem,simprocAttr]
  refine Zq (Zb Tryz.func122 rfl rfl) (Zia (x.heads.map (numOf M)) .any hnm (by rw [List.length_map]; omega)) rfl ?_
  simp only [go_sem,simprocAttr]
  have hhd:Y5 (x.heads.map (numOf M)) = ZcT M x:=rfl
  have hgl:(ZcT M x).length ≤ 10000:=by have:=ordL_len (x.heads.map (numOf M)); rw [List.length_map] at this; unfold ZcT; omega
  have hgm:∀ z ∈ ZcT M x,SmI z:=fun z hz=>hnm z ((ordL_mem _ z).1 hz)
  rw [hhd]
  generalize ZcT M x = hd at *
  have hol:=Zee p
  have hoo:∀ L,(∀ k x,1000 ≤ k → lkb (pendL p) k = some x → lkb L k = some x) → ∀ c ∈ Xf p,c.Ok (n + 1) l b (full n L H):=fun L hL c hc=>hok L hL c (List.mem_filter.1 hc).1
  have hL0:∀ X Y,∀ k x,1000 ≤ k → lkb (pendL p) k = some x → lkb ((3,X) :: (200,Y) :: pendL p) k = some x:=fun X Y k x hk h=>by
   simp only [lkb]; rw [if_neg (by omega),if_neg (by omega)]; exact h
  refine Za tok rfl rfl ?_
  simp only [go_sem,simprocAttr]
  refine Za tok rfl rfl ?_
  simp only [go_sem,simprocAttr]
  by_cases c1:x.kind = 1
  ·simp only [if_pos c1]
   refine Zp rfl rfl (by simp only [go_sem,simprocAttr,c1]) ?_
   refine Za tok rfl rfl ?_
   simp only [go_sem,simprocAttr]
   refine X0 hl hF (Zb Tryz.func125 rfl rfl) (Zme (n + 1) _ l b F s1 (by omega) (hF.mono (Nat.le_succ n)) (hi2.mono (by omega)) hd .any hgm (by omega) (Xf p) (hoo _ (hL0 _ _)) (by omega)) (by simp only [go_sem,simprocAttr]) ?_
   simp only [go_sem,simprocAttr]
   repeat refine kn rfl ?_
   exact XW ⟨by simp [YH],[],trivial,by simp,rfl,rfl⟩
  ·obtain ⟨v1,v2,v3,v4,v5,v6,v7,v8⟩:=YC hx.v
   have c1b:(x.kind == 1) = false:=by simpa using c1
   simp only [if_neg c1]
   refine Zn rfl rfl (by simp only [go_sem,simprocAttr,c1b]) ?_
   refine Za tok rfl rfl ?_
   simp only [go_sem,simprocAttr]
   by_cases c2:x.kind = 2
   ·simp only [if_pos c2]
    refine Zp rfl rfl (by simp only [go_sem,simprocAttr,c2]) ?_
    refine Za tok rfl rfl ?_
    simp only [go_sem,simprocAttr]
    refine X0 hl hF (Zb Tryz.func126 rfl rfl) (Zm4 (n + 1) _ l b F s1 (by omega) (hF.mono (Nat.le_succ n)) (hi2.mono (by omega)) x hd hgm (by omega) (Xf p) (hoo _ (hL0 _ _)) (by omega) v2 v3) (by simp only [go_sem,simprocAttr]) ?_
    simp only [go_sem,simprocAttr]
    repeat refine kn rfl ?_
    exact XW ⟨by simp [YH],[],trivial,by simp,rfl,rfl⟩
   ·have c2b:(x.kind == 2) = false:=by simpa using c2
    have c3:x.kind = 3:=by omega
    simp only [if_neg c2]
    refine Zn rfl rfl (by simp only [go_sem,simprocAttr,c2b]) ?_
    refine Za tok rfl rfl ?_
    simp only [go_sem,simprocAttr]
    refine Zp rfl rfl (by simp only [go_sem,simprocAttr,c3]) ?_
    refine Za tok rfl rfl ?_
    simp only [go_sem,simprocAttr]
    by_cases c4:0 < x.weight
    ·simp only [if_pos c4]
     refine Zp rfl rfl (by simp only [go_sem,simprocAttr,c4]) ?_
     repeat refine kn rfl ?_
     refine Ym 3 x.cs [(0,.ptr l b 0),(3,.ZA x.cs),(7,.sl 1 ((Xf p).map Cnd.enc) .any)] rfl (ZC fun c hc=>(x.bcs.mem c hc).inside)
      ⟨.inl ⟨.refl _,Inside.ptr _ _ _ (.inl hl)⟩,.inr ⟨0,rfl,rfl⟩,.inl ⟨.refl _,Zj7 hi1 (fun c hc=>(List.mem_filter.1 hc).1) (fun l k w m hc=>by obtain ⟨j,_,_,h3⟩:=VL hi1 hc; have:=h3.2.1; omega) (fun _ _ e=>by cases e)⟩,trivial⟩ ⟨Zk.ZaY _ _ _,by rw [Zcc (by omega) hi1]; exact J4 hi1⟩ ?_
     simp only [go_sem,simprocAttr,delb]
     rw [Zcc (by omega) hi1]
     have hNP:Zc9 H l b kk F:=hN _ (by simp only [hno,c1,c2,c4,if_true,if_false,Bool.false_eq_true]; rfl)
     have hL1:∀ Y,∀ k x,1000 ≤ k → lkb (pendL p) k = some x → lkb ((200,Y) :: pendL p) k = some x:=fun Y k x hk h=>by
      simp only [lkb]; rw [if_neg (by omega)]; exact h
     have hbl2:((s1.lits (Xf p)).1).length ≤ 10000:=by have:=ordL_len (s1.names (Xf p)).1; rw [names_len] at this; simp only [St.lits]; omega
     repeat refine kn rfl ?_
     refine WH tok mixed op70b rfl rfl (by kernel_rfl) (by kernel_rfl) ?_
     simp only [go_sem,simprocAttr,op70b]
     refine Zlq hl hF (Zb Tryz.func128 rfl rfl) (ZkN (n + 1) _ l b F s1 (by omega) (hF.mono (Nat.le_succ n)) (hi2.mono (by omega)) (Xf p) (hoo _ (hL1 _)) (by omega)) (by simp only [go_sem,simprocAttr]) ?_
     simp only [go_sem,simprocAttr,op70b]
     have e1:Y5 (s1.names (Xf p)).1 = (s1.lits (Xf p)).1:=rfl
     have e2:(s1.names (Xf p)).2 = (s1.lits (Xf p)).2:=rfl
     rw [e1,e2]
     generalize (s1.lits (Xf p)).1 = body at *
     generalize (s1.lits (Xf p)).2 = s2 at *
     have hwk:=fun L=>Zm2 (n + 1) (full n L H) l b kk F s2 (by omega) h0 (hF.mono (Nat.le_succ n)) (hT0.full hn) (hNP.full hl L) x hx.ts v6 v4 v5 body (by omega)
     refine ⟨127,_,_,[],.tup [],(200,.buf 260 1 p.length) :: pendL p,bxH (V9 H l b kk (x.pen body)) l b (F.one l b) s2,rfl,Zb Tryz.func127 rfl rfl,?_,Zkp hF hl _ _ _,?_⟩
     ·have hc:=hwk ((200,.buf 260 1 p.length) :: pendL p)
      rw [← Zih hne,← Yz hne,← Yz hne] at hc
      exact hc
     ·simp only [go_sem,simprocAttr]
      repeat refine kn rfl ?_
      exact XW ⟨by simp [YH],[],trivial,by simp,rfl,rfl⟩
    ·simp only [if_neg c4]
     have c4b:decide (0 < x.weight) = false:=by simpa using c4
     refine Zn rfl rfl (by simp only [go_sem,simprocAttr,c4b]) ?_
     refine ZM rfl ?_
     repeat refine kn rfl ?_
     exact XW ⟨by simp [YH],[],trivial,by simp,rfl,rfl⟩
end Go.Proofs.YthgbkalgmicniaaGreatDoor

/- The objective of no penalty, of one: the walk. -/
namespace Go.Proofs.YthgbkalgmicniaaGreatDoor
open Go.Abs
set_option maxRecDepth 100000
theorem Zng (v c:AV) (k:Int) (hk:k ≤ 1) (n:Nat) (H:Zf) :
  PC Tryz.prog n 294 [v,.int .i64 0,.int .i64 k,c] H (.tup []):=by
 refine Zm tok (Zb Tryz.func294 rfl rfl) (by simp) fun B=>?_
 refine Za tok rfl rfl ?_
 simp only [go_sem,simprocAttr]
 repeat refine kn rfl ?_
 refine Zy (fun _=>⟨[(8,.int .i64 1),(2,.int .i64 k)],[],H⟩) 0 rfl ?_ ?_
 ·refine Zg ?_ ?_ ?_ ?_ <;> repeat' first|exact trivial|refine q0 ?_|exact qb|exact q1|exact q2|exact q3|exact rfl|refine And.intro ?_ ?_|exact qA rfl|exact Inside.ptr _ _ _ (.inr ⟨rfl,rfl⟩)|exact Tm.ins _|exact Tm.Zj _ _|exact Am.ins _|exact Am.Zj _ _|refine Zd ?_|refine Tm.Zc ?_|refine Am.Zc ?_
 intro i hi
 refine Yi rfl ?_
 refine Za tok rfl rfl ?_
 simp only [go_sem,simprocAttr,Int.not_lt.2 hk]
 refine Zn rfl rfl rfl ?_
 refine Yh rfl rfl rfl rfl ?_
 refine Zt rfl ?_
 exact ⟨by simp [YH],[],trivial,by simp,rfl,rfl⟩
theorem Zni (n:Nat) (H:Zf) (v c:AV) (hv:Below n v) (hc:Below n c) (k:Int) (h0:0 ≤ k) (hk:k ≤ 1) :
  PC Tryz.prog n 218 [v,.int .i64 k,c] H (.tup []):=by
 have h20:¬ (20:Int) ≤ k:=by omega
 have h21:¬ (20:Int) < k:=by omega
 refine Zm tok (Zb Tryz.func218 rfl rfl) (by simp) fun B=>?_
 refine Za tok rfl rfl ?_
 simp only [go_sem,simprocAttr]
 refine Za tok rfl rfl ?_
 simp only [go_sem,simprocAttr]
 refine Xl rfl ?_
 refine XF ⟨[(0,v),(1,.int .i64 k),(2,c),(6,.int .i64 20),(7,.int .i64 0)],[],H⟩ ?_ ?_
 ·repeat refine kn rfl ?_
  refine Zy (fun _=>⟨[(0,v),(1,.int .i64 k),(2,c),(6,.int .i64 20),(7,.int .i64 0),(8,.int .i64 20)],[],H⟩) 0 rfl ?_ ?_
  ·refine Zg ?_ ?_ ?_ ?_ <;> repeat' first|exact trivial|refine q0 ?_|exact qb|exact q1|exact q2|exact q3|exact rfl|refine And.intro ?_ ?_|exact qA rfl|exact Inside.ptr _ _ _ (.inr ⟨rfl,rfl⟩)|exact Tm.ins _|exact Tm.Zj _ _|exact Am.ins _|exact Am.Zj _ _|refine Zd ?_|refine Tm.Zc ?_|refine Am.Zc ?_
   all_goals first | exact hv.inside | exact hc.inside
  intro i hi
  refine Yi rfl ?_
  refine Za tok rfl rfl ?_
  simp only [go_sem,simprocAttr,h20]
  refine Zn rfl rfl rfl ?_
  refine Yh rfl rfl rfl rfl ?_
  refine Zt rfl ?_
  refine ⟨rfl,?_⟩
  refine Zg ?_ ?_ ?_ ?_ <;> repeat' first|exact trivial|refine q0 ?_|exact qb|exact q1|exact q2|exact q3|exact rfl|refine And.intro ?_ ?_|exact qA rfl|exact Inside.ptr _ _ _ (.inr ⟨rfl,rfl⟩)|exact Tm.ins _|exact Tm.Zj _ _|exact Am.ins _|exact Am.Zj _ _|refine Zd ?_|refine Tm.Zc ?_|refine Am.Zc ?_
  all_goals first | exact hv.inside | exact hc.inside
 refine Za tok rfl rfl ?_
 simp only [go_sem,simprocAttr]
 refine XZ (Zb Tryz.func294 rfl rfl) (Zng v c k hk (n + 1) _) (by simp only [go_sem,simprocAttr]) ?_
 simp only [go_sem,simprocAttr]
 repeat refine kn rfl ?_
 refine Zy (fun _=>⟨[(1,.int .i64 k),(6,.int .i64 20)],[],H⟩) 0 rfl ?_ ?_
 ·refine Zg ?_ ?_ ?_ ?_ <;> repeat' first|exact trivial|refine q0 ?_|exact qb|exact q1|exact q2|exact q3|exact rfl|refine And.intro ?_ ?_|exact qA rfl|exact Inside.ptr _ _ _ (.inr ⟨rfl,rfl⟩)|exact Tm.ins _|exact Tm.Zj _ _|exact Am.ins _|exact Am.Zj _ _|refine Zd ?_|refine Tm.Zc ?_|refine Am.Zc ?_
 intro i hi
 refine Yi rfl ?_
 refine Za tok rfl rfl ?_
 simp only [go_sem,simprocAttr,h21]
 refine Zn rfl rfl rfl ?_
 refine Yh rfl rfl rfl rfl ?_
 refine Zt rfl ?_
 exact ⟨by simp [YH],[],trivial,by simp,rfl,rfl⟩
theorem ZmK (n:Nat) (H:Zf) (l j k:Nat) (hl:l < n) (hk:k ≤ 1) (c:AV) (hc:∀ m,Below m c) :
  PC Tryz.prog n 129 [.msl 1 l j k,c] H (.tup []):=by
 refine Zm tok (Zb Tryz.func129 rfl rfl) (by simp) fun B=>?_
 refine Za tok rfl rfl ?_
 simp only [go_sem,simprocAttr]
 refine XZ (Zb Tryz.func218 rfl rfl) (Zni (n + 1) _ (.msl 1 l j k) c (.msl _ _ _ _ (by omega)) (hc _) k (by omega) (by omega)) (by simp only [go_sem,simprocAttr]) ?_
 simp only [go_sem,simprocAttr]
 repeat refine kn rfl ?_
 exact XW ⟨by simp [YH],[],trivial,by simp,rfl,rfl⟩
theorem ZnS (n:Nat) (H:Zf) (l b kk:Nat) (F:Fr) (s:St) (hl:l < n) (hF:F.bel n) (hN:Zc9 H l b kk F) :
  PC Tryz.prog n 71 [.ptr l b 0] (bxH H l b F s) (.sl 3 ([]:List AV) .full):=by
 have hne:¬ l = n:=by omega
 have hbx:bxH H l b F s l b = some (.box [F.a,F.num,.int .i64 s.n,.msl 6 l (b + 1) s.rules.length,.msl 1 l (b + 2) 0,.map l kk,.int .i64 s.err]):=by rw [bxH_box,bxC,hN.pn,hN.kn]
 refine Zm tok (Zb Tryz.func71 rfl rfl) (by simp) fun B=>?_
 refine Za tok rfl rfl ?_
 simp only [go_sem,simprocAttr]
 refine Za tok rfl rfl ?_
 simp only [go_sem,simprocAttr,hne,hbx]
 refine XZ (Zb Tryz.func129 rfl rfl) (ZmK (n + 1) _ l (b + 2) 0 (by omega) (by omega) (.fn (.func 130) []) (fun m=>VW trivial)) (by simp only [go_sem,simprocAttr]) ?_
 simp only [go_sem,simprocAttr]
 refine Za tok rfl rfl ?_
 simp only [go_sem,simprocAttr]
 refine Za tok rfl rfl ?_
 simp only [go_sem,simprocAttr,hne,hbx]
 have hs3:Below n (.sl 3 [] .full):=ZV (fun _ h=>by cases h) (fun _ _ e=>by cases e)
 refine XF ⟨[(2,.sl 3 [] .full)],[],bxH H l b F s⟩ ?_ ?_
 ·repeat refine kn rfl ?_
  refine Zy (fun _=>⟨[(2,.sl 3 [] .full),(16,.int .i64 0),(17,.int .i64 0)],[],bxH H l b F s⟩) 0 rfl ?_ ?_
  ·refine Zg ?_ ?_ ?_ ?_ <;> repeat' first|exact trivial|refine q0 ?_|exact qb|exact q1|exact q2|exact q3|exact rfl|refine And.intro ?_ ?_|exact qA rfl|exact Inside.ptr _ _ _ (.inr ⟨rfl,rfl⟩)|exact Tm.ins _|exact Tm.Zj _ _|exact Am.ins _|exact Am.Zj _ _|refine Zd ?_|refine Tm.Zc ?_|refine Am.Zc ?_
   all_goals first | exact hs3.inside | skip
  intro i hi
  refine Yi rfl ?_
  refine Za tok rfl rfl ?_
  simp only [go_sem,simprocAttr]
  refine Zn rfl rfl rfl ?_
  refine Yh rfl rfl rfl rfl ?_
  refine Zt rfl ?_
  refine ⟨rfl,?_⟩
  refine Zg ?_ ?_ ?_ ?_ <;> repeat' first|exact trivial|refine q0 ?_|exact qb|exact q1|exact q2|exact q3|exact rfl|refine And.intro ?_ ?_|exact qA rfl|exact Inside.ptr _ _ _ (.inr ⟨rfl,rfl⟩)|exact Tm.ins _|exact Tm.Zj _ _|exact Am.ins _|exact Am.Zj _ _|refine Zd ?_|refine Tm.Zc ?_|refine Am.Zc ?_
  all_goals first | exact hs3.inside | skip
 ·refine Za tok rfl rfl ?_
  simp only [go_sem,simprocAttr]
  refine Zi rfl rfl ?_
  exact Ze (.refl _) hs3 rfl
def o71 (n l b:Nat) (p:Pen) (z:Int) (G:Zf):Nat → Zh
 | 0=>⟨[(17,.int .i64 0),(16,.int .i64 1),(15,.msl 1 l (b + 2) 1),(2,.msl 3 n 200 0),(3,.nilm),(0,.ptr l b 0)],[(200,.ZN 75 3 [] 0)],G⟩
 | _=>⟨[(17,.int .i64 1),(16,.int .i64 1),(15,.msl 1 l (b + 2) 1),(2,.msl 3 n 200 1),(0,.ptr l b 0)],[(200,.ZN 75 3 [.int .i64 p.level,Zw [z],Zw [p.weight]] 1)],G⟩
theorem Znv (n:Nat) (H:Zf) (l b kk:Nat) (F:Fr) (s:St) (hl:l < n) (hd:kk ≠ b + 10) (h0:0 < l) (hF:F.bel n) (hs:s.Fit 800000) (hT0:Tabs H) (p:Pen) (z:Int) (hz:SmI z) (hp:p.body = [z]) (hw:0 ≤ p.weight ∧ p.weight ≤ 1048576) :
  PC Tryz.prog n 71 [.ptr l b 0] (bxH (V9 H l b kk p) l b (F.one l b) s) (.sl 3 ([(⟨p.level,[z],[p.weight]⟩:GM)].map GM.enc) .any):=by
 have hne:¬ l = n:=by omega
 have hn:0 < n:=by omega
 have hF1:(F.one l b).bel (n + 1):=(hF.one hl).mono (Nat.le_succ n)
 have hbx:bxH (V9 H l b kk p) l b (F.one l b) s l b = some (.box [F.a,F.num,.int .i64 s.n,.msl 6 l (b + 1) s.rules.length,.msl 1 l (b + 2) 1,F.kn,.int .i64 s.err]):=by rw [bxH_box]; rfl
 have hpp:bxH (V9 H l b kk p) l b (F.one l b) s l (b + 2) = some (.ZN 173 1 [.ptr l (b + 10) 0] 1):=by rw [Xt (by omega) (by omega),V9,Zf.upd_same]
 have hpc:bxH (V9 H l b kk p) l b (F.one l b) s l (b + 10) = some (.box [.int .i64 p.weight,.int .i64 p.level,.sl 4 (p.tup.map Tm.enc) .any,.sl 1 [Zw [z]] .any]):=by
  rw [Xt (by omega) (by omega),V9,Zf.upd_ne _ _ (by omega),Zf.upd_ne _ _ (by omega),Zf.upd_same,Pen.cs,hp]; rfl
 have hT:Tabs (bxH (V9 H l b kk p) l b (F.one l b) s):=Tabs.up hT0 fun k=>by
  rw [Za6 (by omega),V9,Zf.upd_ne _ _ (by omega),Zf.upd_ne _ _ (by omega),Zf.upd_ne _ _ (by omega)]
 have hst:=fun L=>Zmk (n + 1) (full n L (V9 H l b kk p)) l b (F.one l b) s (by omega) hF1 (hs.mono (by omega)) [[z]] (fun x hx=>by simp only [List.mem_singleton] at hx; subst hx; exact ⟨by simp,fun y hy=>by simp only [List.mem_singleton] at hy; subst hy; exact hz⟩) (by simp)
 have hst2:∀ L,PC Tryz.prog (n + 1) 136 [.ptr l b 0,.sl 1 ([[z]].map Zw) .any] (full n L (bxH (V9 H l b kk p) l b (F.one l b) s)) (.int .i64 z):=fun L=>by
  have h:=hst L
  rw [← Yz hne] at h
  exact Zr.mono h (by rintro r H1 ⟨rfl,rfl⟩; exact ⟨rfl,by rw [Yz hne]; rfl⟩)
 clear hst
 generalize bxH (V9 H l b kk p) l b (F.one l b) s = G at *
 refine Zm tok (Zb Tryz.func71 rfl rfl) (by simp) fun B=>?_
 refine Za tok rfl rfl ?_
 simp only [go_sem,simprocAttr]
 refine Za tok rfl rfl ?_
 simp only [go_sem,simprocAttr,hne,hbx]
 refine XZ (Zb Tryz.func129 rfl rfl) (ZmK (n + 1) _ l (b + 2) 1 (by omega) (by omega) (.fn (.func 130) []) (fun m=>VW trivial)) (by simp only [go_sem,simprocAttr]) ?_
 simp only [go_sem,simprocAttr]
 refine Za tok rfl rfl ?_
 simp only [go_sem,simprocAttr]
 repeat refine kn rfl ?_
 refine ZhZ 2 200 75 3 rfl rfl ?_
 refine Za tok rfl rfl ?_
 simp only [go_sem,simprocAttr,hne,hbx]
 refine XF ⟨[(2,.sl 3 ([(⟨p.level,[z],[p.weight]⟩:GM)].map GM.enc) .any)],[],G⟩ ?_ ?_
 ·repeat refine kn rfl ?_
  refine Zy (o71 n l b p z G) 1 rfl ?_ ?_
  ·unfold o71
   refine Zg ?_ ?_ ?_ ?_ <;> repeat' first|exact trivial|refine q0 ?_|exact qb|exact q1|exact q2|exact q3|exact rfl|refine And.intro ?_ ?_|exact qA rfl|exact Inside.ptr _ _ _ (.inr ⟨rfl,rfl⟩)|exact Tm.ins _|exact Tm.Zj _ _|exact Am.ins _|exact Am.Zj _ _|refine Zd ?_|refine Tm.Zc ?_|refine Am.Zc ?_
   all_goals first | exact Inside.ptr _ _ _ (.inl hl) | exact YE (.inl hl) | exact YE (.inr ⟨rfl,rfl⟩) | skip
   all_goals exact 0
  intro i hi
  rcases Nat.lt_or_ge i 1 with h | h
  ·have hi0:i = 0:=by omega
   subst hi0
   refine Yi rfl ?_
   refine Za tok rfl rfl ?_
   simp only [go_sem,simprocAttr]
   refine Zp rfl rfl rfl ?_
   refine Za tok rfl rfl ?_
   simp only [go_sem,simprocAttr,hne,hpp]
   refine YX tok mixed drawO rfl rfl rfl ?_
   simp -implicitDefEqProofs only [go_sem,simprocAttr]
   refine Zp rfl rfl rfl ?_
   refine Za tok rfl rfl ?_
   simp only [go_sem,simprocAttr,hne,hpc]
   have hfl1:flat [AV.agg [.int .i64 p.level,.sl 1 [] .full,.sl 1 [] .full]] = [.int .i64 p.level,.sl 1 [] .full,.sl 1 [] .full]:=rfl
   rw [hfl1]
   refine ⟨rfl,ZQ (by omega),?_⟩
   refine Za tok rfl rfl ?_
   simp only [go_sem,simprocAttr,hne,hpc]
   have hba:ZR Tryz.prog 135 [.sl 1 [Zw [z]] .any] (.bool (Zd4 [[z]])):=ZmP [[z]] (by simp)
   have hbf:Zd4 [[z]] = false:=rfl
   refine ZH (Zb Tryz.func135 rfl rfl) (hba) hn hT rfl ?_
   simp only [go_sem,simprocAttr]
   refine Zn rfl rfl (by simp only [go_sem,simprocAttr,hbf]) ?_
   refine ZM rfl ?_
   have hs2:∀ L,PC Tryz.prog (n + 1) 136 [.ptr l b 0,.sl 1 [Zw [z]] .any] (full n L G) (.int .i64 z):=hst2
   refine YX tok mixed drawO rfl rfl rfl ?_
   simp only [go_sem,simprocAttr,hne,hpc]
   refine XZ (Zb Tryz.func136 rfl rfl) (hs2 _) (by simp only [go_sem,simprocAttr]) ?_
   have hl0:lookA ⟨.int .i64,1,8,[.int .i64 0]⟩ (AV.int .i64 z) [] false = .int .i64 0:=rfl
   have hw0:IntKind.i64.wrap (0 + p.weight) = p.weight:=by rw [Int.zero_add,IntWalk.i64_in _ (by omega)]
   have hput:Zbn (AV.int .i64 z) (AV.int .i64 p.weight) [] = Y3 [(z,p.weight)]:=rfl
   have hkz:Yv tt 3 (AV.int .i64 z) = true:=rfl
   simp only [go_sem,simprocAttr,hne,hpc,hl0,hw0,hput]
   refine ⟨rfl,rfl,?_⟩
   refine Za tok rfl rfl ?_
   simp only [go_sem,simprocAttr]
   have hsw:SmW [(z,p.weight)]:=⟨by simp,fun q hq=>by simp only [List.mem_singleton] at hq; subst hq; show _ ≤ p.weight ∧ p.weight ≤ _; omega⟩
   have htw:Xi [(z,p.weight)] = p.weight:=by simp [Xi]
   refine XZ (Zb Tryz.func137 rfl rfl) (Zle (n + 1) _ n 50 [(z,p.weight)] (Nat.lt_succ_self n) hsw (by simp only [go_sem,simprocAttr])) (by simp only [go_sem,simprocAttr]) ?_
   simp only [go_sem,simprocAttr,htw]
   have hnb:¬ (1048576 < p.weight):=by omega
   refine Zn rfl rfl (by simp only [go_sem,simprocAttr,hnb]) ?_
   refine ZM rfl ?_
   have hwz:IntKind.i64.wrap 0 = 0:=rfl
   refine Za tok rfl rfl ?_
   simp only [go_sem,simprocAttr,hwz]
   refine Za tok rfl rfl ?_
   simp only [go_sem,simprocAttr]
   refine XZ (Zb Tryz.func138 rfl rfl) (a138 (n + 1) _ n 50 [(z,p.weight)] (Nat.lt_succ_self n) (by simp) (by simp only [go_sem,simprocAttr]) (by simp) (fun q hq=>by simp only [List.mem_singleton] at hq; subst hq; exact hz)) (by simp only [go_sem,simprocAttr]) ?_
   have hsl:VN [(z,p.weight)] = [z]:=rfl
   have hsp:J5 [(z,p.weight)] = [p.weight]:=by simp [J5,hsl,getM]
   simp only [go_sem,simprocAttr,hsl,hsp]
   refine Za tok rfl rfl ?_
   simp only [go_sem,simprocAttr]
   refine Zt rfl ?_
   unfold o71
   refine Zg ?_ ?_ ?_ ?_ <;> repeat' first|exact trivial|refine q0 ?_|exact qb|exact q1|exact q2|exact q3|exact rfl|refine And.intro ?_ ?_|exact qA rfl|exact Inside.ptr _ _ _ (.inr ⟨rfl,rfl⟩)|exact Tm.ins _|exact Tm.Zj _ _|exact Am.ins _|exact Am.Zj _ _|refine Zd ?_|refine Tm.Zc ?_|refine Am.Zc ?_
   all_goals first | exact Inside.ptr _ _ _ (.inl hl) | exact YE (.inl hl) | exact YE (.inr ⟨rfl,rfl⟩) | exact (Zz _).inside | skip
  ·have hi1:i = 1:=by omega
   subst hi1
   refine Yi rfl ?_
   refine Za tok rfl rfl ?_
   simp only [go_sem,simprocAttr]
   refine Zn rfl rfl rfl ?_
   refine Yh rfl rfl rfl rfl ?_
   refine Zt rfl ?_
   refine ⟨rfl,?_⟩
   refine Vh (tm':=[(2,.sl 3 ([(⟨p.level,[z],[p.weight]⟩:GM)].map GM.enc) .any)]) (j:=200) ([(⟨p.level,[z],[p.weight]⟩:GM)].map GM.enc) rfl rfl rfl (fun x hx=>?_) (fun c hc=>?_) (fun q hq=>?_) (fun q hq=>?_)
   ·simp only [List.map_cons,List.map_nil,List.mem_singleton] at hx; subst hx; rfl
   ·simp only [List.mem_cons,List.not_mem_nil,or_false] at hc
    rcases hc with rfl | rfl | rfl
    ·exact .int _ _
    ·exact (Zz _).inside
    ·exact (Zz _).inside
   ·simp only [List.mem_singleton] at hq; subst hq
    exact .inr ⟨3,rfl,rfl⟩
   ·simp [delb] at hq
 ·refine Za tok rfl rfl ?_
  simp only [go_sem,simprocAttr]
  refine Zi rfl rfl ?_
  exact Ze (.refl _) (WE [(⟨p.level,[z],[p.weight]⟩:GM)]) rfl
end Go.Proofs.YthgbkalgmicniaaGreatDoor

/- The names of the table's atoms: a slice that may grow. -/
namespace Go.Abs
theorem Zfy {cx:Cx} {c:Code} {k:List Itm} {Q:Exit → Zh → Prop} {tm:List (Nat × AV)} {L:List (Nat × Zk)} {H:Zf} {k0:Nat} (t l j e sz:Nat) (hl:l < cx.n) (ht:lkv tm t = .sl k0 [] .full) (hj:H l j = none)
  (h:AKc cx (.code c :: k) Q ⟨(t,.sl sz [] (.buf l j)) :: tm,L,H.upd l j (.buf e sz 0)⟩):AKc cx (.code c :: k) Q ⟨tm,L,H⟩:=by
 have hne:¬ l = cx.n:=by omega
 have:=Je (n:=cx.n) (N:=cx.N) (tm:=tm) (L:=L) (H:=H) (l:=l) (j:=j) e sz false (Nat.le_of_lt hl) ht (by unfold full; rw [if_neg hne]; exact hj)
 simp only [ZbS,setH,hne,if_false,Bool.false_eq_true] at this
 exact Yx this h
end Go.Abs
namespace Go.Proofs.YthgbkalgmicniaaGreatDoor
open Go.Abs
set_option maxRecDepth 100000
def Zlr (l:List Am) (l2 k2:Nat) (H:Zf) (i:Nat):Zh :=
 ⟨[(10,.int .i64 i),(9,.int .i64 l.length),(8,.sl 2 (l.map Am.enc) .any),(5,.sl 1 (((l.take i).map Y1).map .str) (.buf l2 k2)),(1,.fn (.func 17) [])],[],H.upd l2 k2 (.buf 9 1 i)⟩
theorem b65 (n:Nat) (H:Zf) (l:List Am) (hl:l.length ≤ 1000000) (hg:∀ a ∈ l,a.Good) (hT:Tabs H) (l2 k2:Nat) (hl2:l2 < n) (h0:0 < l2) (hf:H l2 k2 = none) :
  Zr Tryz.prog n 65 [.sl 2 (l.map Am.enc) .any,.fn (.func 17) []] H fun r H'=>r = .sl 1 ((l.map Y1).map .str) (.buf l2 k2) ∧ H' = H.upd l2 k2 (.buf 9 1 l.length):=by
 have hne:¬ l2 = n:=by omega
 have hn:0 < n:=by omega
 have hfi:∀ q,Inside n q (.fn (.func 17) []):=fun q=>(show Below n (.fn (.func 17) []) from VW trivial).inside
 have hbs:∀ m,l2 < m → ∀ p:List (List UInt8),Below m (.sl 1 (p.map AV.str) (.buf l2 k2)):=fun m hm p=>ZV (fun x hx=>by obtain ⟨u,_,rfl⟩:=List.mem_map.1 hx; exact .str _) (fun _ _ e=>by cases e; exact hm)
 have hbb:∀ i,Zk.Below n (.buf 9 1 i):=fun i=>⟨by simp [Zk.avs],by simp [Zk.at_]⟩
 have hupd:∀ a b,(H.upd l2 k2 a).upd l2 k2 b = H.upd l2 k2 b:=fun a b=>WT H l2 k2 a b
 have hTi:∀ b,Tabs (H.upd l2 k2 b):=fun b=>Tabs.up hT fun k=>Zf.upd_ne _ _ (by omega)
 refine Zm tok (Zb Tryz.func65 rfl rfl) (by simp) fun B=>?_
 refine Za tok rfl rfl ?_
 simp only [go_sem,simprocAttr]
 refine Za tok rfl rfl ?_
 simp only [go_sem,simprocAttr]
 refine Za tok rfl rfl ?_
 simp only [go_sem,simprocAttr]
 repeat refine kn rfl ?_
 refine Zfy 5 l2 k2 9 1 hl2 rfl hf ?_
 refine Zy (Zlr l l2 k2 H) l.length rfl ?_ ?_
 ·unfold Zlr
  refine Zg ?_ ?_ ?_ ?_ <;> repeat' first|exact trivial|refine q0 ?_|exact qb|exact q1|exact q2|exact q3|exact rfl|refine And.intro ?_ ?_|exact qA rfl|exact Inside.ptr _ _ _ (.inr ⟨rfl,rfl⟩)|exact Tm.ins _|exact Tm.Zj _ _|exact Am.ins _|exact Am.Zj _ _|refine Zd ?_|refine Tm.Zc ?_|refine Am.Zc ?_
  all_goals first | exact hfi _ | exact (ZO _).inside | exact (hbs n hl2 []).inside | skip
 intro i hi
 refine Yi rfl ?_
 unfold Zlr
 rcases Nat.lt_or_ge i l.length with h | h
 ·have hmin:(l.take i).length = i:=List.length_take_of_le (by omega)
  have hs1:∀ L,full n L (H.upd l2 k2 (.buf 9 1 i)) l2 k2 = some (.buf 9 1 i):=fun L=>by rw [ZL hl2,Zf.upd_same]
  have hga:=hg _ (List.getElem_mem h)
  refine Za tok rfl rfl ?_
  simp only [go_sem,simprocAttr,h]
  refine Zp rfl rfl rfl ?_
  refine Za tok rfl rfl ?_
  simp only [go_sem,simprocAttr,getD_map Am.enc _ _ h,h]
  refine Za tok rfl rfl ?_
  simp only [go_sem,simprocAttr]
  refine ZH (Zb Tryz.func17 rfl rfl) (Zjx l[i] hga) hn (hTi _) (by simp only [go_sem,simprocAttr]) ?_
  simp only [go_sem,simprocAttr,hmin,hne,Zf.upd_same]
  refine ⟨rfl,⟨ZQ (by omega),by omega⟩,.inr (hbb _),?_⟩
  rw [hupd]
  refine Za tok rfl rfl ?_
  simp only [go_sem,simprocAttr]
  refine Zt rfl ?_
  refine Zg ?_ ?_ ?_ ?_ <;> repeat' first|exact trivial|refine q0 ?_|exact qb|exact q1|exact q2|exact q3|exact rfl|refine And.intro ?_ ?_|exact qA rfl|exact Inside.ptr _ _ _ (.inr ⟨rfl,rfl⟩)|exact Tm.ins _|exact Tm.Zj _ _|exact Am.ins _|exact Am.Zj _ _|refine Zd ?_|refine Tm.Zc ?_|refine Am.Zc ?_
  ·simp only [go_sem,simprocAttr]
   rw [IntWalk.i64_in _ (by omega)]; exact .refl _
  ·simp only [go_sem,simprocAttr,List.take_succ_eq_append_getElem h,List.map_append]
   exact .refl _
  all_goals first | exact hfi _ | exact (ZO _).inside | exact (hbs n hl2 _).inside | skip
 ·refine Za tok rfl rfl ?_
  simp only [go_sem,simprocAttr,Nat.not_lt.2 h]
  refine Zn rfl rfl rfl ?_
  refine Yh rfl rfl rfl rfl ?_
  have hi':i = l.length:=by omega
  subst hi'
  refine Za tok rfl rfl ?_
  simp only [go_sem,simprocAttr,List.take_length]
  refine Zi rfl rfl ?_
  exact ZP (.refl _) (hbs n hl2 _) ⟨rfl,rfl⟩
end Go.Proofs.YthgbkalgmicniaaGreatDoor

/- Plain instances, without aggregates, bounds and weights: one rule each. No program. -/
namespace Go.Abs
open Go.Proofs.YthgbkalgmicniaaGreatDoor
structure Pln (x:Ins):Prop where
 k:x.kind = 1 ∨ (x.kind = 2 ∧ x.heads ≠ [])
 lo:x.lower = -1
 up:x.upper = -1
 b:∀ b ∈ x.body,b.kind = 1
def Zdz (M:List (List UInt8 × Int)) (n:Nat) (s:St) (l:List Ins):St:=l.foldl (Zba M n) s
theorem Zel (M:List (List UInt8 × Int)) (n:Nat) (s:St) (l:List Ins) (x:Ins):Zdz M n s (l ++ [x]) = Zba M n (Zdz M n s l) x:=by simp [Zdz]
theorem Zii (M:List (List UInt8 × Int)) (n:Nat) (s:St) (l:List Ins) (i:Nat) (h:i < l.length):Zdz M n s (l.take (i + 1)) = Zba M n (Zdz M n s (l.take i)) l[i]:=by
 rw [List.take_succ_eq_append_getElem h,Zel]
def costs (l:List Ins):Nat:=(l.map ZbI).sum
theorem Zgh (l:List Ins) (x:Ins):costs (l ++ [x]) = costs l + ZbI x:=by simp [costs]
theorem Zjo {M:List (List UInt8 × Int)} (hsm:SmN M) {n:Nat} {s:St} {k:Int} (hs:s.Fit k):∀ {l:List Ins},(∀ x ∈ l,∀ b ∈ x.body,BOk b) → k + (costs l:Nat) ≤ 300000 → (Zdz M n s l).Fit (k + (costs l:Nat)):=by
 intro l
 induction l using WU with
 | nil=>intro _ _; simpa [Zdz,costs] using hs
 | snoc p x ih =>
  intro h hk
  rw [Zgh] at hk ⊢
  rw [Zel]
  have hc:V4 x.body ≤ ZbI x:=by unfold ZbI; omega
  exact (Zhy hsm (ih (fun y hy=>h y (by simp [hy])) (by omega)) (h x (by simp)) (by omega)).mono (by omega)
end Go.Abs

/- The example of the chapter. No program. -/
namespace Go.Abs
open Go.Proofs.YthgbkalgmicniaaGreatDoor
set_option maxRecDepth 100000
def ZcZ (n:Int):Tm:=.mk 1 n [] []
def JO (s:List UInt8):Tm:=.mk 2 0 s []
def exA:Am:=⟨[97],[]⟩
def exB:Am:=⟨[98],[]⟩
def exC:Am:=⟨[99],[]⟩
def exD:Am:=⟨[100],[]⟩
def ZdL (a:Am):GL:=⟨false,a⟩
def ZjP (a:Am):GL:=⟨true,a⟩
def am0:Am:=⟨[],[]⟩
def Zik (l:GL):GB:=⟨1,l,false,0,[],0,0⟩
def exE1:GE:=⟨[ZcZ 2,JO [120]],[ZdL exB]⟩
def exE2:GE:=⟨[ZcZ 3,JO [121]],[ZdL exC]⟩
def exE3:GE:=⟨[ZcZ 3,JO [121]],[ZjP exA]⟩
def exG:GB:=⟨3,⟨false,am0⟩,false,2,[exE1,exE2,exE3],6,3⟩
def exX1:Ins:=⟨1,[exA],-1,-1,[],0,0,[]⟩
def exX2:Ins:=⟨2,[exB,exC],-1,1,[Zik (ZdL exA)],0,0,[]⟩
def exX3:Ins:=⟨1,[exD],-1,-1,[exG],0,0,[]⟩
def exX4:Ins:=⟨3,[],-1,-1,[Zik (ZdL exB)],4,0,[JO [116]]⟩
def exI:List Ins:=[exX1,exX2,exX3,exX4]
def exP:List GR:=[
 ⟨false,[1],false,0,[],[]⟩,
 ⟨true,[2,3],false,0,[1],[]⟩,
 ⟨false,[5],true,2,[2,3],[1,1]⟩,
 ⟨false,[],false,0,[1,5],[]⟩,
 ⟨false,[6],false,0,[3],[]⟩,
 ⟨false,[6],false,0,[-1],[]⟩,
 ⟨false,[4],true,3,[2,6],[2,3]⟩]
theorem ex_sorted:Zo exI = [exA,exB,exC,exD]:=by kernel_rfl
theorem Zlh (n:Nat):Zdz (Xo exI) n ⟨4,[],0⟩ exI = ⟨6,exP,0⟩:=by kernel_rfl
theorem ZiI (n:Nat) (s:St):ZaK (Xo exI) n s exX1 = none:=by kernel_rfl
theorem Zjg (n:Nat) (s:St):ZaK (Xo exI) n s exX2 = none:=by kernel_rfl
theorem Ziu (n:Nat):ZaK (Xo exI) n (Zdz (Xo exI) n ⟨4,[],0⟩ [exX1,exX2]) exX3 = none:=by kernel_rfl
theorem Zln (n:Nat) (s:St):ZaK (Xo exI) n s exX4 = some (exX4.pen [2]):=by kernel_rfl
end Go.Abs
