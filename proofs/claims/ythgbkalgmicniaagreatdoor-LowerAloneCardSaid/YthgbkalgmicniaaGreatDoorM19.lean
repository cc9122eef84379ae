/- An instance: the walk. -/
import Derived.Test.YthgbkalgmicniaaGreatDoorM18
import Derived.Test.YthgbkalgmicniaaGreatDoorM17
set_option linter.all false
namespace Go.Abs
open Go.Proofs.YthgbkalgmicniaaGreatDoor
theorem pick_fit {s:St} {k:Int} (h b:List Int) (hs:s.Fit k):(s.pickRule h b).Fit (k + 1):=by
 unfold St.pickRule
 split
 ·exact hs.mono (by omega)
 ·exact (hs.rule _ _).choose
theorem low_fit {s:St} {k:Int} (x:Ins) (h b:List Int) (hs:s.Fit k):(s.low x h b).Fit (k + 3):=by
 unfold St.low
 split
 ·exact hs.mono (by omega)
 split
 ·exact (hs.rule _ _).mono (by omega)
 ·exact ((hs.aux.sum _ _ _).rule _ _).mono (by omega)
theorem upp_fit {s:St} {k:Int} (x:Ins) (h b:List Int) (hs:s.Fit k):(s.upp x h b).Fit (k + 3):=by
 unfold St.upp
 split
 ·exact hs.mono (by omega)
 split
 ·exact (hs.sum _ _ _).mono (by omega)
 ·exact ((hs.aux.sum _ _ _).rule _ _).mono (by omega)
theorem choice_fit {s:St} {k:Int} (x:Ins) (h:List Int) (l:List Cnd) (hs:s.Fit k):(s.choice x h l).Fit (k + 2 * l.length + 7):=by
 unfold St.choice
 split
 ·split
  ·exact hs.mono (by omega)
  ·exact (emit_fit h l hs).choose.mono (by omega)
 ·exact (upp_fit _ _ _ (low_fit _ _ _ (pick_fit _ _ (lits_fit l hs)))).mono (by omega)
theorem openL_len (l:List Cnd):(openL l).length ≤ l.length:=List.length_filter_le _ _
def costI (x:Ins):Nat:=costB x.body + 2 * x.body.length + 7
theorem instS_fit {M:List (List UInt8 × Int)} (hsm:SmN M) {n:Nat} {s:St} {k:Int} (hs:s.Fit k) {x:Ins} (hb:∀ b ∈ x.body,BOk b) (hk:k + (costB x.body:Nat) ≤ 300000):(instS M n s x).Fit (k + (costI x:Nat)):=by
 obtain ⟨_,h2⟩:=itemsB_at (n:=n) hsm hs hb hk
 have hl:=openL_len (itemsB M n s x.body).1
 rw [itemsB_len] at hl
 unfold instS costI
 split
 ·exact h2.mono (by omega)
 split
 ·exact (emit_fit _ _ h2).mono (by unfold openB; omega)
 split
 ·exact (choice_fit _ _ _ h2).mono (by unfold openB; omega)
 split
 ·exact (lits_fit _ h2).mono (by unfold openB; omega)
 ·exact h2.mono (by omega)
structure InsOk (x:Ins):Prop where
 g:x.Good
 v:validI x = true
 hl:x.heads.length ≤ 10000
 bl:x.body.length ≤ 10000
 c:costB x.body ≤ 100000
 b:∀ b ∈ x.body,BOk b
 ts:GoodTs x.tuple
theorem lkb_appendL {L':List (Nat × ABlk)} {k:Nat} {x:ABlk}:∀ {L:List (Nat × ABlk)},lkb L k = some x → lkb (L ++ L') k = some x
 | (i,b) :: r,h=>by
  simp only [List.cons_append,lkb] at h ⊢
  split
  ·rename_i e; rw [if_pos e] at h; exact h
  ·rename_i e; rw [if_neg e] at h; exact lkb_appendL h
theorem kept_pend {n o:Nat} {p:List Cnd} {L:List (Nat × ABlk)} (h:ItAt n o p) (hL:∀ k x,1000 ≤ k → lkb (pendL p) k = some x → lkb L k = some x):AllP (fun q=>lkb L q.1 = some q.2) (pendL p):=allP_of fun q hq=>by
 obtain ⟨w,h1,l,m,h2⟩:=pendL_mem h hq
 obtain ⟨j,_,_,h3⟩:=ItAt_mem h h2
 rw [h1]
 exact hL q.1 _ (by have:=h3.2.1; omega) (lkb_pend h h2)
theorem ins_pend {n m o:Nat} {p:List Cnd} {q:Nat → Prop} (h:ItAt m o p):AllP (fun x:Nat × ABlk=>x.2.Inside n q) (pendL p):=allP_of fun x hx=>by
 obtain ⟨w,h1,_⟩:=pendL_mem h hx
 rw [h1]
 exact ⟨fun a ha=>((below_encW (n:=n) w).1 a ha).inside,by simp [ABlk.at_]⟩
theorem callWB {cx:Cx} {o:Oper} {args:List Operand} {ts:List TypeId} {tm:List (Nat × AV)} {L:List (Nat × ABlk)} {H:AHeap} {l b:Nat} {F:Fr} {s s':St} {K:AState → Prop} {f:FuncId} {fn:Func} {c:Code} {r:AV} {avs:List AV}
  (hl:l < cx.n) (hF:F.bel cx.n) (hf:Fun cx.P f fn c) (h:ACalls cx.P (cx.n + 1) f avs (bxH (full cx.n L H) l b F s) fun r' H'=>r' = r ∧ H' = bxH (full cx.n L H) l b F s')
  (ha:argsA cx.T (evT tm) args ts = avs) (hk:K ⟨putT tm o.dst r,L,bxH H l b F s'⟩):CallWG cx o (.func f) args ts ⟨tm,L,bxH H l b F s⟩ K:=by
 have hne:l ≠ cx.n:=by omega
 refine ⟨f,fn,c,[],r,L,bxH H l b F s',rfl,hf,?_,out_bxH hF hl _ _,hk⟩
 rw [List.append_nil,ha]
 show ACalls _ _ _ _ (full cx.n L (bxH H l b F s)) _
 rw [full_bxH hne,full_bxH hne]; exact h
theorem full_penH {n l b kk:Nat} (h:l ≠ n) (L:List (Nat × ABlk)) (H:AHeap) (p:Pen):full n L (penH H l b kk p) = penH (full n L H) l b kk p:=by
 unfold penH; rw [full_upd _ _ _ _ _ _ h,full_upd _ _ _ _ _ _ h,full_upd _ _ _ _ _ _ h]
theorem Pen.bcs {n:Nat} (p:Pen):AllP (fun c=>Below n c) p.cs:=⟨.int _ _,.int _ _,below_tms _,below_sla (fun y hy=>by simp only [List.map_cons,List.map_nil,List.mem_singleton] at hy; subst hy; exact below_sInts _),trivial⟩
theorem Fr.bel.one {F:Fr} {n l b:Nat} (h:F.bel n) (hl:l < n):(F.one l b).bel n:=by
 obtain ⟨g1,g2,g3,g4,_⟩:=h
 exact ⟨g1,g2,.msl _ _ _ _ hl,g4,trivial⟩
theorem out_pen {n l b kk:Nat} {F:Fr} {H:AHeap} (hF:F.bel n) (hl:l < n) (s s':St) (p:Pen):OutStep n (bxH H l b F s) (bxH (penH H l b kk p) l b (F.one l b) s'):=fun l' k' y hy hb=>by
 by_cases c1:l' = l ∧ k' = b
 ·obtain ⟨rfl,rfl⟩:=c1
  rw [bxH_box] at hb; cases hb
  exact .inr (below_bxC (hF.one hl) hl s')
 by_cases c2:l' = l ∧ k' = b + 1
 ·obtain ⟨rfl,rfl⟩:=c2
  rw [bxH_rules] at hb; cases hb
  exact .inr (below_bxR s')
 rw [bxH_ne c1 c2] at hb ⊢
 unfold penH at hb
 by_cases c3:l' = l ∧ k' = b + 2
 ·obtain ⟨rfl,rfl⟩:=c3
  rw [AHeap.upd_same] at hb; cases hb
  exact .inr ⟨fun a ha=>by simp only [ABlk.avs,List.mem_singleton] at ha; subst ha; exact .ptr _ _ _ hl,by simp [ABlk.at_]⟩
 rw [AHeap.upd_ne _ _ c3] at hb
 by_cases c4:l' = l ∧ k' = kk
 ·obtain ⟨rfl,rfl⟩:=c4
  rw [AHeap.upd_same] at hb; cases hb
  refine .inr ⟨fun a ha=>?_,by simp [ABlk.at_]⟩
  simp only [ABlk.avs,List.map_cons,List.map_nil,List.cons_append,List.nil_append,List.mem_cons,List.not_mem_nil,or_false] at ha
  rcases ha with rfl | rfl
  ·exact .str _
  ·exact .ptr _ _ _ hl
 rw [AHeap.upd_ne _ _ c4] at hb
 by_cases c5:l' = l ∧ k' = b + 10
 ·obtain ⟨rfl,rfl⟩:=c5
  rw [AHeap.upd_same] at hb; cases hb
  exact .inr (ABlk.below_box p.bcs)
 rw [AHeap.upd_ne _ _ c5] at hb
 exact .inl hb
theorem NoPen.full {H:AHeap} {l b kk n:Nat} {F:Fr} (h:NoPen H l b kk F) (hl:l < n) (L:List (Nat × ABlk)):NoPen (full n L H) l b kk F :=
 ⟨h.pn,h.kn,by rw [full_low hl]; exact h.p,by rw [full_low hl]; exact h.k,by rw [full_low hl]; exact h.f,h.d⟩
end Go.Abs
namespace Go.Proofs.YthgbkalgmicniaaGreatDoor
open Go.Abs
set_option maxRecDepth 100000
def tm70 (n l b:Nat) (x:Ins) (p:List Cnd) (i:Nat):List (Nat × AV) :=
 [(13,.int .i64 i),(12,.int .i64 x.body.length),(11,.sl 9 (x.body.map GB.enc) .any),(4,.sl 1 (p.map Cnd.enc) (.buf n 200)),(3,.ptr n 3 0),(0,.ptr l b 0)]
def L70 (x:Ins) (p:List Cnd):List (Nat × ABlk):=(3,.box x.cs) :: (200,.buf 260 1 p.length) :: pendL p
def s70 (n l b:Nat) (M:List (List UInt8 × Int)) (H:AHeap) (F:Fr) (s:St) (x:Ins) (i:Nat):AState :=
 ⟨tm70 n l b x (itemsB M n s (x.body.take i)).1 i,L70 x (itemsB M n s (x.body.take i)).1,bxH H l b F (itemsB M n s (x.body.take i)).2⟩
def op70a:Opt:=⟨true,false,fun d=>if d = 29 then .heap else .auto,[]⟩
theorem ins_cnd {n:Nat} {q:Nat → Prop} {p:List Cnd} {o:Nat} (h:ItAt n o p) (hq:∀ l k w m,Cnd.pend l k w m ∈ p → q k) {c:Cnd} (hc:c ∈ p):Inside n q c.enc:=by
 obtain ⟨i,h1,h2,h3⟩:=ItAt_mem h hc
 cases c with
 | lit x=>exact .ifc _ _ (.int _ _)
 | con x=>exact .ifc _ _ (.bool _)
 | pend l' k' w m =>
  obtain ⟨rfl,rfl,_⟩:=h3
  refine .ifc _ _ (.agg _ fun i hi=>?_)
  exact (show AllP (fun c=>Inside l' q c) [.map l' (1000 + _),.int .i64 m] from ⟨.map _ _ (.inr ⟨rfl,hq _ _ _ _ hc⟩),.int _ _,trivial⟩).mem _ (List.getElem_mem hi)
theorem ins_cnds {n k:Nat} {q:Nat → Prop} {p:List Cnd} {o:Nat} (h:ItAt n o p) (hq:∀ l k w m,Cnd.pend l k w m ∈ p → q k) {ow:Own} (hj:∀ l j,ow = .buf l j → l = n ∧ q j):Inside n q (.sl k (p.map Cnd.enc) ow) :=
 .sl _ _ _ (fun i hi j hj=>by
  have hm:((p.map Cnd.enc)[i]).cells[j] ∈ ((p.map Cnd.enc)[i]).cells:=List.getElem_mem hj
  have hi':i < p.length:=by simpa using hi
  have he:(p.map Cnd.enc)[i] = (p[i]).enc:=by simp
  simp only [he] at hm ⊢
  simp only [Cnd.cells_enc,List.mem_singleton] at hm ⊢
  rw [hm]
  exact ins_cnd h hq (List.getElem_mem hi')) (fun l j e=>.inr (hj l j e))
theorem ins_sub {n k:Nat} {q:Nat → Prop} {p p':List Cnd} {o:Nat} (h:ItAt n o p) (hp:∀ c ∈ p',c ∈ p) (hq:∀ l k w m,Cnd.pend l k w m ∈ p → q k) {ow:Own} (hj:∀ l j,ow = .buf l j → l = n ∧ q j):Inside n q (.sl k (p'.map Cnd.enc) ow) :=
 .sl _ _ _ (fun i hi j hj=>by
  have hm:((p'.map Cnd.enc)[i]).cells[j] ∈ ((p'.map Cnd.enc)[i]).cells:=List.getElem_mem hj
  have hi':i < p'.length:=by simpa using hi
  have he:(p'.map Cnd.enc)[i] = (p'[i]).enc:=by simp
  simp only [he] at hm ⊢
  simp only [Cnd.cells_enc,List.mem_singleton] at hm ⊢
  rw [hm]
  exact ins_cnd h hq (hp _ (List.getElem_mem hi'))) (fun l j e=>.inr (hj l j e))
theorem delb_pend {n j:Nat} (hk:j < 1000):∀ {p:List Cnd} {o:Nat},ItAt n o p → delb (pendL p) j = pendL p
 | [],_,_=>rfl
 | a :: r,o,h=>by
  have ih:=delb_pend hk h.2
  cases a with
  | lit x=>exact ih
  | con x=>exact ih
  | pend l' k' w m' =>
   have h4:=h.1.2.1
   simp only [pendL,delb] at ih ⊢
   first | (rw [if_neg (by omega),ih]) | (rw [List.filter_cons_of_pos (by simp; omega),ih])
theorem validI_bd {x:Ins} (h:validI x = true):(1 ≤ x.kind ∧ x.kind ≤ 3) ∧ (-1 ≤ x.lower ∧ x.lower ≤ 1048576) ∧ (-1 ≤ x.upper ∧ x.upper ≤ 1048576) ∧ (0 ≤ x.weight ∧ x.weight ≤ 1048576) ∧ (-2147483647 ≤ x.level ∧ x.level ≤ 2147483647) ∧ x.tuple.all valueT = true ∧ (∀ a ∈ x.heads,validA a = true) ∧ ∀ b ∈ x.body,badB b = false:=by
 simp only [validI,wOk,Bool.and_eq_true,decide_eq_true_eq,Bool.not_eq_true',List.any_eq_false] at h
 obtain ⟨⟨⟨⟨⟨⟨⟨⟨⟨h1,h2⟩,h3,h4⟩,h5,h6⟩,h7,h8⟩,h9⟩,h10⟩,h11⟩,h12⟩,h13⟩:=h
 refine ⟨⟨h1,h2⟩,⟨h3,h4⟩,⟨h5,h6⟩,⟨h7,h8⟩,⟨h9,h10⟩,List.all_eq_true.2 fun t ht=>by simpa using h11 t ht,fun a ha=>by simpa using h12 a ha,fun b hb=>by simpa using h13 b hb⟩
def op70b:Opt:=⟨true,true,fun d=>if d = 72 then .pure else if d = 75 then .call else if d = 76 then .call else .auto,[]⟩
theorem pend_in {n o:Nat} {p:List Cnd} (h:ItAt n o p) {L:List (Nat × ABlk)} (hL:∀ k x,1000 ≤ k → lkb (pendL p) k = some x → lkb L k = some x):∀ l k w m,Cnd.pend l k w m ∈ p → (lkb L k).isSome = true:=fun l k w m hc=>by
 obtain ⟨j,_,_,h3⟩:=ItAt_mem h hc
 rw [hL k _ (by have:=h3.2.1; omega) (lkb_pend h hc)]; rfl
theorem b70 (n:Nat) (H:AHeap) (l b kk:Nat) (F:Fr) (s:St) (hl:l < n) (h0:0 < l) (hF:F.bel n) (hs:s.Fit 100000) (lm km:Nat) (M:List (List UInt8 × Int)) (hnum:F.num = .map lm km) (hlm:lm < n) (hd1:¬(lm = l ∧ km = b)) (hd2:¬(lm = l ∧ km = b + 1))
  (hM:H lm km = some (.map (encN M))) (hsm:SmN M) (hT0:Tabs H) (x:Ins) (hx:InsOk x) (hN:∀ p,instP M n s x = some p → NoPen H l b kk F) :
  ACalls Tryz.prog n 70 [.ptr l b 0,x.enc] (bxH H l b F s) fun r H'=>r = .tup [] ∧ H' = match instP M n s x with | none=>bxH H l b F (instS M n s x) | some p=>bxH (penH H l b kk p) l b (F.one l b) (instS M n s x):=by
 have hne:¬ l = n:=by omega
 have hn:0 < n:=by omega
 have hbl:=hx.bl
 have hat:∀ i,ItAt n 0 (itemsB M n s (x.body.take i)).1 ∧ (itemsB M n s (x.body.take i)).2.Fit 200000:=fun i=>by
  have hc:costB (x.body.take i) ≤ costB x.body:=by
   conv=>rhs; rw [← List.take_append_drop i x.body]
   unfold costB; rw [List.map_append,List.sum_append]; omega
  have:=hx.c
  obtain ⟨h1,h2⟩:=itemsB_at (n:=n) (l:=x.body.take i) hsm hs (fun b hb=>hx.b b (List.mem_of_mem_take hb)) (by omega)
  exact ⟨h1,h2.mono (by omega)⟩
 refine a_fun tok (fun_of Tryz.func70 rfl rfl) (by simp) fun B=>?_
 repeat refine kn rfl ?_
 refine k_region tok rfl (by kernel_rfl) ?_
 simp only [go_sem,simprocAttr]
 repeat refine kn rfl ?_
 refine k_region tok rfl (by kernel_rfl) ?_
 simp only [go_sem,simprocAttr]
 repeat refine kn rfl ?_
 refine k_adopt 4 200 260 1 rfl rfl ?_
 repeat refine kn rfl ?_
 refine k_region tok rfl (by kernel_rfl) ?_
 simp only [go_sem,simprocAttr]
 refine k_cut (s70 n l b M H F s x x.body.length) ?_ ?_
 ·repeat refine kn rfl ?_
  refine k_loop_ix (s70 n l b M H F s x) x.body.length rfl ?_ ?_
  ·unfold s70 tm70 L70
   rw [List.take_zero]
   have e0:itemsB M n s [] = ([],s):=rfl
   simp only [e0,pendL,List.map_nil,List.length_nil]
   refine AWk_kept ?_ ?_ ?_ ?_ <;> repeat' first | exact trivial | refine q0 ?_ | exact qb | exact q1 | exact q2 | exact q3 | exact rfl | refine And.intro ?_ ?_ | exact q4 | exact q5 | exact q6 | exact q7 | exact Inside.ptr _ _ _ (.inr ⟨rfl,rfl⟩) | exact q8 | exact q9 | exact qd | exact Tm.ins _ | exact Tm.inss _ _ | exact Am.ins _ | exact Am.inss _ _ | refine ins_buf_str ?_ | refine Tm.ins_buf ?_ | refine Am.ins_buf ?_ | exact qf
   all_goals first | exact (below_gbs _).inside | exact Inside.ptr _ _ _ (.inl hl) | exact ins_buf (fun _ h=>by cases h) rfl | skip
   all_goals exact 0
  intro i hi
  refine k_st rfl ?_
  obtain ⟨hi1,hi2⟩:=hat i
  have hil:=itemsB_len M n s (x.body.take i)
  rw [List.length_take,Nat.min_eq_left hi] at hil
  rcases Nat.lt_or_ge i x.body.length with h | h
  ·have hbo:=hx.b _ (List.getElem_mem h)
   have hbe:∀ d,(x.body.map GB.enc).getD i d = x.body[i].enc:=fun d=>getD_map GB.enc _ _ h d
   have hsn:itemsB M n s (x.body.take (i + 1)) = stepB M n (itemsB M n s (x.body.take i)) x.body[i]:=by rw [List.take_succ_eq_append_getElem h,itemsB_snoc]
   have hself:s70 n l b M H F s x (i + 1) = ⟨tm70 n l b x (itemsB M n s (x.body.take (i + 1))).1 (i + 1),L70 x (itemsB M n s (x.body.take (i + 1))).1,bxH H l b F (itemsB M n s (x.body.take (i + 1))).2⟩:=rfl
   rw [hself,hsn]
   obtain ⟨y,hy⟩:∃ y,y = x.body[i]:=⟨_,rfl⟩
   rw [← hy] at hbo hbe ⊢
   generalize itemsB M n s (x.body.take i) = ps at *
   obtain ⟨p,s1⟩:=ps
   simp only at hi1 hi2 hil ⊢
   have hp6:lkb (pendL p) 6 = none:=lkb_pend_low (by omega) hi1
   have hs6:∀ X,lkb (setb (pendL p) 6 X) 6 = some X:=fun X=>by rw [lkb_setb,if_pos rfl]
   have hsk:∀ X k,1000 ≤ k → lkb (setb (pendL p) 6 X) k = lkb (pendL p) k:=fun X k hk=>by rw [lkb_setb,if_neg (by omega)]
   unfold tm70 L70
   repeat refine kn rfl ?_
   refine k_region tok rfl (by kernel_rfl) ?_
   simp only [go_sem,simprocAttr,h]
   repeat refine kn rfl ?_
   refine k_cond_t rfl (by simp only [go_sem,simprocAttr]) ?_
   repeat refine kn rfl ?_
   refine k_region tok rfl (by kernel_rfl) ?_
   simp only [go_sem,simprocAttr,hbe,h,hp6,hs6,setb_setb]
   refine k_weak (s':=⟨(6,.ptr n 6 0) :: tm70 n l b x p i,(6,.box y.cs) :: L70 x p,bxH H l b F s1⟩) ?_ ?_
   ·unfold tm70 L70
    refine AWk_kept ?_ ?_ ?_ ?_ <;> repeat' first | exact trivial | refine q0 ?_ | exact qb | exact q1 | exact q2 | exact q3 | exact rfl | refine And.intro ?_ ?_ | exact q4 | exact q5 | exact q6 | exact q7 | exact Inside.ptr _ _ _ (.inr ⟨rfl,rfl⟩) | exact q8 | exact q9 | exact qd | exact Tm.ins _ | exact Tm.inss _ _ | exact Am.ins _ | exact Am.inss _ _ | refine ins_buf_str ?_ | refine Tm.ins_buf ?_ | refine Am.ins_buf ?_ | exact qf
    all_goals first | exact (below_gbs _).inside | exact (below_ges _).inside | exact (below_tms _).inside | exact (below_ams _).inside | exact Inside.ptr _ _ _ (.inl hl) | exact ins_pend hi1 | exact kept_pend hi1 (fun k x hk hx=>by simp only [lkb]; (repeat rw [if_neg (by omega)]); first | exact hx | (rw [hsk _ _ hk]; exact hx)) | exact ins_cnds hi1 (pend_in hi1 (fun k x hk hx=>by simp only [lkb]; (repeat rw [if_neg (by omega)]); exact hx)) (fun l j e=>by cases e; exact ⟨rfl,rfl⟩) | (show lkb _ 6 = some _; simp only [lkb]; (repeat rw [if_neg (by decide)]); rw [hs6]; rfl) | skip
    all_goals exact 0
   unfold tm70 L70
   have hTs:Tabs (bxH H l b F s1):=Tabs.up hT0 fun k=>bxH_lv (by omega)
   have hbx:bxH H l b F s1 l b = some (.box (F.a :: .map lm km :: [.int .i64 s1.n,.msl 6 l (b + 1) s1.rules.length,F.pn,F.kn,.int .i64 s1.err])):=by rw [bxH_box,bxC,hnum]
   have hHM:bxH H l b F s1 lm km = some (.map (encN M)):=by rw [bxH_ne hd1 hd2]; exact hM
   simp only [go_sem,simprocAttr]
   repeat refine kn rfl ?_
   refine k_region tok rfl (by kernel_rfl) ?_
   simp only [go_sem,simprocAttr]
   by_cases hk1:y.kind = 1
   ·have hst:stepB M n (p,s1) y = (p ++ [.lit (litIn M y.lit)],s1):=by rw [stepB,if_pos hk1]
    rw [hst]
    repeat refine kn rfl ?_
    refine k_cond_t rfl (by simp only [go_sem,simprocAttr,hk1]) ?_
    repeat refine kn rfl ?_
    refine k_draw tok mixed op70a rfl rfl (by kernel_rfl) (by kernel_rfl) ?_
    simp only [go_sem,simprocAttr,op70a]
    refine callH (fun_of Tryz.func119 rfl rfl) (b119 (n + 1) _ l b F.a _ lm km M (show l < n + 1 by omega) (show lm < n + 1 by omega) (by show full n _ (bxH H l b F s1) l b = _; rw [full_low hl]; exact hbx) (by show full n _ (bxH H l b F s1) lm km = _; rw [full_low hlm]; exact hHM) hsm (Nat.succ_pos _) (hTs.full hn) y.lit hbo.g.lit) (by simp only [go_sem,simprocAttr]) ?_
    simp only [go_sem,simprocAttr,op70a]
    refine ⟨rfl,⟨le_maxLen (by omega),by omega⟩,?_⟩
    have e2:p.map Cnd.enc ++ [AV.ifc 160 (.int .i64 (litIn M y.lit))] = (p ++ [Cnd.lit (litIn M y.lit)]).map Cnd.enc:=by simp [enc_lit]
    have e3:p.length + 1 = (p ++ [Cnd.lit (litIn M y.lit)]).length:=by simp
    have hi1':ItAt n 0 (p ++ [.lit (litIn M y.lit)]):=ItAt_snoc hi1 (litIn_sm hsm _)
    have hKL:∀ k x,1000 ≤ k → lkb (pendL (p ++ [.lit (litIn M y.lit)])) k = some x → lkb (pendL p) k = some x:=fun k x _ h=>by
     rw [pendL_append,show pendL [Cnd.lit (litIn M y.lit)] = [] from rfl,List.append_nil] at h; exact h
    rw [e2,e3]
    generalize p ++ [Cnd.lit (litIn M y.lit)] = p' at *
    repeat refine kn rfl ?_
    refine k_region tok rfl (by kernel_rfl) ?_
    simp only [go_sem,simprocAttr]
    repeat refine kn rfl ?_
    refine k_nil ?_
    refine AWk_kept ?_ ?_ ?_ ?_ <;> repeat' first | exact trivial | refine q0 ?_ | exact qb | exact q1 | exact q2 | exact q3 | exact rfl | refine And.intro ?_ ?_ | exact q4 | exact q5 | exact q6 | exact q7 | exact Inside.ptr _ _ _ (.inr ⟨rfl,rfl⟩) | exact q8 | exact q9 | exact qd | exact Tm.ins _ | exact Tm.inss _ _ | exact Am.ins _ | exact Am.inss _ _ | refine ins_buf_str ?_ | refine Tm.ins_buf ?_ | refine Am.ins_buf ?_ | exact qf
    ·simp only [go_sem,simprocAttr]
     rw [IntWalk.i64_in _ (by omega)]; exact .refl _
    all_goals first | exact (below_gbs _).inside | exact (below_ges _).inside | exact (below_tms _).inside | exact (below_ams _).inside | exact Inside.ptr _ _ _ (.inl hl) | exact ins_pend hi1' | exact kept_pend hi1' (fun k x hk hx=>by simp only [lkb]; (repeat rw [if_neg (by omega)]); exact hKL k x hk hx) | exact ins_cnds hi1' (pend_in hi1' (fun k x hk hx=>by simp only [lkb]; (repeat rw [if_neg (by omega)]); exact hx)) (fun l j e=>by cases e; exact ⟨rfl,rfl⟩) | skip
    all_goals exact 0
   ·obtain ⟨hk3,hop,hno⟩:y.kind = 3 ∧ y.op = 6 ∧ y.no = false:=by rcases hbo.k with h | h; exact absurd h hk1; exact h
    have hst:stepB M n (p,s1) y = (p ++ [leastC n (1000 + p.length) (collectG y.fn s1 (grps M y.elems)) y.bound],(collectG y.fn s1 (grps M y.elems)).s):=by rw [stepB,if_neg hk1]
    rw [hst]
    have hcon:=fun L (hf:lkb L (1000 + p.length) = none)=>b120 (n + 1) (full n L H) l b F s1 (by omega) h0 (hF.mono (Nat.le_succ n)) (hi2.mono (by omega)) lm km M hnum (by omega) hd1 hd2 (by rw [full_low hlm]; exact hM) hsm (hT0.full hn) y (hbo.e hk3) hbo.el hop hno (hbo.bd hk3) n (1000 + p.length) (Nat.lt_succ_self n) (by simp only [full,if_true]; exact hf) (by omega) (by omega)
    obtain ⟨hwo,_,_⟩:=collect_ok (fn:=y.fn) hsm (hbo.e hk3) hbo.el (hi2.mono (k':=300000) (by omega))
    generalize collectG y.fn s1 (grps M y.elems) = c at *
    have hk1b:(y.kind == 1) = false:=by rw [hk3]; rfl
    repeat refine kn rfl ?_
    refine k_cond_f rfl (by simp only [go_sem,simprocAttr,hk1b]) ?_
    repeat refine kn rfl ?_
    refine k_region tok rfl (by kernel_rfl) ?_
    simp only [go_sem,simprocAttr]
    have hfr:∀ X Y Z,lkb ((6,X) :: (3,Y) :: (200,Z) :: pendL p) (1000 + p.length) = none:=fun X Y Z=>by
     simp only [lkb]; rw [if_neg (by omega),if_neg (by omega),if_neg (by omega)]; exact lkb_pend_new hi1 _ (by omega)
    have hse:∀ X Y Z V,setb ((6,X) :: (3,Y) :: (200,Z) :: pendL p) (1000 + p.length) V = (6,X) :: (3,Y) :: (200,Z) :: (pendL p ++ [(1000 + p.length,V)]):=fun X Y Z V=>by
     simp only [setb]; rw [if_neg (by omega),if_neg (by omega),if_neg (by omega),setb_pend_new _ hi1 _ (by omega)]
    refine callR (caps:=[]) (avs:=[.ptr l b 0,y.enc]) rfl (fun_of Tryz.func120 rfl rfl) (by rw [full_bxH hne]; exact hcon _ (hfr _ _ _)) (by simp only [go_sem,simprocAttr]) ?_
    rintro r H1 ⟨rfl,rfl⟩
    refine ⟨_,bxH H l b F c.s,by rw [← full_setb,hse,full_bxH hne],out_bxH hF hl _ _,?_⟩
    simp only [go_sem,simprocAttr]
    refine ⟨⟨Cnd_one _,le_maxLen (by omega),by omega⟩,?_⟩
    have e2:p.map Cnd.enc ++ [(leastC n (1000 + p.length) c y.bound).enc] = (p ++ [leastC n (1000 + p.length) c y.bound]).map Cnd.enc:=by simp
    have e3:p.length + 1 = (p ++ [leastC n (1000 + p.length) c y.bound]).length:=by simp
    have hatc:AtC n (0 + p.length) (leastC n (1000 + p.length) c y.bound):=by
     unfold leastC
     split
     ·trivial
     split
     ·trivial
     ·exact ⟨rfl,by rw [Nat.zero_add],hwo⟩
    have hi1':ItAt n 0 (p ++ [leastC n (1000 + p.length) c y.bound]):=ItAt_snoc hi1 hatc
    have hKL:∀ k x,1000 ≤ k → lkb (pendL (p ++ [leastC n (1000 + p.length) c y.bound])) k = some x → lkb (pendL p ++ [(1000 + p.length,.map (encW c.w))]) k = some x:=fun k x _ h=>by
     rw [pendL_append] at h
     unfold leastC at h
     split at h
     ·rw [show pendL [Cnd.con true] = [] from rfl,List.append_nil] at h; exact lkb_appendL h
     split at h
     ·rw [show pendL [Cnd.con false] = [] from rfl,List.append_nil] at h; exact lkb_appendL h
     ·exact h
    rw [e2,e3]
    generalize p ++ [leastC n (1000 + p.length) c y.bound] = p' at *
    repeat refine kn rfl ?_
    refine k_region tok rfl (by kernel_rfl) ?_
    simp only [go_sem,simprocAttr]
    repeat refine kn rfl ?_
    refine k_nil ?_
    refine AWk_kept ?_ ?_ ?_ ?_ <;> repeat' first | exact trivial | refine q0 ?_ | exact qb | exact q1 | exact q2 | exact q3 | exact rfl | refine And.intro ?_ ?_ | exact q4 | exact q5 | exact q6 | exact q7 | exact Inside.ptr _ _ _ (.inr ⟨rfl,rfl⟩) | exact q8 | exact q9 | exact qd | exact Tm.ins _ | exact Tm.inss _ _ | exact Am.ins _ | exact Am.inss _ _ | refine ins_buf_str ?_ | refine Tm.ins_buf ?_ | refine Am.ins_buf ?_ | exact qf
    ·simp only [go_sem,simprocAttr]
     rw [IntWalk.i64_in _ (by omega)]; exact .refl _
    all_goals first | exact (below_gbs _).inside | exact (below_ges _).inside | exact (below_tms _).inside | exact (below_ams _).inside | exact Inside.ptr _ _ _ (.inl hl) | exact ins_pend hi1' | exact kept_pend hi1' (fun k x hk hx=>by simp only [lkb]; (repeat rw [if_neg (by omega)]); exact hKL k x hk hx) | exact ins_cnds hi1' (pend_in hi1' (fun k x hk hx=>by simp only [lkb]; (repeat rw [if_neg (by omega)]); exact hx)) (fun l j e=>by cases e; exact ⟨rfl,rfl⟩) | skip
    all_goals exact 0
  ·have hi':i = x.body.length:=by omega
   subst hi'
   have hself:s70 n l b M H F s x x.body.length = ⟨tm70 n l b x (itemsB M n s (x.body.take x.body.length)).1 x.body.length,L70 x (itemsB M n s (x.body.take x.body.length)).1,bxH H l b F (itemsB M n s (x.body.take x.body.length)).2⟩:=rfl
   rw [hself]
   generalize itemsB M n s (x.body.take x.body.length) = ps at *
   obtain ⟨p,s1⟩:=ps
   simp only at hi1 hi2 hil ⊢
   unfold tm70 L70
   repeat refine kn rfl ?_
   refine k_region tok rfl (by kernel_rfl) ?_
   simp only [go_sem,simprocAttr,Nat.not_lt.2 h]
   repeat refine kn rfl ?_
   refine k_cond_f rfl (by simp only [go_sem,simprocAttr]) ?_
   repeat refine kn rfl ?_
   refine k_exit_round rfl rfl rfl ?_
   repeat refine kn rfl ?_
   refine k_nil ?_
   refine ⟨rfl,?_⟩
   refine AWk_kept ?_ ?_ ?_ ?_ <;> repeat' first | exact trivial | refine q0 ?_ | exact qb | exact q1 | exact q2 | exact q3 | exact rfl | refine And.intro ?_ ?_ | exact q4 | exact q5 | exact q6 | exact q7 | exact Inside.ptr _ _ _ (.inr ⟨rfl,rfl⟩) | exact q8 | exact q9 | exact qd | exact Tm.ins _ | exact Tm.inss _ _ | exact Am.ins _ | exact Am.inss _ _ | refine ins_buf_str ?_ | refine Tm.ins_buf ?_ | refine Am.ins_buf ?_ | exact qf
   all_goals first | exact (below_gbs _).inside | exact (below_ges _).inside | exact (below_tms _).inside | exact (below_ams _).inside | exact Inside.ptr _ _ _ (.inl hl) | exact ins_pend hi1 | exact kept_pend hi1 (fun k x hk hx=>by simp only [lkb]; (repeat rw [if_neg (by omega)]); exact hx) | exact ins_cnds hi1 (pend_in hi1 (fun k x hk hx=>by simp only [lkb]; (repeat rw [if_neg (by omega)]); exact hx)) (fun l j e=>by cases e; exact ⟨rfl,rfl⟩) | skip
   all_goals exact 0
 obtain ⟨hi1,hi2⟩:=hat x.body.length
 have hil:=itemsB_len M n s (x.body.take x.body.length)
 have hself:s70 n l b M H F s x x.body.length = ⟨tm70 n l b x (itemsB M n s (x.body.take x.body.length)).1 x.body.length,L70 x (itemsB M n s (x.body.take x.body.length)).1,bxH H l b F (itemsB M n s (x.body.take x.body.length)).2⟩:=rfl
 rw [hself]
 rw [List.take_length] at *
 unfold instP instS openB at *
 generalize itemsB M n s x.body = ps at *
 obtain ⟨p,s1⟩:=ps
 simp only at hi1 hi2 hil ⊢
 have hok:∀ L,(∀ k x,1000 ≤ k → lkb (pendL p) k = some x → lkb L k = some x) → ∀ c ∈ p,c.Ok (n + 1) l b (full n L H):=fun L hL c hc=>by
  obtain ⟨j,_,_,h3⟩:=ItAt_mem hi1 hc
  cases c with
  | lit y=>exact h3
  | con y=>trivial
  | pend l' k' w m =>
   obtain ⟨rfl,rfl,hw⟩:=h3
   exact ⟨Nat.lt_succ_self _,hw,by simp only [full,if_true]; exact hL _ _ (by omega) (lkb_pend hi1 hc),by omega,by omega⟩
 have hpb:∀ c ∈ p,Below (n + 1) c.enc:=fun c hc=>cnd_below (hok (pendL p) (fun _ _ _ h=>h) c hc)
 unfold tm70 L70
 repeat refine kn rfl ?_
 refine k_region tok rfl (by kernel_rfl) ?_
 simp only [go_sem,simprocAttr]
 have hset:=fun G=>(a121 (n + 1) G p hpb (by omega)).args (args':=[.sl 1 (p.map Cnd.enc) (.buf n 200)]) ⟨.any _ _ _,trivial⟩
 refine callH (fun_of Tryz.func121 rfl rfl) (hset _) (by simp only [go_sem,simprocAttr]) ?_
 simp only [go_sem,simprocAttr]
 repeat refine kn rfl ?_
 refine k_region tok rfl (by kernel_rfl) ?_
 simp only [go_sem,simprocAttr]
 cases hno:p.any isNo with
 | true =>
  have hse:settledL p = ([],false):=by rw [settledL,if_pos hno]
  simp only [go_sem,simprocAttr,hse]
  repeat refine kn rfl ?_
  refine k_cond_t rfl (by simp only [go_sem,simprocAttr]) ?_
  repeat refine kn rfl ?_
  refine k_ret rfl ?_
  exact ⟨by simp [okRes],[],trivial,by simp,rfl,rfl⟩
 | false =>
  have hse:settledL p = (openL p,true):=by rw [settledL,if_neg (by rw [hno]; decide)]
  simp only [go_sem,simprocAttr,hse]
  repeat refine kn rfl ?_
  refine k_cond_f rfl (by simp only [go_sem,simprocAttr]) ?_
  refine k_skip rfl ?_
  have hTs:Tabs (bxH H l b F s1):=Tabs.up hT0 fun k=>bxH_lv (by omega)
  have hbx:bxH H l b F s1 l b = some (.box (F.a :: .map lm km :: [.int .i64 s1.n,.msl 6 l (b + 1) s1.rules.length,F.pn,F.kn,.int .i64 s1.err])):=by rw [bxH_box,bxC,hnum]
  have hHM:bxH H l b F s1 lm km = some (.map (encN M)):=by rw [bxH_ne hd1 hd2]; exact hM
  have hhl:=hx.hl
  have hmap:∀ L,PC Tryz.prog (n + 1) 123 [.sl 2 (x.heads.map Am.enc) .any,.bfn (.func 124) [.ptr l b 0]] (full n L (bxH H l b F s1)) (sInts (x.heads.map (numOf M))):=fun L=>by
   have hbf:Below (n + 1) (.bfn (.func 124) [.ptr l b 0]):=.bfn _ _ fun i hi=>(show AllP (fun c=>Below (n + 1) c) [.ptr l b 0] from ⟨.ptr _ _ _ (by omega),trivial⟩).mem _ (List.getElem_mem hi)
   exact eb123 (n + 1) x.heads (by omega) 124 [.ptr l b 0] _ _ (fun_of Tryz.func124 rfl rfl) (x.heads.map (numOf M)) (by simp) (fun _=>full n L (bxH H l b F s1)) hbf (below_ams _)
    (fun j hj L2=>ACalls.mono (b124 (n + 1 + 1) (full (n + 1) L2 (full n L (bxH H l b F s1))) l b F.a _ lm km M (by omega) (by omega) (by rw [full_low (show l < n + 1 by omega),full_low hl]; exact hbx) (by rw [full_low (show lm < n + 1 by omega),full_low hlm]; exact hHM) (Nat.succ_pos _) ((hTs.full hn).full (Nat.succ_pos _)) x.heads[j] (hx.g.h _ (List.getElem_mem hj))) (by rintro r H1 ⟨rfl,rfl⟩; exact ⟨by simp,rfl⟩)) (fun _ _=>.refl _ _)
  have hnm:∀ z ∈ x.heads.map (numOf M),SmI z:=fun z hz=>by
   obtain ⟨a,_,rfl⟩:=List.mem_map.1 hz
   have:=numOf_sm hsm a
   unfold SmI; omega
  repeat refine kn rfl ?_
  refine k_draw tok mixed drawO rfl rfl (by kernel_rfl) (by kernel_rfl) ?_
  simp only [go_sem,simprocAttr]
  refine callH (fun_of Tryz.func123 rfl rfl) (hmap _) (by simp only [go_sem,simprocAttr]) ?_
  simp only [go_sem,simprocAttr]
  refine callP (fun_of Tryz.func122 rfl rfl) (a122 (x.heads.map (numOf M)) .any hnm (by rw [List.length_map]; omega)) (by simp only [go_sem,simprocAttr]) ?_
  simp only [go_sem,simprocAttr]
  have hhd:ordL (x.heads.map (numOf M)) = headI M x:=rfl
  have hgl:(headI M x).length ≤ 10000:=by have:=ordL_len (x.heads.map (numOf M)); rw [List.length_map] at this; unfold headI; omega
  have hgm:∀ z ∈ headI M x,SmI z:=fun z hz=>hnm z ((ordL_mem _ z).1 hz)
  rw [hhd]
  generalize headI M x = hd at *
  have hol:=openL_len p
  have hoo:∀ L,(∀ k x,1000 ≤ k → lkb (pendL p) k = some x → lkb L k = some x) → ∀ c ∈ openL p,c.Ok (n + 1) l b (full n L H):=fun L hL c hc=>hok L hL c (List.mem_filter.1 hc).1
  have hL0:∀ X Y,∀ k x,1000 ≤ k → lkb (pendL p) k = some x → lkb ((3,X) :: (200,Y) :: pendL p) k = some x:=fun X Y k x hk h=>by
   simp only [lkb]; rw [if_neg (by omega),if_neg (by omega)]; exact h
  repeat refine kn rfl ?_
  refine k_region tok rfl (by kernel_rfl) ?_
  simp only [go_sem,simprocAttr]
  repeat refine kn rfl ?_
  refine k_region tok rfl (by kernel_rfl) ?_
  simp only [go_sem,simprocAttr]
  by_cases c1:x.kind = 1
  ·simp only [if_pos c1]
   repeat refine kn rfl ?_
   refine k_cond_t rfl (by simp only [go_sem,simprocAttr,c1]) ?_
   repeat refine kn rfl ?_
   refine k_region tok rfl (by kernel_rfl) ?_
   simp only [go_sem,simprocAttr]
   refine callB hl hF (fun_of Tryz.func125 rfl rfl) (b125 (n + 1) _ l b F s1 (by omega) (hF.mono (Nat.le_succ n)) (hi2.mono (by omega)) hd .any hgm (by omega) (openL p) (hoo _ (hL0 _ _)) (by omega)) (by simp only [go_sem,simprocAttr]) ?_
   simp only [go_sem,simprocAttr]
   repeat refine kn rfl ?_
   exact k_nil ⟨by simp [okRes],[],trivial,by simp,rfl,rfl⟩
  ·obtain ⟨v1,v2,v3,v4,v5,v6,v7,v8⟩:=validI_bd hx.v
   have c1b:(x.kind == 1) = false:=by simpa using c1
   simp only [if_neg c1]
   repeat refine kn rfl ?_
   refine k_cond_f rfl (by simp only [go_sem,simprocAttr,c1b]) ?_
   repeat refine kn rfl ?_
   refine k_region tok rfl (by kernel_rfl) ?_
   simp only [go_sem,simprocAttr]
   by_cases c2:x.kind = 2
   ·simp only [if_pos c2]
    repeat refine kn rfl ?_
    refine k_cond_t rfl (by simp only [go_sem,simprocAttr,c2]) ?_
    repeat refine kn rfl ?_
    refine k_region tok rfl (by kernel_rfl) ?_
    simp only [go_sem,simprocAttr]
    refine callB hl hF (fun_of Tryz.func126 rfl rfl) (b126 (n + 1) _ l b F s1 (by omega) (hF.mono (Nat.le_succ n)) (hi2.mono (by omega)) x hd hgm (by omega) (openL p) (hoo _ (hL0 _ _)) (by omega) v2 v3) (by simp only [go_sem,simprocAttr]) ?_
    simp only [go_sem,simprocAttr]
    repeat refine kn rfl ?_
    exact k_nil ⟨by simp [okRes],[],trivial,by simp,rfl,rfl⟩
   ·have c2b:(x.kind == 2) = false:=by simpa using c2
    have c3:x.kind = 3:=by omega
    simp only [if_neg c2]
    repeat refine kn rfl ?_
    refine k_cond_f rfl (by simp only [go_sem,simprocAttr,c2b]) ?_
    repeat refine kn rfl ?_
    refine k_region tok rfl (by kernel_rfl) ?_
    simp only [go_sem,simprocAttr]
    repeat refine kn rfl ?_
    refine k_cond_t rfl (by simp only [go_sem,simprocAttr,c3]) ?_
    repeat refine kn rfl ?_
    refine k_region tok rfl (by kernel_rfl) ?_
    simp only [go_sem,simprocAttr]
    by_cases c4:0 < x.weight
    ·simp only [if_pos c4]
     repeat refine kn rfl ?_
     refine k_cond_t rfl (by simp only [go_sem,simprocAttr,c4]) ?_
     repeat refine kn rfl ?_
     refine k_freeze 3 x.cs [(0,.ptr l b 0),(3,.iptr x.cs),(7,.sl 1 ((openL p).map Cnd.enc) .any)] rfl (allP_of fun c hc=>(x.bcs.mem c hc).inside)
      ⟨.inl ⟨.refl _,Inside.ptr _ _ _ (.inl hl)⟩,.inr ⟨0,rfl,rfl⟩,.inl ⟨.refl _,ins_sub hi1 (fun c hc=>(List.mem_filter.1 hc).1) (fun l k w m hc=>by obtain ⟨j,_,_,h3⟩:=ItAt_mem hi1 hc; have:=h3.2.1; omega) (fun _ _ e=>by cases e)⟩,trivial⟩ ⟨ABlk.inside_buf _ _ _,by rw [delb_pend (by omega) hi1]; exact ins_pend hi1⟩ ?_
     simp only [go_sem,simprocAttr,delb]
     rw [delb_pend (by omega) hi1]
     have hNP:NoPen H l b kk F:=hN _ (by simp only [hno,c1,c2,c4,if_true,if_false,Bool.false_eq_true]; rfl)
     have hL1:∀ Y,∀ k x,1000 ≤ k → lkb (pendL p) k = some x → lkb ((200,Y) :: pendL p) k = some x:=fun Y k x hk h=>by
      simp only [lkb]; rw [if_neg (by omega)]; exact h
     have hbl2:((s1.lits (openL p)).1).length ≤ 10000:=by have:=ordL_len (s1.names (openL p)).1; rw [names_len] at this; simp only [St.lits]; omega
     repeat refine kn rfl ?_
     refine k_draw tok mixed op70b rfl rfl (by kernel_rfl) (by kernel_rfl) ?_
     simp only [go_sem,simprocAttr,op70b]
     refine callWB hl hF (fun_of Tryz.func128 rfl rfl) (a128 (n + 1) _ l b F s1 (by omega) (hF.mono (Nat.le_succ n)) (hi2.mono (by omega)) (openL p) (hoo _ (hL1 _)) (by omega)) (by simp only [go_sem,simprocAttr]) ?_
     simp only [go_sem,simprocAttr,op70b]
     have e1:ordL (s1.names (openL p)).1 = (s1.lits (openL p)).1:=rfl
     have e2:(s1.names (openL p)).2 = (s1.lits (openL p)).2:=rfl
     rw [e1,e2]
     generalize (s1.lits (openL p)).1 = body at *
     generalize (s1.lits (openL p)).2 = s2 at *
     have hwk:=fun L=>b127 (n + 1) (full n L H) l b kk F s2 (by omega) h0 (hF.mono (Nat.le_succ n)) (hT0.full hn) (hNP.full hl L) x hx.ts v6 v4 v5 body (by omega)
     refine ⟨127,_,_,[],.tup [],(200,.buf 260 1 p.length) :: pendL p,bxH (penH H l b kk (x.pen body)) l b (F.one l b) s2,rfl,fun_of Tryz.func127 rfl rfl,?_,out_pen hF hl _ _ _,?_⟩
     ·have hc:=hwk ((200,.buf 260 1 p.length) :: pendL p)
      rw [← full_penH hne,← full_bxH hne,← full_bxH hne] at hc
      exact hc
     ·simp only [go_sem,simprocAttr]
      repeat refine kn rfl ?_
      exact k_nil ⟨by simp [okRes],[],trivial,by simp,rfl,rfl⟩
    ·simp only [if_neg c4]
     have c4b:decide (0 < x.weight) = false:=by simpa using c4
     repeat refine kn rfl ?_
     refine k_cond_f rfl (by simp only [go_sem,simprocAttr,c4b]) ?_
     refine k_skip rfl ?_
     repeat refine kn rfl ?_
     exact k_nil ⟨by simp [okRes],[],trivial,by simp,rfl,rfl⟩
end Go.Proofs.YthgbkalgmicniaaGreatDoor

/- The objective of no penalty, of one: the walk. -/
namespace Go.Proofs.YthgbkalgmicniaaGreatDoor
open Go.Abs
set_option maxRecDepth 100000
theorem b294 (v c:AV) (k:Int) (hk:k ≤ 1) (n:Nat) (H:AHeap) :
  PC Tryz.prog n 294 [v,.int .i64 0,.int .i64 k,c] H (.tup []):=by
 refine a_fun tok (fun_of Tryz.func294 rfl rfl) (by simp) fun B=>?_
 repeat refine kn rfl ?_
 refine k_region tok rfl (by kernel_rfl) ?_
 simp only [go_sem,simprocAttr]
 repeat refine kn rfl ?_
 refine k_loop_ix (fun _=>⟨[(8,.int .i64 1),(2,.int .i64 k)],[],H⟩) 0 rfl ?_ ?_
 ·refine AWk_kept ?_ ?_ ?_ ?_ <;> repeat' first | exact trivial | refine q0 ?_ | exact qb | exact q1 | exact q2 | exact q3 | exact rfl | refine And.intro ?_ ?_ | exact q4 | exact q5 | exact q6 | exact q7 | exact Inside.ptr _ _ _ (.inr ⟨rfl,rfl⟩) | exact q8 | exact q9 | exact qd | exact Tm.ins _ | exact Tm.inss _ _ | exact Am.ins _ | exact Am.inss _ _ | refine ins_buf_str ?_ | refine Tm.ins_buf ?_ | refine Am.ins_buf ?_ | exact qf
 intro i hi
 refine k_st rfl ?_
 repeat refine kn rfl ?_
 refine k_region tok rfl (by kernel_rfl) ?_
 simp only [go_sem,simprocAttr,Int.not_lt.2 hk]
 repeat refine kn rfl ?_
 refine k_cond_f rfl (by simp only [go_sem,simprocAttr]) ?_
 repeat refine kn rfl ?_
 refine k_exit_round rfl rfl rfl ?_
 repeat refine kn rfl ?_
 refine k_nil ?_
 exact ⟨by simp [okRes],[],trivial,by simp,rfl,rfl⟩
theorem b218 (n:Nat) (H:AHeap) (v c:AV) (hv:Below n v) (hc:Below n c) (k:Int) (h0:0 ≤ k) (hk:k ≤ 1) :
  PC Tryz.prog n 218 [v,.int .i64 k,c] H (.tup []):=by
 have h20:¬ (20:Int) ≤ k:=by omega
 have h21:¬ (20:Int) < k:=by omega
 refine a_fun tok (fun_of Tryz.func218 rfl rfl) (by simp) fun B=>?_
 repeat refine kn rfl ?_
 refine k_region tok rfl (by kernel_rfl) ?_
 simp only [go_sem,simprocAttr]
 repeat refine kn rfl ?_
 refine k_region tok rfl (by kernel_rfl) ?_
 simp only [go_sem,simprocAttr]
 refine k_seq rfl ?_
 refine k_cut ⟨[(0,v),(1,.int .i64 k),(2,c),(6,.int .i64 20),(7,.int .i64 0)],[],H⟩ ?_ ?_
 ·repeat refine kn rfl ?_
  refine k_loop_ix (fun _=>⟨[(0,v),(1,.int .i64 k),(2,c),(6,.int .i64 20),(7,.int .i64 0),(8,.int .i64 20)],[],H⟩) 0 rfl ?_ ?_
  ·refine AWk_kept ?_ ?_ ?_ ?_ <;> repeat' first | exact trivial | refine q0 ?_ | exact qb | exact q1 | exact q2 | exact q3 | exact rfl | refine And.intro ?_ ?_ | exact q4 | exact q5 | exact q6 | exact q7 | exact Inside.ptr _ _ _ (.inr ⟨rfl,rfl⟩) | exact q8 | exact q9 | exact qd | exact Tm.ins _ | exact Tm.inss _ _ | exact Am.ins _ | exact Am.inss _ _ | refine ins_buf_str ?_ | refine Tm.ins_buf ?_ | refine Am.ins_buf ?_ | exact qf
   all_goals first | exact hv.inside | exact hc.inside
  intro i hi
  refine k_st rfl ?_
  repeat refine kn rfl ?_
  refine k_region tok rfl (by kernel_rfl) ?_
  simp only [go_sem,simprocAttr,h20]
  repeat refine kn rfl ?_
  refine k_cond_f rfl (by simp only [go_sem,simprocAttr]) ?_
  repeat refine kn rfl ?_
  refine k_exit_round rfl rfl rfl ?_
  repeat refine kn rfl ?_
  refine k_nil ?_
  refine ⟨rfl,?_⟩
  refine AWk_kept ?_ ?_ ?_ ?_ <;> repeat' first | exact trivial | refine q0 ?_ | exact qb | exact q1 | exact q2 | exact q3 | exact rfl | refine And.intro ?_ ?_ | exact q4 | exact q5 | exact q6 | exact q7 | exact Inside.ptr _ _ _ (.inr ⟨rfl,rfl⟩) | exact q8 | exact q9 | exact qd | exact Tm.ins _ | exact Tm.inss _ _ | exact Am.ins _ | exact Am.inss _ _ | refine ins_buf_str ?_ | refine Tm.ins_buf ?_ | refine Am.ins_buf ?_ | exact qf
  all_goals first | exact hv.inside | exact hc.inside
 repeat refine kn rfl ?_
 refine k_region tok rfl (by kernel_rfl) ?_
 simp only [go_sem,simprocAttr]
 refine callH (fun_of Tryz.func294 rfl rfl) (b294 v c k hk (n + 1) _) (by simp only [go_sem,simprocAttr]) ?_
 simp only [go_sem,simprocAttr]
 repeat refine kn rfl ?_
 refine k_loop_ix (fun _=>⟨[(1,.int .i64 k),(6,.int .i64 20)],[],H⟩) 0 rfl ?_ ?_
 ·refine AWk_kept ?_ ?_ ?_ ?_ <;> repeat' first | exact trivial | refine q0 ?_ | exact qb | exact q1 | exact q2 | exact q3 | exact rfl | refine And.intro ?_ ?_ | exact q4 | exact q5 | exact q6 | exact q7 | exact Inside.ptr _ _ _ (.inr ⟨rfl,rfl⟩) | exact q8 | exact q9 | exact qd | exact Tm.ins _ | exact Tm.inss _ _ | exact Am.ins _ | exact Am.inss _ _ | refine ins_buf_str ?_ | refine Tm.ins_buf ?_ | refine Am.ins_buf ?_ | exact qf
 intro i hi
 refine k_st rfl ?_
 repeat refine kn rfl ?_
 refine k_region tok rfl (by kernel_rfl) ?_
 simp only [go_sem,simprocAttr,h21]
 repeat refine kn rfl ?_
 refine k_cond_f rfl (by simp only [go_sem,simprocAttr]) ?_
 repeat refine kn rfl ?_
 refine k_exit_round rfl rfl rfl ?_
 repeat refine kn rfl ?_
 refine k_nil ?_
 exact ⟨by simp [okRes],[],trivial,by simp,rfl,rfl⟩
theorem b129 (n:Nat) (H:AHeap) (l j k:Nat) (hl:l < n) (hk:k ≤ 1) (c:AV) (hc:∀ m,Below m c) :
  PC Tryz.prog n 129 [.msl 1 l j k,c] H (.tup []):=by
 refine a_fun tok (fun_of Tryz.func129 rfl rfl) (by simp) fun B=>?_
 repeat refine kn rfl ?_
 refine k_region tok rfl (by kernel_rfl) ?_
 simp only [go_sem,simprocAttr]
 refine callH (fun_of Tryz.func218 rfl rfl) (b218 (n + 1) _ (.msl 1 l j k) c (.msl _ _ _ _ (by omega)) (hc _) k (by omega) (by omega)) (by simp only [go_sem,simprocAttr]) ?_
 simp only [go_sem,simprocAttr]
 repeat refine kn rfl ?_
 exact k_nil ⟨by simp [okRes],[],trivial,by simp,rfl,rfl⟩
theorem b71n (n:Nat) (H:AHeap) (l b kk:Nat) (F:Fr) (s:St) (hl:l < n) (hF:F.bel n) (hN:NoPen H l b kk F) :
  PC Tryz.prog n 71 [.ptr l b 0] (bxH H l b F s) (.sl 3 ([]:List AV) .full):=by
 have hne:¬ l = n:=by omega
 have hbx:bxH H l b F s l b = some (.box [F.a,F.num,.int .i64 s.n,.msl 6 l (b + 1) s.rules.length,.msl 1 l (b + 2) 0,.map l kk,.int .i64 s.err]):=by rw [bxH_box,bxC,hN.pn,hN.kn]
 refine a_fun tok (fun_of Tryz.func71 rfl rfl) (by simp) fun B=>?_
 repeat refine kn rfl ?_
 refine k_region tok rfl (by kernel_rfl) ?_
 simp only [go_sem,simprocAttr]
 repeat refine kn rfl ?_
 refine k_region tok rfl (by kernel_rfl) ?_
 simp only [go_sem,simprocAttr,hne,hbx]
 refine callH (fun_of Tryz.func129 rfl rfl) (b129 (n + 1) _ l (b + 2) 0 (by omega) (by omega) (.fn (.func 130) []) (fun m=>blw_fn trivial)) (by simp only [go_sem,simprocAttr]) ?_
 simp only [go_sem,simprocAttr]
 repeat refine kn rfl ?_
 refine k_region tok rfl (by kernel_rfl) ?_
 simp only [go_sem,simprocAttr]
 repeat refine kn rfl ?_
 refine k_region tok rfl (by kernel_rfl) ?_
 simp only [go_sem,simprocAttr,hne,hbx]
 have hs3:Below n (.sl 3 [] .full):=below_sl (fun _ h=>by cases h) (fun _ _ e=>by cases e)
 refine k_cut ⟨[(2,.sl 3 [] .full)],[],bxH H l b F s⟩ ?_ ?_
 ·repeat refine kn rfl ?_
  refine k_loop_ix (fun _=>⟨[(2,.sl 3 [] .full),(16,.int .i64 0),(17,.int .i64 0)],[],bxH H l b F s⟩) 0 rfl ?_ ?_
  ·refine AWk_kept ?_ ?_ ?_ ?_ <;> repeat' first | exact trivial | refine q0 ?_ | exact qb | exact q1 | exact q2 | exact q3 | exact rfl | refine And.intro ?_ ?_ | exact q4 | exact q5 | exact q6 | exact q7 | exact Inside.ptr _ _ _ (.inr ⟨rfl,rfl⟩) | exact q8 | exact q9 | exact qd | exact Tm.ins _ | exact Tm.inss _ _ | exact Am.ins _ | exact Am.inss _ _ | refine ins_buf_str ?_ | refine Tm.ins_buf ?_ | refine Am.ins_buf ?_ | exact qf
   all_goals first | exact hs3.inside | skip
  intro i hi
  refine k_st rfl ?_
  repeat refine kn rfl ?_
  refine k_region tok rfl (by kernel_rfl) ?_
  simp only [go_sem,simprocAttr]
  repeat refine kn rfl ?_
  refine k_cond_f rfl (by simp only [go_sem,simprocAttr]) ?_
  repeat refine kn rfl ?_
  refine k_exit_round rfl rfl rfl ?_
  repeat refine kn rfl ?_
  refine k_nil ?_
  refine ⟨rfl,?_⟩
  refine AWk_kept ?_ ?_ ?_ ?_ <;> repeat' first | exact trivial | refine q0 ?_ | exact qb | exact q1 | exact q2 | exact q3 | exact rfl | refine And.intro ?_ ?_ | exact q4 | exact q5 | exact q6 | exact q7 | exact Inside.ptr _ _ _ (.inr ⟨rfl,rfl⟩) | exact q8 | exact q9 | exact qd | exact Tm.ins _ | exact Tm.inss _ _ | exact Am.ins _ | exact Am.inss _ _ | refine ins_buf_str ?_ | refine Tm.ins_buf ?_ | refine Am.ins_buf ?_ | exact qf
  all_goals first | exact hs3.inside | skip
 ·repeat refine kn rfl ?_
  refine k_region tok rfl (by kernel_rfl) ?_
  simp only [go_sem,simprocAttr]
  repeat refine kn rfl ?_
  refine k_ret rfl ?_
  exact post_one (.refl _) hs3 rfl
def o71 (n l b:Nat) (p:Pen) (z:Int) (G:AHeap):Nat → AState
 | 0=>⟨[(17,.int .i64 0),(16,.int .i64 1),(15,.msl 1 l (b + 2) 1),(2,.msl 3 n 200 0),(3,.nilm),(0,.ptr l b 0)],[(200,.mbuf 75 3 [] 0)],G⟩
 | _=>⟨[(17,.int .i64 1),(16,.int .i64 1),(15,.msl 1 l (b + 2) 1),(2,.msl 3 n 200 1),(0,.ptr l b 0)],[(200,.mbuf 75 3 [.int .i64 p.level,sInts [z],sInts [p.weight]] 1)],G⟩
theorem b71p (n:Nat) (H:AHeap) (l b kk:Nat) (F:Fr) (s:St) (hl:l < n) (hd:kk ≠ b + 10) (h0:0 < l) (hF:F.bel n) (hs:s.Fit 800000) (hT0:Tabs H) (p:Pen) (z:Int) (hz:SmI z) (hp:p.body = [z]) (hw:0 ≤ p.weight ∧ p.weight ≤ 1048576) :
  PC Tryz.prog n 71 [.ptr l b 0] (bxH (penH H l b kk p) l b (F.one l b) s) (.sl 3 ([(⟨p.level,[z],[p.weight]⟩:GM)].map GM.enc) .any):=by
 have hne:¬ l = n:=by omega
 have hn:0 < n:=by omega
 have hF1:(F.one l b).bel (n + 1):=(hF.one hl).mono (Nat.le_succ n)
 have hbx:bxH (penH H l b kk p) l b (F.one l b) s l b = some (.box [F.a,F.num,.int .i64 s.n,.msl 6 l (b + 1) s.rules.length,.msl 1 l (b + 2) 1,F.kn,.int .i64 s.err]):=by rw [bxH_box]; rfl
 have hpp:bxH (penH H l b kk p) l b (F.one l b) s l (b + 2) = some (.mbuf 173 1 [.ptr l (b + 10) 0] 1):=by rw [bxH_ne (by omega) (by omega),penH,AHeap.upd_same]
 have hpc:bxH (penH H l b kk p) l b (F.one l b) s l (b + 10) = some (.box [.int .i64 p.weight,.int .i64 p.level,.sl 4 (p.tup.map Tm.enc) .any,.sl 1 [sInts [z]] .any]):=by
  rw [bxH_ne (by omega) (by omega),penH,AHeap.upd_ne _ _ (by omega),AHeap.upd_ne _ _ (by omega),AHeap.upd_same,Pen.cs,hp]; rfl
 have hT:Tabs (bxH (penH H l b kk p) l b (F.one l b) s):=Tabs.up hT0 fun k=>by
  rw [bxH_lv (by omega),penH,AHeap.upd_ne _ _ (by omega),AHeap.upd_ne _ _ (by omega),AHeap.upd_ne _ _ (by omega)]
 have hst:=fun L=>a136 (n + 1) (full n L (penH H l b kk p)) l b (F.one l b) s (by omega) hF1 (hs.mono (by omega)) [[z]] (fun x hx=>by simp only [List.mem_singleton] at hx; subst hx; exact ⟨by simp,fun y hy=>by simp only [List.mem_singleton] at hy; subst hy; exact hz⟩) (by simp)
 have hst2:∀ L,PC Tryz.prog (n + 1) 136 [.ptr l b 0,.sl 1 ([[z]].map sInts) .any] (full n L (bxH (penH H l b kk p) l b (F.one l b) s)) (.int .i64 z):=fun L=>by
  have h:=hst L
  rw [← full_bxH hne] at h
  exact ACalls.mono h (by rintro r H1 ⟨rfl,rfl⟩; exact ⟨rfl,by rw [full_bxH hne]; rfl⟩)
 clear hst
 generalize bxH (penH H l b kk p) l b (F.one l b) s = G at *
 refine a_fun tok (fun_of Tryz.func71 rfl rfl) (by simp) fun B=>?_
 repeat refine kn rfl ?_
 refine k_region tok rfl (by kernel_rfl) ?_
 simp only [go_sem,simprocAttr]
 repeat refine kn rfl ?_
 refine k_region tok rfl (by kernel_rfl) ?_
 simp only [go_sem,simprocAttr,hne,hbx]
 refine callH (fun_of Tryz.func129 rfl rfl) (b129 (n + 1) _ l (b + 2) 1 (by omega) (by omega) (.fn (.func 130) []) (fun m=>blw_fn trivial)) (by simp only [go_sem,simprocAttr]) ?_
 simp only [go_sem,simprocAttr]
 repeat refine kn rfl ?_
 refine k_region tok rfl (by kernel_rfl) ?_
 simp only [go_sem,simprocAttr]
 repeat refine kn rfl ?_
 refine k_adopt_m 2 200 75 3 rfl rfl ?_
 repeat refine kn rfl ?_
 refine k_region tok rfl (by kernel_rfl) ?_
 simp only [go_sem,simprocAttr,hne,hbx]
 refine k_cut ⟨[(2,.sl 3 ([(⟨p.level,[z],[p.weight]⟩:GM)].map GM.enc) .any)],[],G⟩ ?_ ?_
 ·repeat refine kn rfl ?_
  refine k_loop_ix (o71 n l b p z G) 1 rfl ?_ ?_
  ·unfold o71
   refine AWk_kept ?_ ?_ ?_ ?_ <;> repeat' first | exact trivial | refine q0 ?_ | exact qb | exact q1 | exact q2 | exact q3 | exact rfl | refine And.intro ?_ ?_ | exact q4 | exact q5 | exact q6 | exact q7 | exact Inside.ptr _ _ _ (.inr ⟨rfl,rfl⟩) | exact q8 | exact q9 | exact qd | exact Tm.ins _ | exact Tm.inss _ _ | exact Am.ins _ | exact Am.inss _ _ | refine ins_buf_str ?_ | refine Tm.ins_buf ?_ | refine Am.ins_buf ?_ | exact qf
   all_goals first | exact Inside.ptr _ _ _ (.inl hl) | exact insMs (.inl hl) | exact insMs (.inr ⟨rfl,rfl⟩) | skip
   all_goals exact 0
  intro i hi
  rcases Nat.lt_or_ge i 1 with h | h
  ·have hi0:i = 0:=by omega
   subst hi0
   refine k_st rfl ?_
   repeat refine kn rfl ?_
   refine k_region tok rfl (by kernel_rfl) ?_
   simp only [go_sem,simprocAttr]
   repeat refine kn rfl ?_
   refine k_cond_t rfl (by simp only [go_sem,simprocAttr]) ?_
   repeat refine kn rfl ?_
   refine k_region tok rfl (by kernel_rfl) ?_
   simp only [go_sem,simprocAttr,hne,hpp]
   repeat refine kn rfl ?_
   refine k_draw tok mixed drawO rfl rfl (by kernel_rfl) (by kernel_rfl) ?_
   simp -implicitDefEqProofs only [go_sem,simprocAttr]
   repeat refine kn rfl ?_
   refine k_cond_t rfl (by simp only [go_sem,simprocAttr]) ?_
   repeat refine kn rfl ?_
   refine k_region tok rfl (by kernel_rfl) ?_
   simp only [go_sem,simprocAttr,hne,hpc]
   have hfl1:flat [AV.agg [.int .i64 p.level,.sl 1 [] .full,.sl 1 [] .full]] = [.int .i64 p.level,.sl 1 [] .full,.sl 1 [] .full]:=rfl
   rw [hfl1]
   refine ⟨rfl,le_maxLen (by omega),?_⟩
   repeat refine kn rfl ?_
   refine k_region tok rfl (by kernel_rfl) ?_
   simp only [go_sem,simprocAttr,hne,hpc]
   have hba:PureT Tryz.prog 135 [.sl 1 [sInts [z]] .any] (.bool (bareL [[z]])):=a135 [[z]] (by simp)
   have hbf:bareL [[z]] = false:=rfl
   refine callT (fun_of Tryz.func135 rfl rfl) (hba) hn hT (by simp only [go_sem,simprocAttr]) ?_
   simp only [go_sem,simprocAttr]
   repeat refine kn rfl ?_
   refine k_cond_f rfl (by simp only [go_sem,simprocAttr,hbf]) ?_
   refine k_skip rfl ?_
   have hs2:∀ L,PC Tryz.prog (n + 1) 136 [.ptr l b 0,.sl 1 [sInts [z]] .any] (full n L G) (.int .i64 z):=hst2
   repeat refine kn rfl ?_
   refine k_draw tok mixed drawO rfl rfl (by kernel_rfl) (by kernel_rfl) ?_
   simp only [go_sem,simprocAttr,hne,hpc]
   refine callH (fun_of Tryz.func136 rfl rfl) (hs2 _) (by simp only [go_sem,simprocAttr]) ?_
   have hl0:lookA ⟨.int .i64,1,8,[.int .i64 0]⟩ (AV.int .i64 z) [] false = .int .i64 0:=rfl
   have hw0:IntKind.i64.wrap (0 + p.weight) = p.weight:=by rw [Int.zero_add,IntWalk.i64_in _ (by omega)]
   have hput:putA (AV.int .i64 z) (AV.int .i64 p.weight) [] = encW [(z,p.weight)]:=rfl
   have hkz:keyOK tt 3 (AV.int .i64 z) = true:=rfl
   simp only [go_sem,simprocAttr,hne,hpc,hl0,hw0,hput]
   refine ⟨rfl,rfl,?_⟩
   repeat refine kn rfl ?_
   refine k_region tok rfl (by kernel_rfl) ?_
   simp only [go_sem,simprocAttr]
   have hsw:SmW [(z,p.weight)]:=⟨by simp,fun q hq=>by simp only [List.mem_singleton] at hq; subst hq; show _ ≤ p.weight ∧ p.weight ≤ _; omega⟩
   have htw:totalW [(z,p.weight)] = p.weight:=by simp [totalW]
   refine callH (fun_of Tryz.func137 rfl rfl) (a137 (n + 1) _ n 50 [(z,p.weight)] (Nat.lt_succ_self n) hsw (by simp only [go_sem,simprocAttr])) (by simp only [go_sem,simprocAttr]) ?_
   simp only [go_sem,simprocAttr,htw]
   have hnb:¬ (1048576 < p.weight):=by omega
   repeat refine kn rfl ?_
   refine k_cond_f rfl (by simp only [go_sem,simprocAttr,hnb]) ?_
   refine k_skip rfl ?_
   have hwz:IntKind.i64.wrap 0 = 0:=rfl
   repeat refine kn rfl ?_
   refine k_region tok rfl (by kernel_rfl) ?_
   simp only [go_sem,simprocAttr,hwz]
   repeat refine kn rfl ?_
   refine k_region tok rfl (by kernel_rfl) ?_
   simp only [go_sem,simprocAttr]
   refine callH (fun_of Tryz.func138 rfl rfl) (a138 (n + 1) _ n 50 [(z,p.weight)] (Nat.lt_succ_self n) (by simp) (by simp only [go_sem,simprocAttr]) (by simp) (fun q hq=>by simp only [List.mem_singleton] at hq; subst hq; exact hz)) (by simp only [go_sem,simprocAttr]) ?_
   have hsl:splitL [(z,p.weight)] = [z]:=rfl
   have hsp:splitW [(z,p.weight)] = [p.weight]:=by simp [splitW,hsl,getM]
   simp only [go_sem,simprocAttr,hsl,hsp]
   repeat refine kn rfl ?_
   refine k_region tok rfl (by kernel_rfl) ?_
   simp only [go_sem,simprocAttr]
   repeat refine kn rfl ?_
   refine k_nil ?_
   unfold o71
   refine AWk_kept ?_ ?_ ?_ ?_ <;> repeat' first | exact trivial | refine q0 ?_ | exact qb | exact q1 | exact q2 | exact q3 | exact rfl | refine And.intro ?_ ?_ | exact q4 | exact q5 | exact q6 | exact q7 | exact Inside.ptr _ _ _ (.inr ⟨rfl,rfl⟩) | exact q8 | exact q9 | exact qd | exact Tm.ins _ | exact Tm.inss _ _ | exact Am.ins _ | exact Am.inss _ _ | refine ins_buf_str ?_ | refine Tm.ins_buf ?_ | refine Am.ins_buf ?_ | exact qf
   all_goals first | exact Inside.ptr _ _ _ (.inl hl) | exact insMs (.inl hl) | exact insMs (.inr ⟨rfl,rfl⟩) | exact (below_sInts _).inside | skip
  ·have hi1:i = 1:=by omega
   subst hi1
   refine k_st rfl ?_
   repeat refine kn rfl ?_
   refine k_region tok rfl (by kernel_rfl) ?_
   simp only [go_sem,simprocAttr]
   repeat refine kn rfl ?_
   refine k_cond_f rfl (by simp only [go_sem,simprocAttr]) ?_
   repeat refine kn rfl ?_
   refine k_exit_round rfl rfl rfl ?_
   repeat refine kn rfl ?_
   refine k_nil ?_
   refine ⟨rfl,?_⟩
   refine AWk_freeze_mbuf (tm':=[(2,.sl 3 ([(⟨p.level,[z],[p.weight]⟩:GM)].map GM.enc) .any)]) (j:=200) ([(⟨p.level,[z],[p.weight]⟩:GM)].map GM.enc) rfl rfl rfl (fun x hx=>?_) (fun c hc=>?_) (fun q hq=>?_) (fun q hq=>?_)
   ·simp only [List.map_cons,List.map_nil,List.mem_singleton] at hx; subst hx; rfl
   ·simp only [List.mem_cons,List.not_mem_nil,or_false] at hc
    rcases hc with rfl | rfl | rfl
    ·exact .int _ _
    ·exact (below_sInts _).inside
    ·exact (below_sInts _).inside
   ·simp only [List.mem_singleton] at hq; subst hq
    exact .inr ⟨3,rfl,rfl⟩
   ·simp [delb] at hq
 ·repeat refine kn rfl ?_
  refine k_region tok rfl (by kernel_rfl) ?_
  simp only [go_sem,simprocAttr]
  repeat refine kn rfl ?_
  refine k_ret rfl ?_
  exact post_one (.refl _) (below_gms [(⟨p.level,[z],[p.weight]⟩:GM)]) rfl
end Go.Proofs.YthgbkalgmicniaaGreatDoor

/- The names of the table's atoms: a slice that may grow. -/
namespace Go.Abs
theorem k_adopt_low {cx:Cx} {c:Code} {k:List Itm} {Q:Exit → AState → Prop} {tm:List (Nat × AV)} {L:List (Nat × ABlk)} {H:AHeap} {k0:Nat} (t l j e sz:Nat) (hl:l < cx.n) (ht:lkv tm t = .sl k0 [] .full) (hj:H l j = none)
  (h:AKc cx (.code c :: k) Q ⟨(t,.sl sz [] (.buf l j)) :: tm,L,H.upd l j (.buf e sz 0)⟩):AKc cx (.code c :: k) Q ⟨tm,L,H⟩:=by
 have hne:¬ l = cx.n:=by omega
 have:=AWk_adopt (n:=cx.n) (N:=cx.N) (tm:=tm) (L:=L) (H:=H) (l:=l) (j:=j) e sz false (Nat.le_of_lt hl) ht (by unfold full; rw [if_neg hne]; exact hj)
 simp only [setL,setH,hne,if_false,Bool.false_eq_true] at this
 exact k_weak this h
end Go.Abs
namespace Go.Proofs.YthgbkalgmicniaaGreatDoor
open Go.Abs
set_option maxRecDepth 100000
def sp65 (l:List Am) (l2 k2:Nat) (H:AHeap) (i:Nat):AState :=
 ⟨[(10,.int .i64 i),(9,.int .i64 l.length),(8,.sl 2 (l.map Am.enc) .any),(5,.sl 1 (((l.take i).map nameA).map .str) (.buf l2 k2)),(1,.fn (.func 17) [])],[],H.upd l2 k2 (.buf 9 1 i)⟩
theorem b65 (n:Nat) (H:AHeap) (l:List Am) (hl:l.length ≤ 1000000) (hg:∀ a ∈ l,a.Good) (hT:Tabs H) (l2 k2:Nat) (hl2:l2 < n) (h0:0 < l2) (hf:H l2 k2 = none) :
  ACalls Tryz.prog n 65 [.sl 2 (l.map Am.enc) .any,.fn (.func 17) []] H fun r H'=>r = .sl 1 ((l.map nameA).map .str) (.buf l2 k2) ∧ H' = H.upd l2 k2 (.buf 9 1 l.length):=by
 have hne:¬ l2 = n:=by omega
 have hn:0 < n:=by omega
 have hfi:∀ q,Inside n q (.fn (.func 17) []):=fun q=>(show Below n (.fn (.func 17) []) from blw_fn trivial).inside
 have hbs:∀ m,l2 < m → ∀ p:List (List UInt8),Below m (.sl 1 (p.map AV.str) (.buf l2 k2)):=fun m hm p=>below_sl (fun x hx=>by obtain ⟨u,_,rfl⟩:=List.mem_map.1 hx; exact .str _) (fun _ _ e=>by cases e; exact hm)
 have hbb:∀ i,ABlk.Below n (.buf 9 1 i):=fun i=>⟨by simp [ABlk.avs],by simp [ABlk.at_]⟩
 have hupd:∀ a b,(H.upd l2 k2 a).upd l2 k2 b = H.upd l2 k2 b:=fun a b=>upd_upd H l2 k2 a b
 have hTi:∀ b,Tabs (H.upd l2 k2 b):=fun b=>Tabs.up hT fun k=>AHeap.upd_ne _ _ (by omega)
 refine a_fun tok (fun_of Tryz.func65 rfl rfl) (by simp) fun B=>?_
 repeat refine kn rfl ?_
 refine k_region tok rfl (by kernel_rfl) ?_
 simp only [go_sem,simprocAttr]
 repeat refine kn rfl ?_
 refine k_region tok rfl (by kernel_rfl) ?_
 simp only [go_sem,simprocAttr]
 repeat refine kn rfl ?_
 refine k_region tok rfl (by kernel_rfl) ?_
 simp only [go_sem,simprocAttr]
 repeat refine kn rfl ?_
 refine k_adopt_low 5 l2 k2 9 1 hl2 rfl hf ?_
 refine k_loop_ix (sp65 l l2 k2 H) l.length rfl ?_ ?_
 ·unfold sp65
  refine AWk_kept ?_ ?_ ?_ ?_ <;> repeat' first | exact trivial | refine q0 ?_ | exact qb | exact q1 | exact q2 | exact q3 | exact rfl | refine And.intro ?_ ?_ | exact q4 | exact q5 | exact q6 | exact q7 | exact Inside.ptr _ _ _ (.inr ⟨rfl,rfl⟩) | exact q8 | exact q9 | exact qd | exact Tm.ins _ | exact Tm.inss _ _ | exact Am.ins _ | exact Am.inss _ _ | refine ins_buf_str ?_ | refine Tm.ins_buf ?_ | refine Am.ins_buf ?_ | exact qf
  all_goals first | exact hfi _ | exact (below_ams _).inside | exact (hbs n hl2 []).inside | skip
 intro i hi
 refine k_st rfl ?_
 unfold sp65
 rcases Nat.lt_or_ge i l.length with h | h
 ·have hmin:(l.take i).length = i:=List.length_take_of_le (by omega)
  have hs1:∀ L,full n L (H.upd l2 k2 (.buf 9 1 i)) l2 k2 = some (.buf 9 1 i):=fun L=>by rw [full_low hl2,AHeap.upd_same]
  have hga:=hg _ (List.getElem_mem h)
  repeat refine kn rfl ?_
  refine k_region tok rfl (by kernel_rfl) ?_
  simp only [go_sem,simprocAttr,h]
  repeat refine kn rfl ?_
  refine k_cond_t rfl (by simp only [go_sem,simprocAttr]) ?_
  repeat refine kn rfl ?_
  refine k_region tok rfl (by kernel_rfl) ?_
  simp only [go_sem,simprocAttr,getD_map Am.enc _ _ h,h]
  repeat refine kn rfl ?_
  refine k_region tok rfl (by kernel_rfl) ?_
  simp only [go_sem,simprocAttr]
  refine callT (fun_of Tryz.func17 rfl rfl) (a17n l[i] hga) hn (hTi _) (by simp only [go_sem,simprocAttr]) ?_
  simp only [go_sem,simprocAttr,hmin,hne,AHeap.upd_same]
  refine ⟨rfl,⟨le_maxLen (by omega),by omega⟩,.inr (hbb _),?_⟩
  rw [hupd]
  repeat refine kn rfl ?_
  refine k_region tok rfl (by kernel_rfl) ?_
  simp only [go_sem,simprocAttr]
  repeat refine kn rfl ?_
  refine k_nil ?_
  refine AWk_kept ?_ ?_ ?_ ?_ <;> repeat' first | exact trivial | refine q0 ?_ | exact qb | exact q1 | exact q2 | exact q3 | exact rfl | refine And.intro ?_ ?_ | exact q4 | exact q5 | exact q6 | exact q7 | exact Inside.ptr _ _ _ (.inr ⟨rfl,rfl⟩) | exact q8 | exact q9 | exact qd | exact Tm.ins _ | exact Tm.inss _ _ | exact Am.ins _ | exact Am.inss _ _ | refine ins_buf_str ?_ | refine Tm.ins_buf ?_ | refine Am.ins_buf ?_ | exact qf
  ·simp only [go_sem,simprocAttr]
   rw [IntWalk.i64_in _ (by omega)]; exact .refl _
  ·simp only [go_sem,simprocAttr,List.take_succ_eq_append_getElem h,List.map_append]
   exact .refl _
  all_goals first | exact hfi _ | exact (below_ams _).inside | exact (hbs n hl2 _).inside | skip
 ·repeat refine kn rfl ?_
  refine k_region tok rfl (by kernel_rfl) ?_
  simp only [go_sem,simprocAttr,Nat.not_lt.2 h]
  repeat refine kn rfl ?_
  refine k_cond_f rfl (by simp only [go_sem,simprocAttr]) ?_
  repeat refine kn rfl ?_
  refine k_exit_round rfl rfl rfl ?_
  have hi':i = l.length:=by omega
  subst hi'
  repeat refine kn rfl ?_
  refine k_region tok rfl (by kernel_rfl) ?_
  simp only [go_sem,simprocAttr,List.take_length]
  repeat refine kn rfl ?_
  refine k_ret rfl ?_
  exact post_oneQ (.refl _) (hbs n hl2 _) ⟨rfl,rfl⟩
end Go.Proofs.YthgbkalgmicniaaGreatDoor

/- Plain instances, without aggregates, bounds and weights: one rule each. No program. -/
namespace Go.Abs
open Go.Proofs.YthgbkalgmicniaaGreatDoor
structure Pln (x:Ins):Prop where
 k:x.kind = 1 ∨ (x.kind = 2 ∧ x.heads ≠ [])
 lo:x.lower = -1
 up:x.upper = -1
 b:∀ b ∈ x.body,b.kind = 1
def litsB (M:List (List UInt8 × Int)) (l:List GB):List Int:=l.map fun b=>litIn M b.lit
def ruleI (M:List (List UInt8 × Int)) (x:Ins):GR:=⟨decide (x.kind = 2),ordL (headI M x),false,0,ordL (ordL (litsB M x.body)),[]⟩
theorem itemsB_pln (M:List (List UInt8 × Int)) (n:Nat) (s:St):∀ {l:List GB},(∀ b ∈ l,b.kind = 1) → itemsB M n s l = (l.map fun b=>Cnd.lit (litIn M b.lit),s):=by
 intro l
 induction l using snocRec with
 | nil=>intro _; rfl
 | snoc p b ih =>
  intro h
  rw [itemsB_snoc,ih (fun x hx=>h x (by simp [hx])),stepB,if_pos (h b (by simp))]
  simp
theorem noNo_pln {α:Type} (f:α → Int) (l:List α):(l.map fun b=>Cnd.lit (f b)).any isNo = false:=by
 rw [List.any_eq_false]; intro c hc; obtain ⟨b,_,rfl⟩:=List.mem_map.1 hc; simp [isNo]
theorem openL_pln {α:Type} (f:α → Int) (l:List α):openL (l.map fun b=>Cnd.lit (f b)) = l.map fun b=>Cnd.lit (f b):=by
 unfold openL; rw [List.filter_eq_self]; intro c hc; obtain ⟨b,_,rfl⟩:=List.mem_map.1 hc; rfl
theorem names_pln {α:Type} (f:α → Int) (s:St):∀ l:List α,s.names (l.map fun b=>Cnd.lit (f b)) = (l.map f,s)
 | []=>rfl
 | b :: l=>by
  have ih:=names_pln f s l
  simp only [List.map_cons,St.names]
  have e:s.name (.lit (f b)) = (.lit (f b),s):=rfl
  rw [e]; simp only [ih,litOf]
theorem emit_pln {α:Type} (f:α → Int) (s:St) (h:List Int) (l:List α):s.emit h (l.map fun b=>Cnd.lit (f b)) = s.rule h (ordL (l.map f)):=by
 unfold St.emit
 split
 ·rename_i l' k' w k e
  cases l with
  | nil=>cases e
  | cons a r=>simp at e
 ·rw [St.lits,names_pln]
theorem choose_rule (s:St) (h b:List Int):(s.rule h b).choose = ⟨s.n,s.rules ++ [⟨true,ordL h,false,0,ordL b,[]⟩],s.err⟩:=by
 unfold St.choose St.rule
 have:∀ (rs:List GR) (x:GR),lastChoice (rs ++ [x]) = rs ++ [{ x with choice:=true }]:=by
  intro rs x
  induction rs with
  | nil=>rfl
  | cons y r ih =>
   cases r with
   | nil=>rfl
   | cons z r=>simp only [List.cons_append,lastChoice] at ih ⊢; rw [ih]
 simp only [this]
theorem ordL_nil {l:List Int}:ordL l = [] ↔ l = []:=by
 constructor
 ·intro h
  cases l with
  | nil=>rfl
  | cons a r=>have:=(ordL_mem (a :: r) a).2 (by simp); rw [h] at this; cases this
 ·rintro rfl; rfl
theorem inst_pln (M:List (List UInt8 × Int)) (n:Nat) (s:St) {x:Ins} (hx:Pln x):instS M n s x = ⟨s.n,s.rules ++ [ruleI M x],s.err⟩ ∧ instP M n s x = none:=by
 have hi:=itemsB_pln M n s hx.b
 have hno:(itemsB M n s x.body).1.any isNo = false:=by rw [hi]; exact noNo_pln _ _
 have ho:openB M n s x = x.body.map fun b=>Cnd.lit (litIn M b.lit):=by unfold openB; rw [hi]; exact openL_pln _ _
 have h2:(itemsB M n s x.body).2 = s:=by rw [hi]
 have he:s.emit (headI M x) (openB M n s x) = s.rule (headI M x) (ordL (litsB M x.body)):=by rw [ho,emit_pln]; rfl
 unfold instS instP
 rw [hno,h2]
 rcases hx.k with hk | ⟨hk,hne⟩
 ·rw [if_neg (by simp),if_pos hk,if_neg (by simp),if_pos hk,he]
  exact ⟨by simp [St.rule,ruleI,hk],rfl⟩
 ·have k1:¬ x.kind = 1:=by omega
  rw [if_neg (by simp),if_neg k1,if_pos hk,if_neg (by simp),if_neg k1,if_pos hk]
  refine ⟨?_,rfl⟩
  have hl:¬ (headI M x).length = 0:=by
   intro h
   have:=List.eq_nil_of_length_eq_zero h
   unfold headI at this
   rw [ordL_nil,List.map_eq_nil_iff] at this
   exact hne this
  unfold St.choice
  rw [if_pos ⟨by rw [hx.lo]; decide,.inl (by rw [hx.up]; decide)⟩,if_neg hl,he,choose_rule]
  simp [ruleI,hk]
def runI (M:List (List UInt8 × Int)) (n:Nat) (s:St) (l:List Ins):St:=l.foldl (instS M n) s
theorem runI_snoc (M:List (List UInt8 × Int)) (n:Nat) (s:St) (l:List Ins) (x:Ins):runI M n s (l ++ [x]) = instS M n (runI M n s l) x:=by simp [runI]
theorem runI_take (M:List (List UInt8 × Int)) (n:Nat) (s:St) (l:List Ins) (i:Nat) (h:i < l.length):runI M n s (l.take (i + 1)) = instS M n (runI M n s (l.take i)) l[i]:=by
 rw [List.take_succ_eq_append_getElem h,runI_snoc]
theorem runI_pln (M:List (List UInt8 × Int)) (n:Nat) (s:St):∀ (l:List Ins),(∀ x ∈ l,Pln x) → runI M n s l = ⟨s.n,s.rules ++ l.map (ruleI M),s.err⟩:=by
 intro l
 induction l using snocRec with
 | nil=>intro _; simp [runI]
 | snoc p x ih =>
  intro h
  rw [runI_snoc,ih (fun y hy=>h y (by simp [hy])),(inst_pln M n _ (h x (by simp))).1]
  simp
def costs (l:List Ins):Nat:=(l.map costI).sum
theorem costs_snoc (l:List Ins) (x:Ins):costs (l ++ [x]) = costs l + costI x:=by simp [costs]
theorem runI_fit {M:List (List UInt8 × Int)} (hsm:SmN M) {n:Nat} {s:St} {k:Int} (hs:s.Fit k):∀ {l:List Ins},(∀ x ∈ l,∀ b ∈ x.body,BOk b) → k + (costs l:Nat) ≤ 300000 → (runI M n s l).Fit (k + (costs l:Nat)):=by
 intro l
 induction l using snocRec with
 | nil=>intro _ _; simpa [runI,costs] using hs
 | snoc p x ih =>
  intro h hk
  rw [costs_snoc] at hk ⊢
  rw [runI_snoc]
  have hc:costB x.body ≤ costI x:=by unfold costI; omega
  exact (instS_fit hsm (ih (fun y hy=>h y (by simp [hy])) (by omega)) (h x (by simp)) (by omega)).mono (by omega)
end Go.Abs

/- The example of the chapter. No program. -/
namespace Go.Abs
open Go.Proofs.YthgbkalgmicniaaGreatDoor
set_option maxRecDepth 100000
def tNum (n:Int):Tm:=.mk 1 n [] []
def tName (s:List UInt8):Tm:=.mk 2 0 s []
def exA:Am:=⟨[97],[]⟩
def exB:Am:=⟨[98],[]⟩
def exC:Am:=⟨[99],[]⟩
def exD:Am:=⟨[100],[]⟩
def glOf (a:Am):GL:=⟨false,a⟩
def glNo (a:Am):GL:=⟨true,a⟩
def am0:Am:=⟨[],[]⟩
def oneB (l:GL):GB:=⟨1,l,false,0,[],0,0⟩
def exE1:GE:=⟨[tNum 2,tName [120]],[glOf exB]⟩
def exE2:GE:=⟨[tNum 3,tName [121]],[glOf exC]⟩
def exE3:GE:=⟨[tNum 3,tName [121]],[glNo exA]⟩
def exG:GB:=⟨3,⟨false,am0⟩,false,2,[exE1,exE2,exE3],6,3⟩
def exX1:Ins:=⟨1,[exA],-1,-1,[],0,0,[]⟩
def exX2:Ins:=⟨2,[exB,exC],-1,1,[oneB (glOf exA)],0,0,[]⟩
def exX3:Ins:=⟨1,[exD],-1,-1,[exG],0,0,[]⟩
def exX4:Ins:=⟨3,[],-1,-1,[oneB (glOf exB)],4,0,[tName [116]]⟩
def exI:List Ins:=[exX1,exX2,exX3,exX4]
def exP:List GR:=[
 ⟨false,[1],false,0,[],[]⟩,
 ⟨true,[2,3],false,0,[1],[]⟩,
 ⟨false,[5],true,2,[2,3],[1,1]⟩,
 ⟨false,[],false,0,[1,5],[]⟩,
 ⟨false,[6],false,0,[3],[]⟩,
 ⟨false,[6],false,0,[-1],[]⟩,
 ⟨false,[4],true,3,[2,6],[2,3]⟩]
theorem ex_sorted:sortedI exI = [exA,exB,exC,exD]:=by kernel_rfl
theorem ex_run (n:Nat):runI (namesI exI) n ⟨4,[],0⟩ exI = ⟨6,exP,0⟩:=by kernel_rfl
theorem ex_none1 (n:Nat) (s:St):instP (namesI exI) n s exX1 = none:=by kernel_rfl
theorem ex_none2 (n:Nat) (s:St):instP (namesI exI) n s exX2 = none:=by kernel_rfl
theorem ex_none3 (n:Nat):instP (namesI exI) n (runI (namesI exI) n ⟨4,[],0⟩ [exX1,exX2]) exX3 = none:=by kernel_rfl
theorem ex_pen (n:Nat) (s:St):instP (namesI exI) n s exX4 = some (exX4.pen [2]):=by kernel_rfl
end Go.Abs
