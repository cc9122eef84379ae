/- Walks over a term. -/
import Derived.Test.YthgbkalgmicniaaGreatDoorM09
import Derived.Test.YthgbkalgmicniaaGreatDoorM08
import Derived.Shelf.Strings.OnBuilder
import Derived.Shelf.Small.Strs
import Derived.Shelf.LaysM
import Derived.Shelf.Strconv.Itoa3
import Derived.Shelf.Strings.Search3
import Derived.Ground.Names2Prog
import Derived.Ground.SlgnProg
import Derived.Shelf.Slices.Cells
import Derived.Shelf.Slices.Clone
import Derived.Shelf.Slices.CompactI
import Derived.Shelf.Slices.SearchI
import Derived.Shelf.SlicesE.Clone
import Derived.KernelRfl
import Derived.Test.YthgbkalgmicniaaGreatDoorProg
import Derived.Test.YthgbkalgmicniaaGreatDoorRows
set_option linter.all false
namespace Go.Proofs.YthgbkalgmicniaaGreatDoor
open Go.Abs
set_option maxRecDepth 100000
def _root_.Go.Abs.AHeap.setLv (H:AHeap) (x:Nat) (S:Nat → Option ABlk):AHeap:=fun l k=>if l = x then S k else H l k
theorem full_setLv {n x:Nat} (h:x ≠ n) (L:List (Nat × ABlk)) (H:AHeap) (S:Nat → Option ABlk):full n L (H.setLv x S) = (full n L H).setLv x S:=by
 funext l k
 simp only [full,AHeap.setLv]
 by_cases h1:l = n
 ·subst h1; rw [if_pos rfl,if_neg (fun e=>h e.symm),if_pos rfl]
 ·rw [if_neg h1,if_neg h1]
theorem out_setLv {n x:Nat} {H:AHeap} {S:Nat → Option ABlk} (h:x < n) (hS:∀ k b,S k = some b → b.Below (x + 1)):OutStep n H (H.setLv x S):=fun l k b hl hb=>by
 simp only [AHeap.setLv] at hb
 split at hb
 ·have:=hS k b hb
  exact .inr ⟨fun a ha=>(this.1 a ha).mono h,fun p hp=>Nat.lt_of_lt_of_le (this.2 p hp) h⟩
 ·exact .inl hb
def YSpec (P:Program) (x l:Nat) (p:Tm → Bool) (S:Nat → Option ABlk) (H0:AHeap):Prop :=
 ∀ m H (t:Tm),t.Good → x < m → (∀ l' k,l' ≤ x → H l' k = H0 l' k) → AYields P m l [t.enc] H fun r H1=>r = .bool (p t) ∧ H1 = if p t then H else H.setLv x S
def st145 (t:Tm) (l n:Nat) (H:AHeap) (i:Nat):AState :=
 ⟨[(14,.int .i64 i),(13,.int .i64 t.args.length),(12,.sl 4 (t.args.map Tm.enc) .any),(1,.fn (.yield l) []),(2,.ptr n 2 0)],[(2,.box t.cs)],H⟩
theorem a145 {x l:Nat} {p:Tm → Bool} {S:Nat → Option ABlk} {H0:AHeap} (hY:YSpec Tryz.prog x l p S H0) (hS:∀ k b,S k = some b → b.Below (x + 1)) (t:Tm) (ht:t.Good) (n:Nat) (H:AHeap) (hx:x < n) (hH:∀ l' k,l' ≤ x → H l' k = H0 l' k) :
  ACalls Tryz.prog n 257 [t.enc,.fn (.yield l) []] H fun r H1=>r = .bool (t.all p) ∧ H1 = if t.all p then H else H.setLv x S:=by
 have hlen:=ht.len
 refine a_fun tok (fun_of Tryz.func257 rfl rfl) (by simp) fun B=>?_
 have hf:∀ (L:List (Nat × ABlk)) (l' k:Nat),l' ≤ x → full n L H l' k = H0 l' k:=fun L l' k h=>by
  simp only [full]; rw [if_neg (by omega)]; exact hH l' k h
 repeat refine kn rfl ?_
 refine k_region tok rfl (by kernel_rfl) ?_
 simp only [go_sem,simprocAttr]
 repeat refine kn rfl ?_
 refine k_region tok rfl (by kernel_rfl) ?_
 simp only [go_sem,simprocAttr]
 refine callY (by simp only [go_sem,simprocAttr]) (hY _ _ t ht (show x < n + 1 by omega) (hf _)) (by simp only [go_sem,simprocAttr]) ?_
 rintro _ _ ⟨rfl,rfl⟩
 have fail:∀ (L:List (Nat × ABlk)) (tm:List (Nat × AV)),t.all p = false → lkv tm 4 = .bool false → PostF Tryz.prog tt n Tryz.f257.results.toList (fun r H1=>r = .bool (t.all p) ∧ H1 = if t.all p then H else H.setLv x S) .ret ⟨tm,L,H.setLv x S⟩:=by
  intro L tm hall h4
  refine ⟨by simp [okRes],[.bool false],⟨?_,trivial⟩,by simp [below_bool],by rw [hall]; rfl,by rw [hall]; rfl⟩
  show Wk (lkv tm 4) _
  rw [h4]; exact .refl _
 cases hp:p t with
 | false =>
  have hall:t.all p = false:=by rw [Tm.all_eq,hp]; rfl
  refine ⟨[(2,.box t.cs)],H.setLv x S,by rw [full_setLv (show x ≠ n by omega)]; rfl,out_setLv hx hS,?_⟩
  simp only [go_sem,simprocAttr]
  repeat refine kn rfl ?_
  refine k_cond_t rfl (by simp only [go_sem,simprocAttr]) ?_
  repeat refine kn rfl ?_
  refine k_region tok rfl (by kernel_rfl) ?_
  simp only [go_sem,simprocAttr]
  repeat refine kn rfl ?_
  refine k_ret rfl ?_
  exact fail _ _ hall (by simp only [go_sem,simprocAttr])
 | true =>
  refine ⟨[(2,.box t.cs)],H,rfl,.refl _ _,?_⟩
  simp only [go_sem,simprocAttr]
  repeat refine kn rfl ?_
  refine k_cond_f rfl (by simp only [go_sem,simprocAttr]) ?_
  repeat refine kn rfl ?_
  refine k_region tok rfl (by kernel_rfl) ?_
  simp only [go_sem,simprocAttr]
  repeat refine kn rfl ?_
  refine k_loop_p (st145 t l n H) (fun i=>∀ j (h:j < t.args.length),j < i → (t.args[j]).all p = true) t.args.length rfl ?_ (fun j _ h=>absurd h (Nat.not_lt_zero _)) ?_
  ·refine AWk_kept ?_ ?_ ?_ ?_ <;> repeat' first | exact trivial | refine q0 ?_ | exact qb | exact q1 | exact q2 | exact q3 | exact rfl | refine And.intro ?_ ?_ | exact q4 | exact q5 | exact q6 | exact q7 | exact Inside.ptr _ _ _ (.inr ⟨rfl,rfl⟩) | exact q8 | exact q9 | exact qd | exact Tm.ins _ | exact Tm.inss _ _ | exact Am.ins _ | exact Am.inss _ _ | refine ins_buf_str ?_ | refine Tm.ins_buf ?_ | refine Am.ins_buf ?_ | exact qf
  intro i hi hq
  refine k_st rfl ?_
  rcases Nat.lt_or_ge i t.args.length with h | h
  ·repeat refine kn rfl ?_
   refine k_region tok rfl (by kernel_rfl) ?_
   simp only [go_sem,simprocAttr,h]
   repeat refine kn rfl ?_
   refine k_cond_t rfl (by simp only [go_sem,simprocAttr]) ?_
   repeat refine kn rfl ?_
   refine k_region tok rfl (by kernel_rfl) ?_
   simp only [go_sem,simprocAttr,Tm.getD_enc _ _ h,h]
   repeat refine kn rfl ?_
   refine k_region tok rfl (by kernel_rfl) ?_
   simp only [go_sem,simprocAttr]
   have hu:=ht.arg (List.getElem_mem h)
   refine callR (caps:=[]) (avs:=[t.args[i].enc,.fn (.yield l) []]) rfl (fun_of Tryz.func257 rfl rfl) (by rw [List.append_nil]; exact a145 hY hS t.args[i] hu (n + 1) _ (show x < n + 1 by omega) (hf _)) (by simp only [go_sem,simprocAttr]) ?_
   rintro _ _ ⟨rfl,rfl⟩
   cases h1:(t.args[i]).all p with
   | false =>
    refine ⟨[(2,.box t.cs),(6,.box t.args[i].cs)],H.setLv x S,by rw [full_setLv (show x ≠ n by omega)]; rfl,out_setLv hx hS,?_⟩
    simp only [go_sem,simprocAttr]
    repeat refine kn rfl ?_
    refine k_cond_t rfl (by simp only [go_sem,simprocAttr]) ?_
    repeat refine kn rfl ?_
    refine k_region tok rfl (by kernel_rfl) ?_
    simp only [go_sem,simprocAttr]
    repeat refine kn rfl ?_
    refine k_ret_round rfl ?_
    refine fail _ _ ?_ (by simp only [go_sem,simprocAttr])
    rw [Tm.all_eq,hp,Tm.alls_iff,Bool.true_and,← Bool.not_eq_true,List.all_eq_true]
    intro hh
    have:=hh _ (List.getElem_mem h)
    rw [h1] at this; cases this
   | true =>
    refine ⟨[(2,.box t.cs),(6,.box t.args[i].cs)],H,rfl,.refl _ _,?_⟩
    simp only [go_sem,simprocAttr]
    repeat refine kn rfl ?_
    refine k_cond_f rfl (by simp only [go_sem,simprocAttr]) ?_
    repeat refine kn rfl ?_
    refine k_region tok rfl (by kernel_rfl) ?_
    simp only [go_sem,simprocAttr]
    repeat refine kn rfl ?_
    refine k_nil ?_
    refine ⟨fun j hj hji=>?_,?_⟩
    ·rcases Nat.lt_or_ge j i with h' | h'
     ·exact hq j hj h'
     ·have:j = i:=by omega
      subst this; exact h1
    ·refine AWk_kept ?_ ?_ ?_ ?_ <;> repeat' first | exact trivial | refine q0 ?_ | exact qb | exact q1 | exact q2 | exact q3 | exact rfl | refine And.intro ?_ ?_ | exact q4 | exact q5 | exact q6 | exact q7 | exact Inside.ptr _ _ _ (.inr ⟨rfl,rfl⟩) | exact q8 | exact q9 | exact qd | exact Tm.ins _ | exact Tm.inss _ _ | exact Am.ins _ | exact Am.inss _ _ | refine ins_buf_str ?_ | refine Tm.ins_buf ?_ | refine Am.ins_buf ?_ | exact qf
     ·simp only [go_sem,simprocAttr]
      rw [IntWalk.i64_in _ (by omega)]; exact .refl _
  ·repeat refine kn rfl ?_
   refine k_region tok rfl (by kernel_rfl) ?_
   simp only [go_sem,simprocAttr,Nat.not_lt.2 h]
   repeat refine kn rfl ?_
   refine k_cond_f rfl (by simp only [go_sem,simprocAttr]) ?_
   repeat refine kn rfl ?_
   refine k_exit_round rfl rfl rfl ?_
   repeat refine kn rfl ?_
   refine k_region tok rfl (by kernel_rfl) ?_
   simp only [go_sem,simprocAttr]
   repeat refine kn rfl ?_
   refine k_ret rfl ?_
   have hall:t.all p = true:=by
    rw [Tm.all_eq,hp,Tm.alls_iff,Bool.true_and,List.all_eq_true]
    intro u hu
    obtain ⟨j,hj,rfl⟩:=List.getElem_of_mem hu
    exact hq j hj (by omega)
   refine ⟨by simp [okRes],[.bool true],⟨?_,trivial⟩,by simp [below_bool],by rw [hall]; rfl,by rw [hall]; rfl⟩
   simp only [go_sem,simprocAttr]
   exact .refl _
termination_by SizeOf.sizeOf t
decreasing_by exact Tm.size_lt (List.getElem_mem h)
theorem a144 {x l:Nat} {p:Tm → Bool} {S:Nat → Option ABlk} {H0:AHeap} (hY:YSpec Tryz.prog x l p S H0) (hS:∀ k b,S k = some b → b.Below (x + 1)) (t:Tm) (ht:t.Good) (n:Nat) (H:AHeap) (hx:x < n) (hH:∀ l' k,l' ≤ x → H l' k = H0 l' k) :
  ACalls Tryz.prog n 256 [.fn (.yield l) [],.iptr t.cs] H fun r H1=>H1 = if t.all p then H else H.setLv x S:=by
 refine a_fun tok (fun_of Tryz.func256 rfl rfl) (by simp) fun B=>?_
 have hf:∀ (L:List (Nat × ABlk)) (l' k:Nat),l' ≤ x → full n L H l' k = H0 l' k:=fun L l' k h=>by
  simp only [full]; rw [if_neg (by omega)]; exact hH l' k h
 repeat refine kn rfl ?_
 refine k_region tok rfl (by kernel_rfl) ?_
 simp only [go_sem,simprocAttr]
 refine callR (caps:=[]) (avs:=[t.enc,.fn (.yield l) []]) rfl (fun_of Tryz.func257 rfl rfl) (by rw [List.append_nil]; exact a145 hY hS t ht (n + 1) _ (show x < n + 1 by omega) (hf _)) (by simp only [go_sem,simprocAttr]) ?_
 rintro _ _ ⟨rfl,rfl⟩
 refine ⟨[],if t.all p then H else H.setLv x S,?_,?_,?_⟩
 ·split
  ·rfl
  ·rw [full_setLv (show x ≠ n by omega)]
 ·split
  ·exact .refl _ _
  ·exact out_setLv hx hS
 simp only [go_sem,simprocAttr]
 repeat refine kn rfl ?_
 refine k_nil ?_
 exact ⟨by simp [okRes],[],trivial,by simp,rfl⟩
theorem a104 (t:Tm):Pure Tryz.prog 178 [t.enc] (.fn (.func 256) [.iptr t.cs]):=by
 intro n H
 refine a_fun tok (fun_of Tryz.func178 rfl rfl) (by simp) fun B=>?_
 repeat refine kn rfl ?_
 refine k_region tok rfl (by kernel_rfl) ?_
 simp only [go_sem,simprocAttr]
 refine k_freeze 1 t.cs [(1,.iptr t.cs)] rfl ?_ ?_ trivial ?_
 ·exact ⟨.int _ _,.int _ _,.str _,Tm.inss _ _,trivial⟩
 ·exact ⟨.inr ⟨0,rfl,rfl⟩,trivial⟩
 repeat refine kn rfl ?_
 refine k_region tok rfl (by kernel_rfl) ?_
 simp only [go_sem,simprocAttr]
 repeat refine kn rfl ?_
 refine k_ret rfl ?_
 refine post_one ?_ (.fn _ _ fun i hi=>?_) rfl
 ·simp only [go_sem,simprocAttr]
  exact .refl _
 ·have:i = 0:=by simp at hi; exact hi
  subst this
  have hb:=(t.blw n)
  rw [Tm.enc_eq] at hb
  cases hb with
  | agg _ hb=>exact .iptr _ hb
theorem eq_setLv {G H:AHeap} {n:Nat} {S:Nat → Option ABlk} (h1:∀ k,G n k = S k) (h2:∀ l k,l ≠ n → G l k = H l k):G = H.setLv n S:=by
 funext l k
 simp only [AHeap.setLv]
 split
 ·rename_i e; subst e; exact h1 k
 ·rename_i e; exact h2 l k e
theorem upd_back {H:AHeap} {n y:Nat} {b b':ABlk} (h:H n y = some b):(H.upd n y b').upd n y b = H:=by
 funext l k
 simp only [AHeap.upd]
 split
 ·rename_i e; rw [e.1,e.2,h]
 ·rfl
theorem k_terms {B n N:Nat} {g:Operand} {v:Nat} {c d:Code} {k:List Itm} {Q:Exit → AState → Prop} {tm:List (Nat × AV)} {L:List (Nat × ABlk)} {H:AHeap} (y:Nat) (t:Tm) (ht:t.Good) (p:Tm → Bool) (L2:List (Nat × ABlk))
  (hc:c = .rangeFunc g #[v] c.fst c.snd) (hg:evT tm g = .fn (.func 256) [.iptr t.cs]) (hy:lkb L y = none) (hv:v < N)
  (hb:∀ l,AllP (fun q=>q.2.Below (n + 1)) (setb L2 y (.lrec l N tm #[v] c.fst c.snd .done (some d))))
  (hbody:∀ l m B' (t':Tm) H',t'.Good → n < m → (∀ j,H' n j = lkb (setb L y (.lrec l N tm #[v] c.fst c.snd .ready none)) j) → (∀ l' j,l' < n → H' l' j = H l' j) →
   AKc ⟨Tryz.prog,tt,⟨some l,B'⟩,m,N⟩ [.code c.fst] (fun e s=>e = .normal ∧ s.H n y = some (.lrec l N tm #[v] c.fst c.snd .ready none) ∧
    AKc ⟨Tryz.prog,tt,⟨some l,B'⟩,m,N⟩ [.code c.snd] (RoundQ (fun r H1=>r = .bool (p t') ∧ H1 = if p t' then H' else H'.setLv n (lkb (setb L2 y (.lrec l N tm #[v] c.fst c.snd .done (some d))))) n y l N tm #[v] c.fst c.snd)
     ⟨s.tmps,s.L,s.H.upd n y (.lrec l N tm #[v] c.fst c.snd .busy none)⟩) ⟨(v,t'.enc) :: tm,[],H'⟩)
  (hgo:∀ l,t.all p = true → AKc ⟨Tryz.prog,tt,⟨none,B⟩,n,N⟩ k Q ⟨tm,setb L y (.lrec l N tm #[v] c.fst c.snd .exhausted none),H⟩)
  (hstop:∀ l,t.all p = false → AKc ⟨Tryz.prog,tt,⟨none,B⟩,n,N⟩ (.code d :: k) Q ⟨tm,setb L2 y (.lrec l N tm #[v] c.fst c.snd .exhausted (some d)),H⟩) :
  AKc ⟨Tryz.prog,tt,⟨none,B⟩,n,N⟩ (.code c :: k) Q ⟨tm,L,H⟩:=by
 refine k_rangeFunc (caps:=[.iptr t.cs]) y hc hg (fun_of Tryz.func256 rfl rfl) hy fun l=>?_
 refine ⟨_,a144 (x:=n) (l:=l) (p:=p) (S:=lkb (setb L2 y (.lrec l N tm #[v] c.fst c.snd .done (some d)))) (H0:=full n (setb L y (.lrec l N tm #[v] c.fst c.snd .ready none)) H) ?_ (fun j b h=>(hb l).mem _ (lkb_mem h)) t ht (n + 1) _ (Nat.lt_succ_self n) (fun _ _ _=>rfl),?_⟩
 ·intro m H' t' ht' hm hag
  have hlv:∀ j,H' n j = lkb (setb L y (.lrec l N tm #[v] c.fst c.snd .ready none)) j:=fun j=>by
   rw [hag n j (Nat.le_refl _)]; simp only [full,if_true]
  refine k_ayields tt (x:=n) (y:=y) (by rw [hlv y,lkb_setb,if_pos rfl]) hm rfl (by simpa using hv) fun B'=>hbody l m B' t' H' ht' hm hlv (fun l' j h=>by rw [hag l' j (Nat.le_of_lt h)]; simp only [full]; rw [if_neg (by omega)])
 ·rintro r H1 rfl
  cases hall:t.all p with
  | true=>exact ⟨_,H,.ready,none,rfl,.refl _ _,by rw [lkb_setb,if_pos rfl],by simp,by
    have:setb (setb L y (.lrec l N tm #[v] c.fst c.snd .ready none)) y (.lrec l N tm #[v] c.fst c.snd .exhausted none) = setb L y (.lrec l N tm #[v] c.fst c.snd .exhausted none):=setb_setb _ _ _ _
    simp only [this]; exact hgo l hall⟩
  | false =>
   refine ⟨setb L2 y (.lrec l N tm #[v] c.fst c.snd .done (some d)),H,.done,some d,?_,.refl _ _,by rw [lkb_setb,if_pos rfl],by simp,by
    simp only [setb_setb]; exact hstop l hall⟩
   simp only [Bool.false_eq_true,if_false]
   funext l' j
   simp only [AHeap.setLv,full]
   by_cases e:l' = n
   ·rw [if_pos e,if_pos e]
   ·rw [if_neg e,if_neg e,if_neg e]
end Go.Proofs.YthgbkalgmicniaaGreatDoor

/- The rows of the kinds, as the program says them. -/
namespace Go.Proofs.YthgbkalgmicniaaGreatDoor
open Go.Abs
set_option maxRecDepth 100000
def nargs (t:Tm) (lo hi:Int):Bool:=decide (lo ≤ (t.args.length:Int)) && decide ((t.args.length:Int) ≤ hi)
theorem a125 (t:Tm) (lo hi:Int):Pure Tryz.prog 260 [t.enc,.int .i64 lo,.int .i64 hi] (.bool (nargs t lo hi)):=by
 intro n H
 refine a_fun tok (fun_of Tryz.func260 rfl rfl) (by simp) fun B=>?_
 repeat refine kn rfl ?_
 refine k_region tok rfl (by kernel_rfl) ?_
 simp only [go_sem,simprocAttr]
 cases h:decide (lo ≤ (t.args.length:Int))
 all_goals
  repeat refine kn rfl ?_
  refine k_region tok rfl (by kernel_rfl) ?_
  simp only [go_sem,simprocAttr,h]
  repeat refine kn rfl ?_
  refine k_ret rfl ?_
  refine post_one ?_ (.bool _) rfl
  simp only [go_sem,simprocAttr,nargs,h]
  exact .refl _
def named (t:Tm):Bool:=(t.num == 0) && !(t.name == [])
theorem a147 (t:Tm):Pure Tryz.prog 259 [.iptr t.cs] (.bool (decide (-2147483647 ≤ t.num) && decide (t.num ≤ 2147483647) && (t.name == []) && nargs t 0 0)):=by
 intro n H
 refine a_fun tok (fun_of Tryz.func259 rfl rfl) (by simp) fun B=>?_
 repeat refine kn rfl ?_
 refine k_region tok rfl (by kernel_rfl) ?_
 simp only [go_sem,simprocAttr]
 cases h1:decide (-2147483647 ≤ t.num) with
 | false =>
  repeat refine kn rfl ?_
  refine k_region tok rfl (by kernel_rfl) ?_
  simp only [go_sem,simprocAttr,h1]
  repeat refine kn rfl ?_
  refine k_ret rfl ?_
  refine post_one ?_ (.bool _) rfl
  try simp only [go_sem,simprocAttr]
  exact .refl _
 | true =>
  cases h2:decide (t.num ≤ 2147483647) with
  | false =>
   repeat refine kn rfl ?_
   refine k_region tok rfl (by kernel_rfl) ?_
   simp only [go_sem,simprocAttr,h1,h2]
   repeat refine kn rfl ?_
   refine k_ret rfl ?_
   refine post_one ?_ (.bool _) rfl
   try simp only [go_sem,simprocAttr]
   exact .refl _
  | true =>
   cases h3:(t.name == []) with
   | false =>
    repeat refine kn rfl ?_
    refine k_region tok rfl (by kernel_rfl) ?_
    simp only [go_sem,simprocAttr,h1,h2,h3]
    repeat refine kn rfl ?_
    refine k_ret rfl ?_
    refine post_one ?_ (.bool _) rfl
    try simp only [go_sem,simprocAttr]
    exact .refl _
   | true =>
    repeat refine kn rfl ?_
    refine k_region tok rfl (by kernel_rfl) ?_
    simp only [go_sem,simprocAttr,h1,h2,h3]
    refine callP (fun_of Tryz.func260 rfl rfl) (a125 t 0 0) (by simp only [go_sem,simprocAttr]) ?_
    simp only [go_sem,simprocAttr]
    repeat refine kn rfl ?_
    refine k_ret rfl ?_
    refine post_one ?_ (.bool _) rfl
    try simp only [go_sem,simprocAttr]
    exact .refl _
theorem a148 (t:Tm) (ht:t.Good):Pure Tryz.prog 261 [.iptr [.bool (named t)],.iptr t.cs] (.bool (named t && sym t.name && nargs t 0 0)):=by
 intro n H
 have hs:=ht.name
 refine a_fun tok (fun_of Tryz.func261 rfl rfl) (by simp) fun B=>?_
 repeat refine kn rfl ?_
 refine k_region tok rfl (by kernel_rfl) ?_
 simp only [go_sem,simprocAttr]
 cases h1:named t with
 | false =>
  repeat refine kn rfl ?_
  refine k_region tok rfl (by kernel_rfl) ?_
  simp only [go_sem,simprocAttr,h1]
  repeat refine kn rfl ?_
  refine k_ret rfl ?_
  refine post_one ?_ (.bool _) rfl
  try simp only [go_sem,simprocAttr]
  exact .refl _
 | true =>
  repeat refine kn rfl ?_
  refine k_region tok rfl (by kernel_rfl) ?_
  simp only [go_sem,simprocAttr,h1]
  refine callP (fun_of Tryz.func99 rfl rfl) (a45 t.name (by omega)) (by simp only [go_sem,simprocAttr]) ?_
  simp only [go_sem,simprocAttr]
  cases h2:sym t.name with
  | false =>
   simp only [go_sem,simprocAttr]
   repeat refine kn rfl ?_
   refine k_ret rfl ?_
   refine post_one ?_ (.bool _) rfl
   try simp only [go_sem,simprocAttr]
   exact .refl _
  | true =>
   simp only [go_sem,simprocAttr]
   refine callP (fun_of Tryz.func260 rfl rfl) (a125 t 0 0) (by simp only [go_sem,simprocAttr]) ?_
   simp only [go_sem,simprocAttr]
   repeat refine kn rfl ?_
   refine k_ret rfl ?_
   refine post_one ?_ (.bool _) rfl
   try simp only [go_sem,simprocAttr]
   exact .refl _
theorem a149 (t:Tm) (ht:t.Good):Pure Tryz.prog 262 [.iptr [.bool (named t)],.iptr t.cs] (.bool (named t && vname t.name && nargs t 0 0)):=by
 intro n H
 have hs:=ht.name
 refine a_fun tok (fun_of Tryz.func262 rfl rfl) (by simp) fun B=>?_
 repeat refine kn rfl ?_
 refine k_region tok rfl (by kernel_rfl) ?_
 simp only [go_sem,simprocAttr]
 cases h1:named t with
 | false =>
  repeat refine kn rfl ?_
  refine k_region tok rfl (by kernel_rfl) ?_
  simp only [go_sem,simprocAttr,h1]
  repeat refine kn rfl ?_
  refine k_ret rfl ?_
  refine post_one ?_ (.bool _) rfl
  try simp only [go_sem,simprocAttr]
  exact .refl _
 | true =>
  repeat refine kn rfl ?_
  refine k_region tok rfl (by kernel_rfl) ?_
  simp only [go_sem,simprocAttr,h1]
  refine callP (fun_of Tryz.func263 rfl rfl) (a150 t.name (by omega)) (by simp only [go_sem,simprocAttr]) ?_
  simp only [go_sem,simprocAttr]
  cases h2:vname t.name with
  | false =>
   simp only [go_sem,simprocAttr]
   repeat refine kn rfl ?_
   refine k_ret rfl ?_
   refine post_one ?_ (.bool _) rfl
   try simp only [go_sem,simprocAttr]
   exact .refl _
  | true =>
   simp only [go_sem,simprocAttr]
   refine callP (fun_of Tryz.func260 rfl rfl) (a125 t 0 0) (by simp only [go_sem,simprocAttr]) ?_
   simp only [go_sem,simprocAttr]
   repeat refine kn rfl ?_
   refine k_ret rfl ?_
   refine post_one ?_ (.bool _) rfl
   try simp only [go_sem,simprocAttr]
   exact .refl _
theorem a151 (t:Tm) (ht:t.Good):Pure Tryz.prog 264 [.iptr [.bool (named t)],.iptr t.cs] (.bool (named t && sym t.name && nargs t 1 8)):=by
 intro n H
 have hs:=ht.name
 refine a_fun tok (fun_of Tryz.func264 rfl rfl) (by simp) fun B=>?_
 repeat refine kn rfl ?_
 refine k_region tok rfl (by kernel_rfl) ?_
 simp only [go_sem,simprocAttr]
 cases h1:named t with
 | false =>
  repeat refine kn rfl ?_
  refine k_region tok rfl (by kernel_rfl) ?_
  simp only [go_sem,simprocAttr,h1]
  repeat refine kn rfl ?_
  refine k_ret rfl ?_
  refine post_one ?_ (.bool _) rfl
  try simp only [go_sem,simprocAttr]
  exact .refl _
 | true =>
  repeat refine kn rfl ?_
  refine k_region tok rfl (by kernel_rfl) ?_
  simp only [go_sem,simprocAttr,h1]
  refine callP (fun_of Tryz.func99 rfl rfl) (a45 t.name (by omega)) (by simp only [go_sem,simprocAttr]) ?_
  simp only [go_sem,simprocAttr]
  cases h2:sym t.name with
  | false =>
   simp only [go_sem,simprocAttr]
   repeat refine kn rfl ?_
   refine k_ret rfl ?_
   refine post_one ?_ (.bool _) rfl
   try simp only [go_sem,simprocAttr]
   exact .refl _
  | true =>
   simp only [go_sem,simprocAttr]
   refine callP (fun_of Tryz.func260 rfl rfl) (a125 t 1 8) (by simp only [go_sem,simprocAttr]) ?_
   simp only [go_sem,simprocAttr]
   repeat refine kn rfl ?_
   refine k_ret rfl ?_
   refine post_one ?_ (.bool _) rfl
   try simp only [go_sem,simprocAttr]
   exact .refl _
def sMinus:List UInt8:=[45]
theorem a152 (t:Tm) (o:Bool):Pure Tryz.prog 265 [.iptr [.bool (named t)],.iptr [.bool o],.iptr t.cs] (.bool (named t && o && (nargs t 2 2 || (t.name == sMinus) && nargs t 1 1))):=by
 intro n H
 refine a_fun tok (fun_of Tryz.func265 rfl rfl) (by simp) fun B=>?_
 repeat refine kn rfl ?_
 refine k_region tok rfl (by kernel_rfl) ?_
 simp only [go_sem,simprocAttr]
 cases h1:named t with
 | false =>
  repeat refine kn rfl ?_
  refine k_region tok rfl (by kernel_rfl) ?_
  simp only [go_sem,simprocAttr,h1]
  repeat refine kn rfl ?_
  refine k_ret rfl ?_
  refine post_one ?_ (.bool _) rfl
  try simp only [go_sem,simprocAttr]
  exact .refl _
 | true =>
  cases h2:o with
  | false =>
   repeat refine kn rfl ?_
   refine k_region tok rfl (by kernel_rfl) ?_
   simp only [go_sem,simprocAttr,h1,h2]
   repeat refine kn rfl ?_
   refine k_ret rfl ?_
   refine post_one ?_ (.bool _) rfl
   try simp only [go_sem,simprocAttr]
   exact .refl _
  | true =>
   repeat refine kn rfl ?_
   refine k_region tok rfl (by kernel_rfl) ?_
   simp only [go_sem,simprocAttr,h1,h2]
   refine callP (fun_of Tryz.func260 rfl rfl) (a125 t 2 2) (by simp only [go_sem,simprocAttr]) ?_
   simp only [go_sem,simprocAttr]
   cases h3:nargs t 2 2 with
   | true =>
    simp only [go_sem,simprocAttr]
    repeat refine kn rfl ?_
    refine k_ret rfl ?_
    refine post_one ?_ (.bool _) rfl
    try simp only [go_sem,simprocAttr,Bool.true_or]
    exact .refl _
   | false =>
    cases h4:(t.name == sMinus) with
    | false =>
     simp only [go_sem,simprocAttr,show (t.name == [45]) = false from h4]
     repeat refine kn rfl ?_
     refine k_ret rfl ?_
     refine post_one ?_ (.bool _) rfl
     try simp only [go_sem,simprocAttr,Bool.false_or]
     exact .refl _
    | true =>
     simp only [go_sem,simprocAttr,show (t.name == [45]) = true from h4]
     refine callP (fun_of Tryz.func260 rfl rfl) (a125 t 1 1) (by simp only [go_sem,simprocAttr]) ?_
     simp only [go_sem,simprocAttr]
     repeat refine kn rfl ?_
     refine k_ret rfl ?_
     refine post_one ?_ (.bool _) rfl
     try simp only [go_sem,simprocAttr,Bool.false_or]
     exact .refl _
theorem a153 (t:Tm):Pure Tryz.prog 266 [.iptr t.cs] (.bool ((t.num == 0) && (t.name == []) && nargs t 2 2)):=by
 intro n H
 refine a_fun tok (fun_of Tryz.func266 rfl rfl) (by simp) fun B=>?_
 repeat refine kn rfl ?_
 refine k_region tok rfl (by kernel_rfl) ?_
 simp only [go_sem,simprocAttr]
 cases h1:(t.num == 0) with
 | false =>
  repeat refine kn rfl ?_
  refine k_region tok rfl (by kernel_rfl) ?_
  simp only [go_sem,simprocAttr,h1]
  repeat refine kn rfl ?_
  refine k_ret rfl ?_
  refine post_one ?_ (.bool _) rfl
  try simp only [go_sem,simprocAttr]
  exact .refl _
 | true =>
  cases h2:(t.name == []) with
  | false =>
   repeat refine kn rfl ?_
   refine k_region tok rfl (by kernel_rfl) ?_
   simp only [go_sem,simprocAttr,h1,h2]
   repeat refine kn rfl ?_
   refine k_ret rfl ?_
   refine post_one ?_ (.bool _) rfl
   try simp only [go_sem,simprocAttr]
   exact .refl _
  | true =>
   repeat refine kn rfl ?_
   refine k_region tok rfl (by kernel_rfl) ?_
   simp only [go_sem,simprocAttr,h1,h2]
   refine callP (fun_of Tryz.func260 rfl rfl) (a125 t 2 2) (by simp only [go_sem,simprocAttr]) ?_
   simp only [go_sem,simprocAttr]
   repeat refine kn rfl ?_
   refine k_ret rfl ?_
   refine post_one ?_ (.bool _) rfl
   try simp only [go_sem,simprocAttr]
   exact .refl _
end Go.Proofs.YthgbkalgmicniaaGreatDoor

/- Library functions of this translation, laid. -/
namespace Go.Proofs
open Go.Shelf
def Tryz.lays156_ren:Go.Shelf.Ren:=⟨fun | 156=>107 | 165=>189 | 166=>190 | 169=>191 | 240=>273 | 241=>274 | 276=>320 | 277=>321 | n=>n,fun | 31=>60 | 9=>9 | 3=>3 | 4=>4 | 0=>0 | 20=>20 | 72=>244 | 76=>248 | 70=>241 | 37=>242 | 75=>247 | 127=>308 | 164=>345 | 5=>5 | 80=>250 | n=>n,fun | n=>n⟩
theorem Tryz.lays156:Go.Proofs.Lays.n156 Tryz.prog Tryz.lays156_ren:={
 mixed:=by kernel_rfl
 f156:=Tryz.func107.trans (congrArg some (by kernel_rfl))
 f165:=Tryz.func189.trans (congrArg some (by kernel_rfl))
 f166:=Tryz.func190.trans (congrArg some (by kernel_rfl))
 f169:=Tryz.func191.trans (congrArg some (by kernel_rfl))
 f240:=Tryz.func273.trans (congrArg some (by kernel_rfl))
 f241:=Tryz.func274.trans (congrArg some (by kernel_rfl))
 f276:=Tryz.func320.trans (congrArg some (by kernel_rfl))
 f277:=Tryz.func321.trans (congrArg some (by kernel_rfl))
 t0:=Tryz.underlying0
 a0:=Tryz.isAgg0
 z0:=Tryz.sizeOf0
 v0:=Tryz.zeroValue0
 t3:=Tryz.underlying3
 a3:=Tryz.isAgg3
 z3:=Tryz.sizeOf3
 v3:=Tryz.zeroValue3
 t4:=Tryz.underlying4
 a4:=Tryz.isAgg4
 z4:=Tryz.sizeOf4
 v4:=Tryz.zeroValue4
 t9:=Tryz.underlying9
 a9:=Tryz.isAgg9
 z9:=Tryz.sizeOf9
 v9:=Tryz.zeroValue9
 t20:=Tryz.underlying20
 a20:=Tryz.isAgg20
 z20:=Tryz.sizeOf20
 v20:=Tryz.zeroValue20
 t31:=Tryz.underlying60
 a31:=Tryz.isAgg60
 z31:=Tryz.sizeOf60
 v31:=Tryz.zeroValue60
 t37:=Tryz.underlying242
 a37:=Tryz.isAgg242
 z37:=Tryz.sizeOf242
 v37:=Tryz.zeroValue242
 t70:=Tryz.underlying241
 a70:=Tryz.isAgg241
 z70:=Tryz.sizeOf241
 v70:=Tryz.zeroValue241
 t72:=Tryz.underlying244
 a72:=Tryz.isAgg244
 z72:=Tryz.sizeOf244
 v72:=Tryz.zeroValue244
 t75:=Tryz.underlying247
 a75:=Tryz.isAgg247
 z75:=Tryz.sizeOf247
 v75:=Tryz.zeroValue247
 t76:=Tryz.underlying248
 a76:=Tryz.isAgg248
 z76:=Tryz.sizeOf248
 v76:=Tryz.zeroValue248
 t127:=Tryz.underlying308
 a127:=Tryz.isAgg308
 z127:=Tryz.sizeOf308
 v127:=Tryz.zeroValue308
 t164:=Tryz.underlying345
 a164:=Tryz.isAgg345
 z164:=Tryz.sizeOf345
 v164:=Tryz.zeroValue345 }
theorem Tryz.Builder_Extra_156:Builder.Extra Tryz.prog Tryz.lays156_ren:={
 sizeBuilder:=by kernel_rfl
 liesBuilder:=by kernel_rfl
 t5:=Tryz.underlying5
 a5:=Tryz.isAgg5
 z5:=Tryz.sizeOf5
 v5:=Tryz.zeroValue5
 infoByte:=by kernel_rfl
 cellsByte:=by kernel_rfl
 sizeByte:=by kernel_rfl
 neB5:=by decide }
def Tryz.lays106_ren:Go.Shelf.Ren:=⟨fun | 106=>148 | 213=>231 | 265=>300 | n=>n,fun | 9=>9 | 3=>3 | n=>n,fun | n=>n⟩
theorem Tryz.lays106:Go.Proofs.Lays.n106 Tryz.prog Tryz.lays106_ren:={
 mixed:=by kernel_rfl
 f106:=Tryz.func148.trans (congrArg some (by kernel_rfl))
 f213:=Tryz.func231.trans (congrArg some (by kernel_rfl))
 f265:=Tryz.func300.trans (congrArg some (by kernel_rfl))
 t3:=Tryz.underlying3
 a3:=Tryz.isAgg3
 z3:=Tryz.sizeOf3
 v3:=Tryz.zeroValue3
 t9:=Tryz.underlying9
 a9:=Tryz.isAgg9
 z9:=Tryz.sizeOf9
 v9:=Tryz.zeroValue9 }
def Tryz.laysM171_ren:Go.Shelf.Ren:=⟨fun | 171=>214 | 243=>291 | 246=>336 | 283=>357 | 284=>358 | 285=>359 | 286=>360 | 129=>287 | 317=>373 | 318=>374 | 319=>375 | 320=>376 | 337=>382 | 338=>383 | n=>n,fun | 3=>3 | 9=>9 | 2=>2 | 4=>4 | 171=>374 | 0=>0 | 53=>310 | 37=>242 | 5=>5 | 173=>376 | 212=>384 | 51=>319 | 20=>20 | 213=>385 | 46=>256 | 232=>394 | 233=>395 | n=>n,fun | 17=>1 | 18=>4 | 19=>5 | n=>n⟩
theorem Tryz.laysM171:Go.Proofs.LaysM.n171 Tryz.prog Tryz.laysM171_ren:={
 mixed:=by kernel_rfl
 f129:=Tryz.func287.trans (congrArg some (by kernel_rfl))
 f171:=Tryz.func214.trans (congrArg some (by kernel_rfl))
 f243:=Tryz.func291.trans (congrArg some (by kernel_rfl))
 f246:=Tryz.func336.trans (congrArg some (by kernel_rfl))
 f283:=Tryz.func357.trans (congrArg some (by kernel_rfl))
 f284:=Tryz.func358.trans (congrArg some (by kernel_rfl))
 f285:=Tryz.func359.trans (congrArg some (by kernel_rfl))
 f286:=Tryz.func360.trans (congrArg some (by kernel_rfl))
 f317:=Tryz.func373.trans (congrArg some (by kernel_rfl))
 f318:=Tryz.func374.trans (congrArg some (by kernel_rfl))
 f319:=Tryz.func375.trans (congrArg some (by kernel_rfl))
 f320:=Tryz.func376.trans (congrArg some (by kernel_rfl))
 f337:=Tryz.func382.trans (congrArg some (by kernel_rfl))
 f338:=Tryz.func383.trans (congrArg some (by kernel_rfl))
 t0:=Tryz.underlying0
 a0:=Tryz.isAgg0
 z0:=Tryz.sizeOf0
 v0:=Tryz.zeroValue0
 t2:=Tryz.underlying2
 a2:=Tryz.isAgg2
 z2:=Tryz.sizeOf2
 v2:=Tryz.zeroValue2
 t3:=Tryz.underlying3
 a3:=Tryz.isAgg3
 z3:=Tryz.sizeOf3
 v3:=Tryz.zeroValue3
 t4:=Tryz.underlying4
 a4:=Tryz.isAgg4
 z4:=Tryz.sizeOf4
 v4:=Tryz.zeroValue4
 t5:=Tryz.underlying5
 a5:=Tryz.isAgg5
 z5:=Tryz.sizeOf5
 v5:=Tryz.zeroValue5
 t9:=Tryz.underlying9
 a9:=Tryz.isAgg9
 z9:=Tryz.sizeOf9
 v9:=Tryz.zeroValue9
 t20:=Tryz.underlying20
 a20:=Tryz.isAgg20
 z20:=Tryz.sizeOf20
 v20:=Tryz.zeroValue20
 t37:=Tryz.underlying242
 a37:=Tryz.isAgg242
 z37:=Tryz.sizeOf242
 v37:=Tryz.zeroValue242
 t46:=Tryz.underlying256
 a46:=Tryz.isAgg256
 z46:=Tryz.sizeOf256
 v46:=Tryz.zeroValue256
 t51:=Tryz.underlying319
 a51:=Tryz.isAgg319
 z51:=Tryz.sizeOf319
 v51:=Tryz.zeroValue319
 t53:=Tryz.underlying310
 a53:=Tryz.isAgg310
 z53:=Tryz.sizeOf310
 v53:=Tryz.zeroValue310
 t171:=Tryz.underlying374
 a171:=Tryz.isAgg374
 z171:=Tryz.sizeOf374
 v171:=Tryz.zeroValue374
 t173:=Tryz.underlying376
 a173:=Tryz.isAgg376
 z173:=Tryz.sizeOf376
 v173:=Tryz.zeroValue376
 t212:=Tryz.underlying384
 a212:=Tryz.isAgg384
 z212:=Tryz.sizeOf384
 v212:=Tryz.zeroValue384
 t213:=Tryz.underlying385
 a213:=Tryz.isAgg385
 z213:=Tryz.sizeOf385
 t232:=Tryz.underlying394
 a232:=Tryz.isAgg394
 z232:=Tryz.sizeOf394
 v232:=Tryz.zeroValue394
 t233:=Tryz.underlying395
 a233:=Tryz.isAgg395
 z233:=Tryz.sizeOf395
 v233:=Tryz.zeroValue395
 g17:=by kernel_rfl
 g18:=by kernel_rfl
 g19:=by kernel_rfl
 i0:=by kernel_rfl
 i2:=by kernel_rfl
 i3:=by kernel_rfl
 i4:=by kernel_rfl
 i5:=by kernel_rfl
 i9:=by kernel_rfl
 i20:=by kernel_rfl
 i37:=by kernel_rfl
 i46:=by kernel_rfl
 i51:=by kernel_rfl
 i53:=by kernel_rfl
 i171:=by kernel_rfl
 i173:=by kernel_rfl
 i212:=by kernel_rfl
 i232:=by kernel_rfl
 i233:=by kernel_rfl
 m17:=by kernel_rfl
 m18:=by kernel_rfl
 m19:=by kernel_rfl }
def Tryz.lays144_ren:Go.Shelf.Ren:=⟨fun | 144=>258 | 143=>311 | 219=>347 | 217=>365 | 225=>366 | 224=>367 | 267=>368 | 266=>378 | 314=>379 | n=>n,fun | 9=>9 | 4=>4 | 3=>3 | 5=>5 | 46=>256 | 146=>387 | 51=>319 | n=>n,fun | 1=>0 | n=>n⟩
theorem Tryz.lays144:Go.Proofs.Lays.n144 Tryz.prog Tryz.lays144_ren:={
 mixed:=by kernel_rfl
 f143:=Tryz.func311.trans (congrArg some (by kernel_rfl))
 f144:=Tryz.func258.trans (congrArg some (by kernel_rfl))
 f217:=Tryz.func365.trans (congrArg some (by kernel_rfl))
 f219:=Tryz.func347.trans (congrArg some (by kernel_rfl))
 f224:=Tryz.func367.trans (congrArg some (by kernel_rfl))
 f225:=Tryz.func366.trans (congrArg some (by kernel_rfl))
 f266:=Tryz.func378.trans (congrArg some (by kernel_rfl))
 f267:=Tryz.func368.trans (congrArg some (by kernel_rfl))
 f314:=Tryz.func379.trans (congrArg some (by kernel_rfl))
 t3:=Tryz.underlying3
 a3:=Tryz.isAgg3
 z3:=Tryz.sizeOf3
 v3:=Tryz.zeroValue3
 t4:=Tryz.underlying4
 a4:=Tryz.isAgg4
 z4:=Tryz.sizeOf4
 v4:=Tryz.zeroValue4
 t5:=Tryz.underlying5
 a5:=Tryz.isAgg5
 z5:=Tryz.sizeOf5
 v5:=Tryz.zeroValue5
 t9:=Tryz.underlying9
 a9:=Tryz.isAgg9
 z9:=Tryz.sizeOf9
 v9:=Tryz.zeroValue9
 t46:=Tryz.underlying256
 a46:=Tryz.isAgg256
 z46:=Tryz.sizeOf256
 v46:=Tryz.zeroValue256
 t51:=Tryz.underlying319
 a51:=Tryz.isAgg319
 z51:=Tryz.sizeOf319
 v51:=Tryz.zeroValue319
 t146:=Tryz.underlying387
 a146:=Tryz.isAgg387
 z146:=Tryz.sizeOf387
 v146:=Tryz.zeroValue387
 g1:=by kernel_rfl }
def Tryz.laysNm220_ren:Go.Shelf.Ren:=⟨fun | 20=>210 | n=>n,fun | 22=>61 | 3=>3 | 4=>4 | 0=>0 | n=>n,fun | n=>n⟩
theorem Tryz.laysNm220:Go.Proofs.Lays2.n20 Tryz.prog Tryz.laysNm220_ren:={
 mixed:=by kernel_rfl
 f20:=Tryz.func210.trans (congrArg some (by kernel_rfl))
 t0:=Tryz.underlying0
 a0:=Tryz.isAgg0
 z0:=Tryz.sizeOf0
 v0:=Tryz.zeroValue0
 t3:=Tryz.underlying3
 a3:=Tryz.isAgg3
 z3:=Tryz.sizeOf3
 v3:=Tryz.zeroValue3
 t4:=Tryz.underlying4
 a4:=Tryz.isAgg4
 z4:=Tryz.sizeOf4
 v4:=Tryz.zeroValue4
 t22:=Tryz.underlying61
 a22:=Tryz.isAgg61
 z22:=Tryz.sizeOf61
 v22:=Tryz.zeroValue61
 i3:=by kernel_rfl }
end Go.Proofs

/- Library functions, as the layer says them. -/
namespace Go.Proofs.YthgbkalgmicniaaGreatDoor
open Go.Abs
set_option maxRecDepth 100000
theorem _root_.Go.Abs.HRel.below {n:Nat} {H:AHeap} {E:Env} {w w':World} (h:HRel n H E w) (hb:Go.RowKit.Below w.heap.size w w') (hd:E.qd = true → w.drawn ≤ w'.drawn):HRel n H E w' ∧ Ext n E w E w' :=
 h.grow (F':=E.F) hb.os hb.tape hb.output hd hb.size (fun b hlt=>hb.block b hlt) (fun _ _ _ h=>h) (fun b o v hf=>by
  have hlt:=h.F_lt hf
  have:=h.F b o v hf
  simp only [World.cell?,hb.block b hlt] at this ⊢; exact this) (fun _ _ _=>rfl)
theorem pure_same {P:Program} {f:FuncId} {args:List AV} {r:AV} (h:∀ E w vs,VRs E args vs → ∃ v,VR E r v ∧ Calls P f vs.toArray w fun e w'=>e = .returned v ∧ w' = w):Pure P f args r:=fun n H E w vs hr hv=>by
 obtain ⟨v,h1,h2⟩:=h E w vs hv
 refine h2.mono ?_
 rintro e w' ⟨rfl,rfl⟩
 exact ⟨r,v,H,E,rfl,⟨rfl,rfl⟩,h1,hr,.refl _ _ _⟩
def Tabs (H:AHeap):Prop:=∃ m t t',H 0 0 = some (.var 0 t [.int .i64 m]) ∧ H 0 1 = some (.var 1 t' (Lib.pow10Tab.map (.int .u64)))
def PureT (P:Program) (f:FuncId) (args:List AV) (r:AV):Prop:=∀ n H,0 < n → Tabs H → PC P n f args H r
theorem Abs.Pure.tabs {P:Program} {f:FuncId} {args:List AV} {r:AV} (h:Pure P f args r):PureT P f args r:=fun n H _ _=>h n H
theorem Tabs.full {n:Nat} {L:List (Nat × ABlk)} {H:AHeap} (h:Tabs H) (hn:0 < n):Tabs (full n L H):=by
 obtain ⟨m,t,t',h1,h2⟩:=h
 refine ⟨m,t,t',?_,?_⟩ <;> simp only [Abs.full] <;> rw [if_neg (by omega)] <;> assumption
theorem callT {cx:Cx} {dr:Bool} {o:Oper} {args:List Operand} {ts:List TypeId} {s:AState} {F:AState → Prop} {f:FuncId} {fn:Func} {c:Code} {r:AV} {avs:List AV} (hf:Fun cx.P f fn c)
  (h:PureT cx.P f avs r) (hn:0 < cx.n) (hT:Tabs s.H) (ha:argsA cx.T (evT s.tmps) args ts = avs) (hF:F ⟨putT s.tmps o.dst r,s.L,s.H⟩):CallG cx dr o (.func f) args ts s F :=
 callG hf rfl (by rw [List.append_nil,ha]; exact h _ _ (Nat.succ_pos _) (hT.full hn)) hF
theorem a50 (a b:List UInt8):Pure Tryz.prog 148 [.str a,.str b] (.int .i64 (Lib.compareBytes a b)):=pure_same fun E w vs hv=>by
 obtain ⟨v1,r1,rfl,h1,hv⟩:=hv.uncons
 obtain ⟨v2,r2,rfl,h2,hv⟩:=hv.uncons
 rw [hv.of_nil]
 cases h1; cases h2
 exact ⟨_,.int _ _,Any.strings_Compare Tryz.lays106 ⟨a.toArray⟩ ⟨b.toArray⟩ w⟩
theorem pc_of_var {n:Nat} {H:AHeap} {E:Env} {w:World} {l k b:Nat} {t:TypeId} {cs:List AV} (hr:HRel n H E w) (hl:l < n) (h:H l k = some (.var b t cs)):E.qd = false ∧ ∃ c,w.heap[b]? = some (.cells c t (0,0)) ∧ VRs E cs c.toList:=by
 obtain ⟨h1,_,h2⟩:=hr.blk l k _ hl h
 exact ⟨h1,h2⟩
theorem a146 (s sub:List UInt8) (hs:s.length < 4294967281):PureT Tryz.prog 258 [.str s,.str sub] (.bool (Lib.contains s sub)):=fun n H hn hT E w vs hr hv=>by
 obtain ⟨m,t,t',hm,_⟩:=hT
 obtain ⟨v1,r1,rfl,h1,hv⟩:=hv.uncons
 obtain ⟨v2,r2,rfl,h2,hv⟩:=hv.uncons
 rw [hv.of_nil]
 cases h1; cases h2
 obtain ⟨_,c,hc,hcv⟩:=pc_of_var hr hn hm
 obtain ⟨x,r,hx,hxv,hrn⟩:=hcv.uncons
 have hcell:w.cell? ⟨0,0,none⟩ = some (.int .i64 m):=by
  cases hxv
  simp only [World.cell?,hc]
  have:c = #[.int .i64 m]:=by
   rw [hrn.of_nil] at hx
   exact Array.toList_inj.1 hx
  rw [this]; rfl
 refine (Any.strings_Contains Tryz.lays144 ⟨s.toArray⟩ ⟨sub.toArray⟩ m w (by show s.toArray.size < _; simpa using hs) hcell).mono ?_
 rintro e w' ⟨rfl,rfl⟩
 exact ⟨_,_,H,E,rfl,⟨rfl,rfl⟩,.bool _,hr,.refl _ _ _⟩
theorem VRs.u64s {E:Env}:∀ {l:List Int} {vs:List Value},VRs E (l.map (.int .u64)) vs → vs = l.map (Value.int .u64)
 | [],vs,h=>h.of_nil
 | x :: l,vs,h=>by
  obtain ⟨v,r,rfl,h1,h2⟩:=VRs.uncons h
  cases h1
  rw [VRs.u64s h2]; rfl
theorem a123 (i:Int) (h0:-9223372036854775808 ≤ i) (h1:i ≤ 9223372036854775807):PureT Tryz.prog 214 [.int .i64 i] (.str (Lib.itoa i)):=fun n H hn hT E w vs hr hv=>by
 obtain ⟨m,t,t',_,hm⟩:=hT
 obtain ⟨v1,r1,rfl,hv1,hv⟩:=hv.uncons
 rw [hv.of_nil]
 cases hv1
 obtain ⟨hq,c,hc,hcv⟩:=pc_of_var hr hn hm
 have hg:Tryz.prog.globalNamed (Rows.lowerTellsRow.named.getD 3 default) = some 1:=by kernel_rfl
 have htab:Lib.TabIs Tryz.prog w (Rows.lowerTellsRow.named.getD 3 default) .u64 Lib.pow10Tab:=by
  simp only [Lib.TabIs,World.var?,hg,Option.bind_some,hc]
  exact congrArg some (Array.toList_inj.1 (VRs.u64s hcv))
 refine (Any.strconv_Itoa Tryz.laysM171 i h0 h1 w htab).mono ?_
 rintro e w' ⟨rfl,k,os,rfl⟩
 obtain ⟨hh,hx⟩:=hr.below (w':=Sort.grow (w.drewN k) os) ⟨rfl,rfl,rfl,by simp [Sort.grow,World.drewN],fun b hb=>by simp [Sort.grow,World.drewN,Array.getElem?_append,hb]⟩ (fun hq'=>by rw [hq] at hq'; cases hq')
 exact ⟨_,_,H,E,rfl,⟨rfl,rfl⟩,.str _,hh,hx⟩
theorem strs_of {E:Env} {b off:Nat}:∀ (xs:List (List UInt8)) (c:Nat → Nat → Value),(∀ i (h:i < (xs.map AV.str).length) j (h':j < ((xs.map AV.str)[i]).cells.length),VR E ((xs.map AV.str)[i]).cells[j] (c i j)) →
  ∀ j x,(xs.map fun s=>(⟨s.toArray⟩:ByteArray))[j]? = some x → c j 0 = .string x:=fun xs c h j x hx=>by
 rw [List.getElem?_map,Option.map_eq_some_iff] at hx
 obtain ⟨s,hs,rfl⟩:=hx
 obtain ⟨hj,rfl⟩:=List.getElem?_eq_some_iff.1 hs
 have:=h j (by simpa using hj) 0 (by simp [AV.cells])
 simp only [List.getElem_map,AV.cells,List.getElem_cons_zero] at this
 generalize c j 0 = y at this
 cases this; rfl
theorem a92 (xs:List (List UInt8)) (sep:List UInt8) (o:Own) (hN:xs.length ≤ 140737488355328) (hl:(Lib.join xs sep).length ≤ 140737488355328):PureT Tryz.prog 107 [.sl 1 (xs.map .str) o,.str sep] (.str (Lib.join xs sep)):=fun n H hn hT E w vs hr hv=>by
 obtain ⟨m,t,t',_,hm⟩:=hT
 obtain ⟨v1,r1,rfl,hv1,hv⟩:=hv.uncons
 obtain ⟨v2,r2,rfl,hv2,hv⟩:=hv.uncons
 rw [hv.of_nil]
 cases hv2
 obtain ⟨hq,_⟩:=pc_of_var hr hn hm
 have fin:∀ w',Go.RowKit.Below w.heap.size w w' → ∃ r v H' E',Ending.returned (.string ⟨(Lib.join xs sep).toArray⟩) = .returned v ∧ (r = .str (Lib.join xs sep) ∧ H' = H) ∧ VR E' r v ∧ HRel n H' E' w' ∧ Ext n E w E' w':=fun w' hb=>by
  obtain ⟨hh,hx⟩:=hr.below hb (fun hq'=>by rw [hq] at hq'; cases hq')
  exact ⟨_,_,H,E,rfl,⟨rfl,rfl⟩,.str _,hh,hx⟩
 cases hx:xs with
 | nil =>
  subst hx
  have hnone:∀ a c,Calls Tryz.prog 107 #[.slice a 0 c,.string ⟨sep.toArray⟩] w fun e w'=>∃ r v H' E',e = .returned v ∧ (r = .str (Lib.join [] sep) ∧ H' = H) ∧ VR E' r v ∧ HRel n H' E' w' ∧ Ext n E w E' w':=fun a c =>
   (Any.strings_Join_none Tryz.lays156 Tryz.Builder_Extra_156 a c ⟨sep.toArray⟩ w).mono fun e w' ⟨he,hw⟩=>by
    subst hw; rw [he]; exact fin _ (Go.RowKit.Below.refl _ _)
  generalize hxs:AV.sl 1 (List.map AV.str []) o = av at hv1
  cases hv1 <;> cases hxs
  ·exact hnone _ _
  ·exact hnone _ _
 | cons x r =>
  rw [hx] at hv1 hN hl fin
  generalize hxs:AV.sl 1 (List.map AV.str (x :: r)) o = av at hv1
  cases hv1 <;> cases hxs
  rename_i b off cap c hv' hcap hml hk hc ho
  have hcell:∀ i,i < (x :: r).length → w.cell? ⟨b,off + i,none⟩ = some (c i 0):=fun i hi=>by
   have:=hr.F _ _ _ (hc i 0 (by simpa using hi) (by omega))
   simpa using this
  have hlen:(List.map AV.str (x :: r)).length = ((x :: r).map fun s=>(⟨s.toArray⟩:ByteArray)).length:=by simp
  have hmm:((x :: r).map fun s=>(⟨s.toArray⟩:ByteArray)).map (·.data.toList) = x :: r:=by
   rw [List.map_map]
   exact (List.map_congr_left (g:=fun s=>s) (fun s _=>by simp)).trans (List.map_id' _)
  have hj:=Any.strings_Join Tryz.lays156 Tryz.Builder_Extra_156 b off cap ((x :: r).map fun s=>(⟨s.toArray⟩:ByteArray)) ⟨sep.toArray⟩ w (fun j y hy=>by
   have hlt:j < (x :: r).length:=by
    have:=(List.getElem?_eq_some_iff.1 hy).1; simpa using this
   rw [hcell j hlt,strs_of (b:=b) (off:=off) _ c hv' j y hy]) (hr.F_lt (hc 0 0 (by simp) (by omega))) (by simpa using hN) (by simpa using hcap) (by rw [hmm]; exact hl)
  rw [hmm] at hj
  rw [hlen]
  refine Calls.mono hj ?_
  rintro e w' ⟨rfl,hb⟩
  exact fin w' hb
end Go.Proofs.YthgbkalgmicniaaGreatDoor

/- Shapes and validity. -/
namespace Go.Proofs.YthgbkalgmicniaaGreatDoor
open Go.Abs
set_option maxRecDepth 100000
def sOps:List UInt8:=[43,45,42,47,92]
def oper (t:Tm):Bool:=Lib.contains sOps t.name && ((t.name.length:Int) == 1)
def shape (t:Tm):Bool :=
 if t.kind = 1 then decide (-2147483647 ≤ t.num) && decide (t.num ≤ 2147483647) && (t.name == []) && nargs t 0 0
 else if t.kind = 2 then named t && sym t.name && nargs t 0 0
 else if t.kind = 4 then named t && sym t.name && nargs t 1 8
 else if t.kind = 3 then named t && vname t.name && nargs t 0 0
 else if t.kind = 5 then named t && oper t && (nargs t 2 2 || (t.name == sMinus) && nargs t 1 1)
 else if t.kind = 6 then (t.num == 0) && (t.name == []) && nargs t 2 2
 else false
theorem a107 (t:Tm) (ht:t.Good):PureT Tryz.prog 181 [t.enc] (.bool (shape t)):=by
 intro n H hn hT
 have hs:=ht.name
 refine a_fun tok (fun_of Tryz.func181 rfl rfl) (by simp) fun B=>?_
 repeat refine kn rfl ?_
 refine k_region tok rfl (by kernel_rfl) ?_
 simp only [go_sem,simprocAttr]
 repeat refine kn rfl ?_
 refine k_cut ⟨[(3,.ptr n 3 0),(2,.bool false),(1,.ptr n 1 0)],[(1,.box t.cs),(3,.box [.bool (named t)])],H⟩ ?_ ?_
 ·cases h1:(t.num == 0)
  all_goals
   repeat refine kn rfl ?_
   refine k_region tok rfl (by kernel_rfl) ?_
   simp only [go_sem,simprocAttr,h1]
   repeat refine kn rfl ?_
   refine k_nil ?_
   refine ⟨rfl,?_⟩
   refine AWk_kept ?_ ?_ ?_ ?_ <;> repeat' first | exact trivial | refine q0 ?_ | exact qb | exact q1 | exact q2 | exact q3 | exact rfl | refine And.intro ?_ ?_ | exact q4 | exact q5 | exact q6 | exact q7 | exact Inside.ptr _ _ _ (.inr ⟨rfl,rfl⟩) | exact q8 | exact q9 | exact qd | exact Tm.ins _ | exact Tm.inss _ _ | exact Am.ins _ | exact Am.inss _ _ | refine ins_buf_str ?_ | refine Tm.ins_buf ?_ | refine Am.ins_buf ?_ | exact qf
   simp only [go_sem,simprocAttr,named,h1,bne]
 repeat refine kn rfl ?_
 refine k_cut ⟨[(4,.ptr n 4 0),(3,.ptr n 3 0),(2,.bool false),(1,.ptr n 1 0)],[(1,.box t.cs),(3,.box [.bool (named t)]),(4,.box [.bool (oper t)])],H⟩ ?_ ?_
 ·repeat refine kn rfl ?_
  refine k_region tok rfl (by kernel_rfl) ?_
  simp only [go_sem,simprocAttr]
  refine callT (fun_of Tryz.func258 rfl rfl) (a146 [43,45,42,47,92] t.name (by decide)) hn hT (by simp only [go_sem,simprocAttr]) ?_
  simp only [go_sem,simprocAttr]
  cases h1:Lib.contains [43,45,42,47,92] t.name
  all_goals
   try simp only [go_sem,simprocAttr]
   repeat refine kn rfl ?_
   refine k_nil ?_
   refine ⟨rfl,?_⟩
   refine AWk_kept ?_ ?_ ?_ ?_ <;> repeat' first | exact trivial | refine q0 ?_ | exact qb | exact q1 | exact q2 | exact q3 | exact rfl | refine And.intro ?_ ?_ | exact q4 | exact q5 | exact q6 | exact q7 | exact Inside.ptr _ _ _ (.inr ⟨rfl,rfl⟩) | exact q8 | exact q9 | exact qd | exact Tm.ins _ | exact Tm.inss _ _ | exact Am.ins _ | exact Am.inss _ _ | refine ins_buf_str ?_ | refine Tm.ins_buf ?_ | refine Am.ins_buf ?_ | exact qf
   simp only [go_sem,simprocAttr,oper,sOps,h1]
 repeat refine kn rfl ?_
 refine k_freeze 1 t.cs [(4,.ptr n 4 0),(3,.ptr n 3 0),(2,.bool false),(1,.iptr t.cs)] rfl ?_ ?_ ?_ ?_
 ·exact ⟨.int _ _,.int _ _,.str _,Tm.inss _ _,trivial⟩
 ·exact ⟨.inl ⟨.refl _,.ptr _ _ _ (.inr ⟨rfl,by decide⟩)⟩,.inl ⟨.refl _,.ptr _ _ _ (.inr ⟨rfl,by decide⟩)⟩,.inl ⟨.refl _,.bool _⟩,.inr ⟨0,rfl,rfl⟩,trivial⟩
 ·exact ⟨ABlk.inside_box ⟨.bool _,trivial⟩,ABlk.inside_box ⟨.bool _,trivial⟩,trivial⟩
 refine k_freeze 3 [.bool (named t)] [(4,.ptr n 4 0),(3,.iptr [.bool (named t)]),(2,.bool false),(1,.iptr t.cs)] rfl ?_ ?_ ?_ ?_
 ·exact ⟨.bool _,trivial⟩
 ·exact ⟨.inl ⟨.refl _,.ptr _ _ _ (.inr ⟨rfl,by decide⟩)⟩,.inr ⟨0,rfl,rfl⟩,.inl ⟨.refl _,.bool _⟩,.inl ⟨.refl _,Below.inside (below_iptr t.bcs)⟩,trivial⟩
 ·exact ⟨ABlk.inside_box ⟨.bool _,trivial⟩,trivial⟩
 refine k_freeze 4 [.bool (oper t)] [(4,.iptr [.bool (oper t)]),(3,.iptr [.bool (named t)]),(2,.bool false),(1,.iptr t.cs)] rfl ?_ ?_ trivial ?_
 ·exact ⟨.bool _,trivial⟩
 ·exact ⟨.inr ⟨0,rfl,rfl⟩,.inl ⟨.refl _,Below.inside (below_iptr ⟨.bool _,trivial⟩)⟩,.inl ⟨.refl _,.bool _⟩,.inl ⟨.refl _,Below.inside (below_iptr t.bcs)⟩,trivial⟩
 repeat refine kn rfl ?_
 refine k_region tok rfl (by kernel_rfl) ?_
 simp only [go_sem,simprocAttr,putA,findA,findL,AV.kls,klAll,AV.kl,Option.getD_some,List.mem_cons,forall_eq_or_imp,List.not_mem_nil,KL.int.injEq,List.cons.injEq,List.map_cons,Int.reduceEq,false_and,and_false,not_false_eq_true]
 by_cases k1:t.kind = 1
 ·repeat refine kn rfl ?_
  refine k_region tok rfl (by kernel_rfl) ?_
  simp only [go_sem,simprocAttr,lookA,findA,findL,AV.kls,klAll,AV.kl,Option.getD_some,List.mem_cons,forall_eq_or_imp,List.not_mem_nil,KL.int.injEq,List.cons.injEq,List.map_cons,eq_true k1,true_and,and_true,false_and]
  repeat refine kn rfl ?_
  refine k_region tok rfl (by kernel_rfl) ?_
  simp only [go_sem,simprocAttr,bne]
  refine callV (avs:=[]) rfl (fun_of Tryz.func259 rfl rfl) (a147 t _ _) rfl ?_
  simp only [go_sem,simprocAttr]
  repeat refine kn rfl ?_
  refine k_ret rfl ?_
  refine post_one ?_ (.bool _) rfl
  rw [shape]
  simp only [k1,reduceIte,Int.reduceEq]
  simp only [go_sem,simprocAttr]
  first | exact .refl _ | (simp; exact .refl _)
 by_cases k2:t.kind = 2
 ·repeat refine kn rfl ?_
  refine k_region tok rfl (by kernel_rfl) ?_
  simp only [go_sem,simprocAttr,lookA,findA,findL,AV.kls,klAll,AV.kl,Option.getD_some,List.mem_cons,forall_eq_or_imp,List.not_mem_nil,KL.int.injEq,List.cons.injEq,List.map_cons,eq_false k1,eq_true k2,true_and,and_true,false_and]
  repeat refine kn rfl ?_
  refine k_region tok rfl (by kernel_rfl) ?_
  simp only [go_sem,simprocAttr,bne]
  refine callV (avs:=[]) rfl (fun_of Tryz.func261 rfl rfl) (a148 t ht _ _) rfl ?_
  simp only [go_sem,simprocAttr]
  repeat refine kn rfl ?_
  refine k_ret rfl ?_
  refine post_one ?_ (.bool _) rfl
  rw [shape]
  simp only [k1,k2,reduceIte,Int.reduceEq]
  simp only [go_sem,simprocAttr]
  first | exact .refl _ | (simp; exact .refl _)
 by_cases k3:t.kind = 3
 ·repeat refine kn rfl ?_
  refine k_region tok rfl (by kernel_rfl) ?_
  simp only [go_sem,simprocAttr,lookA,findA,findL,AV.kls,klAll,AV.kl,Option.getD_some,List.mem_cons,forall_eq_or_imp,List.not_mem_nil,KL.int.injEq,List.cons.injEq,List.map_cons,eq_false k1,eq_false k2,eq_true k3,true_and,and_true,false_and]
  repeat refine kn rfl ?_
  refine k_region tok rfl (by kernel_rfl) ?_
  simp only [go_sem,simprocAttr,bne]
  refine callV (avs:=[]) rfl (fun_of Tryz.func262 rfl rfl) (a149 t ht _ _) rfl ?_
  simp only [go_sem,simprocAttr]
  repeat refine kn rfl ?_
  refine k_ret rfl ?_
  refine post_one ?_ (.bool _) rfl
  rw [shape]
  simp only [k1,k2,k3,reduceIte,Int.reduceEq]
  simp only [go_sem,simprocAttr]
  first | exact .refl _ | (simp; exact .refl _)
 by_cases k4:t.kind = 4
 ·repeat refine kn rfl ?_
  refine k_region tok rfl (by kernel_rfl) ?_
  simp only [go_sem,simprocAttr,lookA,findA,findL,AV.kls,klAll,AV.kl,Option.getD_some,List.mem_cons,forall_eq_or_imp,List.not_mem_nil,KL.int.injEq,List.cons.injEq,List.map_cons,eq_false k1,eq_false k2,eq_false k3,eq_true k4,true_and,and_true,false_and]
  repeat refine kn rfl ?_
  refine k_region tok rfl (by kernel_rfl) ?_
  simp only [go_sem,simprocAttr,bne]
  refine callV (avs:=[]) rfl (fun_of Tryz.func264 rfl rfl) (a151 t ht _ _) rfl ?_
  simp only [go_sem,simprocAttr]
  repeat refine kn rfl ?_
  refine k_ret rfl ?_
  refine post_one ?_ (.bool _) rfl
  rw [shape]
  simp only [k1,k2,k3,k4,reduceIte,Int.reduceEq]
  simp only [go_sem,simprocAttr]
  first | exact .refl _ | (simp; exact .refl _)
 by_cases k5:t.kind = 5
 ·repeat refine kn rfl ?_
  refine k_region tok rfl (by kernel_rfl) ?_
  simp only [go_sem,simprocAttr,lookA,findA,findL,AV.kls,klAll,AV.kl,Option.getD_some,List.mem_cons,forall_eq_or_imp,List.not_mem_nil,KL.int.injEq,List.cons.injEq,List.map_cons,eq_false k1,eq_false k2,eq_false k3,eq_false k4,eq_true k5,true_and,and_true,false_and]
  repeat refine kn rfl ?_
  refine k_region tok rfl (by kernel_rfl) ?_
  simp only [go_sem,simprocAttr,bne]
  refine callV (avs:=[]) rfl (fun_of Tryz.func265 rfl rfl) (a152 t (oper t) _ _) rfl ?_
  simp only [go_sem,simprocAttr]
  repeat refine kn rfl ?_
  refine k_ret rfl ?_
  refine post_one ?_ (.bool _) rfl
  rw [shape]
  simp only [k1,k2,k3,k4,k5,reduceIte,Int.reduceEq]
  simp only [go_sem,simprocAttr]
  first | exact .refl _ | (simp; exact .refl _)
 by_cases k6:t.kind = 6
 ·repeat refine kn rfl ?_
  refine k_region tok rfl (by kernel_rfl) ?_
  simp only [go_sem,simprocAttr,lookA,findA,findL,AV.kls,klAll,AV.kl,Option.getD_some,List.mem_cons,forall_eq_or_imp,List.not_mem_nil,KL.int.injEq,List.cons.injEq,List.map_cons,eq_false k1,eq_false k2,eq_false k3,eq_false k4,eq_false k5,eq_true k6,true_and,and_true,false_and]
  repeat refine kn rfl ?_
  refine k_region tok rfl (by kernel_rfl) ?_
  simp only [go_sem,simprocAttr,bne]
  refine callV (avs:=[]) rfl (fun_of Tryz.func266 rfl rfl) (a153 t _ _) rfl ?_
  simp only [go_sem,simprocAttr]
  repeat refine kn rfl ?_
  refine k_ret rfl ?_
  refine post_one ?_ (.bool _) rfl
  rw [shape]
  simp only [k1,k2,k3,k4,k5,k6,reduceIte,Int.reduceEq]
  simp only [go_sem,simprocAttr]
  first | exact .refl _ | (simp; exact .refl _)
 repeat refine kn rfl ?_
 refine k_region tok rfl (by kernel_rfl) ?_
 simp only [go_sem,simprocAttr,lookA,findA,findL,AV.kls,klAll,AV.kl,Option.getD_some,List.mem_cons,forall_eq_or_imp,List.not_mem_nil,KL.int.injEq,List.cons.injEq,List.map_cons,eq_false k1,eq_false k2,eq_false k3,eq_false k4,eq_false k5,eq_false k6,zeroA]
 repeat refine kn rfl ?_
 refine k_region tok rfl (by kernel_rfl) ?_
 simp only [go_sem,simprocAttr,bne]
 repeat refine kn rfl ?_
 refine k_ret rfl ?_
 refine post_one ?_ (.bool _) rfl
 rw [shape]
 simp only [k1,k2,k3,k4,k5,k6,reduceIte]
 simp only [go_sem,simprocAttr]
 exact .refl _
end Go.Proofs.YthgbkalgmicniaaGreatDoor

/- Validity, as the program says it. -/
namespace Go.Proofs.YthgbkalgmicniaaGreatDoor
open Go.Abs
set_option maxRecDepth 100000
theorem Tabs.up {G H:AHeap} (h:Tabs H) (hG:∀ k,G 0 k = H 0 k):Tabs G:=by
 obtain ⟨m,t,t',h1,h2⟩:=h
 exact ⟨m,t,t',(hG 0).trans h1,(hG 1).trans h2⟩
def PredIs (f:Nat) (caps:List AV) (p:Tm → Bool):Prop:=(∃ fn c,Fun Tryz.prog f fn c) ∧ ∀ t:Tm,t.Good → PureT Tryz.prog f (t.enc :: caps) (.bool (p t))
theorem a71 (t:Tm) (ht:t.Good) (f:Nat) (p:Tm → Bool) (hp:PredIs f [] p):PureT Tryz.prog 96 [t.enc,.fn (.func f) []] (.bool (t.all p)):=by
 intro n H hn hT
 obtain ⟨⟨fn,c,hf⟩,hp⟩:=hp
 refine a_fun tok (fun_of Tryz.func96 rfl rfl) (by simp) fun B=>?_
 repeat refine kn rfl ?_
 refine k_region tok rfl (by kernel_rfl) ?_
 simp only [go_sem,simprocAttr]
 repeat refine kn rfl ?_
 refine k_region tok rfl (by kernel_rfl) ?_
 simp only [go_sem,simprocAttr]
 refine callP (fun_of Tryz.func178 rfl rfl) (a104 t) (by simp only [go_sem,simprocAttr]) ?_
 simp only [go_sem,simprocAttr]
 repeat refine kn rfl ?_
 refine k_terms (d:=.ret) 100 t ht p [(2,.box t.cs),(3,.box [.fn (.func f) []]),(4,.box [.bool false])] rfl rfl rfl (by simp) (fun l=>?_) ?_ ?_ ?_
 ·have hb:∀ k,Below k (.fn (.func f) []):=fun k=>.fn _ _ fun i h=>absurd h (Nat.not_lt_zero _)
  have ht:∀ k,AllP (fun c=>Below k c) t.cs:=fun k=>⟨.int _ _,.int _ _,.str _,below_sla (fun x hx=>by obtain ⟨u,_,rfl⟩:=List.mem_map.1 hx; exact u.blw k),trivial⟩
  refine ⟨ABlk.below_box (ht _),ABlk.below_box ⟨hb _,trivial⟩,ABlk.below_box ⟨.bool _,trivial⟩,ABlk.below_lrec ?_,trivial⟩
  refine ⟨.fn _ _ (fun i hi=>?_),t.blw _,.ptr _ _ _ (Nat.lt_succ_self n),.ptr _ _ _ (Nat.lt_succ_self n),.ptr _ _ _ (Nat.lt_succ_self n),t.blw _,hb _,trivial⟩
  have:i = 0:=by simp at hi; exact hi
  subst this
  exact .iptr _ (fun j hj=>(ht _).mem _ (List.getElem_mem hj))
 ·intro l m B' t' H' ht' hm hlv hlow
  have hne:¬ n = m:=by omega
  have h3:=hlv 3
  have h4:=hlv 4
  have h100:=hlv 100
  simp only [go_sem,simprocAttr] at h3 h4 h100
  repeat refine kn rfl ?_
  refine k_region tok rfl (by kernel_rfl) ?_
  simp only [go_sem,simprocAttr]
  repeat refine kn rfl ?_
  refine k_nil ?_
  refine ⟨rfl,h100,?_⟩
  simp only [go_sem,simprocAttr]
  repeat refine kn rfl ?_
  repeat refine kn rfl ?_
  refine k_region tok rfl (by kernel_rfl) ?_
  simp only [go_sem,simprocAttr,hne,h3,full,AHeap.upd,(show ¬ m = n by omega)]
  refine callV (avs:=[t'.enc]) (by simp only [go_sem,simprocAttr,hne,h3,full,AHeap.upd]) hf (hp t' ht' _ _ (Nat.succ_pos _) (hT.up (by intro k; simp only [full,AHeap.upd]; rw [if_neg (by omega),if_neg (by omega),hlow 0 k hn]))) (by simp only [go_sem,simprocAttr]) ?_
  have hb4:ABlk.Below m (.box [.bool false]):=ABlk.below_box ⟨.bool _,trivial⟩
  simp only [go_sem,simprocAttr]
  cases h1:p t' with
  | false =>
   repeat refine kn rfl ?_
   refine k_cond_t rfl (by simp only [go_sem,simprocAttr,h1]) ?_
   repeat refine kn rfl ?_
   refine k_region tok rfl (by kernel_rfl) ?_
   simp only [go_sem,simprocAttr,hne,h4,full,AHeap.upd,setL,setH,(show ¬ m = n by omega)]
   refine ⟨.inr hb4,?_⟩
   repeat refine kn rfl ?_
   refine k_ret rfl ?_
   refine ⟨by simp [AHeap.upd],rfl,eq_setLv (fun j=>?_) (fun l' j hne=>?_)⟩
   ·by_cases e1:j = 100
    ·subst e1; simp [AHeap.upd]
    ·by_cases e2:j = 4
     ·subst e2; simp [AHeap.upd]
     ·simp [AHeap.upd,e1,e2,hlv j,setb,lkb,Ne.symm e1,Ne.symm e2]
   ·simp [AHeap.upd,hne]
  | true =>
   repeat refine kn rfl ?_
   refine k_cond_f rfl (by simp only [go_sem,simprocAttr,h1]) ?_
   repeat refine kn rfl ?_
   repeat refine kn rfl ?_
   refine k_nil ?_
   exact ⟨by simp [AHeap.upd],rfl,by simp only [if_true]; exact upd_back h100⟩
 ·intro l hall
  repeat refine kn rfl ?_
  repeat refine kn rfl ?_
  refine k_region tok rfl (by kernel_rfl) ?_
  simp only [go_sem,simprocAttr]
  repeat refine kn rfl ?_
  refine k_ret rfl ?_
  refine post_cell (.inl rfl) _ n 4 0 [.bool true] (by simp only [go_sem,simprocAttr]) (by simp only [go_sem,simprocAttr,full]) rfl (by simp) (by simp) ?_ (.bool _) rfl
  rw [hall]; exact .refl _
 ·intro l hall
  repeat refine kn rfl ?_
  refine k_ret rfl ?_
  refine post_cell (.inl rfl) _ n 4 0 [.bool false] (by simp only [go_sem,simprocAttr]) (by simp only [go_sem,simprocAttr,full]) rfl (by simp) (by simp) ?_ (.bool _) rfl
  rw [hall]; exact .refl _
theorem a106 (t:Tm) (ht:t.Good):PureT Tryz.prog 180 [t.enc] (.bool (shape t)):=by
 intro n H hn hT
 refine a_fun tok (fun_of Tryz.func180 rfl rfl) (by simp) fun B=>?_
 repeat refine kn rfl ?_
 refine k_region tok rfl (by kernel_rfl) ?_
 simp only [go_sem,simprocAttr]
 repeat refine kn rfl ?_
 refine k_region tok rfl (by kernel_rfl) ?_
 simp only [go_sem,simprocAttr]
 refine callT (fun_of Tryz.func181 rfl rfl) (a107 t ht) hn hT (by simp only [go_sem,simprocAttr]) ?_
 simp only [go_sem,simprocAttr]
 repeat refine kn rfl ?_
 refine k_ret rfl ?_
 refine post_one ?_ (.bool _) rfl
 try simp only [go_sem,simprocAttr]
 exact .refl _
theorem pred106:PredIs 180 [] shape:=⟨⟨_,_,fun_of Tryz.func180 rfl rfl⟩,fun t ht=>a106 t ht⟩
def plain (t:Tm):Bool:=(t.kind == 1) || (t.kind == 2) || (t.kind == 4)
theorem a70 (t:Tm):Pure Tryz.prog 95 [t.enc] (.bool (plain t)):=by
 intro n H
 refine a_fun tok (fun_of Tryz.func95 rfl rfl) (by simp) fun B=>?_
 repeat refine kn rfl ?_
 refine k_region tok rfl (by kernel_rfl) ?_
 simp only [go_sem,simprocAttr]
 cases h1:(t.kind == 1) <;> cases h2:(t.kind == 2) <;> cases h3:(t.kind == 4)
 all_goals
  repeat refine kn rfl ?_
  refine k_region tok rfl (by kernel_rfl) ?_
  simp only [go_sem,simprocAttr,h1,h2,h3]
  repeat refine kn rfl ?_
  refine k_ret rfl ?_
  refine post_one ?_ (.bool _) rfl
  try simp only [go_sem,simprocAttr,plain,h1,h2,h3,Bool.true_or,Bool.or_true,Bool.false_or,Bool.or_false]
  exact .refl _
theorem pred70:PredIs 95 [] plain:=⟨⟨_,_,fun_of Tryz.func95 rfl rfl⟩,fun t _=>Abs.Pure.tabs (a70 t)⟩
end Go.Proofs.YthgbkalgmicniaaGreatDoor

/- Depth, validity, values. -/
namespace Go.Proofs.YthgbkalgmicniaaGreatDoor
open Go.Abs
set_option maxRecDepth 100000
def dep:Tm → Int
 | .mk _ _ _ l=>deps l 0 + 1
where deps:List Tm → Int → Int
 | [],m=>m
 | t :: r,m=>deps r (if dep t > m then dep t else m)
theorem deps_take (l:List Tm):∀ (i:Nat) (m:Int) (h:i < l.length),dep.deps (l.take (i + 1)) m = (if dep l[i] > dep.deps (l.take i) m then dep l[i] else dep.deps (l.take i) m):=by
 induction l with
 | nil=>intro i m h; exact absurd h (Nat.not_lt_zero _)
 | cons t r ih =>
  intro i m h
  cases i with
  | zero=>rfl
  | succ i=>simp only [List.take_succ_cons,dep.deps,List.getElem_cons_succ]; exact ih i _ (by simpa using h)
theorem dep_eq (t:Tm):dep t = dep.deps t.args 0 + 1:=by cases t; rfl
theorem dep_sz:∀ t:Tm,1 ≤ dep t ∧ dep t ≤ t.sz
 | .mk k n s l=>by
  have hl:∀ (r:List Tm),(∀ u ∈ r,u ∈ l) → ∀ m:Int,0 ≤ m → 0 ≤ dep.deps r m ∧ dep.deps r m ≤ max m (Tm.sz.szs r):=by
   intro r
   induction r with
   | nil=>intro _ m hm; simp only [dep.deps,Tm.sz.szs]; omega
   | cons t r ih =>
    intro hr m hm
    have ht:=dep_sz t
    have:=ih (fun u hu=>hr u (List.mem_cons_of_mem _ hu)) (if dep t > m then dep t else m) (by split <;> omega)
    simp only [dep.deps,Tm.sz.szs]
    by_cases hc:dep t > m
    ·rw [if_pos hc] at this ⊢; omega
    ·rw [if_neg hc] at this ⊢; omega
  have:=hl l (fun u h=>h) 0 (Int.le_refl _)
  simp only [dep,Tm.sz]
  omega
termination_by t=>SizeOf.sizeOf t
decreasing_by
 have:=List.sizeOf_lt_of_mem (hr t (by simp))
 simp only [Tm.mk.sizeOf_spec]; omega
theorem dep_lt {t:Tm} (ht:t.Good):dep t ≤ 1000000:=by have:=(dep_sz t).2; have:=ht.sz; omega
def st105 (n:Nat) (t:Tm) (H:AHeap) (i:Nat):AState :=
 ⟨[(9,.int .i64 i),(8,.int .i64 t.args.length),(7,.sl 4 (t.args.map Tm.enc) .any),(3,.int .i64 (dep.deps (t.args.take i) 0)),(1,.ptr n 1 0)],[(1,.box t.cs)],H⟩
theorem a105 (t:Tm) (ht:t.Good):Pure Tryz.prog 179 [t.enc] (.int .i64 (dep t)):=by
 intro n H
 have hd:=dep_eq t
 have hg:=dep_sz t
 have hb:=dep_lt ht
 have hl:=ht.len
 refine a_fun tok (fun_of Tryz.func179 rfl rfl) (by simp) fun B=>?_
 repeat refine kn rfl ?_
 refine k_region tok rfl (by kernel_rfl) ?_
 simp only [go_sem,simprocAttr]
 repeat refine kn rfl ?_
 refine k_region tok rfl (by kernel_rfl) ?_
 simp only [go_sem,simprocAttr]
 repeat refine kn rfl ?_
 refine k_region tok rfl (by kernel_rfl) ?_
 simp only [go_sem,simprocAttr]
 repeat refine kn rfl ?_
 refine k_loop_ix (st105 n t H) t.args.length rfl ?_ ?_
 ·refine AWk_kept ?_ ?_ ?_ ?_ <;> repeat' first | exact trivial | refine q0 ?_ | exact qb | exact q1 | exact q2 | exact q3 | exact rfl | refine And.intro ?_ ?_ | exact q4 | exact q5 | exact q6 | exact q7 | exact Inside.ptr _ _ _ (.inr ⟨rfl,rfl⟩) | exact q8 | exact q9 | exact qd | exact Tm.ins _ | exact Tm.inss _ _ | exact Am.ins _ | exact Am.inss _ _ | refine ins_buf_str ?_ | refine Tm.ins_buf ?_ | refine Am.ins_buf ?_ | exact qf
 intro i hi
 refine k_st rfl ?_
 rcases Nat.lt_or_ge i t.args.length with h | h
 ·repeat refine kn rfl ?_
  refine k_region tok rfl (by kernel_rfl) ?_
  simp only [go_sem,simprocAttr,h]
  repeat refine kn rfl ?_
  refine k_cond_t rfl (by simp only [go_sem,simprocAttr]) ?_
  repeat refine kn rfl ?_
  refine k_region tok rfl (by kernel_rfl) ?_
  simp only [go_sem,simprocAttr,Tm.getD_enc _ _ h,h]
  repeat refine kn rfl ?_
  refine k_region tok rfl (by kernel_rfl) ?_
  simp only [go_sem,simprocAttr]
  refine callP (fun_of Tryz.func179 rfl rfl) (a105 t.args[i] (ht.arg (List.getElem_mem h))) (by simp only [go_sem,simprocAttr]) ?_
  simp only [go_sem,simprocAttr]
  repeat refine kn rfl ?_
  refine k_region tok rfl (by kernel_rfl) ?_
  simp only [go_sem,simprocAttr]
  repeat refine kn rfl ?_
  refine k_nil ?_
  refine AWk_kept ?_ ?_ ?_ ?_ <;> repeat' first | exact trivial | refine q0 ?_ | exact qb | exact q1 | exact q2 | exact q3 | exact rfl | refine And.intro ?_ ?_ | exact q4 | exact q5 | exact q6 | exact q7 | exact Inside.ptr _ _ _ (.inr ⟨rfl,rfl⟩) | exact q8 | exact q9 | exact qd | exact Tm.ins _ | exact Tm.inss _ _ | exact Am.ins _ | exact Am.inss _ _ | refine ins_buf_str ?_ | refine Tm.ins_buf ?_ | refine Am.ins_buf ?_ | exact qf
  ·simp only [go_sem,simprocAttr]
   rw [IntWalk.i64_in _ (by omega)]; exact Wk.refl _
  ·simp only [go_sem,simprocAttr]
   rw [deps_take _ _ _ h]; exact Wk.refl _
 ·repeat refine kn rfl ?_
  refine k_region tok rfl (by kernel_rfl) ?_
  simp only [go_sem,simprocAttr,Nat.not_lt.2 h]
  repeat refine kn rfl ?_
  refine k_cond_f rfl (by simp only [go_sem,simprocAttr]) ?_
  repeat refine kn rfl ?_
  refine k_exit_round rfl rfl rfl ?_
  repeat refine kn rfl ?_
  refine k_region tok rfl (by kernel_rfl) ?_
  simp only [go_sem,simprocAttr]
  repeat refine kn rfl ?_
  refine k_ret rfl ?_
  have hi:i = t.args.length:=by omega
  subst hi
  refine post_one ?_ (.int _ _) rfl
  rw [hd]
  simp only [go_sem,simprocAttr,List.take_length]
  rw [IntWalk.i64_in _ (by omega)]
  exact Wk.refl _
termination_by SizeOf.sizeOf t
decreasing_by exact Tm.size_lt (List.getElem_mem h)
def validT (t:Tm):Bool:=decide (dep t ≤ 12) && t.all shape
theorem a72 (t:Tm) (ht:t.Good):PureT Tryz.prog 97 [t.enc] (.bool (validT t)):=by
 intro n H hn hT
 refine a_fun tok (fun_of Tryz.func97 rfl rfl) (by simp) fun B=>?_
 repeat refine kn rfl ?_
 refine k_region tok rfl (by kernel_rfl) ?_
 simp only [go_sem,simprocAttr]
 repeat refine kn rfl ?_
 refine k_region tok rfl (by kernel_rfl) ?_
 simp only [go_sem,simprocAttr]
 refine callP (fun_of Tryz.func179 rfl rfl) (a105 t ht) (by simp only [go_sem,simprocAttr]) ?_
 simp only [go_sem,simprocAttr]
 cases h1:decide (dep t ≤ 12) with
 | false =>
  simp only [go_sem,simprocAttr]
  repeat refine kn rfl ?_
  refine k_ret rfl ?_
  refine post_one ?_ (.bool _) rfl
  try simp only [go_sem,simprocAttr,validT,h1]
  exact .refl _
 | true =>
  simp only [go_sem,simprocAttr]
  refine callT (fun_of Tryz.func96 rfl rfl) (a71 t ht _ shape pred106) hn hT (by simp only [go_sem,simprocAttr]) ?_
  simp only [go_sem,simprocAttr]
  repeat refine kn rfl ?_
  refine k_ret rfl ?_
  refine post_one ?_ (.bool _) rfl
  try simp only [go_sem,simprocAttr,validT,h1]
  exact .refl _
def valueT (t:Tm):Bool:=t.all plain && validT t
theorem a37 (t:Tm) (ht:t.Good):PureT Tryz.prog 46 [t.enc] (.bool (valueT t)):=by
 intro n H hn hT
 refine a_fun tok (fun_of Tryz.func46 rfl rfl) (by simp) fun B=>?_
 repeat refine kn rfl ?_
 refine k_region tok rfl (by kernel_rfl) ?_
 simp only [go_sem,simprocAttr]
 repeat refine kn rfl ?_
 refine k_region tok rfl (by kernel_rfl) ?_
 simp only [go_sem,simprocAttr]
 repeat refine kn rfl ?_
 refine k_region tok rfl (by kernel_rfl) ?_
 simp only [go_sem,simprocAttr]
 refine callT (fun_of Tryz.func96 rfl rfl) (a71 t ht _ plain pred70) hn hT (by simp only [go_sem,simprocAttr]) ?_
 simp only [go_sem,simprocAttr]
 cases h1:t.all plain with
 | false =>
  simp only [go_sem,simprocAttr]
  repeat refine kn rfl ?_
  refine k_ret rfl ?_
  refine post_one ?_ (.bool _) rfl
  try simp only [go_sem,simprocAttr,valueT,h1]
  exact .refl _
 | true =>
  simp only [go_sem,simprocAttr]
  refine callT (fun_of Tryz.func97 rfl rfl) (a72 t ht) hn hT (by simp only [go_sem,simprocAttr]) ?_
  simp only [go_sem,simprocAttr]
  repeat refine kn rfl ?_
  refine k_ret rfl ?_
  refine post_one ?_ (.bool _) rfl
  try simp only [go_sem,simprocAttr,valueT,h1]
  exact .refl _
end Go.Proofs.YthgbkalgmicniaaGreatDoor
