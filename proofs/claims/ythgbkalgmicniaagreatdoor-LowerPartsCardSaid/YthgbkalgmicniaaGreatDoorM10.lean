/- Variables' names, as the document's answer says it. -/
import Derived.Test.YthgbkalgmicniaaGreatDoorM09
import Derived.Test.YthgbkalgmicniaaGreatDoorM08
import Derived.Shelf.Strings.OnBuilder
import Derived.Shelf.Small.Strs
import Derived.Shelf.LaysM
import Derived.Shelf.Strconv.Itoa3
import Derived.Shelf.Strings.Search3
import Derived.Ground.Names2Prog
import Derived.Ground.SlgnProg
import Derived.Shelf.Slices.Cells
import Derived.Shelf.Slices.Clone
import Derived.Shelf.Slices.CompactI
import Derived.Shelf.Slices.SearchI
import Derived.Shelf.SlicesE.Clone
import Derived.KernelRfl
import Derived.Test.YthgbkalgmicniaaGreatDoorProg
import Derived.Test.YthgbkalgmicniaaGreatDoorRows
import Derived.Lib.ItoaLen
set_option linter.all false
namespace Go.Proofs.YthgbkalgmicniaaGreatDoor
open Go.Abs
set_option maxRecDepth 100000
def Zdo (s:List UInt8):Bool:=(s.drop 1).all (fun b=>Ws (b.toNat:Int))
theorem Zbp {s:List UInt8}:Zdo s = true ↔ ∀ i,1 + i < s.length → Ws (bt s (1 + i)) = true:=by
 unfold Zdo
 rw [List.all_eq_true]
 constructor
 ·intro h i hi
  have:s[1 + i] ∈ s.drop 1:=by
   rw [List.mem_iff_getElem]
   exact ⟨i,by rw [List.length_drop]; omega,by rw [List.getElem_drop]⟩
  have:=h _ this
  simpa [bt,List.getD_eq_getElem?_getD,List.getElem?_eq_getElem hi] using this
 ·intro h b hb
  obtain ⟨i,hi,rfl⟩:=List.getElem_of_mem hb
  rw [List.length_drop] at hi
  have hlt:1 + i < s.length:=by omega
  have:=h i hlt
  rw [List.getElem_drop]
  simpa [bt,List.getD_eq_getElem?_getD,List.getElem?_eq_getElem hlt] using this
theorem Zjt {s:List UInt8} (h:und s < s.length) (hu:isUp (bt s (und s)) = true):Wu s = wd s (und s):=by
 have:(hpre s [95] && Zdo s) = false:=by
  rw [ZfO,← Bool.not_eq_true,Bool.and_eq_true,decide_eq_true_eq,Zbp]
  rintro ⟨h1,h2⟩
  have:=h2 (und s - 1) (by omega)
  rw [show 1 + (und s - 1) = und s by omega] at this
  simp only [Ws,isUp,Bool.and_eq_true,decide_eq_true_eq] at this hu
  omega
 unfold Wu
 rw [show (s.drop 1).all (fun b=>Ws (b.toNat:Int)) = Zdo s from rfl,this]
 simp [h,hu]
theorem Zh8 {s:List UInt8} (h:¬(und s < s.length ∧ isUp (bt s (und s)) = true)):Wu s = (decide (und s = 1) && Zdo s && decide (s.length ≤ 32)):=by
 have h1:(decide (und s < s.length) && isUp (bt s (und s))) = false:=by
  rw [← Bool.not_eq_true,Bool.and_eq_true,decide_eq_true_eq]; exact h
 have h2:(hpre s [95] && Zdo s) = (decide (und s = 1) && Zdo s):=by
  rw [ZfO]
  cases hd:Zdo s with
  | false=>simp
  | true =>
   have h3:¬ 1 < und s:=by
    intro h3
    have hl:=und_le s
    have:=Zbp.1 hd 0 (by omega)
    have:=ZfU this
    rw [und_lt (s:=s) (i:=1) h3] at this; cases this
   rw [Bool.and_true,Bool.and_true]
   congr 1
   simp; omega
 unfold Wu
 rw [show (s.drop 1).all (fun b=>Ws (b.toNat:Int)) = Zdo s from rfl,h2,h1]
 simp
theorem a162 (s:List UInt8) (hs:s.length ≤ 9223372036854775807):Pure Tryz.prog 319 [.str s] (.bool (Wu s)):=by
 intro n H
 have hu:=und_le s
 refine Zm tok (Zb Tryz.func319 rfl rfl) (by simp) fun B=>?_
 refine Za tok rfl rfl ?_
 simp only [go_sem,simprocAttr]
 refine Za tok rfl rfl ?_
 simp only [go_sem,simprocAttr]
 refine Zq (Zb Tryz.func186 rfl rfl) (a81 s hs) rfl ?_
 simp only [go_sem,simprocAttr]
 have low:¬(und s < s.length ∧ isUp (bt s (und s)) = true) → ∀ tm,lkv tm 3 = .int .i64 (und s) → lkv tm 0 = .str s →
   AKc (cxP Tryz.prog ⟨none,B⟩ n Tryz.f319.ntmps) [.code (Y9 Tryz.f319).snd.snd.snd] (PostF Tryz.prog tt n Tryz.f319.results.toList fun r' H'=>r' = .bool (Wu s) ∧ H' = H) ⟨tm,[],H⟩:=by
  intro hno tm h3 h0
  rw [Zh8 hno]
  cases h1:decide (und s = 1) with
  | false =>
   have e1:(((und s:Nat):Int) == 1) = false:=by simp only [decide_eq_false_iff_not] at h1; simp; omega
   refine Za tok rfl rfl ?_
   simp only [go_sem,simprocAttr,h3,h0,e1,bne]
   refine Zp rfl rfl rfl ?_
   refine Za tok rfl rfl ?_
   simp only [go_sem,simprocAttr]
   refine Zi rfl rfl ?_
   refine Ze ?_ (.bool _) rfl
   simp only [go_sem,simprocAttr,h1]
   exact .refl _
  | true =>
   have e1:(((und s:Nat):Int) == 1) = true:=by simp only [decide_eq_true_eq] at h1; simp; omega
   have hl1:1 ≤ s.length:=by simp only [decide_eq_true_eq] at h1; omega
   cases h2:decide (s.length ≤ 32) with
   | false =>
    have e2:decide ((32:Int) < (s.length:Int)) = true:=by simp only [decide_eq_false_iff_not] at h2; simp; omega
    refine Za tok rfl rfl ?_
    simp only [go_sem,simprocAttr,h3,h0,e1,bne,e2]
    refine Zp rfl rfl (by simp only [go_sem,simprocAttr,e2]) ?_
    refine Za tok rfl rfl ?_
    simp only [go_sem,simprocAttr]
    refine Zi rfl rfl ?_
    refine Ze ?_ (.bool _) rfl
    simp only [go_sem,simprocAttr,h1]
    exact .refl _
   | true =>
    have e2:decide ((32:Int) < (s.length:Int)) = false:=by simp only [decide_eq_true_eq] at h2; simp; omega
    refine Za tok rfl rfl ?_
    simp only [go_sem,simprocAttr,h3,h0,e1,bne,e2]
    refine Zn rfl rfl (by simp only [go_sem,simprocAttr,e2]) ?_
    refine Za tok rfl rfl ?_
    simp only [go_sem,simprocAttr]
    repeat refine kn rfl ?_
    refine Ye (ZmT s H) (fun i=>∀ j,j < i → Ws (bt s (1 + j)) = true) (s.length - 1) rfl ?_ (fun j h=>absurd h (Nat.not_lt_zero _)) ?_
    ·refine Zg ?_ ?_ ?_ ?_ <;> repeat' first|exact trivial|refine q0 ?_|exact qb|exact q1|exact q2|exact q3|exact rfl|refine And.intro ?_ ?_|exact qA rfl|exact Inside.ptr _ _ _ (.inr ⟨rfl,rfl⟩)|exact Tm.ins _|exact Tm.Zj _ _|exact Am.ins _|exact Am.Zj _ _|refine Zd ?_|refine Tm.Zc ?_|refine Am.Zc ?_
     ·simp only [go_sem,simprocAttr,h0]
      exact .refl _
    intro i hi hp
    refine Yi rfl ?_
    rcases Nat.lt_or_ge (1 + i) s.length with h | h
    ·refine Za tok rfl rfl ?_
     simp only [go_sem,simprocAttr,h]
     refine Zp rfl rfl rfl ?_
     refine Za tok rfl rfl ?_
     simp only [go_sem,simprocAttr,h]
     refine Zq (Zb Tryz.func272 rfl rfl) (a116 (bt s (1 + i))) (by simp only [go_sem,simprocAttr,h]) ?_
     simp only [go_sem,simprocAttr,h]
     cases h5:Ws (bt s (1 + i)) with
     | false =>
      refine Zp rfl rfl (by simp only [go_sem,simprocAttr,h5]) ?_
      refine Za tok rfl rfl ?_
      simp only [go_sem,simprocAttr]
      refine XO rfl rfl ?_
      refine Ze ?_ (.bool _) rfl
      have:Zdo s = false:=by
       rw [← Bool.not_eq_true,Zbp]
       intro hh
       have:=hh i h
       rw [h5] at this; cases this
      simp only [go_sem,simprocAttr,this]
      exact .refl _
     | true =>
      refine Zn rfl rfl (by simp only [go_sem,simprocAttr,h5]) ?_
      refine Za tok rfl rfl ?_
      simp only [go_sem,simprocAttr]
      refine Zt rfl ?_
      refine ⟨by omega,fun j hj=>?_,?_⟩
      ·rcases Nat.lt_or_ge j i with h' | h'
       ·exact hp j h'
       ·have:j = i:=by omega
        subst this; exact h5
      ·refine Zg ?_ ?_ ?_ ?_ <;> repeat' first|exact trivial|refine q0 ?_|exact qb|exact q1|exact q2|exact q3|exact rfl|refine And.intro ?_ ?_|exact qA rfl|exact Inside.ptr _ _ _ (.inr ⟨rfl,rfl⟩)|exact Tm.ins _|exact Tm.Zj _ _|exact Am.ins _|exact Am.Zj _ _|refine Zd ?_|refine Tm.Zc ?_|refine Am.Zc ?_
       simp only [go_sem,simprocAttr]
       rw [IntWalk.i64_in _ (by omega)]; exact .refl _
    ·refine Za tok rfl rfl ?_
     simp only [go_sem,simprocAttr,Nat.not_lt.2 h]
     refine Zn rfl rfl rfl ?_
     refine Yh rfl rfl rfl rfl ?_
     refine Za tok rfl rfl ?_
     simp only [go_sem,simprocAttr]
     refine Zi rfl rfl ?_
     refine Ze ?_ (.bool _) rfl
     have:Zdo s = true:=Zbp.2 (fun j hj=>hp j (by omega))
     simp only [go_sem,simprocAttr,this]
     exact .refl _
 rcases Nat.lt_or_ge (und s) s.length with h | h
 ·refine Za tok rfl rfl ?_
  simp only [go_sem,simprocAttr,h]
  refine Zq (Zb Tryz.func271 rfl rfl) (Zl6 (bt s (und s))) (by simp only [go_sem,simprocAttr,h]) ?_
  simp only [go_sem,simprocAttr,h]
  cases h1:isUp (bt s (und s)) with
  | true =>
   refine Zp rfl rfl (by simp only [go_sem,simprocAttr,h1]) ?_
   refine Za tok rfl rfl ?_
   simp only [go_sem,simprocAttr]
   refine Zq (Zb Tryz.func188 rfl rfl) (a83 s (und s) hu hs) rfl ?_
   simp only [go_sem,simprocAttr]
   refine Zi rfl rfl ?_
   refine Ze ?_ (.bool _) rfl
   rw [Zjt h h1]
   exact .refl _
  | false =>
   refine Zn rfl rfl (by simp only [go_sem,simprocAttr,h1]) ?_
   refine ZM rfl ?_
   exact low (fun hc=>by rw [h1] at hc; cases hc.2) _ (by simp only [go_sem,simprocAttr]) (by simp only [go_sem,simprocAttr])
 ·refine Za tok rfl rfl ?_
  simp only [go_sem,simprocAttr,Nat.not_lt.2 h]
  refine Zn rfl rfl rfl ?_
  refine ZM rfl ?_
  exact low (fun hc=>absurd hc.1 (Nat.not_lt.2 h)) _ (by simp only [go_sem,simprocAttr]) (by simp only [go_sem,simprocAttr])
end Go.Proofs.YthgbkalgmicniaaGreatDoor

/- Walks over a term. -/
namespace Go.Proofs.YthgbkalgmicniaaGreatDoor
open Go.Abs
set_option maxRecDepth 100000
def _root_.Go.Abs.Zf.YQ (H:Zf) (x:Nat) (S:Nat → Option Zk):Zf:=fun l k=>if l = x then S k else H l k
theorem Jy {n x:Nat} (h:x ≠ n) (L:List (Nat × Zk)) (H:Zf) (S:Nat → Option Zk):full n L (H.YQ x S) = (full n L H).YQ x S:=by
 funext l k
 simp only [full,Zf.YQ]
 by_cases h1:l = n
 ·subst h1; rw [if_pos rfl,if_neg (fun e=>h e.symm),if_pos rfl]
 ·rw [if_neg h1,if_neg h1]
theorem Zau {n x:Nat} {H:Zf} {S:Nat → Option Zk} (h:x < n) (hS:∀ k b,S k = some b → b.Below (x + 1)):Z5 n H (H.YQ x S):=fun l k b hl hb=>by
 simp only [Zf.YQ] at hb
 split at hb
 ·have:=hS k b hb
  exact .inr ⟨fun a ha=>(this.1 a ha).mono h,fun p hp=>Nat.lt_of_lt_of_le (this.2 p hp) h⟩
 ·exact .inl hb
def ZkC (P:Program) (x l:Nat) (p:Tm → Bool) (S:Nat → Option Zk) (H0:Zf):Prop :=
 ∀ m H (t:Tm),t.Good → x < m → (∀ l' k,l' ≤ x → H l' k = H0 l' k) → WR P m l [t.enc] H fun r H1=>r = .bool (p t) ∧ H1 = if p t then H else H.YQ x S
def ZmM (t:Tm) (l n:Nat) (H:Zf) (i:Nat):Zh :=
 ⟨[(14,.int .i64 i),(13,.int .i64 t.args.length),(12,.sl 4 (t.args.map Tm.enc) .any),(1,.fn (.yield l) []),(2,.ptr n 2 0)],[(2,.box t.cs)],H⟩
theorem a145 {x l:Nat} {p:Tm → Bool} {S:Nat → Option Zk} {H0:Zf} (hY:ZkC Tryz.prog x l p S H0) (hS:∀ k b,S k = some b → b.Below (x + 1)) (t:Tm) (ht:t.Good) (n:Nat) (H:Zf) (hx:x < n) (hH:∀ l' k,l' ≤ x → H l' k = H0 l' k) :
  Zr Tryz.prog n 257 [t.enc,.fn (.yield l) []] H fun r H1=>r = .bool (t.all p) ∧ H1 = if t.all p then H else H.YQ x S:=by
 have hlen:=ht.len
 refine Zm tok (Zb Tryz.func257 rfl rfl) (by simp) fun B=>?_
 have hf:∀ (L:List (Nat × Zk)) (l' k:Nat),l' ≤ x → full n L H l' k = H0 l' k:=fun L l' k h=>by
  simp only [full]; rw [if_neg (by omega)]; exact hH l' k h
 refine Za tok rfl rfl ?_
 simp only [go_sem,simprocAttr]
 refine Za tok rfl rfl ?_
 simp only [go_sem,simprocAttr]
 refine ZkA (by simp only [go_sem,simprocAttr]) (hY _ _ t ht (show x < n + 1 by omega) (hf _)) (by simp only [go_sem,simprocAttr]) ?_
 rintro _ _ ⟨rfl,rfl⟩
 have fail:∀ (L:List (Nat × Zk)) (tm:List (Nat × AV)),t.all p = false → lkv tm 4 = .bool false → PostF Tryz.prog tt n Tryz.f257.results.toList (fun r H1=>r = .bool (t.all p) ∧ H1 = if t.all p then H else H.YQ x S) .ret ⟨tm,L,H.YQ x S⟩:=by
  intro L tm hall h4
  refine ⟨by simp [YH],[.bool false],⟨?_,trivial⟩,by simp [Zc7],by rw [hall]; rfl,by rw [hall]; rfl⟩
  show Wk (lkv tm 4) _
  rw [h4]; exact .refl _
 cases hp:p t with
 | false =>
  have hall:t.all p = false:=by rw [Tm.all_eq,hp]; rfl
  refine ⟨[(2,.box t.cs)],H.YQ x S,by rw [Jy (show x ≠ n by omega)]; rfl,Zau hx hS,?_⟩
  simp only [go_sem,simprocAttr]
  refine Zp rfl rfl rfl ?_
  refine Za tok rfl rfl ?_
  simp only [go_sem,simprocAttr]
  refine Zi rfl rfl ?_
  exact fail _ _ hall (by simp only [go_sem,simprocAttr])
 | true =>
  refine ⟨[(2,.box t.cs)],H,rfl,.refl _ _,?_⟩
  simp only [go_sem,simprocAttr]
  refine Zn rfl rfl rfl ?_
  refine Za tok rfl rfl ?_
  simp only [go_sem,simprocAttr]
  repeat refine kn rfl ?_
  refine Ye (ZmM t l n H) (fun i=>∀ j (h:j < t.args.length),j < i → (t.args[j]).all p = true) t.args.length rfl ?_ (fun j _ h=>absurd h (Nat.not_lt_zero _)) ?_
  ·refine Zg ?_ ?_ ?_ ?_ <;> repeat' first|exact trivial|refine q0 ?_|exact qb|exact q1|exact q2|exact q3|exact rfl|refine And.intro ?_ ?_|exact qA rfl|exact Inside.ptr _ _ _ (.inr ⟨rfl,rfl⟩)|exact Tm.ins _|exact Tm.Zj _ _|exact Am.ins _|exact Am.Zj _ _|refine Zd ?_|refine Tm.Zc ?_|refine Am.Zc ?_
  intro i hi hq
  refine Yi rfl ?_
  rcases Nat.lt_or_ge i t.args.length with h | h
  ·refine Za tok rfl rfl ?_
   simp only [go_sem,simprocAttr,h]
   refine Zp rfl rfl rfl ?_
   refine Za tok rfl rfl ?_
   simp only [go_sem,simprocAttr,Tm.YI _ _ h,h]
   refine Za tok rfl rfl ?_
   simp only [go_sem,simprocAttr]
   have hu:=ht.arg (List.getElem_mem h)
   refine Xk (caps:=[]) (avs:=[t.args[i].enc,.fn (.yield l) []]) rfl (Zb Tryz.func257 rfl rfl) (by rw [List.append_nil]; exact a145 hY hS t.args[i] hu (n + 1) _ (show x < n + 1 by omega) (hf _)) (by simp only [go_sem,simprocAttr]) ?_
   rintro _ _ ⟨rfl,rfl⟩
   cases h1:(t.args[i]).all p with
   | false =>
    refine ⟨[(2,.box t.cs),(6,.box t.args[i].cs)],H.YQ x S,by rw [Jy (show x ≠ n by omega)]; rfl,Zau hx hS,?_⟩
    simp only [go_sem,simprocAttr]
    refine Zp rfl rfl rfl ?_
    refine Za tok rfl rfl ?_
    simp only [go_sem,simprocAttr]
    refine XO rfl rfl ?_
    refine fail _ _ ?_ (by simp only [go_sem,simprocAttr])
    rw [Tm.all_eq,hp,Tm.J9,Bool.true_and,← Bool.not_eq_true,List.all_eq_true]
    intro hh
    have:=hh _ (List.getElem_mem h)
    rw [h1] at this; cases this
   | true =>
    refine ⟨[(2,.box t.cs),(6,.box t.args[i].cs)],H,rfl,.refl _ _,?_⟩
    simp only [go_sem,simprocAttr]
    refine Zn rfl rfl rfl ?_
    refine Za tok rfl rfl ?_
    simp only [go_sem,simprocAttr]
    refine Zt rfl ?_
    refine ⟨fun j hj hji=>?_,?_⟩
    ·rcases Nat.lt_or_ge j i with h' | h'
     ·exact hq j hj h'
     ·have:j = i:=by omega
      subst this; exact h1
    ·refine Zg ?_ ?_ ?_ ?_ <;> repeat' first|exact trivial|refine q0 ?_|exact qb|exact q1|exact q2|exact q3|exact rfl|refine And.intro ?_ ?_|exact qA rfl|exact Inside.ptr _ _ _ (.inr ⟨rfl,rfl⟩)|exact Tm.ins _|exact Tm.Zj _ _|exact Am.ins _|exact Am.Zj _ _|refine Zd ?_|refine Tm.Zc ?_|refine Am.Zc ?_
     ·simp only [go_sem,simprocAttr]
      rw [IntWalk.i64_in _ (by omega)]; exact .refl _
  ·refine Za tok rfl rfl ?_
   simp only [go_sem,simprocAttr,Nat.not_lt.2 h]
   refine Zn rfl rfl rfl ?_
   refine Yh rfl rfl rfl rfl ?_
   refine Za tok rfl rfl ?_
   simp only [go_sem,simprocAttr]
   refine Zi rfl rfl ?_
   have hall:t.all p = true:=by
    rw [Tm.all_eq,hp,Tm.J9,Bool.true_and,List.all_eq_true]
    intro u hu
    obtain ⟨j,hj,rfl⟩:=List.getElem_of_mem hu
    exact hq j hj (by omega)
   refine ⟨by simp [YH],[.bool true],⟨?_,trivial⟩,by simp [Zc7],by rw [hall]; rfl,by rw [hall]; rfl⟩
   simp only [go_sem,simprocAttr]
   exact .refl _
termination_by SizeOf.sizeOf t
decreasing_by exact Tm.Vm (List.getElem_mem h)
theorem Zn2 {x l:Nat} {p:Tm → Bool} {S:Nat → Option Zk} {H0:Zf} (hY:ZkC Tryz.prog x l p S H0) (hS:∀ k b,S k = some b → b.Below (x + 1)) (t:Tm) (ht:t.Good) (n:Nat) (H:Zf) (hx:x < n) (hH:∀ l' k,l' ≤ x → H l' k = H0 l' k) :
  Zr Tryz.prog n 256 [.fn (.yield l) [],.ZA t.cs] H fun r H1=>H1 = if t.all p then H else H.YQ x S:=by
 refine Zm tok (Zb Tryz.func256 rfl rfl) (by simp) fun B=>?_
 have hf:∀ (L:List (Nat × Zk)) (l' k:Nat),l' ≤ x → full n L H l' k = H0 l' k:=fun L l' k h=>by
  simp only [full]; rw [if_neg (by omega)]; exact hH l' k h
 refine Za tok rfl rfl ?_
 simp only [go_sem,simprocAttr]
 refine Xk (caps:=[]) (avs:=[t.enc,.fn (.yield l) []]) rfl (Zb Tryz.func257 rfl rfl) (by rw [List.append_nil]; exact a145 hY hS t ht (n + 1) _ (show x < n + 1 by omega) (hf _)) (by simp only [go_sem,simprocAttr]) ?_
 rintro _ _ ⟨rfl,rfl⟩
 refine ⟨[],if t.all p then H else H.YQ x S,?_,?_,?_⟩
 ·split
  ·rfl
  ·rw [Jy (show x ≠ n by omega)]
 ·split
  ·exact .refl _ _
  ·exact Zau hx hS
 simp only [go_sem,simprocAttr]
 refine Zt rfl ?_
 exact ⟨by simp [YH],[],trivial,by simp,rfl⟩
theorem ZnF (t:Tm):Pure Tryz.prog 178 [t.enc] (.fn (.func 256) [.ZA t.cs]):=by
 intro n H
 refine Zm tok (Zb Tryz.func178 rfl rfl) (by simp) fun B=>?_
 refine Za tok rfl rfl ?_
 simp only [go_sem,simprocAttr]
 refine Ym 1 t.cs [(1,.ZA t.cs)] rfl ?_ ?_ trivial ?_
 ·exact ⟨.int _ _,.int _ _,.str _,Tm.Zj _ _,trivial⟩
 ·exact ⟨.inr ⟨0,rfl,rfl⟩,trivial⟩
 refine Za tok rfl rfl ?_
 simp only [go_sem,simprocAttr]
 refine Zi rfl rfl ?_
 refine Ze ?_ (.fn _ _ fun i hi=>?_) rfl
 ·simp only [go_sem,simprocAttr]
  exact .refl _
 ·have:i = 0:=by simp at hi; exact hi
  subst this
  have hb:=(t.blw n)
  rw [Tm.Zb7] at hb
  cases hb with
  | agg _ hb=>exact .ZA _ hb
theorem ZfN {G H:Zf} {n:Nat} {S:Nat → Option Zk} (h1:∀ k,G n k = S k) (h2:∀ l k,l ≠ n → G l k = H l k):G = H.YQ n S:=by
 funext l k
 simp only [Zf.YQ]
 split
 ·rename_i e; subst e; exact h1 k
 ·rename_i e; exact h2 l k e
theorem Zio {H:Zf} {n y:Nat} {b b':Zk} (h:H n y = some b):(H.upd n y b').upd n y b = H:=by
 funext l k
 simp only [Zf.upd]
 split
 ·rename_i e; rw [e.1,e.2,h]
 ·rfl
theorem Zkh {B n N:Nat} {g:Operand} {v:Nat} {c d:Code} {k:List Itm} {Q:Exit → Zh → Prop} {tm:List (Nat × AV)} {L:List (Nat × Zk)} {H:Zf} (y:Nat) (t:Tm) (ht:t.Good) (p:Tm → Bool) (L2:List (Nat × Zk))
  (hc:c = .rangeFunc g #[v] c.fst c.snd) (hg:evT tm g = .fn (.func 256) [.ZA t.cs]) (hy:lkb L y = none) (hv:v < N)
  (hb:∀ l,Yj (fun q=>q.2.Below (n + 1)) (setb L2 y (.lrec l N tm #[v] c.fst c.snd .done (some d))))
  (hbody:∀ l m B' (t':Tm) H',t'.Good → n < m → (∀ j,H' n j = lkb (setb L y (.lrec l N tm #[v] c.fst c.snd .ready none)) j) → (∀ l' j,l' < n → H' l' j = H l' j) →
   AKc ⟨Tryz.prog,tt,⟨some l,B'⟩,m,N⟩ [.code c.fst] (fun e s=>e = .normal ∧ s.H n y = some (.lrec l N tm #[v] c.fst c.snd .ready none) ∧
    AKc ⟨Tryz.prog,tt,⟨some l,B'⟩,m,N⟩ [.code c.snd] (Zgk (fun r H1=>r = .bool (p t') ∧ H1 = if p t' then H' else H'.YQ n (lkb (setb L2 y (.lrec l N tm #[v] c.fst c.snd .done (some d))))) n y l N tm #[v] c.fst c.snd)
     ⟨s.tmps,s.L,s.H.upd n y (.lrec l N tm #[v] c.fst c.snd .busy none)⟩) ⟨(v,t'.enc) :: tm,[],H'⟩)
  (hgo:∀ l,t.all p = true → AKc ⟨Tryz.prog,tt,⟨none,B⟩,n,N⟩ k Q ⟨tm,setb L y (.lrec l N tm #[v] c.fst c.snd .exhausted none),H⟩)
  (hstop:∀ l,t.all p = false → AKc ⟨Tryz.prog,tt,⟨none,B⟩,n,N⟩ (.code d :: k) Q ⟨tm,setb L2 y (.lrec l N tm #[v] c.fst c.snd .exhausted (some d)),H⟩) :
  AKc ⟨Tryz.prog,tt,⟨none,B⟩,n,N⟩ (.code c :: k) Q ⟨tm,L,H⟩:=by
 refine Zce (caps:=[.ZA t.cs]) y hc hg (Zb Tryz.func256 rfl rfl) hy fun l=>?_
 refine ⟨_,Zn2 (x:=n) (l:=l) (p:=p) (S:=lkb (setb L2 y (.lrec l N tm #[v] c.fst c.snd .done (some d)))) (H0:=full n (setb L y (.lrec l N tm #[v] c.fst c.snd .ready none)) H) ?_ (fun j b h=>(hb l).mem _ (lkb_mem h)) t ht (n + 1) _ (Nat.lt_succ_self n) (fun _ _ _=>rfl),?_⟩
 ·intro m H' t' ht' hm hag
  have hlv:∀ j,H' n j = lkb (setb L y (.lrec l N tm #[v] c.fst c.snd .ready none)) j:=fun j=>by
   rw [hag n j (Nat.le_refl _)]; simp only [full,if_true]
  refine Zd6 tt (x:=n) (y:=y) (by rw [hlv y,lkb_setb,if_pos rfl]) hm rfl (by simpa using hv) fun B'=>hbody l m B' t' H' ht' hm hlv (fun l' j h=>by rw [hag l' j (Nat.le_of_lt h)]; simp only [full]; rw [if_neg (by omega)])
 ·rintro r H1 rfl
  cases hall:t.all p with
  | true=>exact ⟨_,H,.ready,none,rfl,.refl _ _,by rw [lkb_setb,if_pos rfl],by simp,by
    have:setb (setb L y (.lrec l N tm #[v] c.fst c.snd .ready none)) y (.lrec l N tm #[v] c.fst c.snd .exhausted none) = setb L y (.lrec l N tm #[v] c.fst c.snd .exhausted none):=setb_setb _ _ _ _
    simp only [this]; exact hgo l hall⟩
  | false =>
   refine ⟨setb L2 y (.lrec l N tm #[v] c.fst c.snd .done (some d)),H,.done,some d,?_,.refl _ _,by rw [lkb_setb,if_pos rfl],by simp,by
    simp only [setb_setb]; exact hstop l hall⟩
   simp only [Bool.false_eq_true,if_false]
   funext l' j
   simp only [Zf.YQ,full]
   by_cases e:l' = n
   ·rw [if_pos e,if_pos e]
   ·rw [if_neg e,if_neg e,if_neg e]
end Go.Proofs.YthgbkalgmicniaaGreatDoor

/- The rows of the kinds, as the program says them. -/
namespace Go.Proofs.YthgbkalgmicniaaGreatDoor
open Go.Abs
set_option maxRecDepth 100000
def nargs (t:Tm) (lo hi:Int):Bool:=decide (lo ≤ (t.args.length:Int)) && decide ((t.args.length:Int) ≤ hi)
theorem Zgf (t:Tm) (lo hi:Int):Pure Tryz.prog 260 [t.enc,.int .i64 lo,.int .i64 hi] (.bool (nargs t lo hi)):=by
 intro n H
 refine Zm tok (Zb Tryz.func260 rfl rfl) (by simp) fun B=>?_
 refine Za tok rfl rfl ?_
 simp only [go_sem,simprocAttr]
 cases h:decide (lo ≤ (t.args.length:Int))
 all_goals
  refine Za tok rfl rfl ?_
  simp only [go_sem,simprocAttr,h]
  refine Zi rfl rfl ?_
  refine Ze ?_ (.bool _) rfl
  simp only [go_sem,simprocAttr,nargs,h]
  exact .refl _
def named (t:Tm):Bool:=(t.num == 0) && !(t.name == [])
theorem Zn8 (t:Tm):Pure Tryz.prog 259 [.ZA t.cs] (.bool (decide (-2147483647 ≤ t.num) && decide (t.num ≤ 2147483647) && (t.name == []) && nargs t 0 0)):=by
 intro n H
 refine Zm tok (Zb Tryz.func259 rfl rfl) (by simp) fun B=>?_
 refine Za tok rfl rfl ?_
 simp only [go_sem,simprocAttr]
 cases h1:decide (-2147483647 ≤ t.num) with
 | false =>
  refine Za tok rfl rfl ?_
  simp only [go_sem,simprocAttr,h1]
  refine Zi rfl rfl ?_
  refine Ze ?_ (.bool _) rfl
  try simp only [go_sem,simprocAttr]
  exact .refl _
 | true =>
  cases h2:decide (t.num ≤ 2147483647) with
  | false =>
   refine Za tok rfl rfl ?_
   simp only [go_sem,simprocAttr,h1,h2]
   refine Zi rfl rfl ?_
   refine Ze ?_ (.bool _) rfl
   try simp only [go_sem,simprocAttr]
   exact .refl _
  | true =>
   cases h3:(t.name == []) with
   | false =>
    refine Za tok rfl rfl ?_
    simp only [go_sem,simprocAttr,h1,h2,h3]
    refine Zi rfl rfl ?_
    refine Ze ?_ (.bool _) rfl
    try simp only [go_sem,simprocAttr]
    exact .refl _
   | true =>
    refine Za tok rfl rfl ?_
    simp only [go_sem,simprocAttr,h1,h2,h3]
    refine Zq (Zb Tryz.func260 rfl rfl) (Zgf t 0 0) rfl ?_
    simp only [go_sem,simprocAttr]
    refine Zi rfl rfl ?_
    refine Ze ?_ (.bool _) rfl
    try simp only [go_sem,simprocAttr]
    exact .refl _
theorem a148 (t:Tm) (ht:t.Good):Pure Tryz.prog 261 [.ZA [.bool (named t)],.ZA t.cs] (.bool (named t && sym t.name && nargs t 0 0)):=by
 intro n H
 have hs:=ht.name
 refine Zm tok (Zb Tryz.func261 rfl rfl) (by simp) fun B=>?_
 refine Za tok rfl rfl ?_
 simp only [go_sem,simprocAttr]
 cases h1:named t with
 | false =>
  refine Za tok rfl rfl ?_
  simp only [go_sem,simprocAttr,h1]
  refine Zi rfl rfl ?_
  refine Ze ?_ (.bool _) rfl
  try simp only [go_sem,simprocAttr]
  exact .refl _
 | true =>
  refine Za tok rfl rfl ?_
  simp only [go_sem,simprocAttr,h1]
  refine Zq (Zb Tryz.func99 rfl rfl) (a45 t.name (by omega)) rfl ?_
  simp only [go_sem,simprocAttr]
  cases h2:sym t.name with
  | false =>
   simp only [go_sem,simprocAttr]
   refine Zi rfl rfl ?_
   refine Ze ?_ (.bool _) rfl
   try simp only [go_sem,simprocAttr]
   exact .refl _
  | true =>
   simp only [go_sem,simprocAttr]
   refine Zq (Zb Tryz.func260 rfl rfl) (Zgf t 0 0) rfl ?_
   simp only [go_sem,simprocAttr]
   refine Zi rfl rfl ?_
   refine Ze ?_ (.bool _) rfl
   try simp only [go_sem,simprocAttr]
   exact .refl _
theorem Znt (t:Tm) (ht:t.Good):Pure Tryz.prog 262 [.ZA [.bool (named t)],.ZA t.cs] (.bool (named t && Wu t.name && nargs t 0 0)):=by
 intro n H
 have hs:=ht.name
 refine Zm tok (Zb Tryz.func262 rfl rfl) (by simp) fun B=>?_
 refine Za tok rfl rfl ?_
 simp only [go_sem,simprocAttr]
 cases h1:named t with
 | false =>
  refine Za tok rfl rfl ?_
  simp only [go_sem,simprocAttr,h1]
  refine Zi rfl rfl ?_
  refine Ze ?_ (.bool _) rfl
  try simp only [go_sem,simprocAttr]
  exact .refl _
 | true =>
  refine Za tok rfl rfl ?_
  simp only [go_sem,simprocAttr,h1]
  refine Zq (Zb Tryz.func263 rfl rfl) (Znz t.name (by omega)) rfl ?_
  simp only [go_sem,simprocAttr]
  cases h2:Wu t.name with
  | false =>
   simp only [go_sem,simprocAttr]
   refine Zi rfl rfl ?_
   refine Ze ?_ (.bool _) rfl
   try simp only [go_sem,simprocAttr]
   exact .refl _
  | true =>
   simp only [go_sem,simprocAttr]
   refine Zq (Zb Tryz.func260 rfl rfl) (Zgf t 0 0) rfl ?_
   simp only [go_sem,simprocAttr]
   refine Zi rfl rfl ?_
   refine Ze ?_ (.bool _) rfl
   try simp only [go_sem,simprocAttr]
   exact .refl _
theorem Znr (t:Tm) (ht:t.Good):Pure Tryz.prog 264 [.ZA [.bool (named t)],.ZA t.cs] (.bool (named t && sym t.name && nargs t 1 8)):=by
 intro n H
 have hs:=ht.name
 refine Zm tok (Zb Tryz.func264 rfl rfl) (by simp) fun B=>?_
 refine Za tok rfl rfl ?_
 simp only [go_sem,simprocAttr]
 cases h1:named t with
 | false =>
  refine Za tok rfl rfl ?_
  simp only [go_sem,simprocAttr,h1]
  refine Zi rfl rfl ?_
  refine Ze ?_ (.bool _) rfl
  try simp only [go_sem,simprocAttr]
  exact .refl _
 | true =>
  refine Za tok rfl rfl ?_
  simp only [go_sem,simprocAttr,h1]
  refine Zq (Zb Tryz.func99 rfl rfl) (a45 t.name (by omega)) rfl ?_
  simp only [go_sem,simprocAttr]
  cases h2:sym t.name with
  | false =>
   simp only [go_sem,simprocAttr]
   refine Zi rfl rfl ?_
   refine Ze ?_ (.bool _) rfl
   try simp only [go_sem,simprocAttr]
   exact .refl _
  | true =>
   simp only [go_sem,simprocAttr]
   refine Zq (Zb Tryz.func260 rfl rfl) (Zgf t 1 8) rfl ?_
   simp only [go_sem,simprocAttr]
   refine Zi rfl rfl ?_
   refine Ze ?_ (.bool _) rfl
   try simp only [go_sem,simprocAttr]
   exact .refl _
def sMinus:List UInt8:=[45]
theorem a152 (t:Tm) (o:Bool):Pure Tryz.prog 265 [.ZA [.bool (named t)],.ZA [.bool o],.ZA t.cs] (.bool (named t && o && (nargs t 2 2 || (t.name == sMinus) && nargs t 1 1))):=by
 intro n H
 refine Zm tok (Zb Tryz.func265 rfl rfl) (by simp) fun B=>?_
 refine Za tok rfl rfl ?_
 simp only [go_sem,simprocAttr]
 cases h1:named t with
 | false =>
  refine Za tok rfl rfl ?_
  simp only [go_sem,simprocAttr,h1]
  refine Zi rfl rfl ?_
  refine Ze ?_ (.bool _) rfl
  try simp only [go_sem,simprocAttr]
  exact .refl _
 | true =>
  cases h2:o with
  | false =>
   refine Za tok rfl rfl ?_
   simp only [go_sem,simprocAttr,h1,h2]
   refine Zi rfl rfl ?_
   refine Ze ?_ (.bool _) rfl
   try simp only [go_sem,simprocAttr]
   exact .refl _
  | true =>
   refine Za tok rfl rfl ?_
   simp only [go_sem,simprocAttr,h1,h2]
   refine Zq (Zb Tryz.func260 rfl rfl) (Zgf t 2 2) rfl ?_
   simp only [go_sem,simprocAttr]
   cases h3:nargs t 2 2 with
   | true =>
    simp only [go_sem,simprocAttr]
    refine Zi rfl rfl ?_
    refine Ze ?_ (.bool _) rfl
    try simp only [go_sem,simprocAttr,Bool.true_or]
    exact .refl _
   | false =>
    cases h4:(t.name == sMinus) with
    | false =>
     simp only [go_sem,simprocAttr,show (t.name == [45]) = false from h4]
     refine Zi rfl rfl ?_
     refine Ze ?_ (.bool _) rfl
     try simp only [go_sem,simprocAttr,Bool.false_or]
     exact .refl _
    | true =>
     simp only [go_sem,simprocAttr,show (t.name == [45]) = true from h4]
     refine Zq (Zb Tryz.func260 rfl rfl) (Zgf t 1 1) rfl ?_
     simp only [go_sem,simprocAttr]
     refine Zi rfl rfl ?_
     refine Ze ?_ (.bool _) rfl
     try simp only [go_sem,simprocAttr,Bool.false_or]
     exact .refl _
theorem Zn1 (t:Tm):Pure Tryz.prog 266 [.ZA t.cs] (.bool ((t.num == 0) && (t.name == []) && nargs t 2 2)):=by
 intro n H
 refine Zm tok (Zb Tryz.func266 rfl rfl) (by simp) fun B=>?_
 refine Za tok rfl rfl ?_
 simp only [go_sem,simprocAttr]
 cases h1:(t.num == 0) with
 | false =>
  refine Za tok rfl rfl ?_
  simp only [go_sem,simprocAttr,h1]
  refine Zi rfl rfl ?_
  refine Ze ?_ (.bool _) rfl
  try simp only [go_sem,simprocAttr]
  exact .refl _
 | true =>
  cases h2:(t.name == []) with
  | false =>
   refine Za tok rfl rfl ?_
   simp only [go_sem,simprocAttr,h1,h2]
   refine Zi rfl rfl ?_
   refine Ze ?_ (.bool _) rfl
   try simp only [go_sem,simprocAttr]
   exact .refl _
  | true =>
   refine Za tok rfl rfl ?_
   simp only [go_sem,simprocAttr,h1,h2]
   refine Zq (Zb Tryz.func260 rfl rfl) (Zgf t 2 2) rfl ?_
   simp only [go_sem,simprocAttr]
   refine Zi rfl rfl ?_
   refine Ze ?_ (.bool _) rfl
   try simp only [go_sem,simprocAttr]
   exact .refl _
end Go.Proofs.YthgbkalgmicniaaGreatDoor

/- Library functions of this translation, laid. -/
namespace Go.Proofs
open Go.Shelf
def Tryz.lays156_ren:Go.Shelf.Ren:=⟨fun | 156=>107 | 165=>189 | 166=>190 | 169=>191 | 240=>273 | 241=>274 | 276=>320 | 277=>321 | n=>n,fun | 31=>60 | 9=>9 | 3=>3 | 4=>4 | 0=>0 | 20=>20 | 72=>244 | 76=>248 | 70=>241 | 37=>242 | 75=>247 | 127=>308 | 164=>345 | 5=>5 | 80=>250 | n=>n,fun | n=>n⟩
theorem Tryz.lays156:Go.Proofs.Lays.n156 Tryz.prog Tryz.lays156_ren:={
 mixed:=by kernel_rfl
 f156:=Tryz.func107.trans (congrArg some (by kernel_rfl))
 f165:=Tryz.func189.trans (congrArg some (by kernel_rfl))
 f166:=Tryz.func190.trans (congrArg some (by kernel_rfl))
 f169:=Tryz.func191.trans (congrArg some (by kernel_rfl))
 f240:=Tryz.func273.trans (congrArg some (by kernel_rfl))
 f241:=Tryz.func274.trans (congrArg some (by kernel_rfl))
 f276:=Tryz.func320.trans (congrArg some (by kernel_rfl))
 f277:=Tryz.func321.trans (congrArg some (by kernel_rfl))
 t0:=Tryz.underlying0
 a0:=Tryz.isAgg0
 z0:=Tryz.sizeOf0
 v0:=Tryz.zeroValue0
 t3:=Tryz.underlying3
 a3:=Tryz.isAgg3
 z3:=Tryz.sizeOf3
 v3:=Tryz.zeroValue3
 t4:=Tryz.underlying4
 a4:=Tryz.isAgg4
 z4:=Tryz.sizeOf4
 v4:=Tryz.zeroValue4
 t9:=Tryz.underlying9
 a9:=Tryz.isAgg9
 z9:=Tryz.sizeOf9
 v9:=Tryz.zeroValue9
 t20:=Tryz.underlying20
 a20:=Tryz.isAgg20
 z20:=Tryz.sizeOf20
 v20:=Tryz.zeroValue20
 t31:=Tryz.underlying60
 a31:=Tryz.isAgg60
 z31:=Tryz.sizeOf60
 v31:=Tryz.zeroValue60
 t37:=Tryz.underlying242
 a37:=Tryz.isAgg242
 z37:=Tryz.sizeOf242
 v37:=Tryz.zeroValue242
 t70:=Tryz.underlying241
 a70:=Tryz.isAgg241
 z70:=Tryz.sizeOf241
 v70:=Tryz.zeroValue241
 t72:=Tryz.underlying244
 a72:=Tryz.isAgg244
 z72:=Tryz.sizeOf244
 v72:=Tryz.zeroValue244
 t75:=Tryz.underlying247
 a75:=Tryz.isAgg247
 z75:=Tryz.sizeOf247
 v75:=Tryz.zeroValue247
 t76:=Tryz.underlying248
 a76:=Tryz.isAgg248
 z76:=Tryz.sizeOf248
 v76:=Tryz.zeroValue248
 t127:=Tryz.underlying308
 a127:=Tryz.isAgg308
 z127:=Tryz.sizeOf308
 v127:=Tryz.zeroValue308
 t164:=Tryz.underlying345
 a164:=Tryz.isAgg345
 z164:=Tryz.sizeOf345
 v164:=Tryz.zeroValue345 }
theorem Tryz.Builder_Extra_156:Builder.Extra Tryz.prog Tryz.lays156_ren:={
 sizeBuilder:=by kernel_rfl
 liesBuilder:=by kernel_rfl
 t5:=Tryz.underlying5
 a5:=Tryz.isAgg5
 z5:=Tryz.sizeOf5
 v5:=Tryz.zeroValue5
 infoByte:=by kernel_rfl
 cellsByte:=by kernel_rfl
 sizeByte:=by kernel_rfl
 neB5:=by decide }
def Tryz.lays106_ren:Go.Shelf.Ren:=⟨fun | 106=>148 | 213=>231 | 265=>300 | n=>n,fun | 9=>9 | 3=>3 | n=>n,fun | n=>n⟩
theorem Tryz.lays106:Go.Proofs.Lays.n106 Tryz.prog Tryz.lays106_ren:={
 mixed:=by kernel_rfl
 f106:=Tryz.func148.trans (congrArg some (by kernel_rfl))
 f213:=Tryz.func231.trans (congrArg some (by kernel_rfl))
 f265:=Tryz.func300.trans (congrArg some (by kernel_rfl))
 t3:=Tryz.underlying3
 a3:=Tryz.isAgg3
 z3:=Tryz.sizeOf3
 v3:=Tryz.zeroValue3
 t9:=Tryz.underlying9
 a9:=Tryz.isAgg9
 z9:=Tryz.sizeOf9
 v9:=Tryz.zeroValue9 }
def Tryz.laysM171_ren:Go.Shelf.Ren:=⟨fun | 171=>214 | 243=>291 | 246=>336 | 283=>357 | 284=>358 | 285=>359 | 286=>360 | 129=>287 | 317=>373 | 318=>374 | 319=>375 | 320=>376 | 337=>382 | 338=>383 | n=>n,fun | 3=>3 | 9=>9 | 2=>2 | 4=>4 | 171=>374 | 0=>0 | 53=>310 | 37=>242 | 5=>5 | 173=>376 | 212=>384 | 51=>319 | 20=>20 | 213=>385 | 46=>256 | 232=>394 | 233=>395 | n=>n,fun | 17=>1 | 18=>4 | 19=>5 | n=>n⟩
theorem Tryz.laysM171:Go.Proofs.LaysM.n171 Tryz.prog Tryz.laysM171_ren:={
 mixed:=by kernel_rfl
 f129:=Tryz.func287.trans (congrArg some (by kernel_rfl))
 f171:=Tryz.func214.trans (congrArg some (by kernel_rfl))
 f243:=Tryz.func291.trans (congrArg some (by kernel_rfl))
 f246:=Tryz.func336.trans (congrArg some (by kernel_rfl))
 f283:=Tryz.func357.trans (congrArg some (by kernel_rfl))
 f284:=Tryz.func358.trans (congrArg some (by kernel_rfl))
 f285:=Tryz.func359.trans (congrArg some (by kernel_rfl))
 f286:=Tryz.func360.trans (congrArg some (by kernel_rfl))
 f317:=Tryz.func373.trans (congrArg some (by kernel_rfl))
 f318:=Tryz.func374.trans (congrArg some (by kernel_rfl))
 f319:=Tryz.func375.trans (congrArg some (by kernel_rfl))
 f320:=Tryz.func376.trans (congrArg some (by kernel_rfl))
 f337:=Tryz.func382.trans (congrArg some (by kernel_rfl))
 f338:=Tryz.func383.trans (congrArg some (by kernel_rfl))
 t0:=Tryz.underlying0
 a0:=Tryz.isAgg0
 z0:=Tryz.sizeOf0
 v0:=Tryz.zeroValue0
 t2:=Tryz.underlying2
 a2:=Tryz.isAgg2
 z2:=Tryz.sizeOf2
 v2:=Tryz.zeroValue2
 t3:=Tryz.underlying3
 a3:=Tryz.isAgg3
 z3:=Tryz.sizeOf3
 v3:=Tryz.zeroValue3
 t4:=Tryz.underlying4
 a4:=Tryz.isAgg4
 z4:=Tryz.sizeOf4
 v4:=Tryz.zeroValue4
 t5:=Tryz.underlying5
 a5:=Tryz.isAgg5
 z5:=Tryz.sizeOf5
 v5:=Tryz.zeroValue5
 t9:=Tryz.underlying9
 a9:=Tryz.isAgg9
 z9:=Tryz.sizeOf9
 v9:=Tryz.zeroValue9
 t20:=Tryz.underlying20
 a20:=Tryz.isAgg20
 z20:=Tryz.sizeOf20
 v20:=Tryz.zeroValue20
 t37:=Tryz.underlying242
 a37:=Tryz.isAgg242
 z37:=Tryz.sizeOf242
 v37:=Tryz.zeroValue242
 t46:=Tryz.underlying256
 a46:=Tryz.isAgg256
 z46:=Tryz.sizeOf256
 v46:=Tryz.zeroValue256
 t51:=Tryz.underlying319
 a51:=Tryz.isAgg319
 z51:=Tryz.sizeOf319
 v51:=Tryz.zeroValue319
 t53:=Tryz.underlying310
 a53:=Tryz.isAgg310
 z53:=Tryz.sizeOf310
 v53:=Tryz.zeroValue310
 t171:=Tryz.underlying374
 a171:=Tryz.isAgg374
 z171:=Tryz.sizeOf374
 v171:=Tryz.zeroValue374
 t173:=Tryz.underlying376
 a173:=Tryz.isAgg376
 z173:=Tryz.sizeOf376
 v173:=Tryz.zeroValue376
 t212:=Tryz.underlying384
 a212:=Tryz.isAgg384
 z212:=Tryz.sizeOf384
 v212:=Tryz.zeroValue384
 t213:=Tryz.underlying385
 a213:=Tryz.isAgg385
 z213:=Tryz.sizeOf385
 t232:=Tryz.underlying394
 a232:=Tryz.isAgg394
 z232:=Tryz.sizeOf394
 v232:=Tryz.zeroValue394
 t233:=Tryz.underlying395
 a233:=Tryz.isAgg395
 z233:=Tryz.sizeOf395
 v233:=Tryz.zeroValue395
 g17:=by kernel_rfl
 g18:=by kernel_rfl
 g19:=by kernel_rfl
 i0:=by kernel_rfl
 i2:=by kernel_rfl
 i3:=by kernel_rfl
 i4:=by kernel_rfl
 i5:=by kernel_rfl
 i9:=by kernel_rfl
 i20:=by kernel_rfl
 i37:=by kernel_rfl
 i46:=by kernel_rfl
 i51:=by kernel_rfl
 i53:=by kernel_rfl
 i171:=by kernel_rfl
 i173:=by kernel_rfl
 i212:=by kernel_rfl
 i232:=by kernel_rfl
 i233:=by kernel_rfl
 m17:=by kernel_rfl
 m18:=by kernel_rfl
 m19:=by kernel_rfl }
def Tryz.lays144_ren:Go.Shelf.Ren:=⟨fun | 144=>258 | 143=>311 | 219=>347 | 217=>365 | 225=>366 | 224=>367 | 267=>368 | 266=>378 | 314=>379 | n=>n,fun | 9=>9 | 4=>4 | 3=>3 | 5=>5 | 46=>256 | 146=>387 | 51=>319 | n=>n,fun | 1=>0 | n=>n⟩
theorem Tryz.lays144:Go.Proofs.Lays.n144 Tryz.prog Tryz.lays144_ren:={
 mixed:=by kernel_rfl
 f143:=Tryz.func311.trans (congrArg some (by kernel_rfl))
 f144:=Tryz.func258.trans (congrArg some (by kernel_rfl))
 f217:=Tryz.func365.trans (congrArg some (by kernel_rfl))
 f219:=Tryz.func347.trans (congrArg some (by kernel_rfl))
 f224:=Tryz.func367.trans (congrArg some (by kernel_rfl))
 f225:=Tryz.func366.trans (congrArg some (by kernel_rfl))
 f266:=Tryz.func378.trans (congrArg some (by kernel_rfl))
 f267:=Tryz.func368.trans (congrArg some (by kernel_rfl))
 f314:=Tryz.func379.trans (congrArg some (by kernel_rfl))
 t3:=Tryz.underlying3
 a3:=Tryz.isAgg3
 z3:=Tryz.sizeOf3
 v3:=Tryz.zeroValue3
 t4:=Tryz.underlying4
 a4:=Tryz.isAgg4
 z4:=Tryz.sizeOf4
 v4:=Tryz.zeroValue4
 t5:=Tryz.underlying5
 a5:=Tryz.isAgg5
 z5:=Tryz.sizeOf5
 v5:=Tryz.zeroValue5
 t9:=Tryz.underlying9
 a9:=Tryz.isAgg9
 z9:=Tryz.sizeOf9
 v9:=Tryz.zeroValue9
 t46:=Tryz.underlying256
 a46:=Tryz.isAgg256
 z46:=Tryz.sizeOf256
 v46:=Tryz.zeroValue256
 t51:=Tryz.underlying319
 a51:=Tryz.isAgg319
 z51:=Tryz.sizeOf319
 v51:=Tryz.zeroValue319
 t146:=Tryz.underlying387
 a146:=Tryz.isAgg387
 z146:=Tryz.sizeOf387
 v146:=Tryz.zeroValue387
 g1:=by kernel_rfl }
def Tryz.laysNm220_ren:Go.Shelf.Ren:=⟨fun | 20=>210 | n=>n,fun | 22=>61 | 3=>3 | 4=>4 | 0=>0 | n=>n,fun | n=>n⟩
theorem Tryz.laysNm220:Go.Proofs.Lays2.n20 Tryz.prog Tryz.laysNm220_ren:={
 mixed:=by kernel_rfl
 f20:=Tryz.func210.trans (congrArg some (by kernel_rfl))
 t0:=Tryz.underlying0
 a0:=Tryz.isAgg0
 z0:=Tryz.sizeOf0
 v0:=Tryz.zeroValue0
 t3:=Tryz.underlying3
 a3:=Tryz.isAgg3
 z3:=Tryz.sizeOf3
 v3:=Tryz.zeroValue3
 t4:=Tryz.underlying4
 a4:=Tryz.isAgg4
 z4:=Tryz.sizeOf4
 v4:=Tryz.zeroValue4
 t22:=Tryz.underlying61
 a22:=Tryz.isAgg61
 z22:=Tryz.sizeOf61
 v22:=Tryz.zeroValue61
 i3:=by kernel_rfl }
end Go.Proofs

/- Library functions, as the layer says them. -/
namespace Go.Proofs.YthgbkalgmicniaaGreatDoor
open Go.Abs
set_option maxRecDepth 100000
theorem _root_.Go.Abs.ZJ.below {n:Nat} {H:Zf} {E:Env} {w w':World} (h:ZJ n H E w) (hb:Go.RowKit.Below w.heap.size w w') (hd:E.qd = true → w.drawn ≤ w'.drawn):ZJ n H E w' ∧ Ext n E w E w' :=
 h.grow (F':=E.F) hb.os hb.tape hb.output hd hb.size (fun b hlt=>hb.block b hlt) (fun _ _ _ h=>h) (fun b o v hf=>by
  have hlt:=h.ZbZ hf
  have:=h.F b o v hf
  simp only [World.cell?,hb.block b hlt] at this ⊢; exact this) (fun _ _ _=>rfl)
theorem ZhM {P:Program} {f:FuncId} {args:List AV} {r:AV} (h:∀ E w vs,VRs E args vs → ∃ v,VR E r v ∧ Calls P f vs.toArray w fun e w'=>e = .returned v ∧ w' = w):Pure P f args r:=fun n H E w vs hr hv=>by
 obtain ⟨v,h1,h2⟩:=h E w vs hv
 refine h2.mono ?_
 rintro e w' ⟨rfl,rfl⟩
 exact ⟨r,v,H,E,rfl,⟨rfl,rfl⟩,h1,hr,.refl _ _ _⟩
def Tabs (H:Zf):Prop:=∃ m t t',H 0 0 = some (.var 0 t [.int .i64 m]) ∧ H 0 1 = some (.var 1 t' (Lib.pow10Tab.map (.int .u64)))
def ZR (P:Program) (f:FuncId) (args:List AV) (r:AV):Prop:=∀ n H,0 < n → Tabs H → PC P n f args H r
theorem Abs.Pure.tabs {P:Program} {f:FuncId} {args:List AV} {r:AV} (h:Pure P f args r):ZR P f args r:=fun n H _ _=>h n H
theorem Tabs.full {n:Nat} {L:List (Nat × Zk)} {H:Zf} (h:Tabs H) (hn:0 < n):Tabs (full n L H):=by
 obtain ⟨m,t,t',h1,h2⟩:=h
 refine ⟨m,t,t',?_,?_⟩ <;> simp only [Abs.full] <;> rw [if_neg (by omega)] <;> assumption
theorem ZH {cx:Cx} {dr:Bool} {o:Oper} {args:List Operand} {ts:List TypeId} {s:Zh} {F:Zh → Prop} {f:FuncId} {fn:Func} {c:Code} {r:AV} {avs:List AV} (hf:Fun cx.P f fn c)
  (h:ZR cx.P f avs r) (hn:0 < cx.n) (hT:Tabs s.H) (ha:Xj cx.T (evT s.tmps) args ts = avs) (hF:F ⟨YP s.tmps o.dst r,s.L,s.H⟩):JM cx dr o (.func f) args ts s F :=
 ZgS hf rfl (by rw [List.append_nil,ha]; exact h _ _ (Nat.succ_pos _) (hT.full hn)) hF
theorem a50 (a b:List UInt8):Pure Tryz.prog 148 [.str a,.str b] (.int .i64 (Lib.compareBytes a b)):=ZhM fun E w vs hv=>by
 obtain ⟨v1,r1,rfl,h1,hv⟩:=hv.YR
 obtain ⟨v2,r2,rfl,h2,hv⟩:=hv.YR
 rw [hv.of_nil]
 cases h1; cases h2
 exact ⟨_,.int _ _,Any.strings_Compare Tryz.lays106 ⟨a.toArray⟩ ⟨b.toArray⟩ w⟩
theorem Zb1 {n:Nat} {H:Zf} {E:Env} {w:World} {l k b:Nat} {t:TypeId} {cs:List AV} (hr:ZJ n H E w) (hl:l < n) (h:H l k = some (.var b t cs)):E.qd = false ∧ ∃ c,w.heap[b]? = some (.cells c t (0,0)) ∧ VRs E cs c.toList:=by
 obtain ⟨h1,_,h2⟩:=hr.blk l k _ hl h
 exact ⟨h1,h2⟩
theorem a146 (s sub:List UInt8) (hs:s.length < 4294967281):ZR Tryz.prog 258 [.str s,.str sub] (.bool (Lib.contains s sub)):=fun n H hn hT E w vs hr hv=>by
 obtain ⟨m,t,t',hm,_⟩:=hT
 obtain ⟨v1,r1,rfl,h1,hv⟩:=hv.YR
 obtain ⟨v2,r2,rfl,h2,hv⟩:=hv.YR
 rw [hv.of_nil]
 cases h1; cases h2
 obtain ⟨_,c,hc,hcv⟩:=Zb1 hr hn hm
 obtain ⟨x,r,hx,hxv,hrn⟩:=hcv.YR
 have hcell:w.cell? ⟨0,0,none⟩ = some (.int .i64 m):=by
  cases hxv
  simp only [World.cell?,hc]
  have:c = #[.int .i64 m]:=by
   rw [hrn.of_nil] at hx
   exact Array.toList_inj.1 hx
  rw [this]; rfl
 refine (Any.strings_Contains Tryz.lays144 ⟨s.toArray⟩ ⟨sub.toArray⟩ m w (by show s.toArray.size < _; simpa using hs) hcell).mono ?_
 rintro e w' ⟨rfl,rfl⟩
 exact ⟨_,_,H,E,rfl,⟨rfl,rfl⟩,.bool _,hr,.refl _ _ _⟩
theorem VRs.ZkR {E:Env}:∀ {l:List Int} {vs:List Value},VRs E (l.map (.int .u64)) vs → vs = l.map (Value.int .u64)
 | [],vs,h=>h.of_nil
 | x :: l,vs,h=>by
  obtain ⟨v,r,rfl,h1,h2⟩:=VRs.YR h
  cases h1
  rw [VRs.ZkR h2]; rfl
theorem Zi1 (i:Int) (h0:-9223372036854775808 ≤ i) (h1:i ≤ 9223372036854775807):ZR Tryz.prog 214 [.int .i64 i] (.str (Lib.itoa i)):=fun n H hn hT E w vs hr hv=>by
 obtain ⟨m,t,t',_,hm⟩:=hT
 obtain ⟨v1,r1,rfl,hv1,hv⟩:=hv.YR
 rw [hv.of_nil]
 cases hv1
 obtain ⟨hq,c,hc,hcv⟩:=Zb1 hr hn hm
 have hg:Tryz.prog.globalNamed (Rows.lowerTellsRow.named.getD 3 default) = some 1:=by kernel_rfl
 have htab:Lib.TabIs Tryz.prog w (Rows.lowerTellsRow.named.getD 3 default) .u64 Lib.pow10Tab:=by
  simp only [Lib.TabIs,World.var?,hg,Option.bind_some,hc]
  exact congrArg some (Array.toList_inj.1 (VRs.ZkR hcv))
 refine (Any.strconv_Itoa Tryz.laysM171 i h0 h1 w htab).mono ?_
 rintro e w' ⟨rfl,k,os,rfl⟩
 obtain ⟨hh,hx⟩:=hr.below (w':=Sort.grow (w.drewN k) os) ⟨rfl,rfl,rfl,by simp [Sort.grow,World.drewN],fun b hb=>by simp [Sort.grow,World.drewN,Array.getElem?_append,hb]⟩ (fun hq'=>by rw [hq] at hq'; cases hq')
 exact ⟨_,_,H,E,rfl,⟨rfl,rfl⟩,.str _,hh,hx⟩
theorem Zkq {E:Env} {b off:Nat}:∀ (xs:List (List UInt8)) (c:Nat → Nat → Value),(∀ i (h:i < (xs.map AV.str).length) j (h':j < ((xs.map AV.str)[i]).cells.length),VR E ((xs.map AV.str)[i]).cells[j] (c i j)) →
  ∀ j x,(xs.map fun s=>(⟨s.toArray⟩:ByteArray))[j]? = some x → c j 0 = .string x:=fun xs c h j x hx=>by
 rw [List.getElem?_map,Option.map_eq_some_iff] at hx
 obtain ⟨s,hs,rfl⟩:=hx
 obtain ⟨hj,rfl⟩:=List.getElem?_eq_some_iff.1 hs
 have:=h j (by simpa using hj) 0 (by simp [AV.cells])
 simp only [List.getElem_map,AV.cells,List.getElem_cons_zero] at this
 generalize c j 0 = y at this
 cases this; rfl
theorem a92 (xs:List (List UInt8)) (sep:List UInt8) (o:Own) (hN:xs.length ≤ 140737488355328) (hl:(Lib.join xs sep).length ≤ 140737488355328):ZR Tryz.prog 107 [.sl 1 (xs.map .str) o,.str sep] (.str (Lib.join xs sep)):=fun n H hn hT E w vs hr hv=>by
 obtain ⟨m,t,t',_,hm⟩:=hT
 obtain ⟨v1,r1,rfl,hv1,hv⟩:=hv.YR
 obtain ⟨v2,r2,rfl,hv2,hv⟩:=hv.YR
 rw [hv.of_nil]
 cases hv2
 obtain ⟨hq,_⟩:=Zb1 hr hn hm
 have fin:∀ w',Go.RowKit.Below w.heap.size w w' → ∃ r v H' E',Ending.returned (.string ⟨(Lib.join xs sep).toArray⟩) = .returned v ∧ (r = .str (Lib.join xs sep) ∧ H' = H) ∧ VR E' r v ∧ ZJ n H' E' w' ∧ Ext n E w E' w':=fun w' hb=>by
  obtain ⟨hh,hx⟩:=hr.below hb (fun hq'=>by rw [hq] at hq'; cases hq')
  exact ⟨_,_,H,E,rfl,⟨rfl,rfl⟩,.str _,hh,hx⟩
 cases hx:xs with
 | nil =>
  subst hx
  have hnone:∀ a c,Calls Tryz.prog 107 #[.slice a 0 c,.string ⟨sep.toArray⟩] w fun e w'=>∃ r v H' E',e = .returned v ∧ (r = .str (Lib.join [] sep) ∧ H' = H) ∧ VR E' r v ∧ ZJ n H' E' w' ∧ Ext n E w E' w':=fun a c =>
   (Any.strings_Join_none Tryz.lays156 Tryz.Builder_Extra_156 a c ⟨sep.toArray⟩ w).mono fun e w' ⟨he,hw⟩=>by
    subst hw; rw [he]; exact fin _ (Go.RowKit.Below.refl _ _)
  generalize hxs:AV.sl 1 (List.map AV.str []) o = av at hv1
  cases hv1 <;> cases hxs
  ·exact hnone _ _
  ·exact hnone _ _
 | cons x r =>
  rw [hx] at hv1 hN hl fin
  generalize hxs:AV.sl 1 (List.map AV.str (x :: r)) o = av at hv1
  cases hv1 <;> cases hxs
  rename_i b off cap c hv' hcap hml hk hc ho
  have hcell:∀ i,i < (x :: r).length → w.cell? ⟨b,off + i,none⟩ = some (c i 0):=fun i hi=>by
   have:=hr.F _ _ _ (hc i 0 (by simpa using hi) (by omega))
   simpa using this
  have hlen:(List.map AV.str (x :: r)).length = ((x :: r).map fun s=>(⟨s.toArray⟩:ByteArray)).length:=by simp
  have hmm:((x :: r).map fun s=>(⟨s.toArray⟩:ByteArray)).map (·.data.toList) = x :: r:=by
   rw [List.map_map]
   exact (List.map_congr_left (g:=fun s=>s) (fun s _=>by simp)).trans (List.map_id' _)
  have hj:=Any.strings_Join Tryz.lays156 Tryz.Builder_Extra_156 b off cap ((x :: r).map fun s=>(⟨s.toArray⟩:ByteArray)) ⟨sep.toArray⟩ w (fun j y hy=>by
   have hlt:j < (x :: r).length:=by
    have:=(List.getElem?_eq_some_iff.1 hy).1; simpa using this
   rw [hcell j hlt,Zkq (b:=b) (off:=off) _ c hv' j y hy]) (hr.ZbZ (hc 0 0 (by simp) (by omega))) (by simpa using hN) (by simpa using hcap) (by rw [hmm]; exact hl)
  rw [hmm] at hj
  rw [hlen]
  refine Calls.mono hj ?_
  rintro e w' ⟨rfl,hb⟩
  exact fin w' hb
end Go.Proofs.YthgbkalgmicniaaGreatDoor

/- Shapes and validity. -/
namespace Go.Proofs.YthgbkalgmicniaaGreatDoor
open Go.Abs
set_option maxRecDepth 100000
def sOps:List UInt8:=[43,45,42,47,92]
def oper (t:Tm):Bool:=Lib.contains sOps t.name && ((t.name.length:Int) == 1)
def shape (t:Tm):Bool :=
 if t.kind = 1 then decide (-2147483647 ≤ t.num) && decide (t.num ≤ 2147483647) && (t.name == []) && nargs t 0 0
 else if t.kind = 2 then named t && sym t.name && nargs t 0 0
 else if t.kind = 4 then named t && sym t.name && nargs t 1 8
 else if t.kind = 3 then named t && Wu t.name && nargs t 0 0
 else if t.kind = 5 then named t && oper t && (nargs t 2 2 || (t.name == sMinus) && nargs t 1 1)
 else if t.kind = 6 then (t.num == 0) && (t.name == []) && nargs t 2 2
 else false
theorem a107 (t:Tm) (ht:t.Good):ZR Tryz.prog 181 [t.enc] (.bool (shape t)):=by
 intro n H hn hT
 have hs:=ht.name
 refine Zm tok (Zb Tryz.func181 rfl rfl) (by simp) fun B=>?_
 refine Za tok rfl rfl ?_
 simp only [go_sem,simprocAttr]
 repeat refine kn rfl ?_
 refine XF ⟨[(3,.ptr n 3 0),(2,.bool false),(1,.ptr n 1 0)],[(1,.box t.cs),(3,.box [.bool (named t)])],H⟩ ?_ ?_
 ·cases h1:(t.num == 0)
  all_goals
   refine Za tok rfl rfl ?_
   simp only [go_sem,simprocAttr,h1]
   refine Zt rfl ?_
   refine ⟨rfl,?_⟩
   refine Zg ?_ ?_ ?_ ?_ <;> repeat' first|exact trivial|refine q0 ?_|exact qb|exact q1|exact q2|exact q3|exact rfl|refine And.intro ?_ ?_|exact qA rfl|exact Inside.ptr _ _ _ (.inr ⟨rfl,rfl⟩)|exact Tm.ins _|exact Tm.Zj _ _|exact Am.ins _|exact Am.Zj _ _|refine Zd ?_|refine Tm.Zc ?_|refine Am.Zc ?_
   simp only [go_sem,simprocAttr,named,h1,bne]
 repeat refine kn rfl ?_
 refine XF ⟨[(4,.ptr n 4 0),(3,.ptr n 3 0),(2,.bool false),(1,.ptr n 1 0)],[(1,.box t.cs),(3,.box [.bool (named t)]),(4,.box [.bool (oper t)])],H⟩ ?_ ?_
 ·refine Za tok rfl rfl ?_
  simp only [go_sem,simprocAttr]
  refine ZH (Zb Tryz.func258 rfl rfl) (a146 [43,45,42,47,92] t.name (by decide)) hn hT rfl ?_
  simp only [go_sem,simprocAttr]
  cases h1:Lib.contains [43,45,42,47,92] t.name
  all_goals
   try simp only [go_sem,simprocAttr]
   refine Zt rfl ?_
   refine ⟨rfl,?_⟩
   refine Zg ?_ ?_ ?_ ?_ <;> repeat' first|exact trivial|refine q0 ?_|exact qb|exact q1|exact q2|exact q3|exact rfl|refine And.intro ?_ ?_|exact qA rfl|exact Inside.ptr _ _ _ (.inr ⟨rfl,rfl⟩)|exact Tm.ins _|exact Tm.Zj _ _|exact Am.ins _|exact Am.Zj _ _|refine Zd ?_|refine Tm.Zc ?_|refine Am.Zc ?_
   simp only [go_sem,simprocAttr,oper,sOps,h1]
 repeat refine kn rfl ?_
 refine Ym 1 t.cs [(4,.ptr n 4 0),(3,.ptr n 3 0),(2,.bool false),(1,.ZA t.cs)] rfl ?_ ?_ ?_ ?_
 ·exact ⟨.int _ _,.int _ _,.str _,Tm.Zj _ _,trivial⟩
 ·exact ⟨.inl ⟨.refl _,.ptr _ _ _ (.inr ⟨rfl,by decide⟩)⟩,.inl ⟨.refl _,.ptr _ _ _ (.inr ⟨rfl,by decide⟩)⟩,.inl ⟨.refl _,.bool _⟩,.inr ⟨0,rfl,rfl⟩,trivial⟩
 ·exact ⟨Zk.ZG ⟨.bool _,trivial⟩,Zk.ZG ⟨.bool _,trivial⟩,trivial⟩
 refine Ym 3 [.bool (named t)] [(4,.ptr n 4 0),(3,.ZA [.bool (named t)]),(2,.bool false),(1,.ZA t.cs)] rfl ?_ ?_ ?_ ?_
 ·exact ⟨.bool _,trivial⟩
 ·exact ⟨.inl ⟨.refl _,.ptr _ _ _ (.inr ⟨rfl,by decide⟩)⟩,.inr ⟨0,rfl,rfl⟩,.inl ⟨.refl _,.bool _⟩,.inl ⟨.refl _,Below.inside (Yd t.bcs)⟩,trivial⟩
 ·exact ⟨Zk.ZG ⟨.bool _,trivial⟩,trivial⟩
 refine Ym 4 [.bool (oper t)] [(4,.ZA [.bool (oper t)]),(3,.ZA [.bool (named t)]),(2,.bool false),(1,.ZA t.cs)] rfl ?_ ?_ trivial ?_
 ·exact ⟨.bool _,trivial⟩
 ·exact ⟨.inr ⟨0,rfl,rfl⟩,.inl ⟨.refl _,Below.inside (Yd ⟨.bool _,trivial⟩)⟩,.inl ⟨.refl _,.bool _⟩,.inl ⟨.refl _,Below.inside (Yd t.bcs)⟩,trivial⟩
 refine Za tok rfl rfl ?_
 simp only [go_sem,simprocAttr,Zbn,X4,WC,AV.kls,klAll,AV.kl,Option.getD_some,List.mem_cons,forall_eq_or_imp,List.not_mem_nil,KL.int.injEq,List.cons.injEq,List.map_cons,Int.reduceEq,false_and,and_false,not_false_eq_true]
 by_cases k1:t.kind = 1
 ·refine Za tok rfl rfl ?_
  simp only [go_sem,simprocAttr,lookA,X4,WC,AV.kls,klAll,AV.kl,Option.getD_some,List.mem_cons,forall_eq_or_imp,List.not_mem_nil,KL.int.injEq,List.cons.injEq,List.map_cons,eq_true k1,true_and,and_true,false_and]
  refine Za tok rfl rfl ?_
  simp only [go_sem,simprocAttr,bne]
  refine XM (avs:=[]) rfl (Zb Tryz.func259 rfl rfl) (Zn8 t _ _) rfl ?_
  simp only [go_sem,simprocAttr]
  refine Zi rfl rfl ?_
  refine Ze ?_ (.bool _) rfl
  rw [shape]
  simp only [k1,reduceIte,Int.reduceEq]
  simp only [go_sem,simprocAttr]
  first | exact .refl _ | (simp; exact .refl _)
 by_cases k2:t.kind = 2
 ·refine Za tok rfl rfl ?_
  simp only [go_sem,simprocAttr,lookA,X4,WC,AV.kls,klAll,AV.kl,Option.getD_some,List.mem_cons,forall_eq_or_imp,List.not_mem_nil,KL.int.injEq,List.cons.injEq,List.map_cons,eq_false k1,eq_true k2,true_and,and_true,false_and]
  refine Za tok rfl rfl ?_
  simp only [go_sem,simprocAttr,bne]
  refine XM (avs:=[]) rfl (Zb Tryz.func261 rfl rfl) (a148 t ht _ _) rfl ?_
  simp only [go_sem,simprocAttr]
  refine Zi rfl rfl ?_
  refine Ze ?_ (.bool _) rfl
  rw [shape]
  simp only [k1,k2,reduceIte,Int.reduceEq]
  simp only [go_sem,simprocAttr]
  first | exact .refl _ | (simp; exact .refl _)
 by_cases k3:t.kind = 3
 ·refine Za tok rfl rfl ?_
  simp only [go_sem,simprocAttr,lookA,X4,WC,AV.kls,klAll,AV.kl,Option.getD_some,List.mem_cons,forall_eq_or_imp,List.not_mem_nil,KL.int.injEq,List.cons.injEq,List.map_cons,eq_false k1,eq_false k2,eq_true k3,true_and,and_true,false_and]
  refine Za tok rfl rfl ?_
  simp only [go_sem,simprocAttr,bne]
  refine XM (avs:=[]) rfl (Zb Tryz.func262 rfl rfl) (Znt t ht _ _) rfl ?_
  simp only [go_sem,simprocAttr]
  refine Zi rfl rfl ?_
  refine Ze ?_ (.bool _) rfl
  rw [shape]
  simp only [k1,k2,k3,reduceIte,Int.reduceEq]
  simp only [go_sem,simprocAttr]
  first | exact .refl _ | (simp; exact .refl _)
 by_cases k4:t.kind = 4
 ·refine Za tok rfl rfl ?_
  simp only [go_sem,simprocAttr,lookA,X4,WC,AV.kls,klAll,AV.kl,Option.getD_some,List.mem_cons,forall_eq_or_imp,List.not_mem_nil,KL.int.injEq,List.cons.injEq,List.map_cons,eq_false k1,eq_false k2,eq_false k3,eq_true k4,true_and,and_true,false_and]
  refine Za tok rfl rfl ?_
  simp only [go_sem,simprocAttr,bne]
  refine XM (avs:=[]) rfl (Zb Tryz.func264 rfl rfl) (Znr t ht _ _) rfl ?_
  simp only [go_sem,simprocAttr]
  refine Zi rfl rfl ?_
  refine Ze ?_ (.bool _) rfl
  rw [shape]
  simp only [k1,k2,k3,k4,reduceIte,Int.reduceEq]
  simp only [go_sem,simprocAttr]
  first | exact .refl _ | (simp; exact .refl _)
 by_cases k5:t.kind = 5
 ·refine Za tok rfl rfl ?_
  simp only [go_sem,simprocAttr,lookA,X4,WC,AV.kls,klAll,AV.kl,Option.getD_some,List.mem_cons,forall_eq_or_imp,List.not_mem_nil,KL.int.injEq,List.cons.injEq,List.map_cons,eq_false k1,eq_false k2,eq_false k3,eq_false k4,eq_true k5,true_and,and_true,false_and]
  refine Za tok rfl rfl ?_
  simp only [go_sem,simprocAttr,bne]
  refine XM (avs:=[]) rfl (Zb Tryz.func265 rfl rfl) (a152 t (oper t) _ _) rfl ?_
  simp only [go_sem,simprocAttr]
  refine Zi rfl rfl ?_
  refine Ze ?_ (.bool _) rfl
  rw [shape]
  simp only [k1,k2,k3,k4,k5,reduceIte,Int.reduceEq]
  simp only [go_sem,simprocAttr]
  first | exact .refl _ | (simp; exact .refl _)
 by_cases k6:t.kind = 6
 ·refine Za tok rfl rfl ?_
  simp only [go_sem,simprocAttr,lookA,X4,WC,AV.kls,klAll,AV.kl,Option.getD_some,List.mem_cons,forall_eq_or_imp,List.not_mem_nil,KL.int.injEq,List.cons.injEq,List.map_cons,eq_false k1,eq_false k2,eq_false k3,eq_false k4,eq_false k5,eq_true k6,true_and,and_true,false_and]
  refine Za tok rfl rfl ?_
  simp only [go_sem,simprocAttr,bne]
  refine XM (avs:=[]) rfl (Zb Tryz.func266 rfl rfl) (Zn1 t _ _) rfl ?_
  simp only [go_sem,simprocAttr]
  refine Zi rfl rfl ?_
  refine Ze ?_ (.bool _) rfl
  rw [shape]
  simp only [k1,k2,k3,k4,k5,k6,reduceIte,Int.reduceEq]
  simp only [go_sem,simprocAttr]
  first | exact .refl _ | (simp; exact .refl _)
 refine Za tok rfl rfl ?_
 simp only [go_sem,simprocAttr,lookA,X4,WC,AV.kls,klAll,AV.kl,Option.getD_some,List.mem_cons,forall_eq_or_imp,List.not_mem_nil,KL.int.injEq,List.cons.injEq,List.map_cons,eq_false k1,eq_false k2,eq_false k3,eq_false k4,eq_false k5,eq_false k6,WB]
 refine Za tok rfl rfl ?_
 simp only [go_sem,simprocAttr,bne]
 refine Zi rfl rfl ?_
 refine Ze ?_ (.bool _) rfl
 rw [shape]
 simp only [k1,k2,k3,k4,k5,k6,reduceIte]
 simp only [go_sem,simprocAttr]
 exact .refl _
end Go.Proofs.YthgbkalgmicniaaGreatDoor

/- Validity, as the program says it. -/
namespace Go.Proofs.YthgbkalgmicniaaGreatDoor
open Go.Abs
set_option maxRecDepth 100000
theorem Tabs.up {G H:Zf} (h:Tabs H) (hG:∀ k,G 0 k = H 0 k):Tabs G:=by
 obtain ⟨m,t,t',h1,h2⟩:=h
 exact ⟨m,t,t',(hG 0).trans h1,(hG 1).trans h2⟩
def ZgD (f:Nat) (caps:List AV) (p:Tm → Bool):Prop:=(∃ fn c,Fun Tryz.prog f fn c) ∧ ∀ t:Tm,t.Good → ZR Tryz.prog f (t.enc :: caps) (.bool (p t))
theorem a71 (t:Tm) (ht:t.Good) (f:Nat) (p:Tm → Bool) (hp:ZgD f [] p):ZR Tryz.prog 96 [t.enc,.fn (.func f) []] (.bool (t.all p)):=by
 intro n H hn hT
 obtain ⟨⟨fn,c,hf⟩,hp⟩:=hp
 refine Zm tok (Zb Tryz.func96 rfl rfl) (by simp) fun B=>?_
 refine Za tok rfl rfl ?_
 simp only [go_sem,simprocAttr]
 refine Za tok rfl rfl ?_
 simp only [go_sem,simprocAttr]
 refine Zq (Zb Tryz.func178 rfl rfl) (ZnF t) rfl ?_
 simp only [go_sem,simprocAttr]
 repeat refine kn rfl ?_
 refine Zkh (d:=.ret) 100 t ht p [(2,.box t.cs),(3,.box [.fn (.func f) []]),(4,.box [.bool false])] rfl rfl rfl (by simp) (fun l=>?_) ?_ ?_ ?_
 ·have hb:∀ k,Below k (.fn (.func f) []):=fun k=>.fn _ _ fun i h=>absurd h (Nat.not_lt_zero _)
  have ht:∀ k,Yj (fun c=>Below k c) t.cs:=fun k=>⟨.int _ _,.int _ _,.str _,ZK (fun x hx=>by obtain ⟨u,_,rfl⟩:=List.mem_map.1 hx; exact u.blw k),trivial⟩
  refine ⟨Zk.YV (ht _),Zk.YV ⟨hb _,trivial⟩,Zk.YV ⟨.bool _,trivial⟩,Zk.ZdB ?_,trivial⟩
  refine ⟨.fn _ _ (fun i hi=>?_),t.blw _,.ptr _ _ _ (Nat.lt_succ_self n),.ptr _ _ _ (Nat.lt_succ_self n),.ptr _ _ _ (Nat.lt_succ_self n),t.blw _,hb _,trivial⟩
  have:i = 0:=by simp at hi; exact hi
  subst this
  exact .ZA _ (fun j hj=>(ht _).mem _ (List.getElem_mem hj))
 ·intro l m B' t' H' ht' hm hlv hlow
  have hne:¬ n = m:=by omega
  have h3:=hlv 3
  have h4:=hlv 4
  have h100:=hlv 100
  simp only [go_sem,simprocAttr] at h3 h4 h100
  refine Za tok rfl rfl ?_
  simp only [go_sem,simprocAttr]
  refine Zt rfl ?_
  refine ⟨rfl,h100,?_⟩
  simp only [go_sem,simprocAttr]
  repeat refine kn rfl ?_
  refine Za tok rfl rfl ?_
  simp only [go_sem,simprocAttr,hne,h3,full,Zf.upd,(show ¬ m = n by omega)]
  refine XM (avs:=[t'.enc]) (by simp only [go_sem,simprocAttr,hne,h3,full,Zf.upd]) hf (hp t' ht' _ _ (Nat.succ_pos _) (hT.up (by intro k; simp only [full,Zf.upd]; rw [if_neg (by omega),if_neg (by omega),hlow 0 k hn]))) (by simp only [go_sem,simprocAttr]) ?_
  have hb4:Zk.Below m (.box [.bool false]):=Zk.YV ⟨.bool _,trivial⟩
  simp only [go_sem,simprocAttr]
  cases h1:p t' with
  | false =>
   refine Zp rfl rfl (by simp only [go_sem,simprocAttr,h1]) ?_
   refine Za tok rfl rfl ?_
   simp only [go_sem,simprocAttr,hne,h4,full,Zf.upd,ZbS,setH,(show ¬ m = n by omega)]
   refine ⟨.inr hb4,?_⟩
   refine Zi rfl rfl ?_
   refine ⟨by simp [Zf.upd],rfl,ZfN (fun j=>?_) (fun l' j hne=>?_)⟩
   ·by_cases e1:j = 100
    ·subst e1; simp [Zf.upd]
    ·by_cases e2:j = 4
     ·subst e2; simp [Zf.upd]
     ·simp [Zf.upd,e1,e2,hlv j,setb,lkb,Ne.symm e1,Ne.symm e2]
   ·simp [Zf.upd,hne]
  | true =>
   refine Zn rfl rfl (by simp only [go_sem,simprocAttr,h1]) ?_
   repeat refine kn rfl ?_
   refine Zt rfl ?_
   exact ⟨by simp [Zf.upd],rfl,by simp only [if_true]; exact Zio h100⟩
 ·intro l hall
  repeat refine kn rfl ?_
  refine Za tok rfl rfl ?_
  simp only [go_sem,simprocAttr]
  refine Zi rfl rfl ?_
  refine Xa (.inl rfl) _ n 4 0 [.bool true] (by simp only [go_sem,simprocAttr]) (by simp only [go_sem,simprocAttr,full]) rfl (by simp) (by simp) ?_ (.bool _) rfl
  rw [hall]; exact .refl _
 ·intro l hall
  refine Zi rfl rfl ?_
  refine Xa (.inl rfl) _ n 4 0 [.bool false] (by simp only [go_sem,simprocAttr]) (by simp only [go_sem,simprocAttr,full]) rfl (by simp) (by simp) ?_ (.bool _) rfl
  rw [hall]; exact .refl _
theorem Zm1 (t:Tm) (ht:t.Good):ZR Tryz.prog 180 [t.enc] (.bool (shape t)):=by
 intro n H hn hT
 refine Zm tok (Zb Tryz.func180 rfl rfl) (by simp) fun B=>?_
 refine Za tok rfl rfl ?_
 simp only [go_sem,simprocAttr]
 refine Za tok rfl rfl ?_
 simp only [go_sem,simprocAttr]
 refine ZH (Zb Tryz.func181 rfl rfl) (a107 t ht) hn hT rfl ?_
 simp only [go_sem,simprocAttr]
 refine Zi rfl rfl ?_
 refine Ze ?_ (.bool _) rfl
 try simp only [go_sem,simprocAttr]
 exact .refl _
theorem pred106:ZgD 180 [] shape:=⟨⟨_,_,Zb Tryz.func180 rfl rfl⟩,fun t ht=>Zm1 t ht⟩
def plain (t:Tm):Bool:=(t.kind == 1) || (t.kind == 2) || (t.kind == 4)
theorem a70 (t:Tm):Pure Tryz.prog 95 [t.enc] (.bool (plain t)):=by
 intro n H
 refine Zm tok (Zb Tryz.func95 rfl rfl) (by simp) fun B=>?_
 refine Za tok rfl rfl ?_
 simp only [go_sem,simprocAttr]
 cases h1:(t.kind == 1) <;> cases h2:(t.kind == 2) <;> cases h3:(t.kind == 4)
 all_goals
  refine Za tok rfl rfl ?_
  simp only [go_sem,simprocAttr,h1,h2,h3]
  refine Zi rfl rfl ?_
  refine Ze ?_ (.bool _) rfl
  try simp only [go_sem,simprocAttr,plain,h1,h2,h3,Bool.true_or,Bool.or_true,Bool.false_or,Bool.or_false]
  exact .refl _
theorem pred70:ZgD 95 [] plain:=⟨⟨_,_,Zb Tryz.func95 rfl rfl⟩,fun t _=>Abs.Pure.tabs (a70 t)⟩
end Go.Proofs.YthgbkalgmicniaaGreatDoor

/- Depth, validity, values. -/
namespace Go.Proofs.YthgbkalgmicniaaGreatDoor
open Go.Abs
set_option maxRecDepth 100000
def dep:Tm → Int
 | .mk _ _ _ l=>deps l 0 + 1
where deps:List Tm → Int → Int
 | [],m=>m
 | t :: r,m=>deps r (if dep t > m then dep t else m)
theorem ZdZ (l:List Tm):∀ (i:Nat) (m:Int) (h:i < l.length),dep.deps (l.take (i + 1)) m = (if dep l[i] > dep.deps (l.take i) m then dep l[i] else dep.deps (l.take i) m):=by
 induction l with
 | nil=>intro i m h; exact absurd h (Nat.not_lt_zero _)
 | cons t r ih =>
  intro i m h
  cases i with
  | zero=>rfl
  | succ i=>simp only [List.take_succ_cons,dep.deps,List.getElem_cons_succ]; exact ih i _ (by simpa using h)
theorem Zjn (t:Tm):dep t = dep.deps t.args 0 + 1:=by cases t; rfl
theorem dep_sz:∀ t:Tm,1 ≤ dep t ∧ dep t ≤ t.sz
 | .mk k n s l=>by
  have hl:∀ (r:List Tm),(∀ u ∈ r,u ∈ l) → ∀ m:Int,0 ≤ m → 0 ≤ dep.deps r m ∧ dep.deps r m ≤ max m (Tm.sz.szs r):=by
   intro r
   induction r with
   | nil=>intro _ m hm; simp only [dep.deps,Tm.sz.szs]; omega
   | cons t r ih =>
    intro hr m hm
    have ht:=dep_sz t
    have:=ih (fun u hu=>hr u (List.mem_cons_of_mem _ hu)) (if dep t > m then dep t else m) (by split <;> omega)
    simp only [dep.deps,Tm.sz.szs]
    by_cases hc:dep t > m
    ·rw [if_pos hc] at this ⊢; omega
    ·rw [if_neg hc] at this ⊢; omega
  have:=hl l (fun u h=>h) 0 (Int.le_refl _)
  simp only [dep,Tm.sz]
  omega
termination_by t=>SizeOf.sizeOf t
decreasing_by
 have:=List.sizeOf_lt_of_mem (hr t (by simp))
 simp only [Tm.mk.sizeOf_spec]; omega
theorem Zij {t:Tm} (ht:t.Good):dep t ≤ 1000000:=by have:=(dep_sz t).2; have:=ht.sz; omega
def ZlR (n:Nat) (t:Tm) (H:Zf) (i:Nat):Zh :=
 ⟨[(9,.int .i64 i),(8,.int .i64 t.args.length),(7,.sl 4 (t.args.map Tm.enc) .any),(3,.int .i64 (dep.deps (t.args.take i) 0)),(1,.ptr n 1 0)],[(1,.box t.cs)],H⟩
theorem a105 (t:Tm) (ht:t.Good):Pure Tryz.prog 179 [t.enc] (.int .i64 (dep t)):=by
 intro n H
 have hd:=Zjn t
 have hg:=dep_sz t
 have hb:=Zij ht
 have hl:=ht.len
 refine Zm tok (Zb Tryz.func179 rfl rfl) (by simp) fun B=>?_
 refine Za tok rfl rfl ?_
 simp only [go_sem,simprocAttr]
 refine Za tok rfl rfl ?_
 simp only [go_sem,simprocAttr]
 refine Za tok rfl rfl ?_
 simp only [go_sem,simprocAttr]
 repeat refine kn rfl ?_
 refine Zy (ZlR n t H) t.args.length rfl ?_ ?_
 ·refine Zg ?_ ?_ ?_ ?_ <;> repeat' first|exact trivial|refine q0 ?_|exact qb|exact q1|exact q2|exact q3|exact rfl|refine And.intro ?_ ?_|exact qA rfl|exact Inside.ptr _ _ _ (.inr ⟨rfl,rfl⟩)|exact Tm.ins _|exact Tm.Zj _ _|exact Am.ins _|exact Am.Zj _ _|refine Zd ?_|refine Tm.Zc ?_|refine Am.Zc ?_
 intro i hi
 refine Yi rfl ?_
 rcases Nat.lt_or_ge i t.args.length with h | h
 ·refine Za tok rfl rfl ?_
  simp only [go_sem,simprocAttr,h]
  refine Zp rfl rfl rfl ?_
  refine Za tok rfl rfl ?_
  simp only [go_sem,simprocAttr,Tm.YI _ _ h,h]
  refine Za tok rfl rfl ?_
  simp only [go_sem,simprocAttr]
  refine Zq (Zb Tryz.func179 rfl rfl) (a105 t.args[i] (ht.arg (List.getElem_mem h))) rfl ?_
  simp only [go_sem,simprocAttr]
  refine Za tok rfl rfl ?_
  simp only [go_sem,simprocAttr]
  refine Zt rfl ?_
  refine Zg ?_ ?_ ?_ ?_ <;> repeat' first|exact trivial|refine q0 ?_|exact qb|exact q1|exact q2|exact q3|exact rfl|refine And.intro ?_ ?_|exact qA rfl|exact Inside.ptr _ _ _ (.inr ⟨rfl,rfl⟩)|exact Tm.ins _|exact Tm.Zj _ _|exact Am.ins _|exact Am.Zj _ _|refine Zd ?_|refine Tm.Zc ?_|refine Am.Zc ?_
  ·simp only [go_sem,simprocAttr]
   rw [IntWalk.i64_in _ (by omega)]; exact Wk.refl _
  ·simp only [go_sem,simprocAttr]
   rw [ZdZ _ _ _ h]; exact Wk.refl _
 ·refine Za tok rfl rfl ?_
  simp only [go_sem,simprocAttr,Nat.not_lt.2 h]
  refine Zn rfl rfl rfl ?_
  refine Yh rfl rfl rfl rfl ?_
  refine Za tok rfl rfl ?_
  simp only [go_sem,simprocAttr]
  refine Zi rfl rfl ?_
  have hi:i = t.args.length:=by omega
  subst hi
  refine Ze ?_ (.int _ _) rfl
  rw [hd]
  simp only [go_sem,simprocAttr,List.take_length]
  rw [IntWalk.i64_in _ (by omega)]
  exact Wk.refl _
termination_by SizeOf.sizeOf t
decreasing_by exact Tm.Vm (List.getElem_mem h)
def Jo (t:Tm):Bool:=decide (dep t ≤ 12) && t.all shape
theorem a72 (t:Tm) (ht:t.Good):ZR Tryz.prog 97 [t.enc] (.bool (Jo t)):=by
 intro n H hn hT
 refine Zm tok (Zb Tryz.func97 rfl rfl) (by simp) fun B=>?_
 refine Za tok rfl rfl ?_
 simp only [go_sem,simprocAttr]
 refine Za tok rfl rfl ?_
 simp only [go_sem,simprocAttr]
 refine Zq (Zb Tryz.func179 rfl rfl) (a105 t ht) rfl ?_
 simp only [go_sem,simprocAttr]
 cases h1:decide (dep t ≤ 12) with
 | false =>
  simp only [go_sem,simprocAttr]
  refine Zi rfl rfl ?_
  refine Ze ?_ (.bool _) rfl
  try simp only [go_sem,simprocAttr,Jo,h1]
  exact .refl _
 | true =>
  simp only [go_sem,simprocAttr]
  refine ZH (Zb Tryz.func96 rfl rfl) (a71 t ht _ shape pred106) hn hT rfl ?_
  simp only [go_sem,simprocAttr]
  refine Zi rfl rfl ?_
  refine Ze ?_ (.bool _) rfl
  try simp only [go_sem,simprocAttr,Jo,h1]
  exact .refl _
def ZW (t:Tm):Bool:=t.all plain && Jo t
theorem a37 (t:Tm) (ht:t.Good):ZR Tryz.prog 46 [t.enc] (.bool (ZW t)):=by
 intro n H hn hT
 refine Zm tok (Zb Tryz.func46 rfl rfl) (by simp) fun B=>?_
 refine Za tok rfl rfl ?_
 simp only [go_sem,simprocAttr]
 refine Za tok rfl rfl ?_
 simp only [go_sem,simprocAttr]
 refine Za tok rfl rfl ?_
 simp only [go_sem,simprocAttr]
 refine ZH (Zb Tryz.func96 rfl rfl) (a71 t ht _ plain pred70) hn hT rfl ?_
 simp only [go_sem,simprocAttr]
 cases h1:t.all plain with
 | false =>
  simp only [go_sem,simprocAttr]
  refine Zi rfl rfl ?_
  refine Ze ?_ (.bool _) rfl
  try simp only [go_sem,simprocAttr,ZW,h1]
  exact .refl _
 | true =>
  simp only [go_sem,simprocAttr]
  refine ZH (Zb Tryz.func97 rfl rfl) (a72 t ht) hn hT rfl ?_
  simp only [go_sem,simprocAttr]
  refine Zi rfl rfl ?_
  refine Ze ?_ (.bool _) rfl
  try simp only [go_sem,simprocAttr,ZW,h1]
  exact .refl _
end Go.Proofs.YthgbkalgmicniaaGreatDoor

/- The text of a value. -/
namespace Go.Proofs.YthgbkalgmicniaaGreatDoor
open Go.Abs
set_option maxRecDepth 100000
def txt:Tm → List UInt8
 | .mk k n s l=>if k = 1 then Lib.itoa n else if k = 4 then ((s ++ [40]) ++ Lib.join (ZaH l) [44]) ++ [41] else s
where ZaH:List Tm → List (List UInt8)
 | []=>[]
 | t :: r=>txt t :: ZaH r
theorem txts_eq:∀ l:List Tm,txt.ZaH l = l.map txt
 | []=>rfl
 | t :: r=>by rw [txt.ZaH,txts_eq r]; rfl
theorem Jm (t:Tm):txt t = if t.kind = 1 then Lib.itoa t.num else if t.kind = 4 then ((t.name ++ [40]) ++ Lib.join (t.args.map txt) [44]) ++ [41] else t.name:=by
 cases t; rw [txt,txts_eq]; rfl
def okv (t:Tm):Bool:=plain t && shape t
theorem Ze1 (p q:Tm → Bool):∀ t:Tm,t.all (fun u=>p u && q u) = (t.all p && t.all q)
 | .mk k n s l=>by
  have hl:∀ r:List Tm,(∀ u ∈ r,u ∈ l) → Tm.all.alls (fun u=>p u && q u) r = (Tm.all.alls p r && Tm.all.alls q r):=by
   intro r
   induction r with
   | nil=>intro _; rfl
   | cons t r ih =>
    intro hr
    have ht:=Ze1 p q t
    simp only [Tm.all.alls,ht,ih (fun u hu=>hr u (List.mem_cons_of_mem _ hu))]
    cases t.all p <;> cases t.all q <;> simp
  simp only [Tm.all,hl l (fun u h=>h)]
  cases p (.mk k n s l) <;> cases q (.mk k n s l) <;> simp
termination_by t=>SizeOf.sizeOf t
decreasing_by
 have:=List.sizeOf_lt_of_mem (hr t (by simp))
 simp only [Tm.mk.sizeOf_spec]; omega
theorem Zbc {p:Tm → Bool} {t:Tm} (h:t.all p = true):p t = true:=by
 rw [Tm.all_eq,Bool.and_eq_true] at h; exact h.1
theorem Zbu {p:Tm → Bool} {t u:Tm} (h:t.all p = true) (hu:u ∈ t.args):u.all p = true:=by
 rw [Tm.all_eq,Bool.and_eq_true,Tm.J9,List.all_eq_true] at h; exact h.2 u hu
theorem ZcE {s:List UInt8} (h:sym s = true):s.length ≤ 32:=by
 simp only [sym,wd,Bool.and_eq_true,decide_eq_true_eq] at h
 exact h.1.2.2
theorem Zb4 {t:Tm} (h:okv t = true):(t.kind = 1 ∧ -2147483647 ≤ t.num ∧ t.num ≤ 2147483647 ∧ t.name = [] ∧ t.args = []) ∨
  (t.kind = 2 ∧ t.num = 0 ∧ sym t.name = true ∧ t.args = []) ∨ (t.kind = 4 ∧ t.num = 0 ∧ sym t.name = true ∧ 1 ≤ t.args.length ∧ t.args.length ≤ 8):=by
 simp only [okv,plain,Bool.and_eq_true,Bool.or_eq_true,beq_iff_eq] at h
 obtain ⟨(h1 | h1) | h1,h2⟩:=h
 ·refine .inl ⟨h1,?_⟩
  simp [shape,h1,nargs] at h2
  exact ⟨h2.1.1.1,h2.1.1.2,h2.1.2,h2.2⟩
 ·refine .inr (.inl ⟨h1,?_⟩)
  simp [shape,h1,nargs,named] at h2
  exact ⟨h2.1.1.1,h2.1.2,h2.2⟩
 ·refine .inr (.inr ⟨h1,?_⟩)
  simp [shape,h1,nargs,named] at h2
  refine ⟨h2.1.1.1,h2.1.2,?_,?_⟩ <;> omega
theorem txt_len:∀ t:Tm,t.all okv = true → (txt t).length ≤ 60 * t.sz
 | .mk k n s l=>fun h=>by
  have hl:∀ r:List Tm,(∀ u ∈ r,u ∈ l) → Lib.lens (r.map txt) ≤ 60 * Tm.sz.szs r:=by
   intro r
   induction r with
   | nil=>intro _; simp [Lib.lens]
   | cons t r ih =>
    intro hr
    have:=txt_len t (Zbu (t:=.mk k n s l) h (hr t (by simp)))
    have:=ih (fun u hu=>hr u (List.mem_cons_of_mem _ hu))
    simp only [List.map_cons,Lib.lens,Tm.sz.szs,List.sum_cons] at *
    omega
  rw [Jm]
  rcases Zb4 (Zbc h) with ⟨h1,h2,h3,h4,h5⟩ | ⟨h1,h2,h3,h4⟩ | ⟨h1,h2,h3,h4,h5⟩
  ·rw [if_pos h1]
   have:=Lib.itoa_length_le (Tm.mk k n s l).num (by omega) (by omega)
   have:=(Tm.mk k n s l).Vk
   omega
  ·rw [if_neg (by omega),if_neg (by omega)]
   have:=ZcE h3
   have:=(Tm.mk k n s l).Vk
   omega
  ·rw [if_neg (by omega),if_pos h1]
   have h6:=ZcE h3
   have h7:=hl l (fun u h=>h)
   have h8:(Tm.mk k n s l).args = l:=rfl
   have h9:(Tm.mk k n s l).name = s:=rfl
   rw [h8] at h4 h5 ⊢
   rw [h9] at h6 ⊢
   simp only [List.length_append,List.length_cons,List.length_nil,Tm.sz]
   cases hc:l with
   | nil=>rw [hc] at h4; simp at h4
   | cons x r =>
    rw [hc] at h7 h5
    rw [List.map_cons,Lib.join_length]
    simp only [List.map_cons,List.length_cons,List.length_nil,List.length_map] at *
    omega
termination_by t=>SizeOf.sizeOf t
decreasing_by
 have:=List.sizeOf_lt_of_mem (hr t (by simp))
 simp only [Tm.mk.sizeOf_spec]; omega
def Zne (t:Tm) (n:Nat) (H:Zf) (i:Nat):Zh :=
 ⟨[(21,.int .i64 i),(20,.int .i64 t.args.length),(19,.sl 4 (t.args.map Tm.enc) .any),(3,.sl 1 (((t.args.take i).map txt).map .str) (.buf n 200)),(1,.ptr n 1 0)],[(1,.box t.cs),(200,.buf 9 1 i)],H⟩
theorem a94 (t:Tm) (ht:t.Good) (hv:t.all okv = true):ZR Tryz.prog 192 [t.enc] (.str (txt t)):=by
 intro n H hn hT
 have hs:=ht.name
 have hlen:=ht.len
 refine Zm tok (Zb Tryz.func192 rfl rfl) (by simp) fun B=>?_
 refine Za tok rfl rfl ?_
 simp only [go_sem,simprocAttr]
 refine Za tok rfl rfl ?_
 simp only [go_sem,simprocAttr]
 repeat refine kn rfl ?_
 rcases Zb4 (Zbc hv) with ⟨h1,h2,h3,h4,h5⟩ | ⟨h1,h2,h3,h4⟩ | ⟨h1,h2,h3,h4,h5⟩
 ·have e1:(t.kind == 1) = true:=by simp [h1]
  refine Za tok rfl rfl ?_
  simp only [go_sem,simprocAttr,e1]
  refine Zp rfl rfl rfl ?_
  refine Za tok rfl rfl ?_
  simp only [go_sem,simprocAttr]
  refine ZH (Zb Tryz.func214 rfl rfl) (Zi1 t.num (by omega) (by omega)) hn hT rfl ?_
  simp only [go_sem,simprocAttr]
  refine Zi rfl rfl ?_
  refine Ze ?_ (.str _) rfl
  rw [Jm,if_pos h1]
  exact .refl _
 ·have e1:(t.kind == 1) = false:=by simp [h1]
  have e4:(t.kind == 4) = false:=by simp [h1]
  have e6:(t.kind == 6) = false:=by simp [h1]
  have e5:(t.kind == 5) = false:=by simp [h1]
  refine Za tok rfl rfl ?_
  simp only [go_sem,simprocAttr,e1]
  refine Zn rfl rfl rfl ?_
  refine Za tok rfl rfl ?_
  simp only [go_sem,simprocAttr,e4]
  refine Zn rfl rfl rfl ?_
  refine Za tok rfl rfl ?_
  simp only [go_sem,simprocAttr,e6]
  refine Zn rfl rfl rfl ?_
  refine Za tok rfl rfl ?_
  simp only [go_sem,simprocAttr,e5]
  refine Zn rfl rfl rfl ?_
  repeat refine kn rfl ?_
  refine Za tok rfl rfl ?_
  simp only [go_sem,simprocAttr]
  refine Zi rfl rfl ?_
  refine Ze ?_ (.str _) rfl
  rw [Jm,if_neg (by omega),if_neg (by omega)]
  exact .refl _
 ·have e1:(t.kind == 1) = false:=by simp [h1]
  have e4:(t.kind == 4) = true:=by simp [h1]
  refine Za tok rfl rfl ?_
  simp only [go_sem,simprocAttr,e1]
  refine Zn rfl rfl rfl ?_
  refine Za tok rfl rfl ?_
  simp only [go_sem,simprocAttr,e4]
  refine Zp rfl rfl rfl ?_
  refine Za tok rfl rfl ?_
  simp only [go_sem,simprocAttr]
  refine Za tok rfl rfl ?_
  simp only [go_sem,simprocAttr]
  repeat refine kn rfl ?_
  refine WS 3 200 9 1 rfl rfl ?_
  refine Zy (Zne t n H) t.args.length rfl ?_ ?_
  ·refine Zg ?_ ?_ ?_ ?_ <;> repeat' first|exact trivial|refine q0 ?_|exact qb|exact q1|exact q2|exact q3|exact rfl|refine And.intro ?_ ?_|exact qA rfl|exact Inside.ptr _ _ _ (.inr ⟨rfl,rfl⟩)|exact Tm.ins _|exact Tm.Zj _ _|exact Am.ins _|exact Am.Zj _ _|refine Zd ?_|refine Tm.Zc ?_|refine Am.Zc ?_
  intro i hi
  refine Yi rfl ?_
  rcases Nat.lt_or_ge i t.args.length with h | h
  ·refine Za tok rfl rfl ?_
   simp only [go_sem,simprocAttr,h]
   refine Zp rfl rfl rfl ?_
   refine Za tok rfl rfl ?_
   simp only [go_sem,simprocAttr,Tm.YI _ _ h,h]
   refine Za tok rfl rfl ?_
   simp only [go_sem,simprocAttr]
   have hmin:(t.args.take i).length = i:=List.length_take_of_le (by omega)
   refine ZH (Zb Tryz.func192 rfl rfl) (a94 t.args[i] (ht.arg (List.getElem_mem h)) (Zbu hv (List.getElem_mem h))) hn hT (by simp only [go_sem,simprocAttr,hmin]) ?_
   simp only [go_sem,simprocAttr,hmin]
   refine ⟨by first | exact ⟨rfl,by decide⟩ | exact rfl,⟨ZQ (by omega),by omega⟩,?_⟩
   refine Za tok rfl rfl ?_
   simp only [go_sem,simprocAttr]
   refine Zt rfl ?_
   refine Zg ?_ ?_ ?_ ?_ <;> repeat' first|exact trivial|refine q0 ?_|exact qb|exact q1|exact q2|exact q3|exact rfl|refine And.intro ?_ ?_|exact qA rfl|exact Inside.ptr _ _ _ (.inr ⟨rfl,rfl⟩)|exact Tm.ins _|exact Tm.Zj _ _|exact Am.ins _|exact Am.Zj _ _|refine Zd ?_|refine Tm.Zc ?_|refine Am.Zc ?_
   ·simp only [go_sem,simprocAttr]
    rw [IntWalk.i64_in _ (by omega)]; exact .refl _
   ·simp only [go_sem,simprocAttr,List.take_succ_eq_append_getElem h,List.map_append]
    exact .refl _
  ·refine Za tok rfl rfl ?_
   simp only [go_sem,simprocAttr,Nat.not_lt.2 h]
   refine Zn rfl rfl rfl ?_
   refine Yh rfl rfl rfl rfl ?_
   have hi':i = t.args.length:=by omega
   subst hi'
   have hl:=txt_len t hv
   rw [Jm,if_neg (by omega),if_pos h1] at hl
   simp only [List.length_append,List.length_cons,List.length_nil] at hl
   have hsz:=ht.sz
   repeat refine kn rfl ?_
   refine YX tok mixed drawO rfl rfl rfl ?_
   simp only [go_sem,simprocAttr,List.take_length]
   refine ⟨by omega,?_⟩
   refine ZH (Zb Tryz.func107 rfl rfl) (a92 (t.args.map txt) [44] (.buf n 200) (by simp; omega) (by omega)) hn hT rfl ?_
   simp only [go_sem,simprocAttr]
   refine ⟨by simp only [List.length_append,List.length_cons,List.length_nil]; omega,by simp only [List.length_append,List.length_cons,List.length_nil]; omega,?_⟩
   refine Zi rfl rfl ?_
   refine Ze ?_ (.str _) rfl
   rw [Jm,if_neg (by omega),if_pos h1]
   exact .refl _
termination_by SizeOf.sizeOf t
decreasing_by exact Tm.Vm (List.getElem_mem h)
end Go.Proofs.YthgbkalgmicniaaGreatDoor
