/- Texts, validity of atoms. -/
import Derived.Test.YthgbkalgmicniaaGreatDoorM10
import Derived.Test.YthgbkalgmicniaaGreatDoorM09
import Derived.Test.YthgbkalgmicniaaGreatDoorM08
set_option linter.all false
namespace Go.Proofs.YthgbkalgmicniaaGreatDoor
open Go.Abs
set_option maxRecDepth 100000
theorem Zb5 {t:Tm} (h:ZW t = true):t.all okv = true:=by
 simp only [ZW,Jo,Bool.and_eq_true] at h
 have:=Ze1 plain shape t
 rw [h.1,h.2.2] at this
 exact this
theorem a58 (t:Tm) (ht:t.Good) (hv:ZW t = true):ZR Tryz.prog 109 [t.enc] (.str (txt t)):=by
 intro n H hn hT
 have h1:Jo t = true:=by simp only [ZW,Bool.and_eq_true] at hv; exact hv.2
 refine Zm tok (Zb Tryz.func109 rfl rfl) (by simp) fun B=>?_
 refine Za tok rfl rfl ?_
 simp only [go_sem,simprocAttr]
 refine Za tok rfl rfl ?_
 simp only [go_sem,simprocAttr]
 refine ZH (Zb Tryz.func97 rfl rfl) (a72 t ht) hn hT (by simp only [go_sem,simprocAttr,h1]) ?_
 simp only [go_sem,simprocAttr,h1]
 refine Zn rfl rfl rfl ?_
 refine Za tok rfl rfl ?_
 simp only [go_sem,simprocAttr]
 refine ZH (Zb Tryz.func192 rfl rfl) (a94 t ht (Zb5 hv)) hn hT rfl ?_
 simp only [go_sem,simprocAttr]
 refine Zi rfl rfl ?_
 refine Ze ?_ (.str _) rfl
 try simp only [go_sem,simprocAttr]
 exact .refl _
theorem a44 (t:Tm) (ht:t.Good):ZR Tryz.prog 98 [t.enc] (.bool (!ZW t)):=by
 intro n H hn hT
 refine Zm tok (Zb Tryz.func98 rfl rfl) (by simp) fun B=>?_
 refine Za tok rfl rfl ?_
 simp only [go_sem,simprocAttr]
 refine Za tok rfl rfl ?_
 simp only [go_sem,simprocAttr]
 refine ZH (Zb Tryz.func46 rfl rfl) (a37 t ht) hn hT rfl ?_
 simp only [go_sem,simprocAttr]
 refine Zi rfl rfl ?_
 refine Ze ?_ (.bool _) rfl
 try simp only [go_sem,simprocAttr]
 exact .refl _
def ZaG {α:Type} (p:α → Bool) (l:List α):Int:=if l.any p then ((l.findIdx p:Nat):Int) else -1
theorem V3 {α:Type} (p:α → Bool) (l:List α):decide (0 ≤ ZaG p l) = l.any p:=by
 unfold ZaG; split
 ·rename_i h; rw [h]; simp
 ·rename_i h; simp only [Bool.not_eq_true] at h; rw [h]; rfl
theorem Vp {α:Type} {p:α → Bool} {l:List α} {i:Nat} (h:i < l.length) (hp:p l[i] = true) (hq:∀ j (h:j < l.length),j < i → p l[j] = false):ZaG p l = i:=by
 have h1:l.any p = true:=List.any_eq_true.2 ⟨_,List.getElem_mem h,hp⟩
 unfold ZaG
 rw [if_pos h1]
 congr 1
 rw [List.findIdx_eq h]
 exact ⟨hp,fun j hj=>by rw [hq j (by omega) hj]⟩
theorem XV {α:Type} {p:α → Bool} {l:List α} (hq:∀ j (h:j < l.length),p l[j] = false):ZaG p l = -1:=by
 unfold ZaG
 rw [if_neg]
 rw [List.any_eq_true]
 rintro ⟨x,hx,hp⟩
 obtain ⟨j,hj,rfl⟩:=List.getElem_of_mem hx
 rw [hq j hj] at hp; cases hp
structure WY {α:Type} (f:Nat) (caps:List AV) (enc:α → AV) (l:List α) (p:α → Bool):Prop where
 fn:∃ fn c,Fun Tryz.prog f fn c
 on:∀ x ∈ l,ZR Tryz.prog f (enc x :: caps) (.bool (p x))
 below:∀ n,Yj (fun c=>Below n c) caps
def Znn (l:List Tm) (f:Nat) (caps:List AV) (H:Zf) (i:Nat):Zh :=
 ⟨[(8,.int .i64 i),(7,.int .i64 l.length),(1,.fn (.func f) caps),(0,.sl 4 (l.map Tm.enc) .any)],[],H⟩
theorem a80 (l:List Tm) (hl:l.length ≤ 1000000) (f:Nat) (caps:List AV) (p:Tm → Bool) (hp:WY f caps Tm.enc l p):ZR Tryz.prog 100 [.sl 4 (l.map Tm.enc) .any,.fn (.func f) caps] (.int .i64 (ZaG p l)):=by
 intro n H hn hT
 obtain ⟨⟨fn,c,hf⟩,hp,hbl⟩:=hp
 have hfi:∀ q,Inside n q (.fn (.func f) caps):=fun q=>(Below.fn _ _ fun i hi=>(hbl n).mem _ (List.getElem_mem hi)).inside
 refine Zm tok (Zb Tryz.func100 rfl rfl) (by simp) fun B=>?_
 refine Za tok rfl rfl ?_
 simp only [go_sem,simprocAttr]
 refine Za tok rfl rfl ?_
 simp only [go_sem,simprocAttr]
 repeat refine kn rfl ?_
 refine Ye (Znn l f caps H) (fun i=>∀ j (h:j < l.length),j < i → p l[j] = false) l.length rfl ?_ (fun j _ h=>absurd h (Nat.not_lt_zero _)) ?_
 ·refine Zg ?_ ?_ ?_ ?_ <;> repeat' first|exact trivial|refine q0 ?_|exact qb|exact q1|exact q2|exact q3|exact rfl|refine And.intro ?_ ?_|exact qA rfl|exact Inside.ptr _ _ _ (.inr ⟨rfl,rfl⟩)|exact Tm.ins _|exact Tm.Zj _ _|exact Am.ins _|exact Am.Zj _ _|refine Zd ?_|refine Tm.Zc ?_|refine Am.Zc ?_
  exact hfi _
 intro i hi hq
 refine Yi rfl ?_
 rcases Nat.lt_or_ge i l.length with h | h
 ·refine Za tok rfl rfl ?_
  simp only [go_sem,simprocAttr,h]
  refine Zp rfl rfl rfl ?_
  refine Za tok rfl rfl ?_
  simp only [go_sem,simprocAttr]
  refine Za tok rfl rfl ?_
  simp only [go_sem,simprocAttr,Tm.YI _ _ h,h]
  refine XM (avs:=[l[i].enc]) rfl hf (hp l[i] (List.getElem_mem h) _ _ (Nat.succ_pos _) (hT.full hn)) rfl ?_
  cases h1:p l[i] with
  | true =>
   simp only [go_sem,simprocAttr]
   refine Zp rfl rfl rfl ?_
   refine Za tok rfl rfl ?_
   simp only [go_sem,simprocAttr]
   refine XO rfl rfl ?_
   refine Ze ?_ (.int _ _) rfl
   rw [Vp h h1 hq]
   exact .refl _
  | false =>
   simp only [go_sem,simprocAttr]
   refine Zn rfl rfl rfl ?_
   refine Za tok rfl rfl ?_
   simp only [go_sem,simprocAttr]
   refine Zt rfl ?_
   refine ⟨fun j hj hji=>?_,?_⟩
   ·rcases Nat.lt_or_ge j i with h' | h'
    ·exact hq j hj h'
    ·have:j = i:=by omega
     subst this; exact h1
   ·refine Zg ?_ ?_ ?_ ?_ <;> repeat' first|exact trivial|refine q0 ?_|exact qb|exact q1|exact q2|exact q3|exact rfl|refine And.intro ?_ ?_|exact qA rfl|exact Inside.ptr _ _ _ (.inr ⟨rfl,rfl⟩)|exact Tm.ins _|exact Tm.Zj _ _|exact Am.ins _|exact Am.Zj _ _|refine Zd ?_|refine Tm.Zc ?_|refine Am.Zc ?_
    ·simp only [go_sem,simprocAttr]
     rw [IntWalk.i64_in _ (by omega)]; exact .refl _
    ·exact hfi _
 ·refine Za tok rfl rfl ?_
  simp only [go_sem,simprocAttr,Nat.not_lt.2 h]
  refine Zn rfl rfl rfl ?_
  refine Yh rfl rfl rfl rfl ?_
  refine Za tok rfl rfl ?_
  simp only [go_sem,simprocAttr]
  refine Zi rfl rfl ?_
  refine Ze ?_ (.int _ _) rfl
  rw [XV (fun j hj=>hq j hj (by omega))]
  exact .refl _
theorem a46 (l:List Tm) (hl:l.length ≤ 1000000) (f:Nat) (caps:List AV) (p:Tm → Bool) (hp:WY f caps Tm.enc l p):ZR Tryz.prog 51 [.sl 4 (l.map Tm.enc) .any,.fn (.func f) caps] (.bool (l.any p)):=by
 intro n H hn hT
 refine Zm tok (Zb Tryz.func51 rfl rfl) (by simp) fun B=>?_
 refine Za tok rfl rfl ?_
 simp only [go_sem,simprocAttr]
 refine Za tok rfl rfl ?_
 simp only [go_sem,simprocAttr]
 refine ZH (Zb Tryz.func100 rfl rfl) (a80 l hl f caps p hp) hn hT rfl ?_
 simp only [go_sem,simprocAttr]
 refine Zi rfl rfl ?_
 refine Ze ?_ (.bool _) rfl
 simp only [go_sem,simprocAttr,V3]
 exact .refl _
def Yt (a:Am):Bool:=sym a.pred && decide ((a.args.length:Int) ≤ 8) && a.args.all ZW
theorem a14 (a:Am) (ha:a.Good):ZR Tryz.prog 48 [a.enc] (.bool (Yt a)):=by
 intro n H hn hT
 have hs:=ha.pred
 refine Zm tok (Zb Tryz.func48 rfl rfl) (by simp) fun B=>?_
 refine Za tok rfl rfl ?_
 simp only [go_sem,simprocAttr]
 refine Za tok rfl rfl ?_
 simp only [go_sem,simprocAttr]
 refine Za tok rfl rfl ?_
 simp only [go_sem,simprocAttr]
 refine Zq (Zb Tryz.func99 rfl rfl) (a45 a.pred (by omega)) rfl ?_
 simp only [go_sem,simprocAttr]
 cases h1:sym a.pred with
 | false =>
  simp only [go_sem,simprocAttr]
  refine Zi rfl rfl ?_
  refine Ze ?_ (.bool _) rfl
  try simp only [go_sem,simprocAttr,Yt,h1]
  exact .refl _
 | true =>
  cases h2:decide ((a.args.length:Int) ≤ 8) with
  | false =>
   simp only [go_sem,simprocAttr,h2]
   refine Zi rfl rfl ?_
   refine Ze ?_ (.bool _) rfl
   try simp only [go_sem,simprocAttr,Yt,h1,h2]
   exact .refl _
  | true =>
   simp only [go_sem,simprocAttr,h2]
   refine ZH (Zb Tryz.func51 rfl rfl) (a46 a.args ha.len _ [] (fun t=>!ZW t) ⟨⟨_,_,Zb Tryz.func98 rfl rfl⟩,fun t ht=>a44 t (ha.arg ht),fun _=>trivial⟩) hn hT rfl ?_
   simp only [go_sem,simprocAttr]
   refine Zi rfl rfl ?_
   refine Ze ?_ (.bool _) rfl
   simp only [go_sem,simprocAttr,Yt,h1,h2,List.not_any_eq_all_not,Bool.not_not]
   exact .refl _
end Go.Proofs.YthgbkalgmicniaaGreatDoor

/- each. -/
namespace Go.Proofs.YthgbkalgmicniaaGreatDoor
open Go.Abs
set_option maxRecDepth 100000
structure Zk4 {α β:Type} (f:Nat) (caps:List AV) (ea:α → AV) (eb:β → AV) (l:List α) (g:α → β):Prop where
 fn:∃ fn c,Fun Tryz.prog f fn c
 on:∀ x ∈ l,ZR Tryz.prog f (ea x :: caps) (eb (g x))
 below:∀ n,Yj (fun c=>Below n c) caps
theorem getD_map {α:Type} (f:α → AV) (l:List α) (i:Nat) (h:i < l.length) (d:AV):(l.map f).getD i d = f l[i]:=by
 rw [List.getD_eq_getElem?_getD,List.getElem?_map,List.getElem?_eq_getElem h]; rfl
abbrev Str:=List UInt8
abbrev eStr (s:Str):AV:=.str s
abbrev eInt (i:Int):AV:=.int .i64 i
theorem WO {n k:Nat} (l:List Int):Below n (.sl k (l.map eInt) .any):=ZK fun x hx=>by obtain ⟨u,_,rfl⟩:=List.mem_map.1 hx; exact .int _ _
theorem Ja {n k:Nat} {p:Nat → Prop} (l:List Int):Inside n p (.sl k (l.map eInt) .any):=(WO l).inside
end Go.Proofs.YthgbkalgmicniaaGreatDoor

/- The package's each: a function that is applied to all elements of a slice, and may turn the heap. -/
namespace Go.Proofs.YthgbkalgmicniaaGreatDoor
open Go.Abs
set_option maxRecDepth 100000
theorem Xc {n k j:Nat} {p:Nat → Prop} {l:List Int} (h:p j):Inside n p (.sl k (l.map eInt) (.buf n j)):=Zc (fun x hx=>by obtain ⟨u,_,rfl⟩:=List.mem_map.1 hx; exact .int _ _) h
def Zmp (l:List (Tm)) (f:Nat) (caps:List AV) (ys:List (Str)) (n:Nat) (S:Nat → Zf) (i:Nat):Zh :=
 ⟨[(10,.int .i64 i),(9,.int .i64 l.length),(8,.sl 4 (l.map Tm.enc) .any),(5,.sl 1 ((ys.take i).map eStr) (.buf n 200)),(1,.fn (.func f) caps)],[(200,.buf 9 1 i)],S i⟩
theorem e108 (n:Nat) (l:List (Tm)) (hl:l.length ≤ 1000000) (f:Nat) (caps:List AV) (fn:Func) (c:Code) (hf:Fun Tryz.prog f fn c) (ys:List (Str)) (hy:ys.length = l.length) (S:Nat → Zf)
  (hbl:Below n (.fn (.func f) caps)) (hbx:Below n (.sl 4 (l.map Tm.enc) .any))
  (hc:∀ i (h:i < l.length) L,Zr Tryz.prog (n + 1) f (Tm.enc l[i] :: caps) (full n L (S i)) fun r H1=>r = eStr (ys[i]'(by omega)) ∧ H1 = full n L (S (i + 1))) (hout:∀ i,i < l.length → Z5 n (S i) (S (i + 1))) :
  Zr Tryz.prog n 108 [.sl 4 (l.map Tm.enc) .any,.fn (.func f) caps] (S 0) fun r H'=>r = .sl 1 (ys.map eStr) .any ∧ H' = S l.length:=by
 have hfi:∀ q,Inside n q (.fn (.func f) caps):=fun q=>hbl.inside
 have hxi:∀ q,Inside n q (.sl 4 (l.map Tm.enc) .any):=fun q=>hbx.inside
 refine Zm tok (Zb Tryz.func108 rfl rfl) (by simp) fun B=>?_
 refine Za tok rfl rfl ?_
 simp only [go_sem,simprocAttr]
 refine Za tok rfl rfl ?_
 simp only [go_sem,simprocAttr]
 refine Za tok rfl rfl ?_
 simp only [go_sem,simprocAttr]
 repeat refine kn rfl ?_
 refine WS 5 200 9 1 rfl rfl ?_
 refine Zy (Zmp l f caps ys n S) l.length rfl ?_ ?_
 ·refine Zg ?_ ?_ ?_ ?_ <;> repeat' first|exact trivial|refine q0 ?_|exact qb|exact q1|exact q2|exact q3|exact rfl|refine And.intro ?_ ?_|exact qA rfl|exact Inside.ptr _ _ _ (.inr ⟨rfl,rfl⟩)|exact Tm.ins _|exact Tm.Zj _ _|exact Am.ins _|exact Am.Zj _ _|refine Zd ?_|refine Tm.Zc ?_|refine Am.Zc ?_
  all_goals first | exact hfi _ | exact hxi _ | exact Xc rfl
 intro i hi
 refine Yi rfl ?_
 rcases Nat.lt_or_ge i l.length with h | h
 ·have hmin:(ys.take i).length = i:=List.length_take_of_le (by omega)
  refine Za tok rfl rfl ?_
  simp only [go_sem,simprocAttr,h]
  refine Zp rfl rfl rfl ?_
  refine Za tok rfl rfl ?_
  simp only [go_sem,simprocAttr,getD_map Tm.enc _ _ h,h]
  refine Za tok rfl rfl ?_
  simp only [go_sem,simprocAttr]
  refine Xk (caps:=caps) (avs:=[Tm.enc l[i]]) rfl hf (hc i h _) (by simp only [go_sem,simprocAttr]) ?_
  rintro r H1 ⟨rfl,rfl⟩
  refine ⟨_,S (i + 1),rfl,hout i h,?_⟩
  simp only [go_sem,simprocAttr,hmin]
  refine ⟨by first | exact ⟨rfl,by decide⟩ | exact rfl,⟨ZQ (by omega),by omega⟩,?_⟩
  refine Za tok rfl rfl ?_
  simp only [go_sem,simprocAttr]
  refine Zt rfl ?_
  refine Zg ?_ ?_ ?_ ?_ <;> repeat' first|exact trivial|refine q0 ?_|exact qb|exact q1|exact q2|exact q3|exact rfl|refine And.intro ?_ ?_|exact qA rfl|exact Inside.ptr _ _ _ (.inr ⟨rfl,rfl⟩)|exact Tm.ins _|exact Tm.Zj _ _|exact Am.ins _|exact Am.Zj _ _|refine Zd ?_|refine Tm.Zc ?_|refine Am.Zc ?_
  ·simp only [go_sem,simprocAttr]
   rw [IntWalk.i64_in _ (by omega)]; exact .refl _
  ·simp only [go_sem,simprocAttr,List.take_succ_eq_append_getElem (show i < ys.length by omega),List.map_append]
   exact .refl _
  all_goals first | exact hfi _ | exact hxi _ | exact Ja _ | exact Xc rfl
 ·refine Za tok rfl rfl ?_
  simp only [go_sem,simprocAttr,Nat.not_lt.2 h]
  refine Zn rfl rfl rfl ?_
  refine Yh rfl rfl rfl rfl ?_
  have hi':i = l.length:=by omega
  subst hi'
  have ht:ys.take l.length = ys:=List.take_of_length_le (by omega)
  refine Za tok rfl rfl ?_
  simp only [go_sem,simprocAttr,ht]
  refine Zi rfl rfl ?_
  refine ZP ?_ (Xh _) ⟨rfl,rfl⟩
  simp only [go_sem,simprocAttr]
  exact .any _ _ _
def Zl7 (l:List (GL)) (f:Nat) (caps:List AV) (ys:List (Am)) (n:Nat) (S:Nat → Zf) (i:Nat):Zh :=
 ⟨[(10,.int .i64 i),(9,.int .i64 l.length),(8,.sl 3 (l.map GL.enc) .any),(5,.sl 2 ((ys.take i).map Am.enc) (.buf n 200)),(1,.fn (.func f) caps)],[(200,.buf 33 2 i)],S i⟩
theorem Znw (n:Nat) (l:List (GL)) (hl:l.length ≤ 1000000) (f:Nat) (caps:List AV) (fn:Func) (c:Code) (hf:Fun Tryz.prog f fn c) (ys:List (Am)) (hy:ys.length = l.length) (S:Nat → Zf)
  (hbl:Below n (.fn (.func f) caps)) (hbx:Below n (.sl 3 (l.map GL.enc) .any))
  (hc:∀ i (h:i < l.length) L,Zr Tryz.prog (n + 1) f (GL.enc l[i] :: caps) (full n L (S i)) fun r H1=>r = Am.enc (ys[i]'(by omega)) ∧ H1 = full n L (S (i + 1))) (hout:∀ i,i < l.length → Z5 n (S i) (S (i + 1))) :
  Zr Tryz.prog n 114 [.sl 3 (l.map GL.enc) .any,.fn (.func f) caps] (S 0) fun r H'=>r = .sl 2 (ys.map Am.enc) .any ∧ H' = S l.length:=by
 have hfi:∀ q,Inside n q (.fn (.func f) caps):=fun q=>hbl.inside
 have hxi:∀ q,Inside n q (.sl 3 (l.map GL.enc) .any):=fun q=>hbx.inside
 refine Zm tok (Zb Tryz.func114 rfl rfl) (by simp) fun B=>?_
 refine Za tok rfl rfl ?_
 simp only [go_sem,simprocAttr]
 refine Za tok rfl rfl ?_
 simp only [go_sem,simprocAttr]
 refine Za tok rfl rfl ?_
 simp only [go_sem,simprocAttr]
 repeat refine kn rfl ?_
 refine WS 5 200 33 2 rfl rfl ?_
 refine Zy (Zl7 l f caps ys n S) l.length rfl ?_ ?_
 ·refine Zg ?_ ?_ ?_ ?_ <;> repeat' first|exact trivial|refine q0 ?_|exact qb|exact q1|exact q2|exact q3|exact rfl|refine And.intro ?_ ?_|exact qA rfl|exact Inside.ptr _ _ _ (.inr ⟨rfl,rfl⟩)|exact Tm.ins _|exact Tm.Zj _ _|exact Am.ins _|exact Am.Zj _ _|refine Zd ?_|refine Tm.Zc ?_|refine Am.Zc ?_
  all_goals first | exact hfi _ | exact hxi _ | exact Xc rfl
 intro i hi
 refine Yi rfl ?_
 rcases Nat.lt_or_ge i l.length with h | h
 ·have hmin:(ys.take i).length = i:=List.length_take_of_le (by omega)
  refine Za tok rfl rfl ?_
  simp only [go_sem,simprocAttr,h]
  refine Zp rfl rfl rfl ?_
  refine Za tok rfl rfl ?_
  simp only [go_sem,simprocAttr,getD_map GL.enc _ _ h,h]
  refine Za tok rfl rfl ?_
  simp only [go_sem,simprocAttr]
  refine Xk (caps:=caps) (avs:=[GL.enc l[i]]) rfl hf (hc i h _) (by simp only [go_sem,simprocAttr]) ?_
  rintro r H1 ⟨rfl,rfl⟩
  refine ⟨_,S (i + 1),rfl,hout i h,?_⟩
  simp only [go_sem,simprocAttr,hmin]
  refine ⟨by first | exact ⟨rfl,by decide⟩ | exact rfl,⟨ZQ (by omega),by omega⟩,?_⟩
  refine Za tok rfl rfl ?_
  simp only [go_sem,simprocAttr]
  refine Zt rfl ?_
  refine Zg ?_ ?_ ?_ ?_ <;> repeat' first|exact trivial|refine q0 ?_|exact qb|exact q1|exact q2|exact q3|exact rfl|refine And.intro ?_ ?_|exact qA rfl|exact Inside.ptr _ _ _ (.inr ⟨rfl,rfl⟩)|exact Tm.ins _|exact Tm.Zj _ _|exact Am.ins _|exact Am.Zj _ _|refine Zd ?_|refine Tm.Zc ?_|refine Am.Zc ?_
  ·simp only [go_sem,simprocAttr]
   rw [IntWalk.i64_in _ (by omega)]; exact .refl _
  ·simp only [go_sem,simprocAttr,List.take_succ_eq_append_getElem (show i < ys.length by omega),List.map_append]
   exact .refl _
  all_goals first | exact hfi _ | exact hxi _ | exact Ja _ | exact Xc rfl
 ·refine Za tok rfl rfl ?_
  simp only [go_sem,simprocAttr,Nat.not_lt.2 h]
  refine Zn rfl rfl rfl ?_
  refine Yh rfl rfl rfl rfl ?_
  have hi':i = l.length:=by omega
  subst hi'
  have ht:ys.take l.length = ys:=List.take_of_length_le (by omega)
  refine Za tok rfl rfl ?_
  simp only [go_sem,simprocAttr,ht]
  refine Zi rfl rfl ?_
  refine ZP ?_ (ZO _) ⟨rfl,rfl⟩
  simp only [go_sem,simprocAttr]
  exact .any _ _ _
def Zl0 (l:List (Int)) (f:Nat) (caps:List AV) (ys:List (Int)) (n:Nat) (S:Nat → Zf) (i:Nat):Zh :=
 ⟨[(10,.int .i64 i),(9,.int .i64 l.length),(8,.sl 1 (l.map eInt) .any),(5,.sl 1 ((ys.take i).map eInt) (.buf n 200)),(1,.fn (.func f) caps)],[(200,.buf 3 1 i)],S i⟩
theorem Zn0 (n:Nat) (l:List (Int)) (hl:l.length ≤ 1000000) (f:Nat) (caps:List AV) (fn:Func) (c:Code) (hf:Fun Tryz.prog f fn c) (ys:List (Int)) (hy:ys.length = l.length) (S:Nat → Zf)
  (hbl:Below n (.fn (.func f) caps)) (hbx:Below n (.sl 1 (l.map eInt) .any))
  (hc:∀ i (h:i < l.length) L,Zr Tryz.prog (n + 1) f (eInt l[i] :: caps) (full n L (S i)) fun r H1=>r = eInt (ys[i]'(by omega)) ∧ H1 = full n L (S (i + 1))) (hout:∀ i,i < l.length → Z5 n (S i) (S (i + 1))) :
  Zr Tryz.prog n 225 [.sl 1 (l.map eInt) .any,.fn (.func f) caps] (S 0) fun r H'=>r = .sl 1 (ys.map eInt) .any ∧ H' = S l.length:=by
 have hfi:∀ q,Inside n q (.fn (.func f) caps):=fun q=>hbl.inside
 have hxi:∀ q,Inside n q (.sl 1 (l.map eInt) .any):=fun q=>hbx.inside
 refine Zm tok (Zb Tryz.func225 rfl rfl) (by simp) fun B=>?_
 refine Za tok rfl rfl ?_
 simp only [go_sem,simprocAttr]
 refine Za tok rfl rfl ?_
 simp only [go_sem,simprocAttr]
 refine Za tok rfl rfl ?_
 simp only [go_sem,simprocAttr]
 repeat refine kn rfl ?_
 refine WS 5 200 3 1 rfl rfl ?_
 refine Zy (Zl0 l f caps ys n S) l.length rfl ?_ ?_
 ·refine Zg ?_ ?_ ?_ ?_ <;> repeat' first|exact trivial|refine q0 ?_|exact qb|exact q1|exact q2|exact q3|exact rfl|refine And.intro ?_ ?_|exact qA rfl|exact Inside.ptr _ _ _ (.inr ⟨rfl,rfl⟩)|exact Tm.ins _|exact Tm.Zj _ _|exact Am.ins _|exact Am.Zj _ _|refine Zd ?_|refine Tm.Zc ?_|refine Am.Zc ?_
  all_goals first | exact hfi _ | exact hxi _ | exact Xc rfl
 intro i hi
 refine Yi rfl ?_
 rcases Nat.lt_or_ge i l.length with h | h
 ·have hmin:(ys.take i).length = i:=List.length_take_of_le (by omega)
  refine Za tok rfl rfl ?_
  simp only [go_sem,simprocAttr,h]
  refine Zp rfl rfl rfl ?_
  refine Za tok rfl rfl ?_
  simp only [go_sem,simprocAttr,getD_map eInt _ _ h,h]
  refine Za tok rfl rfl ?_
  simp only [go_sem,simprocAttr]
  refine Xk (caps:=caps) (avs:=[eInt l[i]]) rfl hf (hc i h _) (by simp only [go_sem,simprocAttr]) ?_
  rintro r H1 ⟨rfl,rfl⟩
  refine ⟨_,S (i + 1),rfl,hout i h,?_⟩
  simp only [go_sem,simprocAttr,hmin]
  refine ⟨by first | exact ⟨rfl,by decide⟩ | exact rfl,⟨ZQ (by omega),by omega⟩,?_⟩
  refine Za tok rfl rfl ?_
  simp only [go_sem,simprocAttr]
  refine Zt rfl ?_
  refine Zg ?_ ?_ ?_ ?_ <;> repeat' first|exact trivial|refine q0 ?_|exact qb|exact q1|exact q2|exact q3|exact rfl|refine And.intro ?_ ?_|exact qA rfl|exact Inside.ptr _ _ _ (.inr ⟨rfl,rfl⟩)|exact Tm.ins _|exact Tm.Zj _ _|exact Am.ins _|exact Am.Zj _ _|refine Zd ?_|refine Tm.Zc ?_|refine Am.Zc ?_
  ·simp only [go_sem,simprocAttr]
   rw [IntWalk.i64_in _ (by omega)]; exact .refl _
  ·simp only [go_sem,simprocAttr,List.take_succ_eq_append_getElem (show i < ys.length by omega),List.map_append]
   exact .refl _
  all_goals first | exact hfi _ | exact hxi _ | exact Ja _ | exact Xc rfl
 ·refine Za tok rfl rfl ?_
  simp only [go_sem,simprocAttr,Nat.not_lt.2 h]
  refine Zn rfl rfl rfl ?_
  refine Yh rfl rfl rfl rfl ?_
  have hi':i = l.length:=by omega
  subst hi'
  have ht:ys.take l.length = ys:=List.take_of_length_le (by omega)
  refine Za tok rfl rfl ?_
  simp only [go_sem,simprocAttr,ht]
  refine Zi rfl rfl ?_
  refine ZP ?_ (WO _) ⟨rfl,rfl⟩
  simp only [go_sem,simprocAttr]
  exact .any _ _ _
def ZmW (l:List (Cnd)) (f:Nat) (caps:List AV) (ys:List (Int)) (n:Nat) (S:Nat → Zf) (i:Nat):Zh :=
 ⟨[(10,.int .i64 i),(9,.int .i64 l.length),(8,.sl 1 (l.map Cnd.enc) .any),(5,.sl 1 ((ys.take i).map eInt) (.buf n 200)),(1,.fn (.func f) caps)],[(200,.buf 3 1 i)],S i⟩
theorem e216 (n:Nat) (l:List (Cnd)) (hl:l.length ≤ 1000000) (f:Nat) (caps:List AV) (fn:Func) (c:Code) (hf:Fun Tryz.prog f fn c) (ys:List (Int)) (hy:ys.length = l.length) (S:Nat → Zf)
  (hbl:Below n (.fn (.func f) caps)) (hbx:Below n (.sl 1 (l.map Cnd.enc) .any))
  (hc:∀ i (h:i < l.length) L,Zr Tryz.prog (n + 1) f (Cnd.enc l[i] :: caps) (full n L (S i)) fun r H1=>r = eInt (ys[i]'(by omega)) ∧ H1 = full n L (S (i + 1))) (hout:∀ i,i < l.length → Z5 n (S i) (S (i + 1))) :
  Zr Tryz.prog n 216 [.sl 1 (l.map Cnd.enc) .any,.fn (.func f) caps] (S 0) fun r H'=>r = .sl 1 (ys.map eInt) .any ∧ H' = S l.length:=by
 have hfi:∀ q,Inside n q (.fn (.func f) caps):=fun q=>hbl.inside
 have hxi:∀ q,Inside n q (.sl 1 (l.map Cnd.enc) .any):=fun q=>hbx.inside
 refine Zm tok (Zb Tryz.func216 rfl rfl) (by simp) fun B=>?_
 refine Za tok rfl rfl ?_
 simp only [go_sem,simprocAttr]
 refine Za tok rfl rfl ?_
 simp only [go_sem,simprocAttr]
 refine Za tok rfl rfl ?_
 simp only [go_sem,simprocAttr]
 repeat refine kn rfl ?_
 refine WS 5 200 3 1 rfl rfl ?_
 refine Zy (ZmW l f caps ys n S) l.length rfl ?_ ?_
 ·refine Zg ?_ ?_ ?_ ?_ <;> repeat' first|exact trivial|refine q0 ?_|exact qb|exact q1|exact q2|exact q3|exact rfl|refine And.intro ?_ ?_|exact qA rfl|exact Inside.ptr _ _ _ (.inr ⟨rfl,rfl⟩)|exact Tm.ins _|exact Tm.Zj _ _|exact Am.ins _|exact Am.Zj _ _|refine Zd ?_|refine Tm.Zc ?_|refine Am.Zc ?_
  all_goals first | exact hfi _ | exact hxi _ | exact Xc rfl
 intro i hi
 refine Yi rfl ?_
 rcases Nat.lt_or_ge i l.length with h | h
 ·have hmin:(ys.take i).length = i:=List.length_take_of_le (by omega)
  refine Za tok rfl rfl ?_
  simp only [go_sem,simprocAttr,h]
  refine Zp rfl rfl rfl ?_
  refine Za tok rfl rfl ?_
  simp only [go_sem,simprocAttr,getD_map Cnd.enc _ _ h,h]
  refine Za tok rfl rfl ?_
  simp only [go_sem,simprocAttr]
  refine Xk (caps:=caps) (avs:=[Cnd.enc l[i]]) rfl hf (hc i h _) (by simp only [go_sem,simprocAttr]) ?_
  rintro r H1 ⟨rfl,rfl⟩
  refine ⟨_,S (i + 1),rfl,hout i h,?_⟩
  simp only [go_sem,simprocAttr,hmin]
  refine ⟨by first | exact ⟨rfl,by decide⟩ | exact rfl,⟨ZQ (by omega),by omega⟩,?_⟩
  refine Za tok rfl rfl ?_
  simp only [go_sem,simprocAttr]
  refine Zt rfl ?_
  refine Zg ?_ ?_ ?_ ?_ <;> repeat' first|exact trivial|refine q0 ?_|exact qb|exact q1|exact q2|exact q3|exact rfl|refine And.intro ?_ ?_|exact qA rfl|exact Inside.ptr _ _ _ (.inr ⟨rfl,rfl⟩)|exact Tm.ins _|exact Tm.Zj _ _|exact Am.ins _|exact Am.Zj _ _|refine Zd ?_|refine Tm.Zc ?_|refine Am.Zc ?_
  ·simp only [go_sem,simprocAttr]
   rw [IntWalk.i64_in _ (by omega)]; exact .refl _
  ·simp only [go_sem,simprocAttr,List.take_succ_eq_append_getElem (show i < ys.length by omega),List.map_append]
   exact .refl _
  all_goals first | exact hfi _ | exact hxi _ | exact Ja _ | exact Xc rfl
 ·refine Za tok rfl rfl ?_
  simp only [go_sem,simprocAttr,Nat.not_lt.2 h]
  refine Zn rfl rfl rfl ?_
  refine Yh rfl rfl rfl rfl ?_
  have hi':i = l.length:=by omega
  subst hi'
  have ht:ys.take l.length = ys:=List.take_of_length_le (by omega)
  refine Za tok rfl rfl ?_
  simp only [go_sem,simprocAttr,ht]
  refine Zi rfl rfl ?_
  refine ZP ?_ (WO _) ⟨rfl,rfl⟩
  simp only [go_sem,simprocAttr]
  exact .any _ _ _
def Zmy (l:List (Am)) (f:Nat) (bs:List AV) (ys:List (Int)) (n:Nat) (S:Nat → Zf) (i:Nat):Zh :=
 ⟨[(10,.int .i64 i),(9,.int .i64 l.length),(8,.sl 2 (l.map Am.enc) .any),(5,.sl 1 ((ys.take i).map eInt) (.buf n 200)),(1,.bfn (.func f) bs)],[(200,.buf 3 1 i)],S i⟩
theorem ZmA (n:Nat) (l:List (Am)) (hl:l.length ≤ 1000000) (f:Nat) (bs:List AV) (fn:Func) (c:Code) (hf:Fun Tryz.prog f fn c) (ys:List (Int)) (hy:ys.length = l.length) (S:Nat → Zf)
  (hbl:Below n (.bfn (.func f) bs)) (hbx:Below n (.sl 2 (l.map Am.enc) .any))
  (hc:∀ i (h:i < l.length) L,Zr Tryz.prog (n + 1) f (bs ++ [Am.enc l[i]]) (full n L (S i)) fun r H1=>r = eInt (ys[i]'(by omega)) ∧ H1 = full n L (S (i + 1))) (hout:∀ i,i < l.length → Z5 n (S i) (S (i + 1))) :
  Zr Tryz.prog n 123 [.sl 2 (l.map Am.enc) .any,.bfn (.func f) bs] (S 0) fun r H'=>r = .sl 1 (ys.map eInt) .any ∧ H' = S l.length:=by
 have hfi:∀ q,Inside n q (.bfn (.func f) bs):=fun q=>hbl.inside
 have hxi:∀ q,Inside n q (.sl 2 (l.map Am.enc) .any):=fun q=>hbx.inside
 refine Zm tok (Zb Tryz.func123 rfl rfl) (by simp) fun B=>?_
 refine Za tok rfl rfl ?_
 simp only [go_sem,simprocAttr]
 refine Za tok rfl rfl ?_
 simp only [go_sem,simprocAttr]
 refine Za tok rfl rfl ?_
 simp only [go_sem,simprocAttr]
 repeat refine kn rfl ?_
 refine WS 5 200 3 1 rfl rfl ?_
 refine Zy (Zmy l f bs ys n S) l.length rfl ?_ ?_
 ·refine Zg ?_ ?_ ?_ ?_ <;> repeat' first|exact trivial|refine q0 ?_|exact qb|exact q1|exact q2|exact q3|exact rfl|refine And.intro ?_ ?_|exact qA rfl|exact Inside.ptr _ _ _ (.inr ⟨rfl,rfl⟩)|exact Tm.ins _|exact Tm.Zj _ _|exact Am.ins _|exact Am.Zj _ _|refine Zd ?_|refine Tm.Zc ?_|refine Am.Zc ?_
  all_goals first | exact hfi _ | exact hxi _ | exact Xc rfl
 intro i hi
 refine Yi rfl ?_
 rcases Nat.lt_or_ge i l.length with h | h
 ·have hmin:(ys.take i).length = i:=List.length_take_of_le (by omega)
  refine Za tok rfl rfl ?_
  simp only [go_sem,simprocAttr,h]
  refine Zp rfl rfl rfl ?_
  refine Za tok rfl rfl ?_
  simp only [go_sem,simprocAttr,getD_map Am.enc _ _ h,h]
  refine Za tok rfl rfl ?_
  simp only [go_sem,simprocAttr]
  refine Zi5 (bs:=bs) (avs:=[Am.enc l[i]]) rfl hf (hc i h _) (by simp only [go_sem,simprocAttr]) ?_
  rintro r H1 ⟨rfl,rfl⟩
  refine ⟨_,S (i + 1),rfl,hout i h,?_⟩
  simp only [go_sem,simprocAttr,hmin]
  refine ⟨by first | exact ⟨rfl,by decide⟩ | exact rfl,⟨ZQ (by omega),by omega⟩,?_⟩
  refine Za tok rfl rfl ?_
  simp only [go_sem,simprocAttr]
  refine Zt rfl ?_
  refine Zg ?_ ?_ ?_ ?_ <;> repeat' first|exact trivial|refine q0 ?_|exact qb|exact q1|exact q2|exact q3|exact rfl|refine And.intro ?_ ?_|exact qA rfl|exact Inside.ptr _ _ _ (.inr ⟨rfl,rfl⟩)|exact Tm.ins _|exact Tm.Zj _ _|exact Am.ins _|exact Am.Zj _ _|refine Zd ?_|refine Tm.Zc ?_|refine Am.Zc ?_
  ·simp only [go_sem,simprocAttr]
   rw [IntWalk.i64_in _ (by omega)]; exact .refl _
  ·simp only [go_sem,simprocAttr,List.take_succ_eq_append_getElem (show i < ys.length by omega),List.map_append]
   exact .refl _
  all_goals first | exact hfi _ | exact hxi _ | exact Ja _ | exact Xc rfl
 ·refine Za tok rfl rfl ?_
  simp only [go_sem,simprocAttr,Nat.not_lt.2 h]
  refine Zn rfl rfl rfl ?_
  refine Yh rfl rfl rfl rfl ?_
  have hi':i = l.length:=by omega
  subst hi'
  have ht:ys.take l.length = ys:=List.take_of_length_le (by omega)
  refine Za tok rfl rfl ?_
  simp only [go_sem,simprocAttr,ht]
  refine Zi rfl rfl ?_
  refine ZP ?_ (WO _) ⟨rfl,rfl⟩
  simp only [go_sem,simprocAttr]
  exact .any _ _ _
def ZmJ (l:List (GL)) (f:Nat) (bs:List AV) (ys:List (Int)) (n:Nat) (S:Nat → Zf) (i:Nat):Zh :=
 ⟨[(10,.int .i64 i),(9,.int .i64 l.length),(8,.sl 3 (l.map GL.enc) .any),(5,.sl 1 ((ys.take i).map eInt) (.buf n 200)),(1,.bfn (.func f) bs)],[(200,.buf 3 1 i)],S i⟩
theorem Zl2 (n:Nat) (l:List (GL)) (hl:l.length ≤ 1000000) (f:Nat) (bs:List AV) (fn:Func) (c:Code) (hf:Fun Tryz.prog f fn c) (ys:List (Int)) (hy:ys.length = l.length) (S:Nat → Zf)
  (hbl:Below n (.bfn (.func f) bs)) (hbx:Below n (.sl 3 (l.map GL.enc) .any))
  (hc:∀ i (h:i < l.length) L,Zr Tryz.prog (n + 1) f (bs ++ [GL.enc l[i]]) (full n L (S i)) fun r H1=>r = eInt (ys[i]'(by omega)) ∧ H1 = full n L (S (i + 1))) (hout:∀ i,i < l.length → Z5 n (S i) (S (i + 1))) :
  Zr Tryz.prog n 288 [.sl 3 (l.map GL.enc) .any,.bfn (.func f) bs] (S 0) fun r H'=>r = .sl 1 (ys.map eInt) .any ∧ H' = S l.length:=by
 have hfi:∀ q,Inside n q (.bfn (.func f) bs):=fun q=>hbl.inside
 have hxi:∀ q,Inside n q (.sl 3 (l.map GL.enc) .any):=fun q=>hbx.inside
 refine Zm tok (Zb Tryz.func288 rfl rfl) (by simp) fun B=>?_
 refine Za tok rfl rfl ?_
 simp only [go_sem,simprocAttr]
 refine Za tok rfl rfl ?_
 simp only [go_sem,simprocAttr]
 refine Za tok rfl rfl ?_
 simp only [go_sem,simprocAttr]
 repeat refine kn rfl ?_
 refine WS 5 200 3 1 rfl rfl ?_
 refine Zy (ZmJ l f bs ys n S) l.length rfl ?_ ?_
 ·refine Zg ?_ ?_ ?_ ?_ <;> repeat' first|exact trivial|refine q0 ?_|exact qb|exact q1|exact q2|exact q3|exact rfl|refine And.intro ?_ ?_|exact qA rfl|exact Inside.ptr _ _ _ (.inr ⟨rfl,rfl⟩)|exact Tm.ins _|exact Tm.Zj _ _|exact Am.ins _|exact Am.Zj _ _|refine Zd ?_|refine Tm.Zc ?_|refine Am.Zc ?_
  all_goals first | exact hfi _ | exact hxi _ | exact Xc rfl
 intro i hi
 refine Yi rfl ?_
 rcases Nat.lt_or_ge i l.length with h | h
 ·have hmin:(ys.take i).length = i:=List.length_take_of_le (by omega)
  refine Za tok rfl rfl ?_
  simp only [go_sem,simprocAttr,h]
  refine Zp rfl rfl rfl ?_
  refine Za tok rfl rfl ?_
  simp only [go_sem,simprocAttr,getD_map GL.enc _ _ h,h]
  refine Za tok rfl rfl ?_
  simp only [go_sem,simprocAttr]
  refine Zi5 (bs:=bs) (avs:=[GL.enc l[i]]) rfl hf (hc i h _) (by simp only [go_sem,simprocAttr]) ?_
  rintro r H1 ⟨rfl,rfl⟩
  refine ⟨_,S (i + 1),rfl,hout i h,?_⟩
  simp only [go_sem,simprocAttr,hmin]
  refine ⟨by first | exact ⟨rfl,by decide⟩ | exact rfl,⟨ZQ (by omega),by omega⟩,?_⟩
  refine Za tok rfl rfl ?_
  simp only [go_sem,simprocAttr]
  refine Zt rfl ?_
  refine Zg ?_ ?_ ?_ ?_ <;> repeat' first|exact trivial|refine q0 ?_|exact qb|exact q1|exact q2|exact q3|exact rfl|refine And.intro ?_ ?_|exact qA rfl|exact Inside.ptr _ _ _ (.inr ⟨rfl,rfl⟩)|exact Tm.ins _|exact Tm.Zj _ _|exact Am.ins _|exact Am.Zj _ _|refine Zd ?_|refine Tm.Zc ?_|refine Am.Zc ?_
  ·simp only [go_sem,simprocAttr]
   rw [IntWalk.i64_in _ (by omega)]; exact .refl _
  ·simp only [go_sem,simprocAttr,List.take_succ_eq_append_getElem (show i < ys.length by omega),List.map_append]
   exact .refl _
  all_goals first | exact hfi _ | exact hxi _ | exact Ja _ | exact Xc rfl
 ·refine Za tok rfl rfl ?_
  simp only [go_sem,simprocAttr,Nat.not_lt.2 h]
  refine Zn rfl rfl rfl ?_
  refine Yh rfl rfl rfl rfl ?_
  have hi':i = l.length:=by omega
  subst hi'
  have ht:ys.take l.length = ys:=List.take_of_length_le (by omega)
  refine Za tok rfl rfl ?_
  simp only [go_sem,simprocAttr,ht]
  refine Zi rfl rfl ?_
  refine ZP ?_ (WO _) ⟨rfl,rfl⟩
  simp only [go_sem,simprocAttr]
  exact .any _ _ _
end Go.Proofs.YthgbkalgmicniaaGreatDoor

/- ContainsFunc over the lists of ground things. -/
namespace Go.Proofs.YthgbkalgmicniaaGreatDoor
open Go.Abs
set_option maxRecDepth 100000
abbrev LInt:=List Int
theorem JV {n k:Nat} (l:List LInt):Below n (.sl k (l.map Zw) .any):=ZK fun x hx=>by obtain ⟨u,_,rfl⟩:=List.mem_map.1 hx; exact Zz _
def Zmt (l:List (GL)) (f:Nat) (caps:List AV) (H:Zf) (i:Nat):Zh :=
 ⟨[(8,.int .i64 i),(7,.int .i64 l.length),(1,.fn (.func f) caps),(0,.sl 3 (l.map GL.enc) .any)],[],H⟩
theorem x101 (l:List (GL)) (hl:l.length ≤ 1000000) (f:Nat) (caps:List AV) (p:(GL) → Bool) (hp:WY f caps GL.enc l p):ZR Tryz.prog 101 [.sl 3 (l.map GL.enc) .any,.fn (.func f) caps] (.int .i64 (ZaG p l)):=by
 intro n H hn hT
 have hxi:∀ q,Inside n q (.sl 3 (l.map GL.enc) .any):=fun q=>(Xm l).inside
 obtain ⟨⟨fn,c,hf⟩,hp,hbl⟩:=hp
 have hfi:∀ q,Inside n q (.fn (.func f) caps):=fun q=>(Below.fn _ _ fun i hi=>(hbl n).mem _ (List.getElem_mem hi)).inside
 refine Zm tok (Zb Tryz.func101 rfl rfl) (by simp) fun B=>?_
 refine Za tok rfl rfl ?_
 simp only [go_sem,simprocAttr]
 refine Za tok rfl rfl ?_
 simp only [go_sem,simprocAttr]
 repeat refine kn rfl ?_
 refine Ye (Zmt l f caps H) (fun i=>∀ j (h:j < l.length),j < i → p l[j] = false) l.length rfl ?_ (fun j _ h=>absurd h (Nat.not_lt_zero _)) ?_
 ·refine Zg ?_ ?_ ?_ ?_ <;> repeat' first|exact trivial|refine q0 ?_|exact qb|exact q1|exact q2|exact q3|exact rfl|refine And.intro ?_ ?_|exact qA rfl|exact Inside.ptr _ _ _ (.inr ⟨rfl,rfl⟩)|exact Tm.ins _|exact Tm.Zj _ _|exact Am.ins _|exact Am.Zj _ _|refine Zd ?_|refine Tm.Zc ?_|refine Am.Zc ?_
  all_goals first | exact hfi _ | exact hxi _
 intro i hi hq
 refine Yi rfl ?_
 rcases Nat.lt_or_ge i l.length with h | h
 ·refine Za tok rfl rfl ?_
  simp only [go_sem,simprocAttr,h]
  refine Zp rfl rfl rfl ?_
  refine Za tok rfl rfl ?_
  simp only [go_sem,simprocAttr]
  refine Za tok rfl rfl ?_
  simp only [go_sem,simprocAttr,getD_map GL.enc _ _ h,h]
  refine XM (avs:=[GL.enc l[i]]) rfl hf (hp l[i] (List.getElem_mem h) _ _ (Nat.succ_pos _) (hT.full hn)) rfl ?_
  cases h1:p l[i] with
  | true =>
   simp only [go_sem,simprocAttr]
   refine Zp rfl rfl rfl ?_
   refine Za tok rfl rfl ?_
   simp only [go_sem,simprocAttr]
   refine XO rfl rfl ?_
   refine Ze ?_ (.int _ _) rfl
   rw [Vp h h1 hq]
   exact .refl _
  | false =>
   simp only [go_sem,simprocAttr]
   refine Zn rfl rfl rfl ?_
   refine Za tok rfl rfl ?_
   simp only [go_sem,simprocAttr]
   refine Zt rfl ?_
   refine ⟨fun j hj hji=>?_,?_⟩
   ·rcases Nat.lt_or_ge j i with h' | h'
    ·exact hq j hj h'
    ·have:j = i:=by omega
     subst this; exact h1
   ·refine Zg ?_ ?_ ?_ ?_ <;> repeat' first|exact trivial|refine q0 ?_|exact qb|exact q1|exact q2|exact q3|exact rfl|refine And.intro ?_ ?_|exact qA rfl|exact Inside.ptr _ _ _ (.inr ⟨rfl,rfl⟩)|exact Tm.ins _|exact Tm.Zj _ _|exact Am.ins _|exact Am.Zj _ _|refine Zd ?_|refine Tm.Zc ?_|refine Am.Zc ?_
    ·simp only [go_sem,simprocAttr]
     rw [IntWalk.i64_in _ (by omega)]; exact .refl _
    all_goals first | exact hfi _ | exact hxi _
 ·refine Za tok rfl rfl ?_
  simp only [go_sem,simprocAttr,Nat.not_lt.2 h]
  refine Zn rfl rfl rfl ?_
  refine Yh rfl rfl rfl rfl ?_
  refine Za tok rfl rfl ?_
  simp only [go_sem,simprocAttr]
  refine Zi rfl rfl ?_
  refine Ze ?_ (.int _ _) rfl
  rw [XV (fun j hj=>hq j hj (by omega))]
  exact .refl _
def Zmx (l:List (GE)) (f:Nat) (caps:List AV) (H:Zf) (i:Nat):Zh :=
 ⟨[(8,.int .i64 i),(7,.int .i64 l.length),(1,.fn (.func f) caps),(0,.sl 2 (l.map GE.enc) .any)],[],H⟩
theorem x102 (l:List (GE)) (hl:l.length ≤ 1000000) (f:Nat) (caps:List AV) (p:(GE) → Bool) (hp:WY f caps GE.enc l p):ZR Tryz.prog 102 [.sl 2 (l.map GE.enc) .any,.fn (.func f) caps] (.int .i64 (ZaG p l)):=by
 intro n H hn hT
 have hxi:∀ q,Inside n q (.sl 2 (l.map GE.enc) .any):=fun q=>(Zx l).inside
 obtain ⟨⟨fn,c,hf⟩,hp,hbl⟩:=hp
 have hfi:∀ q,Inside n q (.fn (.func f) caps):=fun q=>(Below.fn _ _ fun i hi=>(hbl n).mem _ (List.getElem_mem hi)).inside
 refine Zm tok (Zb Tryz.func102 rfl rfl) (by simp) fun B=>?_
 refine Za tok rfl rfl ?_
 simp only [go_sem,simprocAttr]
 refine Za tok rfl rfl ?_
 simp only [go_sem,simprocAttr]
 repeat refine kn rfl ?_
 refine Ye (Zmx l f caps H) (fun i=>∀ j (h:j < l.length),j < i → p l[j] = false) l.length rfl ?_ (fun j _ h=>absurd h (Nat.not_lt_zero _)) ?_
 ·refine Zg ?_ ?_ ?_ ?_ <;> repeat' first|exact trivial|refine q0 ?_|exact qb|exact q1|exact q2|exact q3|exact rfl|refine And.intro ?_ ?_|exact qA rfl|exact Inside.ptr _ _ _ (.inr ⟨rfl,rfl⟩)|exact Tm.ins _|exact Tm.Zj _ _|exact Am.ins _|exact Am.Zj _ _|refine Zd ?_|refine Tm.Zc ?_|refine Am.Zc ?_
  all_goals first | exact hfi _ | exact hxi _
 intro i hi hq
 refine Yi rfl ?_
 rcases Nat.lt_or_ge i l.length with h | h
 ·refine Za tok rfl rfl ?_
  simp only [go_sem,simprocAttr,h]
  refine Zp rfl rfl rfl ?_
  refine Za tok rfl rfl ?_
  simp only [go_sem,simprocAttr]
  refine Za tok rfl rfl ?_
  simp only [go_sem,simprocAttr,getD_map GE.enc _ _ h,h]
  refine XM (avs:=[GE.enc l[i]]) rfl hf (hp l[i] (List.getElem_mem h) _ _ (Nat.succ_pos _) (hT.full hn)) rfl ?_
  cases h1:p l[i] with
  | true =>
   simp only [go_sem,simprocAttr]
   refine Zp rfl rfl rfl ?_
   refine Za tok rfl rfl ?_
   simp only [go_sem,simprocAttr]
   refine XO rfl rfl ?_
   refine Ze ?_ (.int _ _) rfl
   rw [Vp h h1 hq]
   exact .refl _
  | false =>
   simp only [go_sem,simprocAttr]
   refine Zn rfl rfl rfl ?_
   refine Za tok rfl rfl ?_
   simp only [go_sem,simprocAttr]
   refine Zt rfl ?_
   refine ⟨fun j hj hji=>?_,?_⟩
   ·rcases Nat.lt_or_ge j i with h' | h'
    ·exact hq j hj h'
    ·have:j = i:=by omega
     subst this; exact h1
   ·refine Zg ?_ ?_ ?_ ?_ <;> repeat' first|exact trivial|refine q0 ?_|exact qb|exact q1|exact q2|exact q3|exact rfl|refine And.intro ?_ ?_|exact qA rfl|exact Inside.ptr _ _ _ (.inr ⟨rfl,rfl⟩)|exact Tm.ins _|exact Tm.Zj _ _|exact Am.ins _|exact Am.Zj _ _|refine Zd ?_|refine Tm.Zc ?_|refine Am.Zc ?_
    ·simp only [go_sem,simprocAttr]
     rw [IntWalk.i64_in _ (by omega)]; exact .refl _
    all_goals first | exact hfi _ | exact hxi _
 ·refine Za tok rfl rfl ?_
  simp only [go_sem,simprocAttr,Nat.not_lt.2 h]
  refine Zn rfl rfl rfl ?_
  refine Yh rfl rfl rfl rfl ?_
  refine Za tok rfl rfl ?_
  simp only [go_sem,simprocAttr]
  refine Zi rfl rfl ?_
  refine Ze ?_ (.int _ _) rfl
  rw [XV (fun j hj=>hq j hj (by omega))]
  exact .refl _
def ZmB (l:List (Am)) (f:Nat) (caps:List AV) (H:Zf) (i:Nat):Zh :=
 ⟨[(8,.int .i64 i),(7,.int .i64 l.length),(1,.fn (.func f) caps),(0,.sl 2 (l.map Am.enc) .any)],[],H⟩
theorem x103 (l:List (Am)) (hl:l.length ≤ 1000000) (f:Nat) (caps:List AV) (p:(Am) → Bool) (hp:WY f caps Am.enc l p):ZR Tryz.prog 103 [.sl 2 (l.map Am.enc) .any,.fn (.func f) caps] (.int .i64 (ZaG p l)):=by
 intro n H hn hT
 have hxi:∀ q,Inside n q (.sl 2 (l.map Am.enc) .any):=fun q=>(ZO l).inside
 obtain ⟨⟨fn,c,hf⟩,hp,hbl⟩:=hp
 have hfi:∀ q,Inside n q (.fn (.func f) caps):=fun q=>(Below.fn _ _ fun i hi=>(hbl n).mem _ (List.getElem_mem hi)).inside
 refine Zm tok (Zb Tryz.func103 rfl rfl) (by simp) fun B=>?_
 refine Za tok rfl rfl ?_
 simp only [go_sem,simprocAttr]
 refine Za tok rfl rfl ?_
 simp only [go_sem,simprocAttr]
 repeat refine kn rfl ?_
 refine Ye (ZmB l f caps H) (fun i=>∀ j (h:j < l.length),j < i → p l[j] = false) l.length rfl ?_ (fun j _ h=>absurd h (Nat.not_lt_zero _)) ?_
 ·refine Zg ?_ ?_ ?_ ?_ <;> repeat' first|exact trivial|refine q0 ?_|exact qb|exact q1|exact q2|exact q3|exact rfl|refine And.intro ?_ ?_|exact qA rfl|exact Inside.ptr _ _ _ (.inr ⟨rfl,rfl⟩)|exact Tm.ins _|exact Tm.Zj _ _|exact Am.ins _|exact Am.Zj _ _|refine Zd ?_|refine Tm.Zc ?_|refine Am.Zc ?_
  all_goals first | exact hfi _ | exact hxi _
 intro i hi hq
 refine Yi rfl ?_
 rcases Nat.lt_or_ge i l.length with h | h
 ·refine Za tok rfl rfl ?_
  simp only [go_sem,simprocAttr,h]
  refine Zp rfl rfl rfl ?_
  refine Za tok rfl rfl ?_
  simp only [go_sem,simprocAttr]
  refine Za tok rfl rfl ?_
  simp only [go_sem,simprocAttr,getD_map Am.enc _ _ h,h]
  refine XM (avs:=[Am.enc l[i]]) rfl hf (hp l[i] (List.getElem_mem h) _ _ (Nat.succ_pos _) (hT.full hn)) rfl ?_
  cases h1:p l[i] with
  | true =>
   simp only [go_sem,simprocAttr]
   refine Zp rfl rfl rfl ?_
   refine Za tok rfl rfl ?_
   simp only [go_sem,simprocAttr]
   refine XO rfl rfl ?_
   refine Ze ?_ (.int _ _) rfl
   rw [Vp h h1 hq]
   exact .refl _
  | false =>
   simp only [go_sem,simprocAttr]
   refine Zn rfl rfl rfl ?_
   refine Za tok rfl rfl ?_
   simp only [go_sem,simprocAttr]
   refine Zt rfl ?_
   refine ⟨fun j hj hji=>?_,?_⟩
   ·rcases Nat.lt_or_ge j i with h' | h'
    ·exact hq j hj h'
    ·have:j = i:=by omega
     subst this; exact h1
   ·refine Zg ?_ ?_ ?_ ?_ <;> repeat' first|exact trivial|refine q0 ?_|exact qb|exact q1|exact q2|exact q3|exact rfl|refine And.intro ?_ ?_|exact qA rfl|exact Inside.ptr _ _ _ (.inr ⟨rfl,rfl⟩)|exact Tm.ins _|exact Tm.Zj _ _|exact Am.ins _|exact Am.Zj _ _|refine Zd ?_|refine Tm.Zc ?_|refine Am.Zc ?_
    ·simp only [go_sem,simprocAttr]
     rw [IntWalk.i64_in _ (by omega)]; exact .refl _
    all_goals first | exact hfi _ | exact hxi _
 ·refine Za tok rfl rfl ?_
  simp only [go_sem,simprocAttr,Nat.not_lt.2 h]
  refine Zn rfl rfl rfl ?_
  refine Yh rfl rfl rfl rfl ?_
  refine Za tok rfl rfl ?_
  simp only [go_sem,simprocAttr]
  refine Zi rfl rfl ?_
  refine Ze ?_ (.int _ _) rfl
  rw [XV (fun j hj=>hq j hj (by omega))]
  exact .refl _
def Zmb (l:List (GB)) (f:Nat) (caps:List AV) (H:Zf) (i:Nat):Zh :=
 ⟨[(8,.int .i64 i),(7,.int .i64 l.length),(1,.fn (.func f) caps),(0,.sl 9 (l.map GB.enc) .any)],[],H⟩
theorem x104 (l:List (GB)) (hl:l.length ≤ 1000000) (f:Nat) (caps:List AV) (p:(GB) → Bool) (hp:WY f caps GB.enc l p):ZR Tryz.prog 104 [.sl 9 (l.map GB.enc) .any,.fn (.func f) caps] (.int .i64 (ZaG p l)):=by
 intro n H hn hT
 have hxi:∀ q,Inside n q (.sl 9 (l.map GB.enc) .any):=fun q=>(ZF l).inside
 obtain ⟨⟨fn,c,hf⟩,hp,hbl⟩:=hp
 have hfi:∀ q,Inside n q (.fn (.func f) caps):=fun q=>(Below.fn _ _ fun i hi=>(hbl n).mem _ (List.getElem_mem hi)).inside
 refine Zm tok (Zb Tryz.func104 rfl rfl) (by simp) fun B=>?_
 refine Za tok rfl rfl ?_
 simp only [go_sem,simprocAttr]
 refine Za tok rfl rfl ?_
 simp only [go_sem,simprocAttr]
 repeat refine kn rfl ?_
 refine Ye (Zmb l f caps H) (fun i=>∀ j (h:j < l.length),j < i → p l[j] = false) l.length rfl ?_ (fun j _ h=>absurd h (Nat.not_lt_zero _)) ?_
 ·refine Zg ?_ ?_ ?_ ?_ <;> repeat' first|exact trivial|refine q0 ?_|exact qb|exact q1|exact q2|exact q3|exact rfl|refine And.intro ?_ ?_|exact qA rfl|exact Inside.ptr _ _ _ (.inr ⟨rfl,rfl⟩)|exact Tm.ins _|exact Tm.Zj _ _|exact Am.ins _|exact Am.Zj _ _|refine Zd ?_|refine Tm.Zc ?_|refine Am.Zc ?_
  all_goals first | exact hfi _ | exact hxi _
 intro i hi hq
 refine Yi rfl ?_
 rcases Nat.lt_or_ge i l.length with h | h
 ·refine Za tok rfl rfl ?_
  simp only [go_sem,simprocAttr,h]
  refine Zp rfl rfl rfl ?_
  refine Za tok rfl rfl ?_
  simp only [go_sem,simprocAttr]
  refine Za tok rfl rfl ?_
  simp only [go_sem,simprocAttr,getD_map GB.enc _ _ h,h]
  refine XM (avs:=[GB.enc l[i]]) rfl hf (hp l[i] (List.getElem_mem h) _ _ (Nat.succ_pos _) (hT.full hn)) rfl ?_
  cases h1:p l[i] with
  | true =>
   simp only [go_sem,simprocAttr]
   refine Zp rfl rfl rfl ?_
   refine Za tok rfl rfl ?_
   simp only [go_sem,simprocAttr]
   refine XO rfl rfl ?_
   refine Ze ?_ (.int _ _) rfl
   rw [Vp h h1 hq]
   exact .refl _
  | false =>
   simp only [go_sem,simprocAttr]
   refine Zn rfl rfl rfl ?_
   refine Za tok rfl rfl ?_
   simp only [go_sem,simprocAttr]
   refine Zt rfl ?_
   refine ⟨fun j hj hji=>?_,?_⟩
   ·rcases Nat.lt_or_ge j i with h' | h'
    ·exact hq j hj h'
    ·have:j = i:=by omega
     subst this; exact h1
   ·refine Zg ?_ ?_ ?_ ?_ <;> repeat' first|exact trivial|refine q0 ?_|exact qb|exact q1|exact q2|exact q3|exact rfl|refine And.intro ?_ ?_|exact qA rfl|exact Inside.ptr _ _ _ (.inr ⟨rfl,rfl⟩)|exact Tm.ins _|exact Tm.Zj _ _|exact Am.ins _|exact Am.Zj _ _|refine Zd ?_|refine Tm.Zc ?_|refine Am.Zc ?_
    ·simp only [go_sem,simprocAttr]
     rw [IntWalk.i64_in _ (by omega)]; exact .refl _
    all_goals first | exact hfi _ | exact hxi _
 ·refine Za tok rfl rfl ?_
  simp only [go_sem,simprocAttr,Nat.not_lt.2 h]
  refine Zn rfl rfl rfl ?_
  refine Yh rfl rfl rfl rfl ?_
  refine Za tok rfl rfl ?_
  simp only [go_sem,simprocAttr]
  refine Zi rfl rfl ?_
  refine Ze ?_ (.int _ _) rfl
  rw [XV (fun j hj=>hq j hj (by omega))]
  exact .refl _
def Zl8 (l:List (Ins)) (f:Nat) (caps:List AV) (H:Zf) (i:Nat):Zh :=
 ⟨[(8,.int .i64 i),(7,.int .i64 l.length),(1,.fn (.func f) caps),(0,.sl 8 (l.map Ins.enc) .any)],[],H⟩
theorem x112 (l:List (Ins)) (hl:l.length ≤ 1000000) (f:Nat) (caps:List AV) (p:(Ins) → Bool) (hp:WY f caps Ins.enc l p):ZR Tryz.prog 112 [.sl 8 (l.map Ins.enc) .any,.fn (.func f) caps] (.int .i64 (ZaG p l)):=by
 intro n H hn hT
 have hxi:∀ q,Inside n q (.sl 8 (l.map Ins.enc) .any):=fun q=>(Zu l).inside
 obtain ⟨⟨fn,c,hf⟩,hp,hbl⟩:=hp
 have hfi:∀ q,Inside n q (.fn (.func f) caps):=fun q=>(Below.fn _ _ fun i hi=>(hbl n).mem _ (List.getElem_mem hi)).inside
 refine Zm tok (Zb Tryz.func112 rfl rfl) (by simp) fun B=>?_
 refine Za tok rfl rfl ?_
 simp only [go_sem,simprocAttr]
 refine Za tok rfl rfl ?_
 simp only [go_sem,simprocAttr]
 repeat refine kn rfl ?_
 refine Ye (Zl8 l f caps H) (fun i=>∀ j (h:j < l.length),j < i → p l[j] = false) l.length rfl ?_ (fun j _ h=>absurd h (Nat.not_lt_zero _)) ?_
 ·refine Zg ?_ ?_ ?_ ?_ <;> repeat' first|exact trivial|refine q0 ?_|exact qb|exact q1|exact q2|exact q3|exact rfl|refine And.intro ?_ ?_|exact qA rfl|exact Inside.ptr _ _ _ (.inr ⟨rfl,rfl⟩)|exact Tm.ins _|exact Tm.Zj _ _|exact Am.ins _|exact Am.Zj _ _|refine Zd ?_|refine Tm.Zc ?_|refine Am.Zc ?_
  all_goals first | exact hfi _ | exact hxi _
 intro i hi hq
 refine Yi rfl ?_
 rcases Nat.lt_or_ge i l.length with h | h
 ·refine Za tok rfl rfl ?_
  simp only [go_sem,simprocAttr,h]
  refine Zp rfl rfl rfl ?_
  refine Za tok rfl rfl ?_
  simp only [go_sem,simprocAttr]
  refine Za tok rfl rfl ?_
  simp only [go_sem,simprocAttr,getD_map Ins.enc _ _ h,h]
  refine XM (avs:=[Ins.enc l[i]]) rfl hf (hp l[i] (List.getElem_mem h) _ _ (Nat.succ_pos _) (hT.full hn)) rfl ?_
  cases h1:p l[i] with
  | true =>
   simp only [go_sem,simprocAttr]
   refine Zp rfl rfl rfl ?_
   refine Za tok rfl rfl ?_
   simp only [go_sem,simprocAttr]
   refine XO rfl rfl ?_
   refine Ze ?_ (.int _ _) rfl
   rw [Vp h h1 hq]
   exact .refl _
  | false =>
   simp only [go_sem,simprocAttr]
   refine Zn rfl rfl rfl ?_
   refine Za tok rfl rfl ?_
   simp only [go_sem,simprocAttr]
   refine Zt rfl ?_
   refine ⟨fun j hj hji=>?_,?_⟩
   ·rcases Nat.lt_or_ge j i with h' | h'
    ·exact hq j hj h'
    ·have:j = i:=by omega
     subst this; exact h1
   ·refine Zg ?_ ?_ ?_ ?_ <;> repeat' first|exact trivial|refine q0 ?_|exact qb|exact q1|exact q2|exact q3|exact rfl|refine And.intro ?_ ?_|exact qA rfl|exact Inside.ptr _ _ _ (.inr ⟨rfl,rfl⟩)|exact Tm.ins _|exact Tm.Zj _ _|exact Am.ins _|exact Am.Zj _ _|refine Zd ?_|refine Tm.Zc ?_|refine Am.Zc ?_
    ·simp only [go_sem,simprocAttr]
     rw [IntWalk.i64_in _ (by omega)]; exact .refl _
    all_goals first | exact hfi _ | exact hxi _
 ·refine Za tok rfl rfl ?_
  simp only [go_sem,simprocAttr,Nat.not_lt.2 h]
  refine Zn rfl rfl rfl ?_
  refine Yh rfl rfl rfl rfl ?_
  refine Za tok rfl rfl ?_
  simp only [go_sem,simprocAttr]
  refine Zi rfl rfl ?_
  refine Ze ?_ (.int _ _) rfl
  rw [XV (fun j hj=>hq j hj (by omega))]
  exact .refl _
def ZmQ (l:List (Str)) (f:Nat) (caps:List AV) (H:Zf) (i:Nat):Zh :=
 ⟨[(8,.int .i64 i),(7,.int .i64 l.length),(1,.fn (.func f) caps),(0,.sl 1 (l.map eStr) .any)],[],H⟩
theorem ZnP (l:List (Str)) (hl:l.length ≤ 1000000) (f:Nat) (caps:List AV) (p:(Str) → Bool) (hp:WY f caps eStr l p):ZR Tryz.prog 117 [.sl 1 (l.map eStr) .any,.fn (.func f) caps] (.int .i64 (ZaG p l)):=by
 intro n H hn hT
 have hxi:∀ q,Inside n q (.sl 1 (l.map eStr) .any):=fun q=>(Xh l).inside
 obtain ⟨⟨fn,c,hf⟩,hp,hbl⟩:=hp
 have hfi:∀ q,Inside n q (.fn (.func f) caps):=fun q=>(Below.fn _ _ fun i hi=>(hbl n).mem _ (List.getElem_mem hi)).inside
 refine Zm tok (Zb Tryz.func117 rfl rfl) (by simp) fun B=>?_
 refine Za tok rfl rfl ?_
 simp only [go_sem,simprocAttr]
 refine Za tok rfl rfl ?_
 simp only [go_sem,simprocAttr]
 repeat refine kn rfl ?_
 refine Ye (ZmQ l f caps H) (fun i=>∀ j (h:j < l.length),j < i → p l[j] = false) l.length rfl ?_ (fun j _ h=>absurd h (Nat.not_lt_zero _)) ?_
 ·refine Zg ?_ ?_ ?_ ?_ <;> repeat' first|exact trivial|refine q0 ?_|exact qb|exact q1|exact q2|exact q3|exact rfl|refine And.intro ?_ ?_|exact qA rfl|exact Inside.ptr _ _ _ (.inr ⟨rfl,rfl⟩)|exact Tm.ins _|exact Tm.Zj _ _|exact Am.ins _|exact Am.Zj _ _|refine Zd ?_|refine Tm.Zc ?_|refine Am.Zc ?_
  all_goals first | exact hfi _ | exact hxi _
 intro i hi hq
 refine Yi rfl ?_
 rcases Nat.lt_or_ge i l.length with h | h
 ·refine Za tok rfl rfl ?_
  simp only [go_sem,simprocAttr,h]
  refine Zp rfl rfl rfl ?_
  refine Za tok rfl rfl ?_
  simp only [go_sem,simprocAttr]
  refine Za tok rfl rfl ?_
  simp only [go_sem,simprocAttr,getD_map eStr _ _ h,h]
  refine XM (avs:=[eStr l[i]]) rfl hf (hp l[i] (List.getElem_mem h) _ _ (Nat.succ_pos _) (hT.full hn)) rfl ?_
  cases h1:p l[i] with
  | true =>
   simp only [go_sem,simprocAttr]
   refine Zp rfl rfl rfl ?_
   refine Za tok rfl rfl ?_
   simp only [go_sem,simprocAttr]
   refine XO rfl rfl ?_
   refine Ze ?_ (.int _ _) rfl
   rw [Vp h h1 hq]
   exact .refl _
  | false =>
   simp only [go_sem,simprocAttr]
   refine Zn rfl rfl rfl ?_
   refine Za tok rfl rfl ?_
   simp only [go_sem,simprocAttr]
   refine Zt rfl ?_
   refine ⟨fun j hj hji=>?_,?_⟩
   ·rcases Nat.lt_or_ge j i with h' | h'
    ·exact hq j hj h'
    ·have:j = i:=by omega
     subst this; exact h1
   ·refine Zg ?_ ?_ ?_ ?_ <;> repeat' first|exact trivial|refine q0 ?_|exact qb|exact q1|exact q2|exact q3|exact rfl|refine And.intro ?_ ?_|exact qA rfl|exact Inside.ptr _ _ _ (.inr ⟨rfl,rfl⟩)|exact Tm.ins _|exact Tm.Zj _ _|exact Am.ins _|exact Am.Zj _ _|refine Zd ?_|refine Tm.Zc ?_|refine Am.Zc ?_
    ·simp only [go_sem,simprocAttr]
     rw [IntWalk.i64_in _ (by omega)]; exact .refl _
    all_goals first | exact hfi _ | exact hxi _
 ·refine Za tok rfl rfl ?_
  simp only [go_sem,simprocAttr,Nat.not_lt.2 h]
  refine Zn rfl rfl rfl ?_
  refine Yh rfl rfl rfl rfl ?_
  refine Za tok rfl rfl ?_
  simp only [go_sem,simprocAttr]
  refine Zi rfl rfl ?_
  refine Ze ?_ (.int _ _) rfl
  rw [XV (fun j hj=>hq j hj (by omega))]
  exact .refl _
def Zmz (l:List (LInt)) (f:Nat) (caps:List AV) (H:Zf) (i:Nat):Zh :=
 ⟨[(8,.int .i64 i),(7,.int .i64 l.length),(1,.fn (.func f) caps),(0,.sl 1 (l.map Zw) .any)],[],H⟩
theorem Zoa (l:List (LInt)) (hl:l.length ≤ 1000000) (f:Nat) (caps:List AV) (p:(LInt) → Bool) (hp:WY f caps Zw l p):ZR Tryz.prog 297 [.sl 1 (l.map Zw) .any,.fn (.func f) caps] (.int .i64 (ZaG p l)):=by
 intro n H hn hT
 have hxi:∀ q,Inside n q (.sl 1 (l.map Zw) .any):=fun q=>(JV l).inside
 obtain ⟨⟨fn,c,hf⟩,hp,hbl⟩:=hp
 have hfi:∀ q,Inside n q (.fn (.func f) caps):=fun q=>(Below.fn _ _ fun i hi=>(hbl n).mem _ (List.getElem_mem hi)).inside
 refine Zm tok (Zb Tryz.func297 rfl rfl) (by simp) fun B=>?_
 refine Za tok rfl rfl ?_
 simp only [go_sem,simprocAttr]
 refine Za tok rfl rfl ?_
 simp only [go_sem,simprocAttr]
 repeat refine kn rfl ?_
 refine Ye (Zmz l f caps H) (fun i=>∀ j (h:j < l.length),j < i → p l[j] = false) l.length rfl ?_ (fun j _ h=>absurd h (Nat.not_lt_zero _)) ?_
 ·refine Zg ?_ ?_ ?_ ?_ <;> repeat' first|exact trivial|refine q0 ?_|exact qb|exact q1|exact q2|exact q3|exact rfl|refine And.intro ?_ ?_|exact qA rfl|exact Inside.ptr _ _ _ (.inr ⟨rfl,rfl⟩)|exact Tm.ins _|exact Tm.Zj _ _|exact Am.ins _|exact Am.Zj _ _|refine Zd ?_|refine Tm.Zc ?_|refine Am.Zc ?_
  all_goals first | exact hfi _ | exact hxi _
 intro i hi hq
 refine Yi rfl ?_
 rcases Nat.lt_or_ge i l.length with h | h
 ·refine Za tok rfl rfl ?_
  simp only [go_sem,simprocAttr,h]
  refine Zp rfl rfl rfl ?_
  refine Za tok rfl rfl ?_
  simp only [go_sem,simprocAttr]
  refine Za tok rfl rfl ?_
  simp only [go_sem,simprocAttr,getD_map Zw _ _ h,h]
  refine XM (avs:=[Zw l[i]]) rfl hf (hp l[i] (List.getElem_mem h) _ _ (Nat.succ_pos _) (hT.full hn)) rfl ?_
  cases h1:p l[i] with
  | true =>
   simp only [go_sem,simprocAttr]
   refine Zp rfl rfl rfl ?_
   refine Za tok rfl rfl ?_
   simp only [go_sem,simprocAttr]
   refine XO rfl rfl ?_
   refine Ze ?_ (.int _ _) rfl
   rw [Vp h h1 hq]
   exact .refl _
  | false =>
   simp only [go_sem,simprocAttr]
   refine Zn rfl rfl rfl ?_
   refine Za tok rfl rfl ?_
   simp only [go_sem,simprocAttr]
   refine Zt rfl ?_
   refine ⟨fun j hj hji=>?_,?_⟩
   ·rcases Nat.lt_or_ge j i with h' | h'
    ·exact hq j hj h'
    ·have:j = i:=by omega
     subst this; exact h1
   ·refine Zg ?_ ?_ ?_ ?_ <;> repeat' first|exact trivial|refine q0 ?_|exact qb|exact q1|exact q2|exact q3|exact rfl|refine And.intro ?_ ?_|exact qA rfl|exact Inside.ptr _ _ _ (.inr ⟨rfl,rfl⟩)|exact Tm.ins _|exact Tm.Zj _ _|exact Am.ins _|exact Am.Zj _ _|refine Zd ?_|refine Tm.Zc ?_|refine Am.Zc ?_
    ·simp only [go_sem,simprocAttr]
     rw [IntWalk.i64_in _ (by omega)]; exact .refl _
    all_goals first | exact hfi _ | exact hxi _
 ·refine Za tok rfl rfl ?_
  simp only [go_sem,simprocAttr,Nat.not_lt.2 h]
  refine Zn rfl rfl rfl ?_
  refine Yh rfl rfl rfl rfl ?_
  refine Za tok rfl rfl ?_
  simp only [go_sem,simprocAttr]
  refine Zi rfl rfl ?_
  refine Ze ?_ (.int _ _) rfl
  rw [XV (fun j hj=>hq j hj (by omega))]
  exact .refl _
theorem c52 (l:List (GL)) (hl:l.length ≤ 1000000) (f:Nat) (caps:List AV) (p:GL → Bool) (hp:WY f caps GL.enc l p):ZR Tryz.prog 52 [.sl 3 (l.map GL.enc) .any,.fn (.func f) caps] (.bool (l.any p)):=by
 intro n H hn hT
 refine Zm tok (Zb Tryz.func52 rfl rfl) (by simp) fun B=>?_
 refine Za tok rfl rfl ?_
 simp only [go_sem,simprocAttr]
 refine Za tok rfl rfl ?_
 simp only [go_sem,simprocAttr]
 refine ZH (Zb Tryz.func101 rfl rfl) (x101 l hl f caps p hp) hn hT rfl ?_
 simp only [go_sem,simprocAttr]
 refine Zi rfl rfl ?_
 refine Ze ?_ (.bool _) rfl
 simp only [go_sem,simprocAttr,V3]
 exact .refl _
theorem c54 (l:List (GE)) (hl:l.length ≤ 1000000) (f:Nat) (caps:List AV) (p:GE → Bool) (hp:WY f caps GE.enc l p):ZR Tryz.prog 54 [.sl 2 (l.map GE.enc) .any,.fn (.func f) caps] (.bool (l.any p)):=by
 intro n H hn hT
 refine Zm tok (Zb Tryz.func54 rfl rfl) (by simp) fun B=>?_
 refine Za tok rfl rfl ?_
 simp only [go_sem,simprocAttr]
 refine Za tok rfl rfl ?_
 simp only [go_sem,simprocAttr]
 refine ZH (Zb Tryz.func102 rfl rfl) (x102 l hl f caps p hp) hn hT rfl ?_
 simp only [go_sem,simprocAttr]
 refine Zi rfl rfl ?_
 refine Ze ?_ (.bool _) rfl
 simp only [go_sem,simprocAttr,V3]
 exact .refl _
theorem c55 (l:List (Am)) (hl:l.length ≤ 1000000) (f:Nat) (caps:List AV) (p:Am → Bool) (hp:WY f caps Am.enc l p):ZR Tryz.prog 55 [.sl 2 (l.map Am.enc) .any,.fn (.func f) caps] (.bool (l.any p)):=by
 intro n H hn hT
 refine Zm tok (Zb Tryz.func55 rfl rfl) (by simp) fun B=>?_
 refine Za tok rfl rfl ?_
 simp only [go_sem,simprocAttr]
 refine Za tok rfl rfl ?_
 simp only [go_sem,simprocAttr]
 refine ZH (Zb Tryz.func103 rfl rfl) (x103 l hl f caps p hp) hn hT rfl ?_
 simp only [go_sem,simprocAttr]
 refine Zi rfl rfl ?_
 refine Ze ?_ (.bool _) rfl
 simp only [go_sem,simprocAttr,V3]
 exact .refl _
theorem c56 (l:List (GB)) (hl:l.length ≤ 1000000) (f:Nat) (caps:List AV) (p:GB → Bool) (hp:WY f caps GB.enc l p):ZR Tryz.prog 56 [.sl 9 (l.map GB.enc) .any,.fn (.func f) caps] (.bool (l.any p)):=by
 intro n H hn hT
 refine Zm tok (Zb Tryz.func56 rfl rfl) (by simp) fun B=>?_
 refine Za tok rfl rfl ?_
 simp only [go_sem,simprocAttr]
 refine Za tok rfl rfl ?_
 simp only [go_sem,simprocAttr]
 refine ZH (Zb Tryz.func104 rfl rfl) (x104 l hl f caps p hp) hn hT rfl ?_
 simp only [go_sem,simprocAttr]
 refine Zi rfl rfl ?_
 refine Ze ?_ (.bool _) rfl
 simp only [go_sem,simprocAttr,V3]
 exact .refl _
theorem c62 (l:List (Ins)) (hl:l.length ≤ 1000000) (f:Nat) (caps:List AV) (p:Ins → Bool) (hp:WY f caps Ins.enc l p):ZR Tryz.prog 62 [.sl 8 (l.map Ins.enc) .any,.fn (.func f) caps] (.bool (l.any p)):=by
 intro n H hn hT
 refine Zm tok (Zb Tryz.func62 rfl rfl) (by simp) fun B=>?_
 refine Za tok rfl rfl ?_
 simp only [go_sem,simprocAttr]
 refine Za tok rfl rfl ?_
 simp only [go_sem,simprocAttr]
 refine ZH (Zb Tryz.func112 rfl rfl) (x112 l hl f caps p hp) hn hT rfl ?_
 simp only [go_sem,simprocAttr]
 refine Zi rfl rfl ?_
 refine Ze ?_ (.bool _) rfl
 simp only [go_sem,simprocAttr,V3]
 exact .refl _
theorem c66 (l:List (Str)) (hl:l.length ≤ 1000000) (f:Nat) (caps:List AV) (p:Str → Bool) (hp:WY f caps eStr l p):ZR Tryz.prog 66 [.sl 1 (l.map eStr) .any,.fn (.func f) caps] (.bool (l.any p)):=by
 intro n H hn hT
 refine Zm tok (Zb Tryz.func66 rfl rfl) (by simp) fun B=>?_
 refine Za tok rfl rfl ?_
 simp only [go_sem,simprocAttr]
 refine Za tok rfl rfl ?_
 simp only [go_sem,simprocAttr]
 refine ZH (Zb Tryz.func117 rfl rfl) (ZnP l hl f caps p hp) hn hT rfl ?_
 simp only [go_sem,simprocAttr]
 refine Zi rfl rfl ?_
 refine Ze ?_ (.bool _) rfl
 simp only [go_sem,simprocAttr,V3]
 exact .refl _
theorem Zj1 (l:List (LInt)) (hl:l.length ≤ 1000000) (f:Nat) (caps:List AV) (p:LInt → Bool) (hp:WY f caps Zw l p):ZR Tryz.prog 221 [.sl 1 (l.map Zw) .any,.fn (.func f) caps] (.bool (l.any p)):=by
 intro n H hn hT
 refine Zm tok (Zb Tryz.func221 rfl rfl) (by simp) fun B=>?_
 refine Za tok rfl rfl ?_
 simp only [go_sem,simprocAttr]
 refine Za tok rfl rfl ?_
 simp only [go_sem,simprocAttr]
 refine ZH (Zb Tryz.func297 rfl rfl) (Zoa l hl f caps p hp) hn hT rfl ?_
 simp only [go_sem,simprocAttr]
 refine Zi rfl rfl ?_
 refine Ze ?_ (.bool _) rfl
 simp only [go_sem,simprocAttr,V3]
 exact .refl _
end Go.Proofs.YthgbkalgmicniaaGreatDoor

/- Validity. -/
namespace Go.Proofs.YthgbkalgmicniaaGreatDoor
open Go.Abs
set_option maxRecDepth 100000
def wOk (least n:Int):Bool:=decide (least ≤ n) && decide (n ≤ 1048576)
def badL (l:GL):Bool:=!Yt l.a
def ZaI (e:GE):Bool:=(e.tuple.length == 0) || e.tuple.any (fun t=>!ZW t) || e.cond.any badL
def WA (b:GB):Bool:=if b.kind = 1 then badL b.lit else if b.kind = 3 then decide (b.fn < 1) || decide (2 < b.fn) || decide (b.op < 1) || decide (6 < b.op) || (b.op == 2) || decide (b.bound < -2147483647) || decide (2147483647 < b.bound) || b.elems.any ZaI else true
def Ya (x:Ins):Bool:=decide (1 ≤ x.kind) && decide (x.kind ≤ 3) && wOk (-1) x.lower && wOk (-1) x.upper && wOk 0 x.weight && decide (-2147483647 ≤ x.level) && decide (x.level ≤ 2147483647) &&
 !(x.tuple.any fun t=>!ZW t) && !(x.heads.any fun a=>!Yt a) && !(x.body.any WA)
structure _root_.Go.Abs.GE.Good (e:GE):Prop where
 tl:e.tuple.length ≤ 1000000
 t:∀ t ∈ e.tuple,t.Good
 cl:e.cond.length ≤ 1000000
 c:∀ l ∈ e.cond,l.a.Good
structure _root_.Go.Abs.GB.Good (b:GB):Prop where
 lit:b.lit.a.Good
 el:b.elems.length ≤ 1000000
 e:∀ e ∈ b.elems,e.Good
structure _root_.Go.Abs.Ins.Good (x:Ins):Prop where
 hl:x.heads.length ≤ 1000000
 h:∀ a ∈ x.heads,a.Good
 bl:x.body.length ≤ 1000000
 b:∀ b ∈ x.body,b.Good
 tl:x.tuple.length ≤ 1000000
 t:∀ t ∈ x.tuple,t.Good
theorem Zld (x y:Int):Pure Tryz.prog 44 [.int .i64 x,.int .i64 y] (.bool (wOk x y)):=by
 intro n H
 refine Zm tok (Zb Tryz.func44 rfl rfl) (by simp) fun B=>?_
 refine Za tok rfl rfl ?_
 simp only [go_sem,simprocAttr]
 refine Za tok rfl rfl ?_
 simp only [go_sem,simprocAttr]
 cases h1:decide (x ≤ y) with
 | false =>
  simp only [go_sem,simprocAttr,h1]
  refine Zi rfl rfl ?_
  refine Ze ?_ (.bool _) rfl
  try simp only [go_sem,simprocAttr,wOk,h1,Bool.false_and]
  exact .refl _
 | true =>
  simp only [go_sem,simprocAttr,h1]
  refine Zi rfl rfl ?_
  refine Ze ?_ (.bool _) rfl
  try simp only [go_sem,simprocAttr,wOk,h1,Bool.true_and]
  exact .refl _
theorem Zmw (t:Tm) (ht:t.Good):ZR Tryz.prog 45 [t.enc] (.bool (!ZW t)):=by
 intro n H hn hT
 refine Zm tok (Zb Tryz.func45 rfl rfl) (by simp) fun B=>?_
 refine Za tok rfl rfl ?_
 simp only [go_sem,simprocAttr]
 refine Za tok rfl rfl ?_
 simp only [go_sem,simprocAttr]
 refine ZH (Zb Tryz.func46 rfl rfl) (a37 t ht) hn hT rfl ?_
 simp only [go_sem,simprocAttr]
 refine Zi rfl rfl ?_
 refine Ze ?_ (.bool _) rfl
 try simp only [go_sem,simprocAttr]
 exact .refl _
theorem Zl9 (a:Am) (ha:a.Good):ZR Tryz.prog 47 [a.enc] (.bool (!Yt a)):=by
 intro n H hn hT
 refine Zm tok (Zb Tryz.func47 rfl rfl) (by simp) fun B=>?_
 refine Za tok rfl rfl ?_
 simp only [go_sem,simprocAttr]
 refine Za tok rfl rfl ?_
 simp only [go_sem,simprocAttr]
 refine ZH (Zb Tryz.func48 rfl rfl) (a14 a ha) hn hT rfl ?_
 simp only [go_sem,simprocAttr]
 refine Zi rfl rfl ?_
 refine Ze ?_ (.bool _) rfl
 try simp only [go_sem,simprocAttr]
 exact .refl _
abbrev cap47:AV:=.ZA [.fn (.func 47) []]
abbrev cap45:AV:=.ZA [.fn (.func 45) []]
abbrev cap49:AV:=.ZA [.fn (.func 49) [cap47]]
abbrev cap50:AV:=.ZA [.fn (.func 50) [cap45,cap49]]
theorem ZmY (l:GL) (hl:l.a.Good):ZR Tryz.prog 49 [l.enc,cap47] (.bool (badL l)):=by
 intro n H hn hT
 refine Zm tok (Zb Tryz.func49 rfl rfl) (by simp) fun B=>?_
 refine Za tok rfl rfl ?_
 simp only [go_sem,simprocAttr]
 refine Za tok rfl rfl ?_
 simp only [go_sem,simprocAttr]
 refine XM (caps:=[]) (avs:=[l.a.enc]) rfl (Zb Tryz.func47 rfl rfl) (by rw [List.append_nil]; exact Zl9 l.a hl _ _ (Nat.succ_pos _) (hT.full hn)) rfl ?_
 simp only [go_sem,simprocAttr]
 refine Zi rfl rfl ?_
 refine Ze ?_ (.bool _) rfl
 try simp only [go_sem,simprocAttr,badL]
 exact .refl _
theorem Zen {n f:Nat}:Below n (.fn (.func f) []):=.fn _ _ fun i hi=>absurd hi (Nat.not_lt_zero _)
theorem VW {n f:Nat} {cs:List AV} (h:Yj (fun c=>Below n c) cs):Below n (.fn (.func f) cs):=.fn _ _ fun i hi=>h.mem _ (List.getElem_mem hi)
theorem Vu {n:Nat}:Below n cap47:=Yd ⟨Zen,trivial⟩
theorem Zaw {n:Nat}:Below n cap45:=Yd ⟨Zen,trivial⟩
theorem Vx {n:Nat}:Below n cap49:=Yd ⟨VW ⟨Vu,trivial⟩,trivial⟩
theorem ZhX {n:Nat}:Below n cap50:=Yd ⟨VW ⟨Zaw,Vx,trivial⟩,trivial⟩
theorem ZnX (e:GE) (he:e.Good):ZR Tryz.prog 50 [e.enc,cap45,cap49] (.bool (ZaI e)):=by
 intro n H hn hT
 refine Zm tok (Zb Tryz.func50 rfl rfl) (by simp) fun B=>?_
 refine Za tok rfl rfl ?_
 simp only [go_sem,simprocAttr]
 refine Za tok rfl rfl ?_
 simp only [go_sem,simprocAttr]
 cases h1:((e.tuple.length:Int) == 0) with
 | true =>
  have h1':(e.tuple.length == 0) = true:=by simp at h1 ⊢; omega
  simp only [go_sem,simprocAttr,h1]
  refine Zi rfl rfl ?_
  refine Ze ?_ (.bool _) rfl
  try simp only [go_sem,simprocAttr,ZaI,h1',Bool.true_or]
  exact .refl _
 | false =>
  have h1':(e.tuple.length == 0) = false:=by simp at h1 ⊢; omega
  simp only [go_sem,simprocAttr,h1]
  refine ZH (Zb Tryz.func51 rfl rfl) (a46 e.tuple he.tl 45 [] (fun t=>!ZW t) ⟨⟨_,_,Zb Tryz.func45 rfl rfl⟩,fun t ht=>Zmw t (he.t t ht),fun _=>trivial⟩) hn hT rfl ?_
  simp only [go_sem,simprocAttr]
  cases h2:e.tuple.any (fun t=>!ZW t) with
  | true =>
   simp only [go_sem,simprocAttr]
   refine Zi rfl rfl ?_
   refine Ze ?_ (.bool _) rfl
   try simp only [go_sem,simprocAttr,ZaI,h1',h2,Bool.false_or,Bool.true_or]
   exact .refl _
  | false =>
   simp only [go_sem,simprocAttr]
   refine ZH (Zb Tryz.func52 rfl rfl) (c52 e.cond he.cl 49 [cap47] badL ⟨⟨_,_,Zb Tryz.func49 rfl rfl⟩,fun t ht=>ZmY t (he.c t ht),fun _=>⟨Vu,trivial⟩⟩) hn hT rfl ?_
   simp only [go_sem,simprocAttr]
   refine Zi rfl rfl ?_
   refine Ze ?_ (.bool _) rfl
   try simp only [go_sem,simprocAttr,ZaI,h1',h2,Bool.false_or]
   exact .refl _
theorem ZnW (b:GB) (hb:b.Good):ZR Tryz.prog 53 [b.enc,cap49,cap50] (.bool (WA b)):=by
 intro n H hn hT
 refine Zm tok (Zb Tryz.func53 rfl rfl) (by simp) fun B=>?_
 refine Za tok rfl rfl ?_
 simp only [go_sem,simprocAttr]
 refine Za tok rfl rfl ?_
 simp only [go_sem,simprocAttr]
 refine Za tok rfl rfl ?_
 simp only [go_sem,simprocAttr]
 by_cases hk:b.kind = 1
 ·refine Zp rfl rfl (by simp only [go_sem,simprocAttr,hk]) ?_
  refine Za tok rfl rfl ?_
  simp only [go_sem,simprocAttr]
  refine XM (caps:=[cap47]) (avs:=[b.lit.enc]) rfl (Zb Tryz.func49 rfl rfl) (ZmY b.lit hb.lit _ _ (Nat.succ_pos _) (hT.full hn)) rfl ?_
  simp only [go_sem,simprocAttr]
  refine Zi rfl rfl ?_
  refine Ze ?_ (.bool _) rfl
  try simp only [go_sem,simprocAttr,WA,hk,if_true]
  exact .refl _
 have hk':(b.kind == 1) = false:=by simpa using hk
 refine Zn rfl rfl (by simp only [go_sem,simprocAttr,hk']) ?_
 refine Za tok rfl rfl ?_
 simp only [go_sem,simprocAttr]
 by_cases hk3:b.kind = 3
 ·refine Zp rfl rfl (by simp only [go_sem,simprocAttr,hk3]) ?_
  refine Za tok rfl rfl ?_
  simp only [go_sem,simprocAttr]
  cases h1:decide (b.fn < 1) with
  | true =>
   simp only [go_sem,simprocAttr]
   refine Zi rfl rfl ?_
   refine Ze ?_ (.bool _) rfl
   try simp only [go_sem,simprocAttr,WA,hk,hk3,if_true,if_false,h1,Bool.true_or]
   exact .refl _
  | false =>
  simp only [go_sem,simprocAttr]
  cases h2:decide (2 < b.fn) with
  | true =>
   simp only [go_sem,simprocAttr]
   refine Zi rfl rfl ?_
   refine Ze ?_ (.bool _) rfl
   try simp only [go_sem,simprocAttr,WA,hk,hk3,if_true,if_false,h1,h2,Bool.true_or,Bool.or_true]
   exact .refl _
  | false =>
  simp only [go_sem,simprocAttr]
  cases h3:decide (b.op < 1) with
  | true =>
   simp only [go_sem,simprocAttr]
   refine Zi rfl rfl ?_
   refine Ze ?_ (.bool _) rfl
   try simp only [go_sem,simprocAttr,WA,hk,hk3,if_true,if_false,h1,h2,h3,Bool.true_or,Bool.or_true]
   exact .refl _
  | false =>
  simp only [go_sem,simprocAttr]
  cases h4:decide (6 < b.op) with
  | true =>
   simp only [go_sem,simprocAttr]
   refine Zi rfl rfl ?_
   refine Ze ?_ (.bool _) rfl
   try simp only [go_sem,simprocAttr,WA,hk,hk3,if_true,if_false,h1,h2,h3,h4,Bool.true_or,Bool.or_true]
   exact .refl _
  | false =>
  simp only [go_sem,simprocAttr]
  cases h5:(b.op == 2) with
  | true =>
   simp only [go_sem,simprocAttr]
   refine Zi rfl rfl ?_
   refine Ze ?_ (.bool _) rfl
   try simp only [go_sem,simprocAttr,WA,hk,hk3,if_true,if_false,h1,h2,h3,h4,h5,Bool.true_or,Bool.or_true]
   exact .refl _
  | false =>
  simp only [go_sem,simprocAttr]
  cases h6:decide (b.bound < -2147483647) with
  | true =>
   simp only [go_sem,simprocAttr]
   refine Zi rfl rfl ?_
   refine Ze ?_ (.bool _) rfl
   try simp only [go_sem,simprocAttr,WA,hk,hk3,if_true,if_false,h1,h2,h3,h4,h5,h6,Bool.true_or,Bool.or_true]
   exact .refl _
  | false =>
  simp only [go_sem,simprocAttr]
  cases h7:decide (2147483647 < b.bound) with
  | true =>
   simp only [go_sem,simprocAttr]
   refine Zi rfl rfl ?_
   refine Ze ?_ (.bool _) rfl
   try simp only [go_sem,simprocAttr,WA,hk,hk3,if_true,if_false,h1,h2,h3,h4,h5,h6,h7,Bool.true_or,Bool.or_true]
   exact .refl _
  | false =>
  simp only [go_sem,simprocAttr]
  refine ZH (Zb Tryz.func54 rfl rfl) (c54 b.elems hb.el 50 [cap45,cap49] ZaI ⟨⟨_,_,Zb Tryz.func50 rfl rfl⟩,fun t ht=>ZnX t (hb.e t ht),fun _=>⟨Zaw,Vx,trivial⟩⟩) hn hT rfl ?_
  simp only [go_sem,simprocAttr]
  refine Zi rfl rfl ?_
  refine Ze ?_ (.bool _) rfl
  try simp only [go_sem,simprocAttr,WA,hk,hk3,if_true,if_false,h1,h2,h3,h4,h5,h6,h7,Bool.false_or]
  exact .refl _
 have hk3':(b.kind == 3) = false:=by simpa using hk3
 refine Zn rfl rfl (by simp only [go_sem,simprocAttr,hk3']) ?_
 refine Za tok rfl rfl ?_
 simp only [go_sem,simprocAttr]
 refine Zi rfl rfl ?_
 refine Ze ?_ (.bool _) rfl
 try simp only [go_sem,simprocAttr,WA,hk,hk3,if_false]
 exact .refl _
end Go.Proofs.YthgbkalgmicniaaGreatDoor
