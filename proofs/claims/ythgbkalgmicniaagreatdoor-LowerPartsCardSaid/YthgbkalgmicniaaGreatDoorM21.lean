/- The reference's validity of lists of terms and of literals. -/
import Derived.Test.YthgbkalgmicniaaGreatDoorM11
import Derived.Test.YthgbkalgmicniaaGreatDoorM13
import Derived.Test.YthgbkalgmicniaaGreatDoorM12
import Derived.Test.YthgbkalgmicniaaGreatDoorM20
import Derived.Lib.ItoaLen
set_option linter.all false
namespace Go.Proofs.YthgbkalgmicniaaGreatDoor
open Go.Abs
set_option maxRecDepth 100000
def okL (g:GL):Bool:=Yt g.a
def Zkc (t:Tm):Prop:=t.Good
def ZnC (g:GL):Prop:=g.a.Good
def ZkG (l:List Tm) (H:Zf) (i:Nat):Zh:=⟨[(3,.int .i64 i),(0,.sl 4 (l.map Tm.enc) .any)],[],H⟩
theorem v57 (l:List Tm) (hl:l.length ≤ 1000000) (hg:∀ t ∈ l,Zkc t):ZR Tryz.prog 57 [.sl 4 (l.map Tm.enc) .any] (.bool (l.all ZW)):=by
 intro n H hn hT
 refine Zm tok (Zb Tryz.func57 rfl rfl) (by simp) fun B=>?_
 refine Za tok rfl rfl ?_
 simp only [go_sem,simprocAttr]
 refine Za tok rfl rfl ?_
 simp only [go_sem,simprocAttr]
 repeat refine kn rfl ?_
 refine Ye (ZkG l H) (fun i=>∀ j (h:j < l.length),j < i → ZW l[j] = true) l.length rfl ?_ (fun j _ h=>absurd h (Nat.not_lt_zero _)) ?_
 ·unfold ZkG
  refine Zg ?_ ?_ ?_ ?_ <;> repeat' first|exact trivial|refine q0 ?_|exact qb|exact q1|exact q2|exact q3|exact rfl|refine And.intro ?_ ?_|exact qA rfl|exact Inside.ptr _ _ _ (.inr ⟨rfl,rfl⟩)|exact Tm.ins _|exact Tm.Zj _ _|exact Am.ins _|exact Am.Zj _ _|refine Zd ?_|refine Tm.Zc ?_|refine Am.Zc ?_
  all_goals first | exact (ZB _).inside | skip
 intro i hi hq
 refine Yi rfl ?_
 unfold ZkG
 rcases Nat.lt_or_ge i l.length with h | h
 ·refine Za tok rfl rfl ?_
  simp only [go_sem,simprocAttr,h]
  refine Zp rfl rfl rfl ?_
  refine Za tok rfl rfl ?_
  simp only [go_sem,simprocAttr,getD_map Tm.enc _ _ h,h]
  refine ZH (Zb Tryz.func105 rfl rfl) (a48 l[i] (hg _ (List.getElem_mem h))) hn hT rfl ?_
  simp only [go_sem,simprocAttr]
  cases h5:ZW l[i] with
  | false =>
   have:l.all ZW = false:=by
    rw [List.all_eq_false]; exact ⟨_,List.getElem_mem h,by rw [h5]; simp⟩
   refine Zp rfl rfl (by simp only [go_sem,simprocAttr,h5]) ?_
   refine Za tok rfl rfl ?_
   simp only [go_sem,simprocAttr]
   refine XO rfl rfl ?_
   refine Ze ?_ (.bool _) rfl
   simp only [go_sem,simprocAttr,this]
   exact .refl _
  | true =>
   refine Zn rfl rfl (by simp only [go_sem,simprocAttr,h5]) ?_
   refine ZM rfl ?_
   refine Za tok rfl rfl ?_
   simp only [go_sem,simprocAttr]
   refine Zt rfl ?_
   refine ⟨fun j hj hji=>?_,?_⟩
   ·rcases Nat.lt_or_ge j i with h' | h'
    ·exact hq j hj h'
    ·have:j = i:=by omega
     subst this; exact h5
   ·refine Zg ?_ ?_ ?_ ?_ <;> repeat' first|exact trivial|refine q0 ?_|exact qb|exact q1|exact q2|exact q3|exact rfl|refine And.intro ?_ ?_|exact qA rfl|exact Inside.ptr _ _ _ (.inr ⟨rfl,rfl⟩)|exact Tm.ins _|exact Tm.Zj _ _|exact Am.ins _|exact Am.Zj _ _|refine Zd ?_|refine Tm.Zc ?_|refine Am.Zc ?_
    all_goals first | exact (ZB _).inside | skip
    simp only [go_sem,simprocAttr]
    rw [IntWalk.i64_in _ (by omega)]; exact .refl _
 ·refine Za tok rfl rfl ?_
  simp only [go_sem,simprocAttr,Nat.not_lt.2 h]
  refine Zn rfl rfl rfl ?_
  refine Yh rfl rfl rfl rfl ?_
  refine Za tok rfl rfl ?_
  simp only [go_sem,simprocAttr]
  refine Zi rfl rfl ?_
  refine Ze ?_ (.bool _) rfl
  have:l.all ZW = true:=by
   rw [List.all_eq_true]; intro x hx
   obtain ⟨j,hj,rfl⟩:=List.getElem_of_mem hx
   exact hq j hj (by omega)
  simp only [go_sem,simprocAttr,this]
  exact .refl _
def Zlc (l:List GL) (H:Zf) (i:Nat):Zh:=⟨[(3,.int .i64 i),(0,.sl 3 (l.map GL.enc) .any)],[],H⟩
theorem v59 (l:List GL) (hl:l.length ≤ 1000000) (hg:∀ t ∈ l,ZnC t):ZR Tryz.prog 59 [.sl 3 (l.map GL.enc) .any] (.bool (l.all okL)):=by
 intro n H hn hT
 refine Zm tok (Zb Tryz.func59 rfl rfl) (by simp) fun B=>?_
 refine Za tok rfl rfl ?_
 simp only [go_sem,simprocAttr]
 refine Za tok rfl rfl ?_
 simp only [go_sem,simprocAttr]
 repeat refine kn rfl ?_
 refine Ye (Zlc l H) (fun i=>∀ j (h:j < l.length),j < i → okL l[j] = true) l.length rfl ?_ (fun j _ h=>absurd h (Nat.not_lt_zero _)) ?_
 ·unfold Zlc
  refine Zg ?_ ?_ ?_ ?_ <;> repeat' first|exact trivial|refine q0 ?_|exact qb|exact q1|exact q2|exact q3|exact rfl|refine And.intro ?_ ?_|exact qA rfl|exact Inside.ptr _ _ _ (.inr ⟨rfl,rfl⟩)|exact Tm.ins _|exact Tm.Zj _ _|exact Am.ins _|exact Am.Zj _ _|refine Zd ?_|refine Tm.Zc ?_|refine Am.Zc ?_
  all_goals first | exact (Xm _).inside | skip
 intro i hi hq
 refine Yi rfl ?_
 unfold Zlc
 rcases Nat.lt_or_ge i l.length with h | h
 ·refine Za tok rfl rfl ?_
  simp only [go_sem,simprocAttr,h]
  refine Zp rfl rfl rfl ?_
  refine Za tok rfl rfl ?_
  simp only [go_sem,simprocAttr,getD_map GL.enc _ _ h,h]
  refine ZH (Zb Tryz.func58 rfl rfl) (a15 l[i].a (hg _ (List.getElem_mem h))) hn hT rfl ?_
  simp only [go_sem,simprocAttr]
  cases h5:okL l[i] with
  | false =>
   have:l.all okL = false:=by
    rw [List.all_eq_false]; exact ⟨_,List.getElem_mem h,by rw [h5]; simp⟩
   have h6:Yt l[i].a = false:=h5
   refine Zp rfl rfl (by simp only [go_sem,simprocAttr,h6]) ?_
   refine Za tok rfl rfl ?_
   simp only [go_sem,simprocAttr]
   refine XO rfl rfl ?_
   refine Ze ?_ (.bool _) rfl
   simp only [go_sem,simprocAttr,this]
   exact .refl _
  | true =>
   have h6:Yt l[i].a = true:=h5
   refine Zn rfl rfl (by simp only [go_sem,simprocAttr,h6]) ?_
   refine ZM rfl ?_
   refine Za tok rfl rfl ?_
   simp only [go_sem,simprocAttr]
   refine Zt rfl ?_
   refine ⟨fun j hj hji=>?_,?_⟩
   ·rcases Nat.lt_or_ge j i with h' | h'
    ·exact hq j hj h'
    ·have:j = i:=by omega
     subst this; exact h5
   ·refine Zg ?_ ?_ ?_ ?_ <;> repeat' first|exact trivial|refine q0 ?_|exact qb|exact q1|exact q2|exact q3|exact rfl|refine And.intro ?_ ?_|exact qA rfl|exact Inside.ptr _ _ _ (.inr ⟨rfl,rfl⟩)|exact Tm.ins _|exact Tm.Zj _ _|exact Am.ins _|exact Am.Zj _ _|refine Zd ?_|refine Tm.Zc ?_|refine Am.Zc ?_
    all_goals first | exact (Xm _).inside | skip
    simp only [go_sem,simprocAttr]
    rw [IntWalk.i64_in _ (by omega)]; exact .refl _
 ·refine Za tok rfl rfl ?_
  simp only [go_sem,simprocAttr,Nat.not_lt.2 h]
  refine Zn rfl rfl rfl ?_
  refine Yh rfl rfl rfl rfl ?_
  refine Za tok rfl rfl ?_
  simp only [go_sem,simprocAttr]
  refine Zi rfl rfl ?_
  refine Ze ?_ (.bool _) rfl
  have:l.all okL = true:=by
   rw [List.all_eq_true]; intro x hx
   obtain ⟨j,hj,rfl⟩:=List.getElem_of_mem hx
   exact hq j hj (by omega)
  simp only [go_sem,simprocAttr,this]
  exact .refl _
end Go.Proofs.YthgbkalgmicniaaGreatDoor

/- The reference's validity of an instance: the walk. -/
namespace Go.Proofs.YthgbkalgmicniaaGreatDoor
open Go.Abs
set_option maxRecDepth 100000
theorem YU {x:Ins} {p:Prop} (h:Ya x = true → ¬ p) (hp:p):Ya x = false:=by
 cases hv:Ya x with
 | false=>rfl
 | true=>exact absurd hp (h hv)
def w0 (n:Nat) (x:Ins) (H:Zf) (i:Nat):Zh:=⟨[(3,.int .i64 i),(1,.ptr n 1 0)],[(1,.box x.cs)],H⟩
def w1 (n:Nat) (x:Ins) (H:Zf) (i:Nat):Zh:=⟨[(4,.int .i64 i),(1,.ptr n 1 0)],[(1,.box x.cs)],H⟩
def w2 (n:Nat) (x:Ins) (b:GB) (H:Zf) (k m:Nat):Zh:=⟨[(6,.int .i64 m),(5,.ptr n 5 0),(4,.int .i64 k),(1,.ptr n 1 0)],[(1,.box x.cs),(5,.box b.cs)],H⟩
theorem v16 (x:Ins) (hx:x.Good):ZR Tryz.prog 16 [x.enc] (.bool (Ya x)):=by
 intro n H hn hT
 refine Zm tok (Zb Tryz.func16 rfl rfl) (by simp) fun B=>?_
 refine Za tok rfl rfl ?_
 simp only [go_sem,simprocAttr]
 refine Za tok rfl rfl ?_
 simp only [go_sem,simprocAttr]
 cases h1:decide (x.kind < 1) with
 | true =>
  have hv:Ya x = false:=YU (p:=decide (x.kind < 1) = true) (fun hv=>by have:=YC hv; simp only [decide_eq_true_eq]; omega) h1
  simp only [go_sem,simprocAttr,h1]
  refine Zp rfl rfl rfl ?_
  refine Za tok rfl rfl ?_
  simp only [go_sem,simprocAttr]
  refine Zi rfl rfl ?_
  refine Ze ?_ (.bool _) rfl
  simp only [go_sem,simprocAttr,hv]
  exact .refl _
 | false =>
 simp only [go_sem,simprocAttr,h1]
 cases h2:decide (3 < x.kind) with
 | true =>
  have hv:Ya x = false:=YU (p:=decide (3 < x.kind) = true) (fun hv=>by have:=YC hv; simp only [decide_eq_true_eq]; omega) h2
  simp only [go_sem,simprocAttr,h2]
  refine Zp rfl rfl rfl ?_
  refine Za tok rfl rfl ?_
  simp only [go_sem,simprocAttr]
  refine Zi rfl rfl ?_
  refine Ze ?_ (.bool _) rfl
  simp only [go_sem,simprocAttr,hv]
  exact .refl _
 | false =>
 simp only [go_sem,simprocAttr,h2]
 cases h3:decide (x.lower < -1) with
 | true =>
  have hv:Ya x = false:=YU (p:=decide (x.lower < -1) = true) (fun hv=>by have:=YC hv; simp only [decide_eq_true_eq]; omega) h3
  simp only [go_sem,simprocAttr,h3]
  refine Zp rfl rfl rfl ?_
  refine Za tok rfl rfl ?_
  simp only [go_sem,simprocAttr]
  refine Zi rfl rfl ?_
  refine Ze ?_ (.bool _) rfl
  simp only [go_sem,simprocAttr,hv]
  exact .refl _
 | false =>
 simp only [go_sem,simprocAttr,h3]
 cases h4:decide (1048576 < x.lower) with
 | true =>
  have hv:Ya x = false:=YU (p:=decide (1048576 < x.lower) = true) (fun hv=>by have:=YC hv; simp only [decide_eq_true_eq]; omega) h4
  simp only [go_sem,simprocAttr,h4]
  refine Zp rfl rfl rfl ?_
  refine Za tok rfl rfl ?_
  simp only [go_sem,simprocAttr]
  refine Zi rfl rfl ?_
  refine Ze ?_ (.bool _) rfl
  simp only [go_sem,simprocAttr,hv]
  exact .refl _
 | false =>
 simp only [go_sem,simprocAttr,h4]
 cases h5:decide (x.upper < -1) with
 | true =>
  have hv:Ya x = false:=YU (p:=decide (x.upper < -1) = true) (fun hv=>by have:=YC hv; simp only [decide_eq_true_eq]; omega) h5
  simp only [go_sem,simprocAttr,h5]
  refine Zp rfl rfl rfl ?_
  refine Za tok rfl rfl ?_
  simp only [go_sem,simprocAttr]
  refine Zi rfl rfl ?_
  refine Ze ?_ (.bool _) rfl
  simp only [go_sem,simprocAttr,hv]
  exact .refl _
 | false =>
 simp only [go_sem,simprocAttr,h5]
 cases h6:decide (1048576 < x.upper) with
 | true =>
  have hv:Ya x = false:=YU (p:=decide (1048576 < x.upper) = true) (fun hv=>by have:=YC hv; simp only [decide_eq_true_eq]; omega) h6
  simp only [go_sem,simprocAttr,h6]
  refine Zp rfl rfl rfl ?_
  refine Za tok rfl rfl ?_
  simp only [go_sem,simprocAttr]
  refine Zi rfl rfl ?_
  refine Ze ?_ (.bool _) rfl
  simp only [go_sem,simprocAttr,hv]
  exact .refl _
 | false =>
 simp only [go_sem,simprocAttr,h6]
 cases h7:decide (x.weight < 0) with
 | true =>
  have hv:Ya x = false:=YU (p:=decide (x.weight < 0) = true) (fun hv=>by have:=YC hv; simp only [decide_eq_true_eq]; omega) h7
  simp only [go_sem,simprocAttr,h7]
  refine Zp rfl rfl rfl ?_
  refine Za tok rfl rfl ?_
  simp only [go_sem,simprocAttr]
  refine Zi rfl rfl ?_
  refine Ze ?_ (.bool _) rfl
  simp only [go_sem,simprocAttr,hv]
  exact .refl _
 | false =>
 simp only [go_sem,simprocAttr,h7]
 cases h8:decide (1048576 < x.weight) with
 | true =>
  have hv:Ya x = false:=YU (p:=decide (1048576 < x.weight) = true) (fun hv=>by have:=YC hv; simp only [decide_eq_true_eq]; omega) h8
  simp only [go_sem,simprocAttr,h8]
  refine Zp rfl rfl rfl ?_
  refine Za tok rfl rfl ?_
  simp only [go_sem,simprocAttr]
  refine Zi rfl rfl ?_
  refine Ze ?_ (.bool _) rfl
  simp only [go_sem,simprocAttr,hv]
  exact .refl _
 | false =>
 simp only [go_sem,simprocAttr,h8]
 cases h9:decide (x.level < -2147483647) with
 | true =>
  have hv:Ya x = false:=YU (p:=decide (x.level < -2147483647) = true) (fun hv=>by have:=YC hv; simp only [decide_eq_true_eq]; omega) h9
  simp only [go_sem,simprocAttr,h9]
  refine Zp rfl rfl rfl ?_
  refine Za tok rfl rfl ?_
  simp only [go_sem,simprocAttr]
  refine Zi rfl rfl ?_
  refine Ze ?_ (.bool _) rfl
  simp only [go_sem,simprocAttr,hv]
  exact .refl _
 | false =>
 simp only [go_sem,simprocAttr,h9]
 cases h10:decide (2147483647 < x.level) with
 | true =>
  have hv:Ya x = false:=YU (p:=decide (2147483647 < x.level) = true) (fun hv=>by have:=YC hv; simp only [decide_eq_true_eq]; omega) h10
  simp only [go_sem,simprocAttr,h10]
  refine Zp rfl rfl rfl ?_
  refine Za tok rfl rfl ?_
  simp only [go_sem,simprocAttr]
  refine Zi rfl rfl ?_
  refine Ze ?_ (.bool _) rfl
  simp only [go_sem,simprocAttr,hv]
  exact .refl _
 | false =>
 simp only [go_sem,simprocAttr,h10]
 refine ZH (Zb Tryz.func57 rfl rfl) (v57 x.tuple hx.tl hx.t) hn hT rfl ?_
 simp only [go_sem,simprocAttr]
 cases h11:x.tuple.all ZW with
 | false =>
  have hv:Ya x = false:=YU (p:=x.tuple.all ZW = false) (fun hv=>by have:=(YC hv).2.2.2.2.2.1; rw [this]; simp) h11
  simp only [go_sem,simprocAttr,h11]
  refine Zp rfl rfl rfl ?_
  refine Za tok rfl rfl ?_
  simp only [go_sem,simprocAttr]
  refine Zi rfl rfl ?_
  refine Ze ?_ (.bool _) rfl
  simp only [go_sem,simprocAttr,hv]
  exact .refl _
 | true =>
 simp only [go_sem,simprocAttr,h11]
 refine Zn rfl rfl rfl ?_
 refine ZM rfl ?_
 refine Za tok rfl rfl ?_
 simp only [go_sem,simprocAttr]
 repeat refine kn rfl ?_
 refine Ye (w0 n x H) (fun i=>∀ j (h:j < x.heads.length),j < i → Yt x.heads[j] = true) x.heads.length rfl ?_ (fun j _ h=>absurd h (Nat.not_lt_zero _)) ?_
 ·unfold w0
  refine Zg ?_ ?_ ?_ ?_ <;> repeat' first|exact trivial|refine q0 ?_|exact qb|exact q1|exact q2|exact q3|exact rfl|refine And.intro ?_ ?_|exact qA rfl|exact Inside.ptr _ _ _ (.inr ⟨rfl,rfl⟩)|exact Tm.ins _|exact Tm.Zj _ _|exact Am.ins _|exact Am.Zj _ _|refine Zd ?_|refine Tm.Zc ?_|refine Am.Zc ?_
  all_goals first | exact (ZO _).inside | exact (ZF _).inside | exact (ZB _).inside | skip
 intro i hi hq
 refine Yi rfl ?_
 unfold w0
 have hhl:=hx.hl
 rcases Nat.lt_or_ge i x.heads.length with h | h
 ·refine Za tok rfl rfl ?_
  simp only [go_sem,simprocAttr,h]
  refine Zp rfl rfl rfl ?_
  refine Za tok rfl rfl ?_
  simp only [go_sem,simprocAttr,getD_map Am.enc _ _ h,h]
  refine ZH (Zb Tryz.func58 rfl rfl) (a15 x.heads[i] (hx.h _ (List.getElem_mem h))) hn hT rfl ?_
  simp only [go_sem,simprocAttr]
  cases h5:Yt x.heads[i] with
  | false =>
   have hv:Ya x = false:=YU (p:=Yt x.heads[i] = false) (fun hv=>by have:=(YC hv).2.2.2.2.2.2.1 _ (List.getElem_mem h); rw [this]; simp) h5
   refine Zp rfl rfl (by simp only [go_sem,simprocAttr,h5]) ?_
   refine Za tok rfl rfl ?_
   simp only [go_sem,simprocAttr]
   refine XO rfl rfl ?_
   refine Ze ?_ (.bool _) rfl
   simp only [go_sem,simprocAttr,hv]
   exact .refl _
  | true =>
   refine Zn rfl rfl (by simp only [go_sem,simprocAttr,h5]) ?_
   refine ZM rfl ?_
   refine Za tok rfl rfl ?_
   simp only [go_sem,simprocAttr]
   refine Zt rfl ?_
   refine ⟨fun j hj hji=>?_,?_⟩
   ·rcases Nat.lt_or_ge j i with h' | h'
    ·exact hq j hj h'
    ·have:j = i:=by omega
     subst this; exact h5
   ·refine Zg ?_ ?_ ?_ ?_ <;> repeat' first|exact trivial|refine q0 ?_|exact qb|exact q1|exact q2|exact q3|exact rfl|refine And.intro ?_ ?_|exact qA rfl|exact Inside.ptr _ _ _ (.inr ⟨rfl,rfl⟩)|exact Tm.ins _|exact Tm.Zj _ _|exact Am.ins _|exact Am.Zj _ _|refine Zd ?_|refine Tm.Zc ?_|refine Am.Zc ?_
    all_goals first | exact (ZO _).inside | exact (ZF _).inside | exact (ZB _).inside | skip
    simp only [go_sem,simprocAttr]
    rw [IntWalk.i64_in _ (by omega)]; exact .refl _
 ·refine Za tok rfl rfl ?_
  simp only [go_sem,simprocAttr,Nat.not_lt.2 h]
  refine Zn rfl rfl rfl ?_
  refine Yh rfl rfl rfl rfl ?_
  have hh:∀ a ∈ x.heads,Yt a = true:=fun a ha=>by
   obtain ⟨j,hj,rfl⟩:=List.getElem_of_mem ha
   exact hq j hj (by omega)
  refine Za tok rfl rfl ?_
  simp only [go_sem,simprocAttr]
  repeat refine kn rfl ?_
  refine Ye (w1 n x H) (fun k=>∀ j (h:j < x.body.length),j < k → WA x.body[j] = false) x.body.length rfl ?_ (fun j _ h=>absurd h (Nat.not_lt_zero _)) ?_
  ·unfold w1
   refine Zg ?_ ?_ ?_ ?_ <;> repeat' first|exact trivial|refine q0 ?_|exact qb|exact q1|exact q2|exact q3|exact rfl|refine And.intro ?_ ?_|exact qA rfl|exact Inside.ptr _ _ _ (.inr ⟨rfl,rfl⟩)|exact Tm.ins _|exact Tm.Zj _ _|exact Am.ins _|exact Am.Zj _ _|refine Zd ?_|refine Tm.Zc ?_|refine Am.Zc ?_
   all_goals first | exact (ZO _).inside | exact (ZF _).inside | exact (ZB _).inside | exact (Zx _).inside | skip
  intro k hk hqb
  refine Yi rfl ?_
  unfold w1
  have hbl:=hx.bl
  rcases Nat.lt_or_ge k x.body.length with hB | hB
  ·have hgb:∀ d,(x.body.map GB.enc).getD k d = x.body[k].enc:=fun d=>getD_map GB.enc _ _ hB d
   have hbg:=hx.b _ (List.getElem_mem hB)
   have hnv:WA x.body[k] = true → Ya x = false:=fun h5=>YU (p:=WA x.body[k] = true) (fun hv=>by have:=(YC hv).2.2.2.2.2.2.2 _ (List.getElem_mem hB); rw [this]; simp) h5
   have hnx:WA x.body[k] = false → ∀ j (h:j < x.body.length),j < k + 1 → WA x.body[j] = false:=fun h5 j hj hji=>by
    rcases Nat.lt_or_ge j k with h' | h'
    ·exact hqb j hj h'
    ·have:j = k:=by omega
     subst this; exact h5
   obtain ⟨b,hb⟩:∃ b,b = x.body[k]:=⟨_,rfl⟩
   rw [← hb] at hgb hbg hnv hnx
   refine Za tok rfl rfl ?_
   simp only [go_sem,simprocAttr,hB]
   refine Zp rfl rfl rfl ?_
   refine Za tok rfl rfl ?_
   simp only [go_sem,simprocAttr,hgb,hB]
   refine Za tok rfl rfl ?_
   simp only [go_sem,simprocAttr]
   by_cases hk1:b.kind = 1
   ·have e1:(b.kind == 1) = true:=by simpa using hk1
    have eb:WA b = !Yt b.lit.a:=by unfold WA badL; rw [if_pos hk1]
    refine Za tok rfl rfl ?_
    simp only [go_sem,simprocAttr,e1]
    refine Zp rfl rfl rfl ?_
    refine Za tok rfl rfl ?_
    simp only [go_sem,simprocAttr]
    refine ZH (Zb Tryz.func58 rfl rfl) (a15 b.lit.a hbg.lit) hn hT rfl ?_
    simp only [go_sem,simprocAttr]
    cases h5:Yt b.lit.a with
    | false =>
     refine Zp rfl rfl (by simp only [go_sem,simprocAttr,h5]) ?_
     refine Za tok rfl rfl ?_
     simp only [go_sem,simprocAttr]
     refine XO rfl rfl ?_
     refine Ze ?_ (.bool _) rfl
     simp only [go_sem,simprocAttr,hnv (by rw [eb,h5]; rfl)]
     exact .refl _
    | true =>
     refine Zn rfl rfl (by simp only [go_sem,simprocAttr,h5]) ?_
     refine ZM rfl ?_
     refine Za tok rfl rfl ?_
     simp only [go_sem,simprocAttr]
     refine Zt rfl ?_
     refine ⟨hnx (by rw [eb,h5]; rfl),?_⟩
     refine Zg ?_ ?_ ?_ ?_ <;> repeat' first|exact trivial|refine q0 ?_|exact qb|exact q1|exact q2|exact q3|exact rfl|refine And.intro ?_ ?_|exact qA rfl|exact Inside.ptr _ _ _ (.inr ⟨rfl,rfl⟩)|exact Tm.ins _|exact Tm.Zj _ _|exact Am.ins _|exact Am.Zj _ _|refine Zd ?_|refine Tm.Zc ?_|refine Am.Zc ?_
     ·simp only [go_sem,simprocAttr]
      rw [IntWalk.i64_in _ (by omega)]; exact .refl _
     all_goals first | exact (ZO _).inside | exact (ZF _).inside | exact (ZB _).inside | exact (Zx _).inside | skip
   have e1:(b.kind == 1) = false:=by simpa using hk1
   by_cases hk3:b.kind = 3
   ·have e3:(b.kind == 3) = true:=by simpa using hk3
    refine Za tok rfl rfl ?_
    simp only [go_sem,simprocAttr,e1]
    refine Zn rfl rfl rfl ?_
    refine Za tok rfl rfl ?_
    simp only [go_sem,simprocAttr,e3]
    refine Zp rfl rfl rfl ?_
    have eb:WA b = (decide (b.fn < 1) || decide (2 < b.fn) || decide (b.op < 1) || decide (6 < b.op) || (b.op == 2) || decide (b.bound < -2147483647) || decide (2147483647 < b.bound) || b.elems.any ZaI):=by unfold WA; rw [if_neg hk1,if_pos hk3]
    refine Za tok rfl rfl ?_
    simp only [go_sem,simprocAttr]
    cases g1:decide (b.fn < 1) with
    | true =>
     simp only [go_sem,simprocAttr,g1]
     refine Zp rfl rfl rfl ?_
     refine Za tok rfl rfl ?_
     simp only [go_sem,simprocAttr]
     refine XO rfl rfl ?_
     refine Ze ?_ (.bool _) rfl
     simp only [go_sem,simprocAttr,hnv (by rw [eb,g1]; simp)]
     exact .refl _
    | false =>
    simp only [go_sem,simprocAttr,g1]
    cases g2:decide (2 < b.fn) with
    | true =>
     simp only [go_sem,simprocAttr,g2]
     refine Zp rfl rfl rfl ?_
     refine Za tok rfl rfl ?_
     simp only [go_sem,simprocAttr]
     refine XO rfl rfl ?_
     refine Ze ?_ (.bool _) rfl
     simp only [go_sem,simprocAttr,hnv (by rw [eb,g2]; simp)]
     exact .refl _
    | false =>
    simp only [go_sem,simprocAttr,g2]
    cases g3:decide (b.op < 1) with
    | true =>
     simp only [go_sem,simprocAttr,g3]
     refine Zp rfl rfl rfl ?_
     refine Za tok rfl rfl ?_
     simp only [go_sem,simprocAttr]
     refine XO rfl rfl ?_
     refine Ze ?_ (.bool _) rfl
     simp only [go_sem,simprocAttr,hnv (by rw [eb,g3]; simp)]
     exact .refl _
    | false =>
    simp only [go_sem,simprocAttr,g3]
    cases g4:decide (6 < b.op) with
    | true =>
     simp only [go_sem,simprocAttr,g4]
     refine Zp rfl rfl rfl ?_
     refine Za tok rfl rfl ?_
     simp only [go_sem,simprocAttr]
     refine XO rfl rfl ?_
     refine Ze ?_ (.bool _) rfl
     simp only [go_sem,simprocAttr,hnv (by rw [eb,g4]; simp)]
     exact .refl _
    | false =>
    simp only [go_sem,simprocAttr,g4]
    cases g5:(b.op == 2) with
    | true =>
     simp only [go_sem,simprocAttr,g5]
     refine Zp rfl rfl rfl ?_
     refine Za tok rfl rfl ?_
     simp only [go_sem,simprocAttr]
     refine XO rfl rfl ?_
     refine Ze ?_ (.bool _) rfl
     simp only [go_sem,simprocAttr,hnv (by rw [eb,g5]; simp)]
     exact .refl _
    | false =>
    simp only [go_sem,simprocAttr,g5]
    cases g6:decide (2147483647 < b.bound) with
    | true =>
     simp only [go_sem,simprocAttr,g6]
     refine Zp rfl rfl rfl ?_
     refine Za tok rfl rfl ?_
     simp only [go_sem,simprocAttr]
     refine XO rfl rfl ?_
     refine Ze ?_ (.bool _) rfl
     simp only [go_sem,simprocAttr,hnv (by rw [eb,g6]; simp)]
     exact .refl _
    | false =>
    simp only [go_sem,simprocAttr,g6]
    cases g7:decide (b.bound < -2147483647) with
    | true =>
     refine Zp rfl rfl rfl ?_
     refine Za tok rfl rfl ?_
     simp only [go_sem,simprocAttr]
     refine XO rfl rfl ?_
     refine Ze ?_ (.bool _) rfl
     simp only [go_sem,simprocAttr,hnv (by rw [eb,g7]; simp)]
     exact .refl _
    | false =>
    refine Zn rfl rfl rfl ?_
    refine ZM rfl ?_
    refine Za tok rfl rfl ?_
    simp only [go_sem,simprocAttr]
    repeat refine kn rfl ?_
    refine Ye (w2 n x b H k) (fun m=>∀ j (h:j < b.elems.length),j < m → ZaI b.elems[j] = false) b.elems.length rfl ?_ (fun j _ h=>absurd h (Nat.not_lt_zero _)) ?_
    ·unfold w2
     refine Zg ?_ ?_ ?_ ?_ <;> repeat' first|exact trivial|refine q0 ?_|exact qb|exact q1|exact q2|exact q3|exact rfl|refine And.intro ?_ ?_|exact qA rfl|exact Inside.ptr _ _ _ (.inr ⟨rfl,rfl⟩)|exact Tm.ins _|exact Tm.Zj _ _|exact Am.ins _|exact Am.Zj _ _|refine Zd ?_|refine Tm.Zc ?_|refine Am.Zc ?_
     all_goals first | exact (ZO _).inside | exact (ZF _).inside | exact (ZB _).inside | exact (Zx _).inside | skip
    intro m hm hqe
    refine Yi rfl ?_
    unfold w2
    have hel:=hbg.el
    rcases Nat.lt_or_ge m b.elems.length with hE | hE
    ·have hge:∀ d,(b.elems.map GE.enc).getD m d = b.elems[m].enc:=fun d=>getD_map GE.enc _ _ hE d
     have heg:=hbg.e _ (List.getElem_mem hE)
     have hne:ZaI b.elems[m] = true → WA b = true:=fun h=>by
      rw [eb,show b.elems.any ZaI = true from List.any_eq_true.2 ⟨_,List.getElem_mem hE,h⟩]; simp
     obtain ⟨e,he⟩:∃ e,e = b.elems[m]:=⟨_,rfl⟩
     have hnx2:ZaI b.elems[m] = false → ∀ j (h:j < b.elems.length),j < m + 1 → ZaI b.elems[j] = false:=fun h5 j hj hji=>by
      rcases Nat.lt_or_ge j m with h' | h'
      ·exact hqe j hj h'
      ·have:j = m:=by omega
       subst this; exact h5
     rw [← he] at hge heg hne hnx2
     have ee:ZaI e = ((e.tuple.length == 0) || !(e.tuple.all ZW) || !(e.cond.all okL)):=by
      unfold ZaI okL badL
      rw [List.not_all_eq_any_not,List.not_all_eq_any_not]
     have ei:((e.tuple.length:Int) == 0) = (e.tuple.length == 0):=by rw [Bool.eq_iff_iff]; simp
     refine Za tok rfl rfl ?_
     simp only [go_sem,simprocAttr,hE]
     refine Zp rfl rfl rfl ?_
     refine Za tok rfl rfl ?_
     simp only [go_sem,simprocAttr,hge,hE,ei]
     cases f1:(e.tuple.length == 0) with
     | true =>
      simp only [go_sem,simprocAttr,f1]
      refine Zp rfl rfl rfl ?_
      refine Za tok rfl rfl ?_
      simp only [go_sem,simprocAttr]
      refine XO rfl rfl ?_
      refine ZaX ?_ _
      refine Ze ?_ (.bool _) rfl
      simp only [go_sem,simprocAttr,hnv (hne (by rw [ee,f1]; simp))]
      exact .refl _
     | false =>
     simp only [go_sem,simprocAttr,f1,hge,hE]
     refine ZH (Zb Tryz.func57 rfl rfl) (v57 e.tuple heg.tl heg.t) hn hT (by simp only [go_sem,simprocAttr,hge,hE]) ?_
     simp only [go_sem,simprocAttr,hge,hE]
     cases f2:e.tuple.all ZW with
     | false =>
      simp only [go_sem,simprocAttr,f2]
      refine Zp rfl rfl rfl ?_
      refine Za tok rfl rfl ?_
      simp only [go_sem,simprocAttr]
      refine XO rfl rfl ?_
      refine ZaX ?_ _
      refine Ze ?_ (.bool _) rfl
      simp only [go_sem,simprocAttr,hnv (hne (by rw [ee,f2]; simp))]
      exact .refl _
     | true =>
     simp only [go_sem,simprocAttr,f2,hge,hE]
     refine ZH (Zb Tryz.func59 rfl rfl) (v59 e.cond heg.cl heg.c) hn hT (by simp only [go_sem,simprocAttr,hge,hE]) ?_
     simp only [go_sem,simprocAttr,hge,hE]
     cases f3:e.cond.all okL with
     | false =>
      refine Zp rfl rfl rfl ?_
      refine Za tok rfl rfl ?_
      simp only [go_sem,simprocAttr]
      refine XO rfl rfl ?_
      refine ZaX ?_ _
      refine Ze ?_ (.bool _) rfl
      simp only [go_sem,simprocAttr,hnv (hne (by rw [ee,f3]; simp))]
      exact .refl _
     | true =>
     refine Zn rfl rfl rfl ?_
     refine ZM rfl ?_
     refine Za tok rfl rfl ?_
     simp only [go_sem,simprocAttr]
     refine Zt rfl ?_
     refine ⟨hnx2 (by rw [ee,f1,f2,f3]; rfl),?_⟩
     refine Zg ?_ ?_ ?_ ?_ <;> repeat' first|exact trivial|refine q0 ?_|exact qb|exact q1|exact q2|exact q3|exact rfl|refine And.intro ?_ ?_|exact qA rfl|exact Inside.ptr _ _ _ (.inr ⟨rfl,rfl⟩)|exact Tm.ins _|exact Tm.Zj _ _|exact Am.ins _|exact Am.Zj _ _|refine Zd ?_|refine Tm.Zc ?_|refine Am.Zc ?_
     ·simp only [go_sem,simprocAttr]
      rw [IntWalk.i64_in _ (by omega)]; exact .refl _
     all_goals first | exact (ZO _).inside | exact (ZF _).inside | exact (ZB _).inside | exact (Zx _).inside | skip
    ·refine Za tok rfl rfl ?_
     simp only [go_sem,simprocAttr,Nat.not_lt.2 hE]
     refine Zn rfl rfl rfl ?_
     refine Yh rfl rfl rfl rfl ?_
     have hea:b.elems.any ZaI = false:=by
      rw [List.any_eq_false]; intro e he
      obtain ⟨j,hj,rfl⟩:=List.getElem_of_mem he
      rw [hqe j hj (by omega)]; simp
     refine Za tok rfl rfl ?_
     simp only [go_sem,simprocAttr]
     refine Zt rfl ?_
     refine ⟨hnx (by rw [eb,g1,g2,g3,g4,g5,g6,g7,hea]; rfl),?_⟩
     refine Zg ?_ ?_ ?_ ?_ <;> repeat' first|exact trivial|refine q0 ?_|exact qb|exact q1|exact q2|exact q3|exact rfl|refine And.intro ?_ ?_|exact qA rfl|exact Inside.ptr _ _ _ (.inr ⟨rfl,rfl⟩)|exact Tm.ins _|exact Tm.Zj _ _|exact Am.ins _|exact Am.Zj _ _|refine Zd ?_|refine Tm.Zc ?_|refine Am.Zc ?_
     ·simp only [go_sem,simprocAttr]
      rw [IntWalk.i64_in _ (by omega)]; exact .refl _
     all_goals first | exact (ZO _).inside | exact (ZF _).inside | exact (ZB _).inside | exact (Zx _).inside | skip
   ·have e3:(b.kind == 3) = false:=by simpa using hk3
    refine Za tok rfl rfl ?_
    simp only [go_sem,simprocAttr,e1]
    refine Zn rfl rfl rfl ?_
    refine Za tok rfl rfl ?_
    simp only [go_sem,simprocAttr,e3]
    refine Zn rfl rfl rfl ?_
    refine Za tok rfl rfl ?_
    simp only [go_sem,simprocAttr]
    refine XO rfl rfl ?_
    refine Ze ?_ (.bool _) rfl
    simp only [go_sem,simprocAttr,hnv (by unfold WA; rw [if_neg hk1,if_neg hk3])]
    exact .refl _
  ·refine Za tok rfl rfl ?_
   simp only [go_sem,simprocAttr,Nat.not_lt.2 hB]
   refine Zn rfl rfl rfl ?_
   refine Yh rfl rfl rfl rfl ?_
   have hbb:∀ b ∈ x.body,WA b = false:=fun b hb=>by
    obtain ⟨j,hj,rfl⟩:=List.getElem_of_mem hb
    exact hqb j hj (by omega)
   refine Za tok rfl rfl ?_
   simp only [go_sem,simprocAttr]
   refine Zi rfl rfl ?_
   have hv:Ya x = true:=by
    simp only [decide_eq_false_iff_not] at h1 h2 h3 h4 h5 h6 h7 h8 h9 h10
    unfold Ya wOk
    simp only [Bool.and_eq_true,decide_eq_true_eq,Bool.not_eq_true',List.any_eq_false]
    refine ⟨⟨⟨⟨⟨⟨⟨⟨⟨by omega,by omega⟩,by omega,by omega⟩,by omega,by omega⟩,by omega,by omega⟩,by omega⟩,by omega⟩,fun t ht=>by simp [List.all_eq_true.1 h11 t ht]⟩,fun a ha=>by simp [hh a ha]⟩,fun b hb=>by simp [hbb b hb]⟩
   refine Ze ?_ (.bool _) rfl
   simp only [go_sem,simprocAttr,hv]
   exact .refl _
end Go.Proofs.YthgbkalgmicniaaGreatDoor

/- The reference's texts: numbers, terms, names. -/
namespace Go.Proofs.YthgbkalgmicniaaGreatDoor
open Go.Abs
set_option maxRecDepth 100000
theorem td242:Z7 tt 242 = some (.slice 5):=rfl
theorem ZkM (d:Nat) (h:d < 10):IntKind.u8.wrap (48 + IntKind.u8.wrap (d:Int)) = ((48 + d:Nat):Int):=by
 rw [IntKind.wrap_u8,IntKind.wrap_u8]; omega
theorem ZkV (d:Nat) (h:d < 10):UInt8.ofNat ((48 + d:Nat):Int).toNat = UInt8.ofNat (48 + d):=rfl
theorem ZlD (u:Nat) (hu:u < 18446744073709551616):Pure Tryz.prog 276 [.int .u64 u] (.str (Lib.decDigits u)):=by
 intro n H
 have e1:((u:Int).tmod 10) = ((u % 10:Nat):Int):=rfl
 have e2:((u:Int).tdiv 10) = ((u / 10:Nat):Int):=rfl
 have e3:=ZkM (u % 10) (by omega)
 have e4:IntKind.u64.wrap ((u / 10:Nat):Int) = ((u / 10:Nat):Int):=by rw [IntKind.wrap_u64]; omega
 refine Zm tok (Zb Tryz.func276 rfl rfl) (by simp) fun B=>?_
 refine Za tok rfl rfl ?_
 simp only [go_sem,simprocAttr]
 refine Za tok rfl rfl ?_
 simp only [go_sem,simprocAttr,td242,e1,e3,ZkV]
 refine ⟨rfl,?_⟩
 refine Za tok rfl rfl ?_
 simp only [go_sem,simprocAttr]
 by_cases h:u < 10
 ·have e:decide (9 < (u:Int)) = false:=decide_eq_false (by omega)
  refine Zn rfl rfl (by simp only [go_sem,simprocAttr,e]) ?_
  refine ZM rfl ?_
  refine Za tok rfl rfl ?_
  simp only [go_sem,simprocAttr]
  refine Zi rfl rfl ?_
  refine Ze ?_ (.str _) rfl
  have:u % 10 = u:=Nat.mod_eq_of_lt h
  rw [Lib.decDigits,dif_pos h]
  simp only [go_sem,simprocAttr,this]
  exact .refl _
 ·have e:decide (9 < (u:Int)) = true:=decide_eq_true (by omega)
  have hl:=Lib.nDigits_le20 (u / 10) (by omega)
  refine Zp rfl rfl (by simp only [go_sem,simprocAttr,e]) ?_
  refine Za tok rfl rfl ?_
  simp only [go_sem,simprocAttr,e2,e4]
  refine Zq (Zb Tryz.func276 rfl rfl) (ZlD (u / 10) (by omega)) rfl ?_
  simp only [go_sem,simprocAttr]
  refine ⟨by rw [Lib.decDigits_length]; (try simp only [List.length_cons,List.length_nil]); omega,?_⟩
  refine Za tok rfl rfl ?_
  simp only [go_sem,simprocAttr]
  refine Zi rfl rfl ?_
  refine Ze ?_ (.str _) rfl
  have hd:Lib.decDigits u = Lib.decDigits (u / 10) ++ [UInt8.ofNat (48 + u % 10)]:=by rw [Lib.decDigits,dif_neg h]
  rw [hd]
  simp only [go_sem,simprocAttr]
  exact .refl _
theorem Zhm (l:List (List UInt8)) (i:Nat) (h:i < l.length):Lib.join (l.take (i + 1)) [44] = (if 0 < i then Lib.join (l.take i) [44] ++ [44] else []) ++ l[i]:=by
 cases l with
 | nil=>simp at h
 | cons x r =>
  cases i with
  | zero=>simp [Lib.join_one]
  | succ k =>
   rw [if_pos (by omega),List.take_succ_cons,List.take_succ_cons,Lib.join_cons,Lib.join_cons,Lib.joinTail_take_succ [44] r k (r[k]'(by simp at h; omega)) (by simp at h; simp [h])]
   simp [List.append_assoc]
theorem Vo (l:List (List UInt8)) (i:Nat):(Lib.join (l.take i) [44]).length ≤ (Lib.join l [44]).length:=by
 cases l with
 | nil=>simp
 | cons x r =>
  cases i with
  | zero=>simp [Lib.join_nil]
  | succ k =>
   rw [List.take_succ_cons,Lib.join_cons,Lib.join_cons]
   have:=Lib.joinTail_take_le [44] r k
   simp only [List.length_append]; omega
theorem v193 (u:Int) (h0:-2147483647 ≤ u) (h1:u ≤ 2147483647):Pure Tryz.prog 193 [.int .i64 u] (.str (Lib.itoa u)):=by
 intro n H
 refine Zm tok (Zb Tryz.func193 rfl rfl) (by simp) fun B=>?_
 refine Za tok rfl rfl ?_
 simp only [go_sem,simprocAttr]
 rcases Int.lt_or_le u 0 with h | h
 ·obtain ⟨m,rfl⟩:∃ m:Nat,u = -(m:Int):=⟨u.natAbs,by omega⟩
  have e:decide (-(m:Int) < 0) = true:=decide_eq_true h
  have e1:IntKind.u64.wrap (IntKind.u64.wrap (IntKind.i64.wrap (0 - IntKind.i64.wrap (-(m:Int) + 1))) + 1) = (m:Int):=by
   rw [show IntKind.i64.wrap (-(m:Int) + 1) = -(m:Int) + 1 from IntWalk.i64_in _ (by omega),show IntKind.i64.wrap (0 - (-(m:Int) + 1)) = (m:Int) - 1 from (IntWalk.i64_in _ (by omega)).trans (by omega),IntKind.wrap_u64,IntKind.wrap_u64]; omega
  have hl:=Lib.nDigits_le20 m (by omega)
  refine Za tok rfl rfl ?_
  simp only [go_sem,simprocAttr,e]
  refine Zp rfl rfl rfl ?_
  refine Za tok rfl rfl ?_
  simp only [go_sem,simprocAttr,e1]
  refine Zq (Zb Tryz.func276 rfl rfl) (ZlD m (by omega)) rfl ?_
  simp only [go_sem,simprocAttr]
  refine ⟨by rw [Lib.decDigits_length]; (try simp only [List.length_cons,List.length_nil]); omega,?_⟩
  refine Zi rfl rfl ?_
  refine Ze ?_ (.str _) rfl
  rw [Lib.itoa_neg m (by omega)]
  exact .refl _
 ·obtain ⟨m,rfl⟩:∃ m:Nat,u = (m:Int):=⟨u.toNat,by omega⟩
  have e:decide ((m:Int) < 0) = false:=decide_eq_false (by omega)
  have e1:IntKind.u64.wrap (m:Int) = (m:Int):=by rw [IntKind.wrap_u64]; omega
  refine Za tok rfl rfl ?_
  simp only [go_sem,simprocAttr,e]
  refine Zn rfl rfl rfl ?_
  refine ZM rfl ?_
  refine Za tok rfl rfl ?_
  simp only [go_sem,simprocAttr,e1]
  refine Zq (Zb Tryz.func276 rfl rfl) (ZlD m (by omega)) rfl ?_
  simp only [go_sem,simprocAttr]
  refine Zi rfl rfl ?_
  refine Ze ?_ (.str _) rfl
  rw [Lib.itoa_nonneg m]
  exact .refl _
def ZkP (t:Tm) (n:Nat) (H:Zf) (i:Nat):Zh :=
 ⟨[(4,.int .i64 i),(3,.str ((t.name ++ [40]) ++ Lib.join ((t.args.map txt).take i) [44])),(1,.ptr n 1 0)],[(1,.box t.cs)],H⟩
theorem ZlC (t:Tm) (ht:t.Good) (hv:t.all okv = true):Pure Tryz.prog 111 [t.enc] (.str (txt t)):=by
 intro n H
 have hs:=ht.name
 have hlen:=ht.len
 refine Zm tok (Zb Tryz.func111 rfl rfl) (by simp) fun B=>?_
 refine Za tok rfl rfl ?_
 simp only [go_sem,simprocAttr]
 refine Za tok rfl rfl ?_
 simp only [go_sem,simprocAttr]
 repeat refine kn rfl ?_
 rcases Zb4 (Zbc hv) with ⟨h1,h2,h3,h4,h5⟩ | ⟨h1,h2,h3,h4⟩ | ⟨h1,h2,h3,h4,h5⟩
 ·have e1:(t.kind == 1) = true:=by simp [h1]
  refine Za tok rfl rfl ?_
  simp only [go_sem,simprocAttr,e1]
  refine Zp rfl rfl rfl ?_
  refine Za tok rfl rfl ?_
  simp only [go_sem,simprocAttr]
  refine Zq (Zb Tryz.func193 rfl rfl) (v193 t.num (by omega) (by omega)) rfl ?_
  simp only [go_sem,simprocAttr]
  refine Zi rfl rfl ?_
  refine Ze ?_ (.str _) rfl
  rw [Jm,if_pos h1]
  exact .refl _
 ·have e1:(t.kind == 1) = false:=by simp [h1]
  have e2:(t.kind == 2) = true:=by simp [h1]
  refine Za tok rfl rfl ?_
  simp only [go_sem,simprocAttr,e1]
  refine Zn rfl rfl rfl ?_
  refine Za tok rfl rfl ?_
  simp only [go_sem,simprocAttr,e2]
  refine Zp rfl rfl rfl ?_
  refine Zp rfl rfl rfl ?_
  refine Za tok rfl rfl ?_
  simp only [go_sem,simprocAttr]
  refine Zi rfl rfl ?_
  refine Ze ?_ (.str _) rfl
  rw [Jm,if_neg (by omega),if_neg (by omega)]
  exact .refl _
 ·have e1:(t.kind == 1) = false:=by simp [h1]
  have e2:(t.kind == 2) = false:=by simp [h1]
  have e3:(t.kind == 3) = false:=by simp [h1]
  have e4:(t.kind == 4) = true:=by simp [h1]
  have hl:=txt_len t hv
  rw [Jm,if_neg (by omega),if_pos h1] at hl
  simp only [List.length_append,List.length_cons,List.length_nil] at hl
  have hsz:=ht.sz
  refine Za tok rfl rfl ?_
  simp only [go_sem,simprocAttr,e1]
  refine Zn rfl rfl rfl ?_
  refine Za tok rfl rfl ?_
  simp only [go_sem,simprocAttr,e2]
  refine Zn rfl rfl rfl ?_
  refine Za tok rfl rfl ?_
  simp only [go_sem,simprocAttr,e3]
  refine Zn rfl rfl rfl ?_
  refine Za tok rfl rfl ?_
  simp only [go_sem,simprocAttr,e4]
  refine Zp rfl rfl rfl ?_
  refine Za tok rfl rfl ?_
  simp only [go_sem,simprocAttr]
  refine ⟨by (try simp only [List.length_cons,List.length_nil]); omega,?_⟩
  refine Za tok rfl rfl ?_
  simp only [go_sem,simprocAttr]
  repeat refine kn rfl ?_
  refine Zy (ZkP t n H) t.args.length rfl ?_ ?_
  ·refine Zg ?_ ?_ ?_ ?_ <;> repeat' first|exact trivial|refine q0 ?_|exact qb|exact q1|exact q2|exact q3|exact rfl|refine And.intro ?_ ?_|exact qA rfl|exact Inside.ptr _ _ _ (.inr ⟨rfl,rfl⟩)|exact Tm.ins _|exact Tm.Zj _ _|exact Am.ins _|exact Am.Zj _ _|refine Zd ?_|refine Tm.Zc ?_|refine Am.Zc ?_
   simp only [go_sem,simprocAttr,Lib.join_nil]
   exact .refl _
  intro i hi
  refine Yi rfl ?_
  have hb:=Vo (t.args.map txt) i
  rcases Nat.lt_or_ge i t.args.length with h | h
  ·have hb1:=Vo (t.args.map txt) (i + 1)
   have hjs:=Zhm (t.args.map txt) i (by simpa using h)
   have hjl:=congrArg List.length hjs
   simp only [List.length_append,List.getElem_map] at hjs hjl
   refine Za tok rfl rfl ?_
   simp only [go_sem,simprocAttr,h]
   refine Zp rfl rfl rfl ?_
   rcases Nat.eq_zero_or_pos i with h0 | h0
   ·have e0:decide ((0:Int) < (i:Int)) = false:=decide_eq_false (by omega)
    rw [if_neg (by omega)] at hjs hjl
    simp only [List.length_nil] at hjl
    refine Za tok rfl rfl ?_
    simp only [go_sem,simprocAttr,e0]
    refine Zn rfl rfl rfl ?_
    refine Za tok rfl rfl ?_
    simp only [go_sem,simprocAttr,Tm.YI _ _ h,h]
    refine Zq (Zb Tryz.func111 rfl rfl) (ZlC t.args[i] (ht.arg (List.getElem_mem h)) (Zbu hv (List.getElem_mem h))) rfl ?_
    simp only [go_sem,simprocAttr]
    refine ⟨by (try simp only [List.length_append,List.length_cons,List.length_nil]); omega,?_⟩
    refine Za tok rfl rfl ?_
    simp only [go_sem,simprocAttr]
    refine Zt rfl ?_
    refine Zg ?_ ?_ ?_ ?_ <;> repeat' first|exact trivial|refine q0 ?_|exact qb|exact q1|exact q2|exact q3|exact rfl|refine And.intro ?_ ?_|exact qA rfl|exact Inside.ptr _ _ _ (.inr ⟨rfl,rfl⟩)|exact Tm.ins _|exact Tm.Zj _ _|exact Am.ins _|exact Am.Zj _ _|refine Zd ?_|refine Tm.Zc ?_|refine Am.Zc ?_
    ·simp only [go_sem,simprocAttr]
     rw [IntWalk.i64_in _ (by omega)]; exact .refl _
    ·simp only [go_sem,simprocAttr]
     rw [hjs]
     subst h0
     simp only [go_sem,simprocAttr,Lib.join_nil]
     exact .refl _
   ·have e0:decide ((0:Int) < (i:Int)) = true:=decide_eq_true (by omega)
    rw [if_pos (by omega)] at hjs hjl
    simp only [List.length_append,List.length_cons,List.length_nil] at hjl
    refine Za tok rfl rfl ?_
    simp only [go_sem,simprocAttr,e0]
    refine Zp rfl rfl rfl ?_
    refine Za tok rfl rfl ?_
    simp only [go_sem,simprocAttr]
    refine ⟨by (try simp only [List.length_append,List.length_cons,List.length_nil]); omega,?_⟩
    refine Za tok rfl rfl ?_
    simp only [go_sem,simprocAttr,Tm.YI _ _ h,h]
    refine Zq (Zb Tryz.func111 rfl rfl) (ZlC t.args[i] (ht.arg (List.getElem_mem h)) (Zbu hv (List.getElem_mem h))) rfl ?_
    simp only [go_sem,simprocAttr]
    refine ⟨by (try simp only [List.length_append,List.length_cons,List.length_nil]); omega,?_⟩
    refine Za tok rfl rfl ?_
    simp only [go_sem,simprocAttr]
    refine Zt rfl ?_
    refine Zg ?_ ?_ ?_ ?_ <;> repeat' first|exact trivial|refine q0 ?_|exact qb|exact q1|exact q2|exact q3|exact rfl|refine And.intro ?_ ?_|exact qA rfl|exact Inside.ptr _ _ _ (.inr ⟨rfl,rfl⟩)|exact Tm.ins _|exact Tm.Zj _ _|exact Am.ins _|exact Am.Zj _ _|refine Zd ?_|refine Tm.Zc ?_|refine Am.Zc ?_
    ·simp only [go_sem,simprocAttr]
     rw [IntWalk.i64_in _ (by omega)]; exact .refl _
    ·simp only [go_sem,simprocAttr]
     rw [hjs]
     simp only [List.append_assoc]
     exact .refl _
  ·have hi':i = t.args.length:=by omega
   subst hi'
   have htk:(t.args.map txt).take t.args.length = t.args.map txt:=List.take_of_length_le (by simp)
   refine Za tok rfl rfl ?_
   simp only [go_sem,simprocAttr,Nat.not_lt.2 h]
   refine Zn rfl rfl rfl ?_
   refine Yh rfl rfl rfl rfl ?_
   refine Za tok rfl rfl ?_
   simp only [go_sem,simprocAttr,htk]
   refine ⟨by (try simp only [List.length_append,List.length_cons,List.length_nil]); omega,?_⟩
   refine Zi rfl rfl ?_
   refine Ze ?_ (.str _) rfl
   rw [Jm,if_neg (by omega),if_pos h1]
   exact .refl _
termination_by SizeOf.sizeOf t
decreasing_by all_goals exact Tm.Vm (List.getElem_mem h)
def Zlf (n:Nat) (t:Tm) (H:Zf) (i:Nat):Zh :=
 ⟨[(7,.int .i64 i),(3,.ptr n 3 0),(1,.int .u8 6),(2,.int .u8 0)],[(3,.box t.cs)],H⟩
theorem Zgi {t:Tm} (h:shape t = true):t.kind = 1 ∨ t.kind = 2 ∨ t.kind = 3 ∨ t.kind = 4 ∨ t.kind = 5 ∨ t.kind = 6:=by
 simp only [shape] at h
 split at h
 ·omega
 split at h
 ·omega
 split at h
 ·omega
 split at h
 ·omega
 split at h
 ·omega
 split at h
 ·omega
 ·cases h
theorem ZmL (t:Tm) (ht:t.Good) (hv:t.all shape = true):ZR Tryz.prog 185 [t.enc,.int .u8 6,.int .u8 0] (.bool true):=by
 intro n H hn hT
 have hl:=ht.len
 have h1:shape t = true:=Zbc hv
 have hk:=Zgi h1
 have h2:decide (t.kind > 6) = false:=decide_eq_false (by omega)
 have h3:(t.kind == 0) = false:=by rw [beq_eq_false_iff_ne]; omega
 refine Zm tok (Zb Tryz.func185 rfl rfl) (by simp) fun B=>?_
 refine Za tok rfl rfl ?_
 simp only [go_sem,simprocAttr]
 refine Za tok rfl rfl ?_
 simp only [go_sem,simprocAttr]
 refine ZH (Zb Tryz.func270 rfl rfl) (a117 t ht) hn hT rfl ?_
 simp only [go_sem,simprocAttr]
 rw [Zd3,h1]
 simp only [go_sem,simprocAttr,h2,h3]
 refine Zn rfl rfl rfl ?_
 refine Za tok rfl rfl ?_
 simp only [go_sem,simprocAttr]
 repeat refine kn rfl ?_
 refine Zy (Zlf n t H) t.args.length rfl ?_ ?_
 ·refine Zg ?_ ?_ ?_ ?_ <;> repeat' first|exact trivial|refine q0 ?_|exact qb|exact q1|exact q2|exact q3|exact rfl|refine And.intro ?_ ?_|exact qA rfl|exact Inside.ptr _ _ _ (.inr ⟨rfl,rfl⟩)|exact Tm.ins _|exact Tm.Zj _ _|exact Am.ins _|exact Am.Zj _ _|refine Zd ?_|refine Tm.Zc ?_|refine Am.Zc ?_
 intro i hi
 refine Yi rfl ?_
 rcases Nat.lt_or_ge i t.args.length with h | h
 ·refine Za tok rfl rfl ?_
  simp only [go_sem,simprocAttr,h]
  refine Zp rfl rfl rfl ?_
  refine Za tok rfl rfl ?_
  simp only [go_sem,simprocAttr,Tm.YI _ _ h,h]
  refine ZH (Zb Tryz.func185 rfl rfl) (ZmL t.args[i] (ht.arg (List.getElem_mem h)) (Zbu hv (List.getElem_mem h))) hn hT rfl ?_
  simp only [go_sem,simprocAttr]
  refine Zn rfl rfl rfl ?_
  refine Za tok rfl rfl ?_
  simp only [go_sem,simprocAttr]
  refine Zt rfl ?_
  refine Zg ?_ ?_ ?_ ?_ <;> repeat' first|exact trivial|refine q0 ?_|exact qb|exact q1|exact q2|exact q3|exact rfl|refine And.intro ?_ ?_|exact qA rfl|exact Inside.ptr _ _ _ (.inr ⟨rfl,rfl⟩)|exact Tm.ins _|exact Tm.Zj _ _|exact Am.ins _|exact Am.Zj _ _|refine Zd ?_|refine Tm.Zc ?_|refine Am.Zc ?_
  ·simp only [go_sem,simprocAttr]
   rw [IntWalk.i64_in _ (by omega)]; exact .refl _
 ·refine Za tok rfl rfl ?_
  simp only [go_sem,simprocAttr,Nat.not_lt.2 h]
  refine Zn rfl rfl rfl ?_
  refine Yh rfl rfl rfl rfl ?_
  refine Za tok rfl rfl ?_
  simp only [go_sem,simprocAttr]
  refine Zi rfl rfl ?_
  exact Ze (.refl _) (.bool _) rfl
termination_by SizeOf.sizeOf t
decreasing_by exact Tm.Vm (List.getElem_mem h)
theorem Zn4 (t:Tm) (ht:t.Good) (hv:ZW t = true):ZR Tryz.prog 110 [t.enc] (.bool true):=by
 intro n H hn hT
 simp only [ZW,Jo,Bool.and_eq_true] at hv
 refine Zm tok (Zb Tryz.func110 rfl rfl) (by simp) fun B=>?_
 refine Za tok rfl rfl ?_
 simp only [go_sem,simprocAttr]
 refine Za tok rfl rfl ?_
 simp only [go_sem,simprocAttr]
 refine Zq (Zb Tryz.func184 rfl rfl) (a84 t ht) (by simp only [go_sem,simprocAttr,hv.2.1]) ?_
 simp only [go_sem,simprocAttr,hv.2.1]
 refine ZH (Zb Tryz.func185 rfl rfl) (ZmL t ht hv.2.2) hn hT rfl ?_
 simp only [go_sem,simprocAttr]
 refine Zi rfl rfl ?_
 refine Ze ?_ (.bool _) rfl
 try simp only [go_sem,simprocAttr]
 exact .refl _
theorem v61 (t:Tm) (ht:t.Good) (hv:ZW t = true):ZR Tryz.prog 61 [t.enc] (.str (txt t)):=by
 intro n H hn hT
 refine Zm tok (Zb Tryz.func61 rfl rfl) (by simp) fun B=>?_
 refine Za tok rfl rfl ?_
 simp only [go_sem,simprocAttr]
 refine Za tok rfl rfl ?_
 simp only [go_sem,simprocAttr]
 refine ZH (Zb Tryz.func110 rfl rfl) (Zn4 t ht hv) hn hT rfl ?_
 simp only [go_sem,simprocAttr]
 refine Zn rfl rfl rfl ?_
 refine Za tok rfl rfl ?_
 simp only [go_sem,simprocAttr]
 refine Zq (Zb Tryz.func111 rfl rfl) (ZlC t ht (Zb5 hv)) rfl ?_
 simp only [go_sem,simprocAttr]
 refine Zi rfl rfl ?_
 refine Ze ?_ (.str _) rfl
 try simp only [go_sem,simprocAttr]
 exact .refl _
def ZmE (a:Am) (n:Nat) (H:Zf) (i:Nat):Zh :=
 ⟨[(4,.int .i64 i),(3,.str ((a.pred ++ [40]) ++ Lib.join ((a.args.map txt).take i) [44])),(1,.ptr n 1 0)],[(1,.box a.cs)],H⟩
theorem v18 (a:Am) (ha:a.Good):ZR Tryz.prog 18 [a.enc] (.str (Y1 a)):=by
 intro n H hn hT
 refine Zm tok (Zb Tryz.func18 rfl rfl) (by simp) fun B=>?_
 refine Za tok rfl rfl ?_
 simp only [go_sem,simprocAttr]
 refine Za tok rfl rfl ?_
 simp only [go_sem,simprocAttr]
 refine ZH (Zb Tryz.func58 rfl rfl) (a15 a ha) hn hT rfl ?_
 simp only [go_sem,simprocAttr]
 cases h1:Yt a with
 | false =>
  simp only [go_sem,simprocAttr]
  refine Zp rfl rfl rfl ?_
  refine Za tok rfl rfl ?_
  simp only [go_sem,simprocAttr]
  refine Zi rfl rfl ?_
  refine Ze ?_ (.str _) rfl
  simp only [go_sem,simprocAttr,Y1,h1,Bool.false_eq_true,if_false]
  exact .refl _
 | true =>
  simp only [go_sem,simprocAttr]
  refine Zn rfl rfl rfl ?_
  obtain ⟨v1,v2,v3⟩:=ZbE h1
  have v4:=ZcE v1
  have v5:=Zbt (Zcd ha) v3
  unfold ZaH at v5
  refine Za tok rfl rfl ?_
  simp only [go_sem,simprocAttr]
  by_cases h2:a.args.length = 0
  ·refine Zp rfl rfl (by simp only [go_sem,simprocAttr,h2]) ?_
   refine Za tok rfl rfl ?_
   simp only [go_sem,simprocAttr]
   refine Zi rfl rfl ?_
   refine Ze ?_ (.str _) rfl
   simp only [go_sem,simprocAttr,Y1,h1,h2,if_true]
   exact .refl _
  ·have h3:((a.args.length:Int) == 0) = false:=by rw [beq_eq_false_iff_ne]; omega
   refine Zn rfl rfl (by simp only [go_sem,simprocAttr,h3]) ?_
   refine Za tok rfl rfl ?_
   simp only [go_sem,simprocAttr]
   refine ⟨by (try simp only [List.length_cons,List.length_nil]); omega,?_⟩
   refine Za tok rfl rfl ?_
   simp only [go_sem,simprocAttr]
   repeat refine kn rfl ?_
   refine Zy (ZmE a n H) a.args.length rfl ?_ ?_
   ·refine Zg ?_ ?_ ?_ ?_ <;> repeat' first|exact trivial|refine q0 ?_|exact qb|exact q1|exact q2|exact q3|exact rfl|refine And.intro ?_ ?_|exact qA rfl|exact Inside.ptr _ _ _ (.inr ⟨rfl,rfl⟩)|exact Tm.ins _|exact Tm.Zj _ _|exact Am.ins _|exact Am.Zj _ _|refine Zd ?_|refine Tm.Zc ?_|refine Am.Zc ?_
    simp only [go_sem,simprocAttr,Lib.join_nil]
    exact .refl _
   intro i hi
   refine Yi rfl ?_
   have hb:=Vo (a.args.map txt) i
   rcases Nat.lt_or_ge i a.args.length with h | h
   ·have hb1:=Vo (a.args.map txt) (i + 1)
    have hjs:=Zhm (a.args.map txt) i (by simpa using h)
    have hjl:=congrArg List.length hjs
    simp only [List.length_append,List.getElem_map] at hjs hjl
    have hvi:ZW a.args[i] = true:=List.all_eq_true.1 v3 _ (List.getElem_mem h)
    refine Za tok rfl rfl ?_
    simp only [go_sem,simprocAttr,h]
    refine Zp rfl rfl rfl ?_
    rcases Nat.eq_zero_or_pos i with h0 | h0
    ·have e0:decide ((0:Int) < (i:Int)) = false:=decide_eq_false (by omega)
     rw [if_neg (by omega)] at hjs hjl
     simp only [List.length_nil] at hjl
     refine Za tok rfl rfl ?_
     simp only [go_sem,simprocAttr,e0]
     refine Zn rfl rfl rfl ?_
     refine Za tok rfl rfl ?_
     simp only [go_sem,simprocAttr,Tm.YI _ _ h,h]
     refine ZH (Zb Tryz.func61 rfl rfl) (v61 a.args[i] (ha.arg (List.getElem_mem h)) hvi) hn hT rfl ?_
     simp only [go_sem,simprocAttr]
     refine ⟨by (try simp only [List.length_append,List.length_cons,List.length_nil]); omega,?_⟩
     refine Za tok rfl rfl ?_
     simp only [go_sem,simprocAttr]
     refine Zt rfl ?_
     refine Zg ?_ ?_ ?_ ?_ <;> repeat' first|exact trivial|refine q0 ?_|exact qb|exact q1|exact q2|exact q3|exact rfl|refine And.intro ?_ ?_|exact qA rfl|exact Inside.ptr _ _ _ (.inr ⟨rfl,rfl⟩)|exact Tm.ins _|exact Tm.Zj _ _|exact Am.ins _|exact Am.Zj _ _|refine Zd ?_|refine Tm.Zc ?_|refine Am.Zc ?_
     ·simp only [go_sem,simprocAttr]
      rw [IntWalk.i64_in _ (by omega)]; exact .refl _
     ·simp only [go_sem,simprocAttr]
      rw [hjs]
      subst h0
      simp only [go_sem,simprocAttr,Lib.join_nil]
      exact .refl _
    ·have e0:decide ((0:Int) < (i:Int)) = true:=decide_eq_true (by omega)
     rw [if_pos (by omega)] at hjs hjl
     simp only [List.length_append,List.length_cons,List.length_nil] at hjl
     refine Za tok rfl rfl ?_
     simp only [go_sem,simprocAttr,e0]
     refine Zp rfl rfl rfl ?_
     refine Za tok rfl rfl ?_
     simp only [go_sem,simprocAttr]
     refine ⟨by (try simp only [List.length_append,List.length_cons,List.length_nil]); omega,?_⟩
     refine Za tok rfl rfl ?_
     simp only [go_sem,simprocAttr,Tm.YI _ _ h,h]
     refine ZH (Zb Tryz.func61 rfl rfl) (v61 a.args[i] (ha.arg (List.getElem_mem h)) hvi) hn hT rfl ?_
     simp only [go_sem,simprocAttr]
     refine ⟨by (try simp only [List.length_append,List.length_cons,List.length_nil]); omega,?_⟩
     refine Za tok rfl rfl ?_
     simp only [go_sem,simprocAttr]
     refine Zt rfl ?_
     refine Zg ?_ ?_ ?_ ?_ <;> repeat' first|exact trivial|refine q0 ?_|exact qb|exact q1|exact q2|exact q3|exact rfl|refine And.intro ?_ ?_|exact qA rfl|exact Inside.ptr _ _ _ (.inr ⟨rfl,rfl⟩)|exact Tm.ins _|exact Tm.Zj _ _|exact Am.ins _|exact Am.Zj _ _|refine Zd ?_|refine Tm.Zc ?_|refine Am.Zc ?_
     ·simp only [go_sem,simprocAttr]
      rw [IntWalk.i64_in _ (by omega)]; exact .refl _
     ·simp only [go_sem,simprocAttr]
      rw [hjs]
      simp only [List.append_assoc]
      exact .refl _
   ·have hi':i = a.args.length:=by omega
    subst hi'
    have htk:(a.args.map txt).take a.args.length = a.args.map txt:=List.take_of_length_le (by simp)
    refine Za tok rfl rfl ?_
    simp only [go_sem,simprocAttr,Nat.not_lt.2 h]
    refine Zn rfl rfl rfl ?_
    refine Yh rfl rfl rfl rfl ?_
    refine Za tok rfl rfl ?_
    simp only [go_sem,simprocAttr,htk]
    refine ⟨by (try simp only [List.length_append,List.length_cons,List.length_nil]); omega,?_⟩
    refine Zi rfl rfl ?_
    refine Ze ?_ (.str _) rfl
    simp only [go_sem,simprocAttr,Y1,h1,h2,if_true,if_false,Zls]
    exact .refl _
end Go.Proofs.YthgbkalgmicniaaGreatDoor

/- The law of Valid and Name: the walk. -/
namespace Go.Proofs.YthgbkalgmicniaaGreatDoor
open Go.Abs
set_option maxRecDepth 100000
theorem b4 (x:Ins) (a:Am) (hx:ZhN x) (ha:WJ a):ZR Tryz.prog 4 [x.enc,a.enc] (.bool true):=by
 intro n H hn hT
 refine Zm tok (Zb Tryz.func4 rfl rfl) (by simp) fun B=>?_
 have z:=Pure.wk (z13 [x]) (args:=[.sl 8 [x.enc] .full]) ⟨.any _ _ _,trivial⟩
 have ht:=stpF_tot (itI x) (n:=0) (fun p hp=>(it1 x p hp).1) (by omega) (by omega)
 have e:[x].flatMap itI = itI x:=by simp
 rw [e] at z
 refine Za tok rfl rfl ?_
 simp only [go_sem,simprocAttr]
 refine Za tok rfl rfl ?_
 simp only [go_sem,simprocAttr]
 refine ⟨rfl,?_⟩
 refine Zq (Zb Tryz.func13 rfl rfl) (z) rfl ?_
 simp only [go_sem,simprocAttr]
 cases h1:decide (400 < Yn 0 (itI x)) with
 | true =>
  simp only [go_sem,simprocAttr,h1]
  refine Zp rfl rfl rfl ?_
  refine Za tok rfl rfl ?_
  simp only [go_sem,simprocAttr]
  refine ZH (Zb Tryz.func11 rfl rfl) (u11) hn hT rfl ?_
  simp only [go_sem,simprocAttr]
  refine Zi rfl rfl ?_
  exact Ze (.refl _) (.bool _) rfl
 | false =>
  simp only [go_sem,simprocAttr,h1]
  refine Zq (Zb Tryz.func14 rfl rfl) (z14 a 400 (by omega) (by omega)) rfl ?_
  simp only [go_sem,simprocAttr]
  cases h2:decide (400 < Yw a.sz 400) with
  | true =>
   refine Zp rfl rfl rfl ?_
   refine Za tok rfl rfl ?_
   simp only [go_sem,simprocAttr]
   refine ZH (Zb Tryz.func11 rfl rfl) (u11) hn hT rfl ?_
   simp only [go_sem,simprocAttr]
   refine Zi rfl rfl ?_
   exact Ze (.refl _) (.bool _) rfl
  | false =>
   refine Zn rfl rfl rfl ?_
   have hs:Y6 (itI x) ≤ 400:=by
    have:=ht.1.1 (by simpa using h1); omega
   have hz:a.sz ≤ 400:=by
    rw [decide_eq_false_iff_not] at h2
    unfold Yw at h2
    split at h2 <;> omega
   have gx:x.Good:=(ZlV hx (by omega) hs).1
   have ga:a.Good:=ha.good (by omega)
   refine ZM rfl ?_
   refine YX tok mixed drawO rfl rfl rfl ?_
   simp only [go_sem,simprocAttr]
   refine ZH (Zb Tryz.func15 rfl rfl) (ZlU x gx) hn hT rfl ?_
   simp only [go_sem,simprocAttr]
   refine ZH (Zb Tryz.func16 rfl rfl) (v16 x gx) hn hT rfl ?_
   simp only [go_sem,simprocAttr]
   refine ZH (Zb Tryz.func17 rfl rfl) (Zjx a ga) hn hT rfl ?_
   simp only [go_sem,simprocAttr]
   refine ZH (Zb Tryz.func18 rfl rfl) (v18 a ga) hn hT rfl ?_
   simp only [go_sem,simprocAttr]
   refine ZH (Zb Tryz.func11 rfl rfl) (u11) hn hT rfl ?_
   simp only [go_sem,simprocAttr]
   refine Zi rfl rfl ?_
   exact Ze (.refl _) (.bool _) rfl
end Go.Proofs.YthgbkalgmicniaaGreatDoor
