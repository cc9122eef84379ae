/- Valid, Lower's own conditions. -/
import Derived.Test.YthgbkalgmicniaaGreatDoorM11
import Derived.Test.YthgbkalgmicniaaGreatDoorM10
import Derived.Shelf.SlSortCmp.NoneTotal
import Derived.Shelf.SlSortCmp.Whole1
import Derived.Shelf.Slices.CompactI
import Derived.Test.YthgbkalgmicniaaGreatDoorM08
import Derived.Lib.Bytealg
set_option linter.all false
namespace Go.Proofs.YthgbkalgmicniaaGreatDoor
open Go.Abs
set_option maxRecDepth 100000
theorem VZ {n f:Nat} {p:Nat → Prop}:Inside n p (.fn (.func f) []):=Zen.inside
theorem Zki {n:Nat}:Below n (.fn (.func 49) [cap47]):=VW ⟨Vu,trivial⟩
theorem Zj6 {n:Nat}:Below n (.fn (.func 50) [cap45,cap49]):=VW ⟨Zaw,Vx,trivial⟩
theorem Y4 {n k o:Nat} {p:Nat → Prop} (h:p k):Inside n p (.ptr n k o):=Inside.ptr _ _ _ (.inr ⟨rfl,h⟩)
theorem Ins.iX {n:Nat} (q:Nat → Prop) (x:Ins):Zk.Inside n q (.box [.int .u8 x.kind,.sl 2 (x.heads.map Am.enc) .any,.int .i64 x.lower,.int .i64 x.upper,.sl 9 (x.body.map GB.enc) .any,.int .i64 x.weight,.int .i64 x.level,.sl 4 (x.tuple.map Tm.enc) .any]) :=
 Zk.Zcn x.bcs.mem
theorem ZlU (x:Ins) (hx:x.Good):ZR Tryz.prog 15 [x.enc] (.bool (Ya x)):=by
 intro n H hn hT
 refine Zm tok (Zb Tryz.func15 rfl rfl) (by simp) fun B=>?_
 refine Za tok rfl rfl ?_
 simp only [go_sem,simprocAttr]
 refine Za tok rfl rfl ?_
 simp only [go_sem,simprocAttr]
 refine Za tok rfl rfl ?_
 simp only [go_sem,simprocAttr]
 refine Za tok rfl rfl ?_
 simp only [go_sem,simprocAttr]
 repeat refine kn rfl ?_
 refine Ym 5 [.fn (.func 47) []] [(1,.ptr n 1 0),(3,.fn (.func 44) []),(4,.ptr n 4 0),(5,cap47)] rfl ⟨VZ,trivial⟩ ?_ ?_ ?_
 ·exact ⟨.inl ⟨.refl _,Y4 (by decide)⟩,.inl ⟨.refl _,VZ⟩,.inl ⟨.refl _,Y4 (by decide)⟩,.inr ⟨0,rfl,rfl⟩,trivial⟩
 ·exact ⟨Ins.iX _ x,Zk.ZG ⟨VZ,trivial⟩,trivial⟩
 simp only [go_sem,simprocAttr]
 refine Za tok rfl rfl ?_
 simp only [go_sem,simprocAttr]
 repeat refine kn rfl ?_
 refine Ym 6 [.fn (.func 49) [cap47]] [(1,.ptr n 1 0),(3,.fn (.func 44) []),(4,.ptr n 4 0),(5,cap47),(6,cap49)] rfl ⟨Zki.inside,trivial⟩ ?_ ?_ ?_
 ·exact ⟨.inl ⟨.refl _,Y4 (by decide)⟩,.inl ⟨.refl _,VZ⟩,.inl ⟨.refl _,Y4 (by decide)⟩,.inl ⟨.refl _,Vu.inside⟩,.inr ⟨0,rfl,rfl⟩,trivial⟩
 ·exact ⟨Ins.iX _ x,Zk.ZG ⟨VZ,trivial⟩,trivial⟩
 simp only [go_sem,simprocAttr]
 refine Ym 4 [.fn (.func 45) []] [(1,.ptr n 1 0),(3,.fn (.func 44) []),(4,cap45),(5,cap47),(6,cap49)] rfl ⟨VZ,trivial⟩ ?_ ?_ ?_
 ·exact ⟨.inl ⟨.refl _,Y4 (by decide)⟩,.inl ⟨.refl _,VZ⟩,.inr ⟨0,rfl,rfl⟩,.inl ⟨.refl _,Vu.inside⟩,.inl ⟨.refl _,Vx.inside⟩,trivial⟩
 ·exact ⟨Ins.iX _ x,trivial⟩
 simp only [go_sem,simprocAttr]
 refine Za tok rfl rfl ?_
 simp only [go_sem,simprocAttr]
 repeat refine kn rfl ?_
 refine Ym 7 [.fn (.func 50) [cap45,cap49]] [(1,.ptr n 1 0),(3,.fn (.func 44) []),(4,cap45),(5,cap47),(6,cap49),(7,cap50)] rfl ⟨Zj6.inside,trivial⟩ ?_ ?_ ?_
 ·exact ⟨.inl ⟨.refl _,Y4 (by decide)⟩,.inl ⟨.refl _,VZ⟩,.inl ⟨.refl _,Zaw.inside⟩,.inl ⟨.refl _,Vu.inside⟩,.inl ⟨.refl _,Vx.inside⟩,.inr ⟨0,rfl,rfl⟩,trivial⟩
 ·exact ⟨Ins.iX _ x,trivial⟩
 simp only [go_sem,simprocAttr]
 refine Za tok rfl rfl ?_
 simp only [go_sem,simprocAttr]
 refine Za tok rfl rfl ?_
 simp only [go_sem,simprocAttr]
 cases h1:decide (1 ≤ x.kind) with
 | false =>
  simp only [go_sem,simprocAttr]
  refine Zi rfl rfl ?_
  refine Ze ?_ (.bool _) rfl
  try simp only [go_sem,simprocAttr,Ya,h1,Bool.true_and,Bool.false_and,Bool.and_false]
  exact .refl _
 | true =>
 simp only [go_sem,simprocAttr]
 cases h2:decide (x.kind ≤ 3) with
 | false =>
  simp only [go_sem,simprocAttr]
  refine Zi rfl rfl ?_
  refine Ze ?_ (.bool _) rfl
  try simp only [go_sem,simprocAttr,Ya,h1,h2,Bool.true_and,Bool.false_and,Bool.and_false]
  exact .refl _
 | true =>
 simp only [go_sem,simprocAttr]
 refine XM (caps:=[]) (avs:=[.int .i64 (-1),.int .i64 x.lower]) rfl (Zb Tryz.func44 rfl rfl) (by rw [List.append_nil]; exact Zld _ _ _ _) rfl ?_
 cases h3:wOk (-1) x.lower with
 | false =>
  simp only [go_sem,simprocAttr]
  refine Zi rfl rfl ?_
  refine Ze ?_ (.bool _) rfl
  try simp only [go_sem,simprocAttr,Ya,h1,h2,h3,Bool.true_and,Bool.false_and,Bool.and_false]
  exact .refl _
 | true =>
 simp only [go_sem,simprocAttr]
 refine XM (caps:=[]) (avs:=[.int .i64 (-1),.int .i64 x.upper]) rfl (Zb Tryz.func44 rfl rfl) (by rw [List.append_nil]; exact Zld _ _ _ _) rfl ?_
 cases h4:wOk (-1) x.upper with
 | false =>
  simp only [go_sem,simprocAttr]
  refine Zi rfl rfl ?_
  refine Ze ?_ (.bool _) rfl
  try simp only [go_sem,simprocAttr,Ya,h1,h2,h3,h4,Bool.true_and,Bool.false_and,Bool.and_false]
  exact .refl _
 | true =>
 simp only [go_sem,simprocAttr]
 refine XM (caps:=[]) (avs:=[.int .i64 (0),.int .i64 x.weight]) rfl (Zb Tryz.func44 rfl rfl) (by rw [List.append_nil]; exact Zld _ _ _ _) rfl ?_
 cases h5:wOk 0 x.weight with
 | false =>
  simp only [go_sem,simprocAttr]
  refine Zi rfl rfl ?_
  refine Ze ?_ (.bool _) rfl
  try simp only [go_sem,simprocAttr,Ya,h1,h2,h3,h4,h5,Bool.true_and,Bool.false_and,Bool.and_false]
  exact .refl _
 | true =>
 simp only [go_sem,simprocAttr]
 cases h6:decide (-2147483647 ≤ x.level) with
 | false =>
  simp only [go_sem,simprocAttr]
  refine Zi rfl rfl ?_
  refine Ze ?_ (.bool _) rfl
  try simp only [go_sem,simprocAttr,Ya,h1,h2,h3,h4,h5,h6,Bool.true_and,Bool.false_and,Bool.and_false]
  exact .refl _
 | true =>
 simp only [go_sem,simprocAttr]
 cases h7:decide (x.level ≤ 2147483647) with
 | false =>
  simp only [go_sem,simprocAttr]
  refine Zi rfl rfl ?_
  refine Ze ?_ (.bool _) rfl
  try simp only [go_sem,simprocAttr,Ya,h1,h2,h3,h4,h5,h6,h7,Bool.true_and,Bool.false_and,Bool.and_false]
  exact .refl _
 | true =>
 simp only [go_sem,simprocAttr]
 refine ZH (Zb Tryz.func51 rfl rfl) (a46 x.tuple hx.tl 45 [] (fun t=>!ZW t) ⟨⟨_,_,Zb Tryz.func45 rfl rfl⟩,fun t ht=>Zmw t (hx.t t ht),fun _=>trivial⟩) hn hT rfl ?_
 simp only [go_sem,simprocAttr]
 cases h8:x.tuple.any (fun t=>!ZW t) with
 | true =>
  simp only [go_sem,simprocAttr]
  refine Zi rfl rfl ?_
  refine Ze ?_ (.bool _) rfl
  try simp only [go_sem,simprocAttr,Ya,h1,h2,h3,h4,h5,h6,h7,h8,Bool.true_and,Bool.false_and,Bool.and_false,Bool.not_true,Bool.not_false]
  exact .refl _
 | false =>
 simp only [go_sem,simprocAttr]
 refine ZH (Zb Tryz.func55 rfl rfl) (c55 x.heads hx.hl 47 [] (fun a=>!Yt a) ⟨⟨_,_,Zb Tryz.func47 rfl rfl⟩,fun t ht=>Zl9 t (hx.h t ht),fun _=>trivial⟩) hn hT rfl ?_
 simp only [go_sem,simprocAttr]
 cases h9:x.heads.any (fun a=>!Yt a) with
 | true =>
  simp only [go_sem,simprocAttr]
  refine Zi rfl rfl ?_
  refine Ze ?_ (.bool _) rfl
  try simp only [go_sem,simprocAttr,Ya,h1,h2,h3,h4,h5,h6,h7,h8,h9,Bool.true_and,Bool.false_and,Bool.and_false,Bool.not_true,Bool.not_false]
  exact .refl _
 | false =>
 simp only [go_sem,simprocAttr]
 refine ZH (Zb Tryz.func56 rfl rfl) (c56 x.body hx.bl 53 [cap49,cap50] WA ⟨⟨_,_,Zb Tryz.func53 rfl rfl⟩,fun t ht=>ZnW t (hx.b t ht),fun _=>⟨Vx,ZhX,trivial⟩⟩) hn hT rfl ?_
 simp only [go_sem,simprocAttr]
 refine Zi rfl rfl ?_
 refine Ze ?_ (.bool _) rfl
 try simp only [go_sem,simprocAttr,Ya,h1,h2,h3,h4,h5,h6,h7,h8,h9,Bool.true_and,Bool.not_false]
 exact .refl _
theorem Znf (x:Ins) (hx:x.Good):ZR Tryz.prog 63 [x.enc] (.bool (!Ya x)):=by
 intro n H hn hT
 refine Zm tok (Zb Tryz.func63 rfl rfl) (by simp) fun B=>?_
 refine Za tok rfl rfl ?_
 simp only [go_sem,simprocAttr]
 refine Za tok rfl rfl ?_
 simp only [go_sem,simprocAttr]
 refine ZH (Zb Tryz.func15 rfl rfl) (ZlU x hx) hn hT rfl ?_
 simp only [go_sem,simprocAttr]
 refine Zi rfl rfl ?_
 refine Ze ?_ (.bool _) rfl
 try simp only [go_sem,simprocAttr]
 exact .refl _
theorem ZnZ (s:List UInt8):Pure Tryz.prog 67 [.str s] (.bool (decide (200 < (s.length:Int)))):=by
 intro n H
 refine Zm tok (Zb Tryz.func67 rfl rfl) (by simp) fun B=>?_
 refine Za tok rfl rfl ?_
 simp only [go_sem,simprocAttr]
 refine Za tok rfl rfl ?_
 simp only [go_sem,simprocAttr]
 refine Zi rfl rfl ?_
 refine Ze ?_ (.bool _) rfl
 try simp only [go_sem,simprocAttr]
 exact .refl _
theorem ZmF (l:List Int):Pure Tryz.prog 222 [Zw l] (.bool (l.length == 0)):=by
 intro n H
 refine Zm tok (Zb Tryz.func222 rfl rfl) (by simp) fun B=>?_
 refine Za tok rfl rfl ?_
 simp only [go_sem,simprocAttr]
 refine Za tok rfl rfl ?_
 simp only [go_sem,simprocAttr]
 refine Zi rfl rfl ?_
 refine Ze ?_ (.bool _) rfl
 simp only [go_sem,simprocAttr]
 have:((l.length:Int) == 0) = (l.length == 0):=by
  rw [Bool.eq_iff_iff]; simp
 rw [this]
 exact .refl _
def Zd4 (l:List LInt):Bool:=l.any fun x=>x.length == 0
theorem ZmP (l:List LInt) (hl:l.length ≤ 1000000):ZR Tryz.prog 135 [.sl 1 (l.map Zw) .any] (.bool (Zd4 l)):=by
 intro n H hn hT
 refine Zm tok (Zb Tryz.func135 rfl rfl) (by simp) fun B=>?_
 refine Za tok rfl rfl ?_
 simp only [go_sem,simprocAttr]
 refine Za tok rfl rfl ?_
 simp only [go_sem,simprocAttr]
 refine ZH (Zb Tryz.func221 rfl rfl) (Zj1 l hl 222 [] (fun x=>x.length == 0) ⟨⟨_,_,Zb Tryz.func222 rfl rfl⟩,fun t ht=>Abs.Pure.tabs (ZmF t),fun _=>trivial⟩) hn hT rfl ?_
 simp only [go_sem,simprocAttr]
 refine Zi rfl rfl ?_
 refine Ze ?_ (.bool _) rfl
 try simp only [go_sem,simprocAttr,Zd4]
 exact .refl _
def Yg (fn:Int) (t:List Tm):Int × Bool:=if fn = 1 then (1,true) else
 match t with
 | []=>(0,false)
 | t :: _=>(t.num,decide (t.kind = 1) && decide (0 ≤ t.num) && decide (t.num ≤ 1048576))
theorem ZnK (fn:Int) (t:Tm) (r:List Tm):Pure Tryz.prog 289 [.int .u8 fn,.sl 4 ((t :: r).map Tm.enc) .any] (.tup [.int .i64 (Yg fn (t :: r)).1,.bool (Yg fn (t :: r)).2]):=by
 intro n H
 refine Zm tok (Zb Tryz.func289 rfl rfl) (by simp) fun B=>?_
 refine Za tok rfl rfl ?_
 simp only [go_sem,simprocAttr]
 refine Za tok rfl rfl ?_
 simp only [go_sem,simprocAttr]
 by_cases hf:fn = 1
 ·refine Zp rfl rfl (by simp only [go_sem,simprocAttr,hf]) ?_
  refine Za tok rfl rfl ?_
  simp only [go_sem,simprocAttr]
  refine Zi rfl rfl ?_
  refine Vb (.refl _) (.refl _) (.int _ _) (.bool _) ?_ |> fun h=>by rw [Yg,if_pos hf]; exact h
  rfl
 have hf':(fn == 1) = false:=by simpa using hf
 refine Zn rfl rfl (by simp only [go_sem,simprocAttr,hf']) ?_
 refine Za tok rfl rfl ?_
 simp only [go_sem,simprocAttr,List.map_cons,List.length_cons,List.getD_cons_zero]
 refine ⟨by omega,?_⟩
 refine YX tok mixed drawO rfl rfl rfl ?_
 simp only [go_sem,simprocAttr]
 cases h1:(t.kind == 1) with
 | false =>
  simp only [go_sem,simprocAttr]
  have e1:decide (t.kind = 1) = false:=by simpa using h1
  refine Zi rfl rfl ?_
  exact Vb (by simp only [go_sem,simprocAttr,Yg,hf,e1,Bool.false_and,if_false]; exact .refl _) (by simp only [go_sem,simprocAttr,Yg,hf,e1,Bool.false_and,if_false]; exact .refl _) (.int _ _) (.bool _) rfl
 | true =>
 have e1:decide (t.kind = 1) = true:=by simpa using h1
 cases h2:decide (0 ≤ t.num) with
 | false =>
  simp only [go_sem,simprocAttr,h2]
  refine Zi rfl rfl ?_
  exact Vb (by simp only [go_sem,simprocAttr,Yg,hf,e1,h2,Bool.false_and,Bool.and_false,if_false]; exact .refl _) (by simp only [go_sem,simprocAttr,Yg,hf,e1,h2,Bool.false_and,Bool.and_false,if_false]; exact .refl _) (.int _ _) (.bool _) rfl
 | true =>
  simp only [go_sem,simprocAttr,h2]
  refine Zi rfl rfl ?_
  exact Vb (by simp only [go_sem,simprocAttr,Yg,hf,e1,h2,Bool.true_and,if_false]; exact .refl _) (by simp only [go_sem,simprocAttr,Yg,hf,e1,h2,Bool.true_and,if_false]; exact .refl _) (.int _ _) (.bool _) rfl
end Go.Proofs.YthgbkalgmicniaaGreatDoor

/- Lists of lists of literals. -/
namespace Go.Proofs.YthgbkalgmicniaaGreatDoor
open Go.Abs
set_option maxRecDepth 100000
def ZmI (x y:List Int) (H:Zf) (i:Nat):Zh :=
 ⟨[(13,.int .i64 i),(12,.int .i64 x.length),(0,Zw x),(1,Zw y)],[],H⟩
theorem Zhg (l:List Int) (i:Nat) (h:i < l.length) (d:AV):(l.map (AV.int .i64)).getD i d = .int .i64 l[i]:=by
 rw [List.getD_eq_getElem?_getD,List.getElem?_map,List.getElem?_eq_getElem h]; rfl
theorem ZnM (x y:List Int) (hx:x.length ≤ 1000000):Pure Tryz.prog 293 [Zw x,Zw y] (.bool (decide (x = y))):=by
 intro n H
 refine Zm tok (Zb Tryz.func293 rfl rfl) (by simp) fun B=>?_
 refine Za tok rfl rfl ?_
 simp only [go_sem,simprocAttr]
 refine Za tok rfl rfl ?_
 simp only [go_sem,simprocAttr]
 by_cases hl:x.length = y.length
 case neg =>
  have h1:((x.length:Int) != (y.length:Int)) = true:=by simp; omega
  refine Zp rfl rfl (by simp only [go_sem,simprocAttr,h1]) ?_
  refine Za tok rfl rfl ?_
  simp only [go_sem,simprocAttr]
  refine Zi rfl rfl ?_
  refine Ze ?_ (.bool _) rfl
  have:decide (x = y) = false:=by simp; intro e; exact hl (by rw [e])
  simp only [go_sem,simprocAttr,this]
  exact .refl _
 have h1:((x.length:Int) != (y.length:Int)) = false:=by simp; omega
 refine Zn rfl rfl (by simp only [go_sem,simprocAttr,h1]) ?_
 refine Za tok rfl rfl ?_
 simp only [go_sem,simprocAttr]
 repeat refine kn rfl ?_
 refine Ye (ZmI x y H) (fun i=>x.take i = y.take i) x.length rfl ?_ rfl ?_
 ·refine Zg ?_ ?_ ?_ ?_ <;> repeat' first|exact trivial|refine q0 ?_|exact qb|exact q1|exact q2|exact q3|exact rfl|refine And.intro ?_ ?_|exact qA rfl|exact Inside.ptr _ _ _ (.inr ⟨rfl,rfl⟩)|exact Tm.ins _|exact Tm.Zj _ _|exact Am.ins _|exact Am.Zj _ _|refine Zd ?_|refine Tm.Zc ?_|refine Am.Zc ?_
  all_goals exact (Zz _).inside
 intro i hi hq
 refine Yi rfl ?_
 rcases Nat.lt_or_ge i x.length with h | h
 ·have h':i < y.length:=by omega
  have hh:((i:Int)) < (y.length:Int):=by omega
  refine Za tok rfl rfl ?_
  simp only [go_sem,simprocAttr,h]
  refine Zp rfl rfl rfl ?_
  refine Za tok rfl rfl ?_
  simp only [go_sem,simprocAttr]
  refine YX tok mixed drawO rfl rfl rfl ?_
  simp only [go_sem,simprocAttr,Zhg _ _ h,Zhg _ _ h',h,hh,h']
  by_cases he:x[i] = y[i]
  ·have h2:(x[i] != y[i]) = false:=by simpa using he
   refine Zn rfl rfl (by simp only [go_sem,simprocAttr,h2]) ?_
   refine Za tok rfl rfl ?_
   simp only [go_sem,simprocAttr]
   refine Zt rfl ?_
   refine ⟨?_,?_⟩
   ·rw [List.take_succ_eq_append_getElem h,List.take_succ_eq_append_getElem h',hq,he]
   ·refine Zg ?_ ?_ ?_ ?_ <;> repeat' first|exact trivial|refine q0 ?_|exact qb|exact q1|exact q2|exact q3|exact rfl|refine And.intro ?_ ?_|exact qA rfl|exact Inside.ptr _ _ _ (.inr ⟨rfl,rfl⟩)|exact Tm.ins _|exact Tm.Zj _ _|exact Am.ins _|exact Am.Zj _ _|refine Zd ?_|refine Tm.Zc ?_|refine Am.Zc ?_
    ·simp only [go_sem,simprocAttr]
     rw [IntWalk.i64_in _ (by omega)]; exact .refl _
    all_goals exact (Zz _).inside
  ·have h2:(x[i] != y[i]) = true:=by simpa using he
   refine Zp rfl rfl (by simp only [go_sem,simprocAttr,h2]) ?_
   refine Za tok rfl rfl ?_
   simp only [go_sem,simprocAttr]
   refine XO rfl rfl ?_
   refine Ze ?_ (.bool _) rfl
   have:decide (x = y) = false:=by
    rw [decide_eq_false_iff_not]
    intro e; exact he (by simp only [e])
   simp only [go_sem,simprocAttr,this]
   exact .refl _
 ·refine Za tok rfl rfl ?_
  simp only [go_sem,simprocAttr,Nat.not_lt.2 h]
  refine Zn rfl rfl rfl ?_
  refine Yh rfl rfl rfl rfl ?_
  refine Za tok rfl rfl ?_
  simp only [go_sem,simprocAttr]
  refine Zi rfl rfl ?_
  refine Ze ?_ (.bool _) rfl
  have:decide (x = y) = true:=by
   rw [List.take_of_length_le h,List.take_of_length_le (by omega)] at hq
   simpa using hq
  simp only [go_sem,simprocAttr,this]
  exact .refl _
theorem Zm6 (x y:List Int) (hx:x.length ≤ 1000000):Pure Tryz.prog 292 [Zw y,.ZA [Zw x]] (.bool (decide (x = y))):=by
 intro n H
 refine Zm tok (Zb Tryz.func292 rfl rfl) (by simp) fun B=>?_
 refine Za tok rfl rfl ?_
 simp only [go_sem,simprocAttr]
 refine Za tok rfl rfl ?_
 simp only [go_sem,simprocAttr]
 refine Zq (Zb Tryz.func293 rfl rfl) (ZnM x y hx) rfl ?_
 simp only [go_sem,simprocAttr]
 refine Zi rfl rfl ?_
 refine Ze ?_ (.bool _) rfl
 try simp only [go_sem,simprocAttr]
 exact .refl _
def YJ (l:List LInt) (x:List Int):List LInt:=if l.any (fun y=>decide (x = y)) then l else l ++ [x]
theorem ZgW (n e sz fr:Nat):Zk.Below n (.buf e sz fr):=⟨by simp [Zk.avs],by simp [Zk.at_]⟩
def Zg6 (l j:Nat) (nw:Bool):Opt:=⟨false,false,fun d=>if d = 12 then (if nw then .place l j false else .heap) else .auto,[]⟩
theorem Zb2 (L:List LInt) (x:List Int) (hx:x.length ≤ 1000000):WY 292 [.ZA [Zw x]] Zw L (fun y=>decide (x = y)) :=
 ⟨⟨_,_,Zb Tryz.func292 rfl rfl⟩,fun y _=>Abs.Pure.tabs (Zm6 x y hx),fun _=>⟨Yd ⟨Zz _,trivial⟩,trivial⟩⟩
theorem ZR.args {P:Program} {f:FuncId} {args args':List AV} {r:AV} (h:ZR P f args r) (hw:Wks args' args):ZR P f args' r:=fun n H hn hT=>Zr.args (h n H hn hT) hw
theorem Zmd (n:Nat) (H:Zf) (l j:Nat) (x:List Int) (hl:l < n) (hn:0 < n) (hT:Tabs H) (hx:x.length ≤ 1000000) (hf:H l j = none) :
  Zr Tryz.prog n 215 [.sl 1 [] .full,Zw x] H fun r H'=>r = .sl 1 [Zw x] (.buf l j) ∧ H' = H.upd l j (.buf 61 1 1):=by
 have hne:¬ l = n:=by omega
 have hle:l ≤ n:=by omega
 refine Zm tok (Zb Tryz.func215 rfl rfl) (by simp) fun B=>?_
 refine Za tok rfl rfl ?_
 simp only [go_sem,simprocAttr]
 repeat refine kn rfl ?_
 refine Ym 3 [Zw x] [(0,.sl 1 [] .full),(3,.ZA [Zw x])] rfl ⟨(Zz _).inside,trivial⟩ ?_ ?_ ?_
 ·exact ⟨.inl ⟨.refl _,ZV (fun _ h=>by cases h) (fun _ _ e=>by cases e) |>.inside⟩,.inr ⟨0,rfl,rfl⟩,trivial⟩
 ·exact trivial
 simp only [go_sem,simprocAttr]
 refine Za tok rfl rfl ?_
 simp only [go_sem,simprocAttr]
 have h0:=(Zj1 [] (by simp) 292 [.ZA [Zw x]] _ (Zb2 [] x hx)).args (args':=[.sl 1 [] .full,.fn (.func 292) [.ZA [Zw x]]]) ⟨.any _ _ _,.refl _,trivial⟩
 refine ZH (Zb Tryz.func221 rfl rfl) (h0) hn hT rfl ?_
 simp only [go_sem,simprocAttr]
 refine Zn rfl rfl (by simp only [go_sem,simprocAttr,List.any_nil]) ?_
 repeat refine kn rfl ?_
 refine WG tok (Zg6 l j true) rfl rfl (by kernel_rfl) ?_
 simp only [go_sem,simprocAttr,Zg6,hne,hf]
 refine ⟨by decide,⟨hle,ZQ (by omega)⟩,.inr (ZgW _ _ _ _),?_⟩
 refine Zi rfl rfl ?_
 refine ZP (.refl _) (ZV (fun y hy=>?_) (fun _ _ e=>by cases e; exact hl)) ⟨rfl,rfl⟩
 simp only [List.mem_singleton] at hy; subst hy; exact Zz _
theorem ZlP (x:List Int) (hx:x.length ≤ 1000000):ZR Tryz.prog 215 [.sl 1 [] .full,Zw x] (.sl 1 ([x].map Zw) .any):=by
 intro n H hn hT
 refine Zm tok (Zb Tryz.func215 rfl rfl) (by simp) fun B=>?_
 refine Za tok rfl rfl ?_
 simp only [go_sem,simprocAttr]
 repeat refine kn rfl ?_
 refine Ym 3 [Zw x] [(0,.sl 1 [] .full),(3,.ZA [Zw x])] rfl ⟨(Zz _).inside,trivial⟩ ?_ ?_ ?_
 ·exact ⟨.inl ⟨.refl _,ZV (fun _ h=>by cases h) (fun _ _ e=>by cases e) |>.inside⟩,.inr ⟨0,rfl,rfl⟩,trivial⟩
 ·exact trivial
 simp only [go_sem,simprocAttr]
 refine Za tok rfl rfl ?_
 simp only [go_sem,simprocAttr]
 have h0:=(Zj1 [] (by simp) 292 [.ZA [Zw x]] _ (Zb2 [] x hx)).args (args':=[.sl 1 [] .full,.fn (.func 292) [.ZA [Zw x]]]) ⟨.any _ _ _,.refl _,trivial⟩
 refine ZH (Zb Tryz.func221 rfl rfl) (h0) hn hT rfl ?_
 simp only [go_sem,simprocAttr]
 refine Zn rfl rfl (by simp only [go_sem,simprocAttr,List.any_nil]) ?_
 refine Za tok rfl rfl ?_
 simp only [go_sem,simprocAttr]
 refine ⟨rfl,ZQ (by omega),?_⟩
 refine Zi rfl rfl ?_
 refine Ze (.refl _) (ZK (fun y hy=>?_)) rfl
 simp only [List.mem_singleton] at hy; subst hy; exact Zz _
theorem ZnL (n:Nat) (H:Zf) (l j:Nat) (L:List LInt) (x:List Int) (hl:l < n) (hn:0 < n) (hT:Tabs H) (hx:x.length ≤ 1000000) (hL:L.length ≤ 1000000) (hf:H l j = some (.buf 61 1 L.length)) (h0:L ≠ []) :
  Zr Tryz.prog n 215 [.sl 1 (L.map Zw) (.buf l j),Zw x] H fun r H'=>r = .sl 1 ((YJ L x).map Zw) (.buf l j) ∧ H' = H.upd l j (.buf 61 1 (YJ L x).length):=by
 have hne:¬ l = n:=by omega
 have hle:l ≤ n:=by omega
 refine Zm tok (Zb Tryz.func215 rfl rfl) (by simp) fun B=>?_
 refine Za tok rfl rfl ?_
 simp only [go_sem,simprocAttr]
 repeat refine kn rfl ?_
 refine Ym 3 [Zw x] [(0,.sl 1 (L.map Zw) (.buf l j)),(3,.ZA [Zw x])] rfl ⟨(Zz _).inside,trivial⟩ ?_ ?_ ?_
 ·exact ⟨.inl ⟨.refl _,(ZV (fun y hy=>by obtain ⟨u,_,rfl⟩:=List.mem_map.1 hy; exact Zz _) (fun _ _ e=>by cases e; exact hl)).inside⟩,.inr ⟨0,rfl,rfl⟩,trivial⟩
 ·exact trivial
 simp only [go_sem,simprocAttr]
 refine Za tok rfl rfl ?_
 simp only [go_sem,simprocAttr]
 have h1:=(Zj1 L hL 292 [.ZA [Zw x]] _ (Zb2 L x hx)).args (args':=[.sl 1 (L.map Zw) (.buf l j),.fn (.func 292) [.ZA [Zw x]]]) ⟨.any _ _ _,.refl _,trivial⟩
 refine ZH (Zb Tryz.func221 rfl rfl) (h1) hn hT rfl ?_
 simp only [go_sem,simprocAttr]
 cases h2:L.any (fun y=>decide (x = y)) with
 | true =>
  refine Zp rfl rfl rfl ?_
  refine Za tok rfl rfl ?_
  simp only [go_sem,simprocAttr]
  refine Zi rfl rfl ?_
  refine ZP (.refl _) (ZV (fun y hy=>by obtain ⟨u,_,rfl⟩:=List.mem_map.1 hy; exact Zz _) (fun _ _ e=>by cases e; exact hl)) ?_
  rw [YJ,if_pos h2]
  exact ⟨rfl,(X3 hf).symm⟩
 | false =>
  refine Zn rfl rfl rfl ?_
  repeat refine kn rfl ?_
  refine WG tok (Zg6 l j false) rfl rfl (by kernel_rfl) ?_
  simp only [go_sem,simprocAttr,Zg6,hne,hf]
  refine ⟨by decide,⟨ZQ (by omega),by omega⟩,.inr (ZgW _ _ _ _),?_⟩
  refine Zi rfl rfl ?_
  have e:YJ L x = L ++ [x]:=by rw [YJ,if_neg (by rw [h2]; decide)]
  rw [e]
  refine ZP (.refl _) (ZV (fun y hy=>?_) (fun _ _ e=>by cases e; exact hl)) ⟨by simp [lkv],by simp⟩
  rcases List.mem_append.1 hy with hy | hy
  ·obtain ⟨u,_,rfl⟩:=List.mem_map.1 hy; exact Zz _
  ·simp only [List.mem_singleton] at hy; subst hy; exact Zz _
end Go.Proofs.YthgbkalgmicniaaGreatDoor

/- The text of an atom, copies. -/
namespace Go.Proofs.YthgbkalgmicniaaGreatDoor
open Go.Abs
set_option maxRecDepth 100000
def Zls (a:Am):List UInt8:=((a.pred ++ [40]) ++ Lib.join (a.args.map txt) [44]) ++ [41]
theorem ZbE {a:Am} (h:Yt a = true):sym a.pred = true ∧ a.args.length ≤ 8 ∧ a.args.all ZW = true:=by
 simp only [Yt,Bool.and_eq_true,decide_eq_true_eq] at h
 exact ⟨h.1.1,by omega,h.2⟩
theorem txts_len:∀ l:List Tm,(∀ t ∈ l,t.all okv = true) → Lib.lens (l.map txt) ≤ 60 * Tm.sz.szs l
 | [],_=>by simp [Lib.lens]
 | t :: r,h=>by
  have h1:=txt_len t (h t (by simp))
  have h2:=txts_len r (fun u hu=>h u (by simp [hu]))
  simp only [Lib.lens,List.map_cons,List.sum_cons,Tm.sz.szs] at *
  omega
theorem Zja (l:List Tm) (h:∀ t ∈ l,t.all okv = true):(Lib.join (l.map txt) [44]).length ≤ 60 * Tm.sz.szs l + l.length:=by
 have h1:=txts_len l h
 cases l with
 | nil=>simp [Lib.join]
 | cons t r =>
  rw [List.map_cons,Lib.join_length]
  simp only [Lib.lens,List.map_cons,List.sum_cons,List.length_cons,List.length_nil,List.length_map] at *
  omega
theorem Zmn (l:List Tm) (hl:∀ t ∈ l,t.Good) (hv:l.all ZW = true):Zk4 109 [] Tm.enc eStr l txt :=
 ⟨⟨_,_,Zb Tryz.func109 rfl rfl⟩,fun t ht=>a58 t (hl t ht) (List.all_eq_true.1 hv t ht),fun _=>trivial⟩
end Go.Proofs.YthgbkalgmicniaaGreatDoor

/- Names; each with pure functions; the table's literals. -/
namespace Go.Proofs.YthgbkalgmicniaaGreatDoor
open Go.Abs
set_option maxRecDepth 100000
theorem Zn9 (l:List (Tm)) (hl:l.length ≤ 1000000) (f:Nat) (caps:List AV) (g:Tm → Str) (hp:Zk4 f caps Tm.enc eStr l g):ZR Tryz.prog 108 [.sl 4 (l.map Tm.enc) .any,.fn (.func f) caps] (.sl 1 ((l.map g).map eStr) .any):=by
 intro n H hn hT
 obtain ⟨⟨fn,c,hf⟩,hp,hbl⟩:=hp
 have h:=e108 n l hl f caps fn c hf (l.map g) (by simp) (fun _=>H) (Below.fn _ _ fun i hi=>(hbl n).mem _ (List.getElem_mem hi)) (ZB l)
  (fun i h L=>Zr.mono (hp l[i] (List.getElem_mem h) (n + 1) (full n L H) (Nat.succ_pos _) (hT.full hn)) (by rintro r H1 ⟨rfl,rfl⟩; exact ⟨by simp,rfl⟩)) (fun _ _=>.refl _ _)
 exact h
theorem ZnA (l:List (GL)) (hl:l.length ≤ 1000000) (f:Nat) (caps:List AV) (g:GL → Am) (hp:Zk4 f caps GL.enc Am.enc l g):ZR Tryz.prog 114 [.sl 3 (l.map GL.enc) .any,.fn (.func f) caps] (.sl 2 ((l.map g).map Am.enc) .any):=by
 intro n H hn hT
 obtain ⟨⟨fn,c,hf⟩,hp,hbl⟩:=hp
 have h:=Znw n l hl f caps fn c hf (l.map g) (by simp) (fun _=>H) (Below.fn _ _ fun i hi=>(hbl n).mem _ (List.getElem_mem hi)) (Xm l)
  (fun i h L=>Zr.mono (hp l[i] (List.getElem_mem h) (n + 1) (full n L H) (Nat.succ_pos _) (hT.full hn)) (by rintro r H1 ⟨rfl,rfl⟩; exact ⟨by simp,rfl⟩)) (fun _ _=>.refl _ _)
 exact h
def ZaH (l:List Tm):List UInt8:=Lib.join (l.map txt) [44]
def XK (l:List Tm):Prop:=Tm.sz.szs l ≤ 999999 ∧ ∀ t ∈ l,Tm.Nm t
theorem XK.arg {l:List Tm} (h:XK l) {t:Tm} (ht:t ∈ l):t.Good:=⟨by have:=Tm.ZeK ht; have:=h.1; omega,h.2 t ht⟩
theorem XK.len {l:List Tm} (h:XK l):l.length ≤ 999999:=by have:=Tm.sz_len l; have:=h.1; omega
theorem Zcd {a:Am} (h:a.Good):XK a.args:=⟨by have:=h.sz; simp only [Am.sz] at this; omega,h.nm⟩
theorem Zbt {l:List Tm} (h:XK l) (hv:l.all ZW = true):(ZaH l).length ≤ 61000000:=by
 have h1:=Zja l (fun t ht=>Zb5 (List.all_eq_true.1 hv t ht))
 have h2:=h.len
 have h3:=h.1
 unfold ZaH; omega
theorem a60 (l:List Tm) (h:XK l) (hv:l.all ZW = true):ZR Tryz.prog 60 [.sl 4 (l.map Tm.enc) .any] (.str (ZaH l)):=by
 intro n H hn hT
 have h0:=h.len
 have h5:=Zbt h hv
 refine Zm tok (Zb Tryz.func60 rfl rfl) (by simp) fun B=>?_
 refine Za tok rfl rfl ?_
 simp only [go_sem,simprocAttr]
 refine Za tok rfl rfl ?_
 simp only [go_sem,simprocAttr]
 refine ZH (Zb Tryz.func108 rfl rfl) (Zn9 l (by omega) _ [] txt (Zmn l (fun t ht=>h.arg ht) hv)) hn hT rfl ?_
 simp only [go_sem,simprocAttr]
 have:=a92 (l.map txt) [44] .any (by simp; omega) (by unfold ZaH at h5; omega)
 refine ZH (Zb Tryz.func107 rfl rfl) (this) hn hT rfl ?_
 simp only [go_sem,simprocAttr]
 refine Zi rfl rfl ?_
 refine Ze ?_ (.str _) rfl
 try simp only [go_sem,simprocAttr,ZaH]
 exact .refl _
def Y1 (a:Am):List UInt8:=if Yt a = true then (if a.args.length = 0 then a.pred else Zls a) else []
theorem Zjx (a:Am) (ha:a.Good):ZR Tryz.prog 17 [a.enc] (.str (Y1 a)):=by
 intro n H hn hT
 refine Zm tok (Zb Tryz.func17 rfl rfl) (by simp) fun B=>?_
 refine Za tok rfl rfl ?_
 simp only [go_sem,simprocAttr]
 refine Za tok rfl rfl ?_
 simp only [go_sem,simprocAttr]
 refine ZH (Zb Tryz.func48 rfl rfl) (a14 a ha) hn hT rfl ?_
 simp only [go_sem,simprocAttr]
 cases h1:Yt a with
 | false =>
  simp only [go_sem,simprocAttr]
  refine Zp rfl rfl rfl ?_
  refine Za tok rfl rfl ?_
  simp only [go_sem,simprocAttr]
  refine Zi rfl rfl ?_
  refine Ze ?_ (.str _) rfl
  simp only [go_sem,simprocAttr,Y1,h1,Bool.false_eq_true,if_false]
  exact .refl _
 | true =>
  simp only [go_sem,simprocAttr]
  refine Zn rfl rfl rfl ?_
  obtain ⟨v1,v2,v3⟩:=ZbE h1
  have v4:=ZcE v1
  have v5:=Zbt (Zcd ha) v3
  refine Za tok rfl rfl ?_
  simp only [go_sem,simprocAttr]
  by_cases h2:a.args.length = 0
  ·refine Zp rfl rfl (by simp only [go_sem,simprocAttr,h2]) ?_
   refine Za tok rfl rfl ?_
   simp only [go_sem,simprocAttr]
   refine Zi rfl rfl ?_
   refine Ze ?_ (.str _) rfl
   simp only [go_sem,simprocAttr,Y1,h1,h2,if_true]
   exact .refl _
  ·have h3:((a.args.length:Int) == 0) = false:=by rw [beq_eq_false_iff_ne]; omega
   refine Zn rfl rfl (by simp only [go_sem,simprocAttr,h3]) ?_
   refine YX tok mixed drawO rfl rfl rfl ?_
   simp only [go_sem,simprocAttr]
   refine ⟨by omega,?_⟩
   refine ZH (Zb Tryz.func60 rfl rfl) (a60 a.args (Zcd ha) v3) hn hT rfl ?_
   simp only [go_sem,simprocAttr]
   refine ⟨by simp only [List.length_append,List.length_cons,List.length_nil]; omega,by simp only [List.length_append,List.length_cons,List.length_nil]; omega,?_⟩
   refine Zi rfl rfl ?_
   refine Ze ?_ (.str _) rfl
   simp only [go_sem,simprocAttr,Y1,h1,h2,if_true,if_false,Zls,ZaH]
   exact .refl _
end Go.Proofs.YthgbkalgmicniaaGreatDoor

/- The library's sort of a slice that may be written, as the layer says it. -/
namespace Go.Abs
open Go.Proofs Go.Shelf Go.Sort
def bare (E:Env):Env:={ F:=E.F,m:=fun _ _=>none,hist:=fun _ _ _=>none,g:=fun _ _=>none,qd:=true }
theorem VR.Zmi {E:Env} (q:Bool) {a:AV} {v:Value} (hv:VR E a v):VR { E with qd:=q } a v:=by
 induction hv with
 | int k n=>exact .int k n
 | bool b=>exact .bool b
 | str l=>exact .str l
 | nilp=>exact .nilp
 | ptr l k off b hm=>exact .ptr l k off b hm
 | ZA cs b off c hc _ ih=>exact .ZA cs b off c hc ih
 | slnil k o a ho ha=>exact .slnil k o a (by cases o <;> exact ho) ha
 | sl k xs o b off cap c hk hc _ hcap hm ho ih=>exact .sl k xs o b off cap c hk hc ih hcap hm (by cases o <;> exact ho)
 | nilf=>exact .nilf
 | fn f caps vs hl _ ih=>exact .fn f caps vs hl ih
 | bfn f caps vs hl _ ih=>exact .bfn f caps vs hl ih
 | nilm=>exact .nilm
 | map l k b hm=>exact .map l k b hm
 | mnil sz l k a hh ha=>exact .mnil sz l k a hh ha
 | msl sz l k n g cap hh=>exact .msl sz l k n g cap hh
 | eptr l k n off g cap hh=>exact .eptr l k n off g cap hh
 | ssl k xs ys b off cap c hk hc _ hcap hm ih=>exact .ssl k xs ys b off cap c hk hc ih hcap hm
 | nili=>exact .nili
 | Y8=>exact .Y8
 | sln k a cap hc=>exact .sln k a cap hc
 | sub sz l k n off m g cap hh hm=>exact .sub sz l k n off m g cap hh hm
 | ifc t a v _ ih=>exact .ifc t a v ih
 | agg cs vs hl _ ih=>exact .agg cs vs hl ih
 | tup cs vs hl _ ih=>exact .tup cs vs hl ih
 | dead v=>exact .dead v
theorem bare_eq (E:Env):bare E = { (E.cut 0) with qd:=true }:=by
 simp [bare,Env.cut]
theorem VR.bare {E:Env} {a:AV} {v:Value} (hv:VR E a v) (hb:Below 0 a):VR (bare E) a v:=by
 rw [bare_eq]; exact (hv.cut hb).Zmi true
theorem ZhD {E:Env} {w:World} (hF:∀ b o v,E.F b o = some v → w.cell? ⟨b,o,none⟩ = some v):ZJ 0 (fun _ _=>none) (bare E) w where
 norm:=⟨fun _ _ _=>rfl,fun _ _ _=>rfl,fun _ _ _ _=>rfl⟩
 F:=hF
 blk l k b hl _:=absurd hl (Nat.not_lt_zero _)
 dom l k hl _:=absurd hl (Nat.not_lt_zero _)
 nobuf l k h:=absurd rfl h
 inj l k l' k' b h:=by cases h
 injg l k l' k' b h:=by cases h
 mg l k l' k' b h:=by cases h
 mF l k b o h:=by cases h
 lt b h:=by rcases h with ⟨_,_,h⟩ | ⟨_,_,h⟩ <;> cases h
theorem Zdi {P:Program} {g:FuncId} {args:List AV} {r:AV} {E:Env} {w:World} {vs:List Value} (h:Pure P g args r) (hv:VRs E args vs) (hb:∀ a ∈ args,Below 0 a)
  (hF:∀ b o v,E.F b o = some v → w.cell? ⟨b,o,none⟩ = some v):Calls P g vs.toArray w fun e w'=>(∃ v E',e = .returned v ∧ VR E' r v) ∧ ∃ q os,w' = grow (w.drewN q) os:=by
 have hv':VRs (bare E) args vs:=⟨hv.1,fun i h1 h2=>(hv.2 i h1 h2).bare (hb _ (List.getElem_mem h1))⟩
 refine (h 0 _ (bare E) w vs (ZhD hF) hv').mono ?_
 rintro e w' ⟨r',v,H',E',rfl,⟨rfl,_⟩,h1,h2,hx⟩
 refine ⟨⟨v,E',rfl,h1⟩,w'.drawn - w.drawn,w'.heap.extract w.heap.size w'.heap.size,?_⟩
 obtain ⟨heap,tape,drawn,os,output⟩:=w'
 have e1:=hx.os; have e2:=hx.tape; have e3:=hx.output; have e4:=hx.drawn rfl; have e5:=hx.size; have e6:=hx.block
 simp only at e1 e2 e3 e4 e5 e6
 subst e1 e2 e3
 have e7:heap = w.heap ++ heap.extract w.heap.size heap.size:=by
  apply Array.ext_getElem?
  intro i
  rcases Nat.lt_or_ge i w.heap.size with hi | hi
  ·rw [Array.getElem?_append_left hi]
   exact e6 i hi (by rintro (⟨_,_,h⟩ | ⟨_,_,h⟩) <;> cases h)
  ·rw [Array.getElem?_append_right hi,Array.getElem?_extract]
   rcases Nat.lt_or_ge i heap.size with hj | hj
   ·rw [if_pos (by omega)]; congr 1; omega
   ·rw [if_neg (by omega),Array.getElem?_eq_none hj]
 simp only [grow,World.drewN,World.mk.injEq,true_and,and_true]
 exact ⟨e7,by omega⟩
theorem Za2 {α β:Type} (f:α → List β) (k:Nat) (hk:∀ x,(f x).length = k) (k0:0 < k):∀ (l:List α) (t:Nat),(l.flatMap f)[t]? = (l[t / k]?).bind fun x=>(f x)[t % k]?
 | [],t=>by simp
 | x :: l,t=>by
  rw [List.flatMap_cons]
  rcases Nat.lt_or_ge t k with h | h
  ·rw [List.getElem?_append_left (by rw [hk]; exact h),Nat.div_eq_of_lt h,Nat.mod_eq_of_lt h]; rfl
  ·rw [List.getElem?_append_right (by rw [hk]; exact h),hk,Za2 f k hk k0 l (t - k)]
   have e1:t / k = (t - k) / k + 1:=by rw [Nat.div_eq_sub_div k0 h]
   have e2:t % k = (t - k) % k:=Nat.mod_eq_sub_mod h
   rw [e1,e2,List.getElem?_cons_succ]
section
variable {X:Type} {P:Program} {ρ:Ren}
structure ZfV (G:X → Prop) (lt:X → X → Bool):Prop where
 irrefl:∀ x,G x → lt x x = false
 trans:∀ x y z,G x → G y → G z → lt x y = true → lt y z = true → lt x z = true
 ntrans:∀ x y z,G x → G y → G z → lt x y = false → lt y z = false → lt x z = false
def Elt (E:Env) (cs:X → List AV) (G:X → Prop):={ p:List Value × X // G p.2 ∧ VRs E (cs p.2) p.1 }
theorem Zju (L:SlLaysF0.n6 P ρ) (k:Nat) (k0:0 < k) (aE:∀ w,(isAgg (ρ.t 24)).run P w = .ok true w) (zE:∀ w,(Go.sizeOf (ρ.t 24)).run P w = .ok k w) (cs:X → List AV) (hk:∀ x,(cs x).length = k) (hone:∀ x,∀ c ∈ cs x,c.one = true)
  (hbl:∀ x,∀ c ∈ cs x,Below 0 c) (cf:X → X → Int) (G:X → Prop) (hO:ZfV G (ltOf cf)) (g:Nat) (fn:Func) (c:Code) (hf:Fun P g fn c) (hp:∀ x y,G x → G y → Pure P g [.agg (cs x),.agg (cs y)] (.int .i64 (cf x y)))
  (n:Nat) (H:Zf) (l j e sz0:Nat) (xs:List X) (hl:l < n) (hG:∀ x ∈ xs,G x) (hH:H l j = some (.ZN e k (xs.flatMap cs) xs.length)) (hlen:xs.length ≤ 1000000000) :
  Zr P n (ρ.f 6) [.msl sz0 l j xs.length,.fn (.func g) []] H fun r H'=>r = .tup [] ∧ ∃ ys:List X,ys.Perm xs ∧ (∀ i i' (h:i < ys.length) (h':i' < ys.length),i < i' → ltOf cf ys[i'] ys[i] = false) ∧ H' = H.upd l j (.ZN e k (ys.flatMap cs) ys.length):=fun E w vs hr hv=>by
 obtain ⟨v1,r1,rfl,h1,hv⟩:=hv.YR
 obtain ⟨v2,r2,rfl,h2,hv⟩:=hv.YR
 rw [hv.of_nil]
 cases h2 with | fn _ _ vs2 hl2 hv2 =>
 have e2:vs2 = []:=by simpa using hl2
 subst e2
 have hfl:∀ (l:List X),(l.flatMap cs).length = l.length * k:=fun l=>by
  induction l with
  | nil=>simp
  | cons x l ih=>rw [List.flatMap_cons,List.length_append,hk,ih,List.length_cons,Nat.add_mul]; omega
 cases hxs:xs with
 | nil =>
  subst hxs
  have hnone:∀ a cap,Calls P (ρ.f 6) #[.slice a 0 cap,.func (.func g) #[] #[]] w fun e' w'=>∃ r v H' E',e' = .returned v ∧ (r = .tup [] ∧ ∃ ys:List X,ys.Perm [] ∧ (∀ i i' (h:i < ys.length) (h':i' < ys.length),i < i' → ltOf cf ys[i'] ys[i] = false) ∧ H' = H.upd l j (.ZN e k (ys.flatMap cs) ys.length)) ∧ VR E' r v ∧ ZJ n H' E' w' ∧ Ext n E w E' w':=fun a cap =>
   (AnyF.slices_SortFunc_none L a cap _ w).mono fun e' w' ⟨he,hw⟩=>by
    subst hw he
    exact ⟨.tup [],_,H,E,rfl,⟨rfl,[],.refl _,fun i _ h=>absurd h (Nat.not_lt_zero _),(X3 hH).symm⟩,.tup [] [] rfl (fun i h=>absurd h (Nat.not_lt_zero _)),hr,.refl _ _ _⟩
  generalize hz:AV.msl sz0 l j ([]:List X).length = av at h1
  cases h1 <;> cases hz
  ·exact hnone _ _
  ·exact hnone _ _
 | cons x0 xr =>
  rw [← hxs]
  have hpos:0 < xs.length:=by rw [hxs]; simp
  obtain ⟨nx,hnx⟩:∃ m,m = xs.length:=⟨_,rfl⟩
  rw [← hnx] at h1
  generalize hz:AV.msl sz0 l j nx = av at h1
  cases h1 <;> cases hz
  ·omega
  rename_i gb cap hh
  subst hnx
  obtain ⟨cc,q1,q2,q3,q4,q5,q6,q7,q8⟩:=hr.mrow hh hH hpos
  have hle:xs.length * k ≤ cap * k:=Nat.mul_le_mul_right _ q3
  have hcs:xs.length * k ≤ cc.size:=by omega
  have hgb:gb < w.heap.size:=(Array.getElem?_eq_some_iff.1 q2).1
  have elt:∀ i (hi:i < xs.length),G xs[i] ∧ VRs E (cs xs[i]) ((cc.toList.drop (i * k)).take k):=fun i hi=>by
   refine ⟨hG _ (List.getElem_mem hi),?_⟩
   have hik:i * k + k ≤ xs.length * k:=by
    have:=Nat.mul_le_mul_right k (show i + 1 ≤ xs.length from hi); rwa [Nat.add_mul,Nat.one_mul] at this
   refine ⟨by rw [hk,List.length_take,List.length_drop,Array.length_toList]; omega,fun t ht ht'=>?_⟩
   have htk:t < k:=by rw [hk] at ht; exact ht
   have hd:(i * k + t) / k = i:=by rw [Nat.mul_comm,Nat.mul_add_div k0,Nat.div_eq_of_lt htk,Nat.add_zero]
   have hm:(i * k + t) % k = t:=by rw [Nat.mul_comm,Nat.mul_add_mod,Nat.mod_eq_of_lt htk]
   have a1:=Za2 cs k hk k0 xs (i * k + t)
   rw [hd,hm,List.getElem?_eq_getElem hi,Option.bind_some,List.getElem?_eq_getElem ht] at a1
   obtain ⟨a2,a3⟩:=List.getElem?_eq_some_iff.1 a1
   have a4:=q7.2 (i * k + t) a2 (by rw [q7.1]; exact a2)
   rw [a3] at a4
   simpa [List.getElem_take,List.getElem_drop] using a4
  letI inh:Inhabited (Elt E cs G):=⟨⟨((cc.toList.drop (0 * k)).take k,xs[0]),elt 0 hpos⟩⟩
  let enc:Elt E cs G → List Value:=fun p=>p.1.1
  let cf':Elt E cs G → Elt E cs G → Int:=fun p q=>cf p.1.2 q.1.2
  let d:Array (Elt E cs G):=Array.ofFn fun i:Fin xs.length=>⟨((cc.toList.drop (i.1 * k)).take k,xs[i.1]),elt i.1 i.2⟩
  have hds:d.size = xs.length:=Array.size_ofFn
  have hdg:∀ i (hi:i < xs.length),d[i]! = ⟨((cc.toList.drop (i * k)).take k,xs[i]),elt i hi⟩:=fun i hi=>by
   rw [getElem!_pos d i (by rw [hds]; exact hi)]; exact Array.getElem_ofFn _
  have hek:∀ x,(enc x).length = k:=fun x=>by have:=x.2.2.1; rw [hk] at this; exact this
  have he1:∀ x,∀ v ∈ enc x,v.oneCell' = true:=fun x v hv=>by
   obtain ⟨t,ht,rfl⟩:=List.getElem_of_mem hv
   have h0:=x.2.2.2 t (by rw [← x.2.2.1]; exact ht) ht
   exact h0.one (hone _ _ (List.getElem_mem _))
  have hO':SWO (ltOf cf'):=⟨fun x=>hO.irrefl _ x.2.1,fun x y z=>hO.trans _ _ _ x.2.1 y.2.1 z.2.1,fun x y z=>hO.ntrans _ _ _ x.2.1 y.2.1 z.2.1⟩
  have hH0:HoldsK enc k w gb 0 d:=fun t ht=>by
   rw [size_flatK,hds] at ht
   have hi:t / k < xs.length:=Nat.div_lt_of_lt_mul (by rw [Nat.mul_comm]; exact ht)
   have htm:t % k < k:=Nat.mod_lt _ k0
   have hcell:w.cell? ⟨gb,0 + t,none⟩ = cc[t]?:=by simp only [World.cell?,q2]; simp
   have hfro:w.frozen? ⟨gb,0 + t,none⟩ = false:=by simp [World.frozen?,q2]
   refine ⟨?_,hfro⟩
   rw [hcell,get_flatK _ _ _ _ (by rw [hds]; exact ht),hdg _ hi]
   have htt:t / k * k + t % k = t:=by rw [Nat.mul_comm]; exact Nat.div_add_mod t k
   have hlt:t % k < ((cc.toList.drop (t / k * k)).take k).length:=by rw [List.length_take,List.length_drop,Array.length_toList]; omega
   show cc[t]? = some (((cc.toList.drop (t / k * k)).take k)[t % k]!)
   have hgp:((cc.toList.drop (t / k * k)).take k)[t % k]! = ((cc.toList.drop (t / k * k)).take k)[t % k]'hlt:=getElem!_pos ((cc.toList.drop (t / k * k)).take k) (t % k) hlt
   rw [hgp,List.getElem_take,List.getElem_drop]
   rw [Array.getElem?_eq_getElem (by omega)]
   simp [htt]
  have hcmp:CmpLays P g #[] enc k cf' gb 0 d.size w:=fun m os dk hdk x y=>by
   have hs0:w.heap.size ≤ (sortWorldK enc k w gb 0 m dk os).heap.size:=size_sortWorldK_c enc k w gb 0 m dk os
   have hcb:=Zdi (E:=E) (w:=sortWorldK enc k w gb 0 m dk os) (vs:=[.agg (enc x).toArray,.agg (enc y).toArray]) (hp _ _ x.2.1 y.2.1)
    (VRs.cons (.agg _ _ (by have:=x.2.2.1; exact this) x.2.2.2) (VRs.cons (.agg _ _ (by have:=y.2.2.1; exact this) y.2.2.2) (VRs.nil _)))
    (fun a ha=>by
     simp only [List.mem_cons,List.not_mem_nil,or_false] at ha
     rcases ha with rfl | rfl <;> exact YL (hbl _))
    (fun b o v hFv=>by
     have hne:b ≠ gb:=fun e'=>by subst e'; rw [q6] at hFv; cases hFv
     have hlt:=hr.ZbZ hFv
     unfold sortWorldK
     rw [cell?_grow _ _ _ (by rw [size_putRowK]; exact hlt),cell?_putRowK_other _ _ _ _ _ _ _ hne]
     exact hr.F _ _ _ hFv)
   refine Calls.mono hcb ?_
   rintro e' w' ⟨⟨v,E',rfl,hvv⟩,hw⟩
   cases hvv
   exact ⟨rfl,hw⟩
  have hs:=AnyQ.slices_SortFunc L k aE zE enc hek he1 cf' hO' g #[] gb 0 cap d w (XU hf) hcmp hH0 hgb (by rw [hds]; omega)
  rw [hds] at hs
  refine Calls.mono hs ?_
  rintro e' w' ⟨rfl,d',m,os,⟨p1,p2,p3⟩,hso,rfl⟩
  have hd's:d'.size = xs.length:=by rw [p1,hds]
  have pe1:d'.extract 0 xs.length = d':=by rw [← hd's]; simp
  have pe2:d.extract 0 xs.length = d:=by rw [← hds]; simp
  rw [pe1,pe2] at p3
  have hdx:d.toList.map (fun p=>p.1.2) = xs:=by
   apply List.ext_getElem
   ·simp [hds]
   ·intro i h1 h2
    have hi:i < xs.length:=by simpa [hds] using h1
    have:=hdg i hi
    rw [getElem!_pos d i (by rw [hds]; exact hi)] at this
    simp only [List.getElem_map,Array.getElem_toList,this]
  obtain ⟨ys,hys⟩:∃ ys,ys = d'.toList.map (fun p=>p.1.2):=⟨_,rfl⟩
  have hyl:ys.length = xs.length:=by rw [hys]; simp [hd's]
  have hyg:∀ i (hi:i < ys.length),ys[i] = (d'[i]!).1.2:=fun i hi=>by
   subst hys; rw [getElem!_pos d' i (by simpa using hi)]; simp
  have hyp:ys.Perm xs:=by rw [hys,← hdx]; exact p3.map _
  have hc':(putRowK enc k (Go.Sort.ahead w m) gb 0 d').heap[gb]? = some (.cells (putCells id 0 (flatK enc k d') cc) e (0,0)):=by
   simp only [putRowK,putRow,mapBlock,Array.getElem?_modify,if_true,Go.Sort.ahead,q2,Option.map_some,onCells]
  have hsz':(putCells id 0 (flatK enc k d') cc).size = cc.size:=by simp [putCells]
  obtain ⟨hh2,hx2⟩:=hr.turn (w':=putRowK enc k (Go.Sort.ahead w m) gb 0 d') (.inr q1) (.ZN e k (ys.flatMap cs) ys.length) (fun _=>rfl) rfl rfl rfl (fun _=>Nat.le_add_right _ _) (by rw [size_putRowK]; rfl)
   (fun b' hb'=>by simp only [putRowK,putRow,mapBlock,Array.getElem?_modify,Go.Sort.ahead]; rw [if_neg (fun e=>hb' e.symm)]) q6 (by
    obtain ⟨⟨_,v0,hv0,hj0,_⟩,hm0⟩:=hr.ZN l j e k (xs.flatMap cs) xs.length (hr.norm.Xx hh) hH
    rw [hh] at hv0
    cases hv0
    rw [hyl]
    refine ⟨⟨by rw [hfl,hyl],_,hh,hj0,.inr ⟨gb,cap,_,rfl,q1,hc',q3,q4,by rw [hsz',q5],q6,?_⟩⟩,hm0⟩
    have hpl:(putCells id 0 (flatK enc k d') cc).toList.length = cc.size:=by rw [Array.length_toList]; exact hsz'
    refine ⟨by rw [hfl,hyl,List.length_take,hpl]; omega,fun t ht ht'=>?_⟩
    rw [hfl,hyl] at ht
    have hi:t / k < xs.length:=Nat.div_lt_of_lt_mul (by rw [Nat.mul_comm]; exact ht)
    have htm:t % k < k:=Nat.mod_lt _ k0
    have a1:=Za2 cs k hk k0 ys t
    rw [List.getElem?_eq_getElem (l:=ys) (i:=t / k) (by omega),Option.bind_some,List.getElem?_eq_getElem (l:=cs ys[t / k]) (i:=t % k) (by rw [hk]; exact htm),List.getElem?_eq_getElem (l:=ys.flatMap cs) (i:=t) (by rw [hfl,hyl]; exact ht)] at a1
    have a2:=Option.some.inj a1
    rw [a2]
    have a3:((putCells id 0 (flatK enc k d') cc).toList.take (xs.length * k))[t] = (enc d'[t / k]!)[t % k]!:=by
     rw [List.getElem_take]
     simp only [putCells,Array.getElem_toList,Array.getElem_mapIdx,size_flatK,hd's]
     rw [if_pos ⟨Nat.zero_le _,by omega⟩,Nat.sub_zero,get_flatK _ _ _ _ (by rw [hd's]; exact ht)]; rfl
    rw [a3]
    have a4:=(d'[t / k]!).2.2
    have hyq:=hyg (t / k) (by omega)
    have a5:=a4.2 (t % k) (by rw [hk]; exact htm) (by rw [a4.1,hk]; exact htm)
    have a6:(enc d'[t / k]!)[t % k]! = (d'[t / k]!).1.1[t % k]'(by rw [a4.1,hk]; exact htm):=getElem!_pos _ _ _
    rw [a6]
    simp only [hyq]
    exact a5)
  obtain ⟨hh3,hx3⟩:=hh2.below (w':=sortWorldK enc k w gb 0 m d' os) ⟨rfl,rfl,rfl,by simp [sortWorldK],fun b hb=>by simp [sortWorldK,grow,Array.getElem?_append,hb]⟩ (fun _=>Nat.le_refl _)
  refine ⟨.tup [],_,_,E,rfl,⟨rfl,ys,hyp,fun i i' hi hi' hii=>?_,rfl⟩,.tup [] [] rfl (fun i h=>absurd h (Nat.not_lt_zero _)),hh3,hx2.trans hx3⟩
  have:=hso i i' (Nat.zero_le _) hii (by omega)
  rw [hyg i hi,hyg i' hi']; exact this
end
end Go.Abs

/- The library's sort and Compact of a slice of integers that may be written, as the layer says them. -/
namespace Go.Abs
open Go.Proofs Go.Shelf Go.Sort
abbrev vInt:Int → Value:=Value.int .i64
abbrev ZI (l:List Int):List AV:=l.map (AV.int .i64)
section
variable {P:Program}
theorem Zfi {E:Env}:∀ {l:List Int} {vs:List Value},VRs E (ZI l) vs → vs = l.map vInt
 | [],vs,h=>h.of_nil
 | x :: l,vs,h=>by
  obtain ⟨v,r,rfl,h1,h2⟩:=VRs.YR h
  cases h1
  rw [Zfi h2]; rfl
theorem ZfQ (E:Env):∀ l:List Int,VRs E (ZI l) (l.map vInt)
 | []=>VRs.nil E
 | x :: l=>VRs.cons (.int _ _) (ZfQ E l)
theorem ZbV {m:Nat} {H:Zf} {E:Env} {w:World} (hr:ZJ m H E w) {l j gb cap e:Nat} {xs:List Int} (hh:E.hist l j xs.length = some (.slice (some ⟨gb,0,none⟩) xs.length cap)) (hH:H l j = some (.ZN e 1 (ZI xs) xs.length)) (hpos:0 < xs.length) :
  ∃ cc,E.g l j = some gb ∧ w.heap[gb]? = some (.cells cc e (0,0)) ∧ xs.length ≤ cap ∧ cap ≤ maxLen ∧ cc.size = cap ∧ (∀ o,E.F gb o = none) ∧ cc.toList.take xs.length = xs.map vInt ∧ gb < w.heap.size:=by
 obtain ⟨cc,q1,q2,q3,q4,q5,q6,q7,q8⟩:=hr.mrow hh hH hpos
 rw [Nat.mul_one] at q5 q7
 exact ⟨cc,q1,q2,q3,q4,q5,q6,Zfi q7,(Array.getElem?_eq_some_iff.1 q2).1⟩
theorem Zd1 {w:World} {gb e:Nat} {cc:Array Value} {xs:List Int} (q2:w.heap[gb]? = some (.cells cc e (0,0))) (hl:xs.length ≤ cc.size) (hc:cc.toList.take xs.length = xs.map vInt):Holds vInt w gb 0 xs.toArray:=fun t ht=>by
 have ht':t < xs.length:=by simpa using ht
 have hcell:w.cell? ⟨gb,0 + t,none⟩ = cc[t]?:=by simp only [World.cell?,q2]; simp
 refine ⟨?_,by simp [World.frozen?,q2]⟩
 rw [hcell]
 have h1:(cc.toList.take xs.length)[t]? = (xs.map vInt)[t]?:=by rw [hc]
 rw [List.getElem?_take_of_lt ht',List.getElem?_map,List.getElem?_eq_getElem ht',Option.map_some,Array.getElem?_toList] at h1
 rw [h1,getElem!_pos xs.toArray t ht]; simp
theorem ZdV {m:Nat} {H:Zf} {E:Env} {w:World} (hr:ZJ m H E w) {l j gb cap e:Nat} {xs:List Int} (hh:E.hist l j xs.length = some (.slice (some ⟨gb,0,none⟩) xs.length cap)) (hH:H l j = some (.ZN e 1 (ZI xs) xs.length)) (hpos:0 < xs.length)
  (d:Array Int) (hd:d.size = xs.length) (q:Nat) :
  ZJ m (H.upd l j (.ZN e 1 (ZI d.toList) xs.length)) E (putRow vInt (Go.Sort.ahead w q) gb 0 d) ∧ Ext m E w E (putRow vInt (Go.Sort.ahead w q) gb 0 d):=by
 obtain ⟨cc,q1,q2,q3,q4,q5,q6,q7,q8⟩:=ZbV hr hh hH hpos
 have hc':(putRow vInt (Go.Sort.ahead w q) gb 0 d).heap[gb]? = some (.cells (putCells vInt 0 d cc) e (0,0)):=by
  simp only [putRow,mapBlock,Array.getElem?_modify,if_true,Go.Sort.ahead,q2,Option.map_some,onCells]
 have hsz:(putCells vInt 0 d cc).size = cc.size:=by simp [putCells]
 refine hr.turn (.inr q1) (.ZN e 1 (ZI d.toList) xs.length) (fun _=>rfl) rfl rfl rfl (fun _=>Nat.le_add_right _ _) (by simp [putRow,mapBlock,Go.Sort.ahead])
  (fun b' hb'=>by simp only [putRow,mapBlock,Array.getElem?_modify,Go.Sort.ahead]; rw [if_neg (fun e=>hb' e.symm)]) q6 ?_
 obtain ⟨⟨_,v0,hv0,hj0,_⟩,hm0⟩:=hr.ZN l j e 1 (ZI xs) xs.length (hr.norm.Xx hh) hH
 rw [hh] at hv0
 cases hv0
 refine ⟨⟨by simp [hd],_,hh,hj0,.inr ⟨gb,cap,_,rfl,q1,hc',q3,q4,by rw [hsz,q5,Nat.mul_one],q6,?_⟩⟩,hm0⟩
 have e1:(putCells vInt 0 d cc).toList.take (xs.length * 1) = d.toList.map vInt:=by
  rw [Nat.mul_one]
  apply List.ext_getElem
  ·simp [putCells,hd]; omega
  ·intro t h1 h2
   have ht:t < d.size:=by simpa using h2
   rw [List.getElem_take]
   simp only [putCells,Array.getElem_toList,Array.getElem_mapIdx,List.getElem_map]
   rw [if_pos ⟨Nat.zero_le _,by omega⟩,Nat.sub_zero,getElem!_pos d t ht]
 rw [e1]
 exact ZfQ E _
theorem Zgo {G:Int → Prop} [Inhabited { x:Int // G x }] (w:World) (gb:Nat) (d:Array { x:Int // G x }):putRow (fun p:{ x:Int // G x }=>vInt p.1) w gb 0 d = putRow vInt w gb 0 (d.map (·.1)):=by
 have h:∀ cc,putCells (fun p:{ x:Int // G x }=>vInt p.1) 0 d cc = putCells vInt 0 (d.map (·.1)) cc:=fun cc=>by
  unfold putCells
  apply Array.ext
  ·simp
  ·intro i h1 h2
   simp only [Array.getElem_mapIdx,Array.size_map]
   split
   ·rename_i hc
    have hi:i - 0 < d.size:=by omega
    rw [getElem!_pos d (i - 0) hi,getElem!_pos (d.map (·.1)) (i - 0) (by simpa using hi)]; simp
   ·rfl
 simp only [putRow]
 rw [funext h]
theorem ZfY {ρ ρ0:Ren} (L:SlLaysF.n6 P ρ) (L0:SlLaysF0.n6 P ρ0) (hs:ρ0.f 6 = ρ.f 6) (cf:Int → Int → Int) (G:Int → Prop) (hO:ZfV G (ltOf cf)) (g:Nat) (fn:Func) (c:Code) (hf:Fun P g fn c) (hp:∀ x y,G x → G y → Pure P g [.int .i64 x,.int .i64 y] (.int .i64 (cf x y)))
  (n:Nat) (H:Zf) (l j e sz0:Nat) (xs:List Int) (hG:∀ x ∈ xs,G x) (hH:H l j = some (.ZN e 1 (ZI xs) xs.length)) (hlen:xs.length ≤ 1000000000) :
  Zr P n (ρ.f 6) [.msl sz0 l j xs.length,.fn (.func g) []] H fun r H'=>r = .tup [] ∧ ∃ ys:List Int,ys.Perm xs ∧ (∀ i i' (h:i < ys.length) (h':i' < ys.length),i < i' → ltOf cf ys[i'] ys[i] = false) ∧ H' = H.upd l j (.ZN e 1 (ZI ys) xs.length):=fun E w vs hr hv=>by
 obtain ⟨v1,r1,rfl,h1,hv⟩:=hv.YR
 obtain ⟨v2,r2,rfl,h2,hv⟩:=hv.YR
 rw [hv.of_nil]
 cases h2 with | fn _ _ vs2 hl2 hv2 =>
 have e2:vs2 = []:=by simpa using hl2
 subst e2
 cases hxs:xs with
 | nil =>
  subst hxs
  have hnone:∀ a cap,Calls P (ρ.f 6) #[.slice a 0 cap,.func (.func g) #[] #[]] w fun e' w'=>∃ r v H' E',e' = .returned v ∧ (r = .tup [] ∧ ∃ ys:List Int,ys.Perm [] ∧ (∀ i i' (h:i < ys.length) (h':i' < ys.length),i < i' → ltOf cf ys[i'] ys[i] = false) ∧ H' = H.upd l j (.ZN e 1 (ZI ys) 0)) ∧ VR E' r v ∧ ZJ n H' E' w' ∧ Ext n E w E' w':=fun a cap=>by
   rw [← hs]
   exact (AnyF.slices_SortFunc_none L0 a cap _ w).mono fun e' w' ⟨he,hw⟩=>by
    subst hw he
    exact ⟨.tup [],_,H,E,rfl,⟨rfl,[],.refl _,fun i _ h=>absurd h (Nat.not_lt_zero _),(X3 hH).symm⟩,.tup [] [] rfl (fun i h=>absurd h (Nat.not_lt_zero _)),hr,.refl _ _ _⟩
  generalize hz:AV.msl sz0 l j ([]:List Int).length = av at h1
  cases h1 <;> cases hz
  ·exact hnone _ _
  ·exact hnone _ _
 | cons x0 xr =>
  rw [← hxs]
  have hpos:0 < xs.length:=by rw [hxs]; simp
  obtain ⟨nx,hnx⟩:∃ m,m = xs.length:=⟨_,rfl⟩
  rw [← hnx] at h1
  generalize hz:AV.msl sz0 l j nx = av at h1
  cases h1 <;> cases hz
  ·omega
  rename_i gb cap hh
  subst hnx
  obtain ⟨cc,q1,q2,q3,q4,q5,q6,q7,hgb⟩:=ZbV hr hh hH hpos
  letI inh:Inhabited { x:Int // G x }:=⟨⟨xs[0],hG _ (List.getElem_mem hpos)⟩⟩
  let enc:{ x:Int // G x } → Value:=fun p=>vInt p.1
  let cf':{ x:Int // G x } → { x:Int // G x } → Int:=fun p q=>cf p.1 q.1
  obtain ⟨d,hd⟩:∃ d:Array { x:Int // G x },d.map (·.1) = xs.toArray:=⟨(xs.attachWith G hG).toArray,by simp⟩
  have hds:d.size = xs.length:=by have:=congrArg Array.size hd; simpa using this
  have hO':SWO (ltOf cf'):=⟨fun x=>hO.irrefl _ x.2,fun x y z=>hO.trans _ _ _ x.2 y.2 z.2,fun x y z=>hO.ntrans _ _ _ x.2 y.2 z.2⟩
  have hH1:Holds vInt w gb 0 xs.toArray:=Zd1 q2 (by omega) q7
  have hH0:Holds enc w gb 0 d:=fun t ht=>by
   have h:=hH1 t (by simp; omega)
   refine ⟨?_,h.2⟩
   rw [h.1]
   congr 1
   show vInt _ = vInt _
   congr 1
   rw [← hd,getElem!_pos (d.map (·.1)) t (by simpa using ht),getElem!_pos d t ht]; simp
  have hcmp:CmpLays1 P g #[] enc cf' gb 0 d.size w:=fun m os dk hdk x y=>by
   have hcb:=Zdi (E:=E) (w:=sortWorld enc w gb 0 m dk os) (vs:=[vInt x.1,vInt y.1]) (hp x.1 y.1 x.2 y.2) (VRs.cons (.int _ _) (VRs.cons (.int _ _) (VRs.nil _)))
    (fun a ha=>by
     simp only [List.mem_cons,List.not_mem_nil,or_false] at ha
     rcases ha with rfl | rfl <;> exact .int _ _)
    (fun b o v hFv=>by
     have hne:b ≠ gb:=fun e'=>by subst e'; rw [q6] at hFv; cases hFv
     have hlt:=hr.ZbZ hFv
     unfold sortWorld
     rw [cell?_grow _ _ _ (by simp [putRow,mapBlock,Go.Sort.ahead]; exact hlt),cell?_putRow_other _ _ _ _ _ _ (.inl hne)]
     exact hr.F _ _ _ hFv)
   refine Calls.mono hcb ?_
   rintro e' w' ⟨⟨v,E',rfl,hvv⟩,hw⟩
   cases hvv
   exact ⟨rfl,hw⟩
  have hsr:=Any.slices_SortFunc L enc (fun _=>rfl) cf' hO' g #[] gb 0 cap d w (XU hf) hcmp hH0 hgb (by omega)
  rw [hds] at hsr
  refine Calls.mono hsr ?_
  rintro e' w' ⟨rfl,d',m,os,⟨p1,p2,p3⟩,hso,rfl⟩
  have hd's:d'.size = xs.length:=by rw [p1,hds]
  have pe1:d'.extract 0 xs.length = d':=by rw [← hd's]; simp
  have pe2:d.extract 0 xs.length = d:=by rw [← hds]; simp
  rw [pe1,pe2] at p3
  obtain ⟨hh2,hx2⟩:=ZdV hr hh hH hpos (d'.map (·.1)) (by simpa using hd's) m
  rw [← Zgo] at hh2 hx2
  obtain ⟨hh3,hx3⟩:=hh2.below (w':=sortWorld enc w gb 0 m d' os) ⟨rfl,rfl,rfl,by simp [sortWorld,grow,enc],fun b hb=>by show ((putRow enc (Go.Sort.ahead w m) gb 0 d').heap ++ os)[b]? = _; rw [Array.getElem?_append_left hb]⟩ (fun _=>Nat.le_refl _)
  have hpm:(d'.map (·.1)).toList.Perm xs:=by
   have:=p3.map (·.1)
   rw [← Array.toList_map,← Array.toList_map,hd] at this
   simpa using this
  refine ⟨.tup [],_,_,E,rfl,⟨rfl,(d'.map (·.1)).toList,hpm,fun i i' hi hi' hii=>?_,rfl⟩,.tup [] [] rfl (fun i h=>absurd h (Nat.not_lt_zero _)),hh3,hx2.trans hx3⟩
  have hi1:i < d'.size:=by simpa using hi
  have hi2:i' < d'.size:=by simpa using hi'
  have:=hso i i' (Nat.zero_le _) hii (by omega)
  rw [getElem!_pos d' i hi1,getElem!_pos d' i' hi2] at this
  simpa [ltOf,cf'] using this
theorem Zfz {ρ:Ren} (L:Lays2.n20 P ρ) (n:Nat) (H:Zf) (l j e:Nat) (xs:List Int) (hpos:0 < xs.length) (hH:H l j = some (.ZN e 1 (ZI xs) xs.length)) (hlen:xs.length ≤ 1000000000) :
  Zr P n (ρ.f 20) [.msl 1 l j xs.length] H fun r H'=>r = .sub 1 l j xs.length 0 (Lib.compact xs).length ∧ H' = H.upd l j (.ZN e 1 (ZI (Lib.compact xs ++ List.replicate (xs.length - (Lib.compact xs).length) 0)) xs.length):=fun E w vs hr hv=>by
 obtain ⟨v1,r1,rfl,h1,hv⟩:=hv.YR
 rw [hv.of_nil]
 obtain ⟨nx,hnx⟩:∃ m,m = xs.length:=⟨_,rfl⟩
 rw [← hnx] at h1
 generalize hz:AV.msl 1 l j nx = av at h1
 cases h1 <;> cases hz
 ·omega
 rename_i gb cap hh
 subst hnx
 obtain ⟨cc,q1,q2,q3,q4,q5,q6,q7,hgb⟩:=ZbV hr hh hH hpos
 have hH0:Holds vInt w gb 0 xs.toArray:=Zd1 q2 (by omega) q7
 refine Calls.mono (Any.slices_Compact_int L gb 0 cap xs w hH0 (by omega) q3) ?_
 rintro e' w' ⟨rfl,q,rfl⟩
 have hle:(Lib.compact xs).length ≤ xs.length:=Lib.compact_length_le xs
 obtain ⟨hh2,hx2⟩:=ZdV hr hh hH hpos (Lib.compact xs ++ List.replicate (xs.length - (Lib.compact xs).length) 0).toArray (by simp; omega) q
 refine ⟨_,_,_,E,rfl,⟨rfl,rfl⟩,?_,hh2,hx2⟩
 have:=VR.sub (E:=E) 1 l j xs.length 0 (Lib.compact xs).length gb cap hh (by omega)
 simpa using this
theorem Zez {ρ:Ren} (L:Lays2.n20 P ρ) (n:Nat) (H:Zf) (l j:Nat):Zr P n (ρ.f 20) [.msl 1 l j 0] H fun r H'=>r = .msl 1 l j 0 ∧ H' = H:=fun E w vs hr hv=>by
 obtain ⟨v1,r1,rfl,h1,hv⟩:=hv.YR
 rw [hv.of_nil]
 have:∃ a cap,v1 = .slice a 0 cap:=by
  generalize hz:AV.msl 1 l j 0 = av at h1
  cases h1 <;> cases hz
  ·exact ⟨_,_,rfl⟩
  ·exact ⟨_,_,rfl⟩
 obtain ⟨a,cap,rfl⟩:=this
 refine Calls.mono (Any.slices_Compact_int_empty L a cap w) ?_
 rintro e w' ⟨rfl,rfl⟩
 exact ⟨_,_,_,E,rfl,⟨rfl,rfl⟩,h1,hr,.refl _ _ _⟩
end
end Go.Abs

/- The order of terms and atoms. No program, no condition. -/
namespace Go.Abs
def thn (c d:Int):Int:=if c = 0 then d else c
theorem XA (d:Int):thn 0 d = d:=rfl
theorem V7 {c:Int} (h:c ≠ 0) (d:Int):thn c d = c:=if_neg h
theorem Xg {c d:Int} (h:thn c d = 0):c = 0 ∧ d = 0:=by
 unfold thn at h; split at h
 ·exact ⟨by assumption,h⟩
 ·exact absurd h (by assumption)
theorem WM (a b c:Int):thn (thn a b) c = thn a (thn b c):=by unfold thn; split <;> simp_all
theorem ZaC (a:Int):thn a 0 = a:=by unfold thn; split <;> simp_all
def YO (a b:Int):Int:=if a < b then -1 else if b < a then 1 else 0
theorem ZaA (a:Int):YO a a = 0:=by simp [YO]
theorem Jh {a b:Int} (h:YO a b = 0):a = b:=by
 unfold YO at h; split at h
 ·cases h
 ·split at h
  ·cases h
  ·omega
theorem ZhB (a b:Int):YO b a = -YO a b:=by
 unfold YO; split <;> split <;> first | omega | (split <;> omega) | rfl
def lexI:List Int → List Int → Int
 | [],[]=>0
 | [],_ :: _=>-1
 | _ :: _,[]=>1
 | a :: x,b :: y=>thn (YO a b) (lexI x y)
theorem lexI_self:∀ x:List Int,lexI x x = 0
 | []=>rfl
 | a :: x=>by rw [lexI,ZaA,XA,lexI_self x]
theorem lexI_anti:∀ x y:List Int,lexI y x = -lexI x y
 | [],[]=>rfl
 | [],_ :: _=>rfl
 | _ :: _,[]=>rfl
 | a :: x,b :: y=>by
  rw [lexI,lexI,ZhB a b,lexI_anti x y]
  unfold thn; split <;> split <;> first | rfl | omega
theorem lexI_trans:∀ x y z:List Int,lexI x y ≤ 0 → lexI y z ≤ 0 → lexI x z ≤ 0
 | [],[],[],_,_=>by decide
 | [],[],_ :: _,_,_=>by show (-1:Int) ≤ 0; decide
 | [],_ :: _,[],_,_=>by decide
 | [],_ :: _,_ :: _,_,_=>by show (-1:Int) ≤ 0; decide
 | _ :: _,[],_,h,_=>by exact absurd h (by show ¬ (1:Int) ≤ 0; decide)
 | _ :: _,_ :: _,[],_,h=>by exact absurd h (by show ¬ (1:Int) ≤ 0; decide)
 | a :: x,b :: y,c :: z,h,h'=>by
  have ih:=lexI_trans x y z
  rw [lexI] at h h' ⊢
  unfold thn at *
  unfold YO at *
  rcases Int.lt_trichotomy a b with h1 | h1 | h1 <;> rcases Int.lt_trichotomy b c with h2 | h2 | h2
  all_goals
   first
   | subst h1
   | skip
   first
   | subst h2
   | skip
   repeat' split at h
   all_goals repeat' split at h'
   all_goals repeat' split
   all_goals first | omega | (exact ih h h') | skip
def rank (k:Int):Int:=if k = 1 then 0 else if k = 2 then 1 else if k = 4 then 2 else if k = 3 then 3 else if k = 5 then 4 else if k = 6 then 5 else 6 + k
theorem Ze8 {a b:Int} (ha:0 ≤ a) (hb:0 ≤ b) (h:rank a = rank b):a = b:=by
 unfold rank at h
 repeat' split at h
 all_goals omega
def cmpT:Tm → Tm → Int
 | .mk k n s l,.mk k' n' s' l'=>thn (YO (rank k) (rank k')) (thn (if k = 1 then YO n n' else 0) (thn (YO l.length l'.length) (thn (Lib.compareBytes s s') (thn (cmps l l') (YO n n')))))
where cmps:List Tm → List Tm → Int
 | [],[]=>0
 | [],_ :: _=>-1
 | _ :: _,[]=>1
 | a :: x,b :: y=>thn (cmpT a b) (cmps x y)
theorem ZeM (a b:Tm):cmpT a b = thn (YO (rank a.kind) (rank b.kind)) (thn (if a.kind = 1 then YO a.num b.num else 0) (thn (YO a.args.length b.args.length) (thn (Lib.compareBytes a.name b.name) (thn (cmpT.cmps a.args b.args) (YO a.num b.num))))):=by
 cases a; cases b; rw [cmpT]; rfl
def ZdH (s:List UInt8):List Int:=s.map (fun b=>(b.toNat:Int) + 1) ++ [0]
theorem lex_serS:∀ (s t:List UInt8) (x y:List Int),lexI (ZdH s ++ x) (ZdH t ++ y) = thn (Lib.compareBytes s t) (lexI x y)
 | [],[],x,y=>by simp [ZdH,lexI,Lib.compareBytes,ZaA,XA]
 | [],b :: t,x,y=>by
  simp only [ZdH,List.map_nil,List.nil_append,List.map_cons,List.cons_append,lexI,Lib.compareBytes]
  have:YO 0 ((b.toNat:Int) + 1) = -1:=by unfold YO; rw [if_pos (by omega)]
  rw [this]; rfl
 | a :: s,[],x,y=>by
  simp only [ZdH,List.map_nil,List.nil_append,List.map_cons,List.cons_append,lexI,Lib.compareBytes]
  have:YO ((a.toNat:Int) + 1) 0 = 1:=by unfold YO; rw [if_neg (by omega),if_pos (by omega)]
  rw [this]; rfl
 | a :: s,b :: t,x,y=>by
  have ih:=lex_serS s t x y
  simp only [ZdH,List.append_assoc,List.cons_append,List.nil_append] at ih
  simp only [ZdH,List.map_cons,List.cons_append,lexI,Lib.compareBytes,List.append_assoc,List.nil_append]
  rw [ih]
  by_cases h1:a < b
  ·have:YO ((a.toNat:Int) + 1) ((b.toNat:Int) + 1) = -1:=by unfold YO; rw [if_pos (by have:=UInt8.lt_iff_toNat_lt.1 h1; omega)]
   rw [this,if_pos h1]; rfl
  ·rw [if_neg h1]
   by_cases h2:b < a
   ·have:YO ((a.toNat:Int) + 1) ((b.toNat:Int) + 1) = 1:=by
     have:=UInt8.lt_iff_toNat_lt.1 h2
     unfold YO; rw [if_neg (by omega),if_pos (by omega)]
    rw [this,if_pos h2]; rfl
   ·have:YO ((a.toNat:Int) + 1) ((b.toNat:Int) + 1) = 0:=by
     have e1:¬ a.toNat < b.toNat:=fun h=>h1 (UInt8.lt_iff_toNat_lt.2 h)
     have e2:¬ b.toNat < a.toNat:=fun h=>h2 (UInt8.lt_iff_toNat_lt.2 h)
     unfold YO; rw [if_neg (by omega),if_neg (by omega)]
    rw [this,if_neg h2,XA]
def ser:Tm → List Int
 | .mk k n s l=>rank k :: (if k = 1 then n else 0) :: (l.length:Int) :: (ZdH s ++ (sers l ++ [n]))
where sers:List Tm → List Int
 | []=>[]
 | t :: r=>ser t ++ sers r
theorem Zk3 (t:Tm):ser t = rank t.kind :: (if t.kind = 1 then t.num else 0) :: (t.args.length:Int) :: (ZdH t.name ++ (ser.sers t.args ++ [t.num])):=by cases t; rw [ser]; rfl
theorem lex_ser:∀ (a b:Tm) (_:a.Nm) (_:b.Nm) (x y:List Int),lexI (ser a ++ x) (ser b ++ y) = thn (cmpT a b) (lexI x y)
 | .mk k n s l,b,ha,hb,x,y=>by
  have hl:∀ (p q:List Tm),(∀ u ∈ p,u ∈ l) → (∀ u ∈ q,u.Nm) → p.length = q.length → ∀ x y:List Int,lexI (ser.sers p ++ x) (ser.sers q ++ y) = thn (cmpT.cmps p q) (lexI x y):=by
   intro p
   induction p with
   | nil =>
    intro q _ _ hlen x y
    have:q = []:=List.eq_nil_of_length_eq_zero hlen.symm
    subst this; rfl
   | cons t p ih =>
    intro q hp hq hlen x y
    cases q with
    | nil=>cases hlen
    | cons u q =>
     have ht:=lex_ser t u (by cases ha with | mk _ _ _ _ _ _ _ h=>exact h t (hp t (by simp))) (hq u (by simp))
     simp only [ser.sers,List.append_assoc,cmpT.cmps]
     rw [ht,ih q (fun v hv=>hp v (List.mem_cons_of_mem _ hv)) (fun v hv=>hq v (List.mem_cons_of_mem _ hv)) (by simpa using hlen),WM]
  have hk:0 ≤ k:=by cases ha with | mk _ _ _ _ _ h _ _=>exact h.1
  have hk':0 ≤ b.kind:=by cases hb with | mk _ _ _ _ _ h _ _=>exact h.1
  have hbn:∀ u ∈ b.args,u.Nm:=by cases hb with | mk _ _ _ _ _ _ _ h=>exact h
  have e4:(Tm.mk k n s l).kind = k:=rfl
  have e5:(Tm.mk k n s l).num = n:=rfl
  have e6:(Tm.mk k n s l).args = l:=rfl
  have e7:(Tm.mk k n s l).name = s:=rfl
  rw [Zk3 b,ser,ZeM,e4,e5,e6,e7]
  simp only [List.cons_append,List.append_assoc,List.nil_append,lexI]
  rw [lex_serS]
  by_cases h1:YO (rank k) (rank b.kind) = 0
  ·have hkk:=Ze8 hk hk' (Jh h1)
   by_cases h3:YO (l.length:Int) (b.args.length:Int) = 0
   ·have hlen:=Jh h3
    rw [hl l b.args (fun u h=>h) hbn (by omega),lexI]
    subst hkk
    simp only [WM]
    by_cases h2:b.kind = 1
    ·simp [h2,WM,lexI]
    ·simp [h2,WM,lexI,ZaA,XA]
   ·subst hkk
    by_cases h2:b.kind = 1
    ·simp [h2,WM,V7 h3]
    ·simp [h2,WM,V7 h3,ZaA,XA]
  ·simp only [V7 h1]
termination_by a=>SizeOf.sizeOf a
decreasing_by
 have:=List.sizeOf_lt_of_mem (hp t (by simp))
 simp only [Tm.mk.sizeOf_spec]; omega
theorem cmpBytes_zero:∀ {s t:List UInt8},Lib.compareBytes s t = 0 → s = t
 | [],[],_=>rfl
 | [],_ :: _,h=>by cases h
 | _ :: _,[],h=>by cases h
 | a :: s,b :: t,h=>by
  rw [Lib.compareBytes] at h
  split at h
  ·cases h
  ·split at h
   ·cases h
   ·rename_i h1 h2
    have:a = b:=UInt8.le_antisymm (UInt8.not_lt.1 h2) (UInt8.not_lt.1 h1)
    rw [this,cmpBytes_zero h]
theorem cmpT_zero:∀ {a b:Tm},a.Nm → b.Nm → cmpT a b = 0 → a = b
 | .mk k n s l,b,ha,hb,h=>by
  have hl:∀ (p q:List Tm),(∀ u ∈ p,u ∈ l) → (∀ u ∈ q,u.Nm) → cmpT.cmps p q = 0 → p = q:=by
   intro p
   induction p with
   | nil=>intro q _ _ h; cases q with
    | nil=>rfl
    | cons u q=>cases h
   | cons t p ih =>
    intro q hp hq h
    cases q with
    | nil=>cases h
    | cons u q =>
     simp only [cmpT.cmps] at h
     obtain ⟨h1,h2⟩:=Xg h
     rw [ih q (fun v hv=>hp v (List.mem_cons_of_mem _ hv)) (fun v hv=>hq v (List.mem_cons_of_mem _ hv)) h2]
     rw [cmpT_zero (a:=t) (b:=u) (by cases ha with | mk _ _ _ _ _ _ _ h=>exact h t (hp t (by simp))) (hq u (by simp)) h1]
  have hk:0 ≤ k:=by cases ha with | mk _ _ _ _ _ h _ _=>exact h.1
  have hk':0 ≤ b.kind:=by cases hb with | mk _ _ _ _ _ hh _ _=>exact hh.1
  have hbn:∀ u ∈ b.args,u.Nm:=by cases hb with | mk _ _ _ _ _ _ _ hh=>exact hh
  rw [ZeM] at h
  obtain ⟨h1,h⟩:=Xg h
  obtain ⟨h2,h⟩:=Xg h
  obtain ⟨h3,h⟩:=Xg h
  obtain ⟨h4,h⟩:=Xg h
  obtain ⟨h5,h⟩:=Xg h
  cases b with
  | mk k' n' s' l' =>
   have e1:k = k':=Ze8 hk hk' (Jh h1)
   have e2:n = n':=Jh h
   have e3:s = s':=cmpBytes_zero h4
   have e4:l = l':=hl l l' (fun u h=>h) hbn h5
   rw [e1,e2,e3,e4]
termination_by a=>SizeOf.sizeOf a
decreasing_by
 have:=List.sizeOf_lt_of_mem (hp t (by simp))
 simp only [Tm.mk.sizeOf_spec]; omega
def ZdI (a b:Am):Int:=thn (Lib.compareBytes a.pred b.pred) (thn (YO a.args.length b.args.length) (cmpT.cmps a.args b.args))
def ZhJ (a:Am):List Int:=ZdH a.pred ++ ((a.args.length:Int) :: ser.sers a.args)
theorem lex_sers:∀ (p q:List Tm),(∀ u ∈ p,u.Nm) → (∀ u ∈ q,u.Nm) → p.length = q.length → lexI (ser.sers p) (ser.sers q) = cmpT.cmps p q
 | [],q,_,_,h=>by
  have:q = []:=List.eq_nil_of_length_eq_zero h.symm
  subst this; rfl
 | t :: p,[],_,_,h=>by cases h
 | t :: p,u :: q,hp,hq,h=>by
  simp only [ser.sers,cmpT.cmps]
  rw [lex_ser t u (hp t (by simp)) (hq u (by simp)),lex_sers p q (fun v hv=>hp v (by simp [hv])) (fun v hv=>hq v (by simp [hv])) (by simpa using h)]
theorem cmps_zero:∀ {p q:List Tm},(∀ u ∈ p,u.Nm) → (∀ u ∈ q,u.Nm) → cmpT.cmps p q = 0 → p = q
 | [],[],_,_,_=>rfl
 | [],_ :: _,_,_,h=>by cases h
 | _ :: _,[],_,_,h=>by cases h
 | t :: p,u :: q,hp,hq,h=>by
  simp only [cmpT.cmps] at h
  obtain ⟨h1,h2⟩:=Xg h
  rw [cmpT_zero (hp t (by simp)) (hq u (by simp)) h1,cmps_zero (fun v hv=>hp v (by simp [hv])) (fun v hv=>hq v (by simp [hv])) h2]
theorem Zdu {a b:Am} (ha:∀ t ∈ a.args,t.Nm) (hb:∀ t ∈ b.args,t.Nm):ZdI a b = lexI (ZhJ a) (ZhJ b):=by
 unfold ZhJ ZdI
 rw [lex_serS,lexI]
 by_cases h:YO (a.args.length:Int) b.args.length = 0
 ·rw [lex_sers _ _ ha hb (by have:=Jh h; omega)]
 ·rw [V7 h,V7 h]
theorem ZhR {a b:Am} (ha:∀ t ∈ a.args,t.Nm) (hb:∀ t ∈ b.args,t.Nm) (h:ZdI a b = 0):a = b:=by
 obtain ⟨h1,h⟩:=Xg h
 obtain ⟨h2,h⟩:=Xg h
 cases a; cases b
 have e1:=cmpBytes_zero h1
 have e2:=cmps_zero ha hb h
 simp only at e1 e2
 rw [e1,e2]
end Go.Abs

/- Literals as plain numbers: their order, and ordered lists of them. No program. -/
namespace Go.Abs
open Go.Proofs Go.Proofs.YthgbkalgmicniaaGreatDoor
def JR (l:Int):Int:=if -l > l then -l else l
def cmpL (a b:Int):Int:=thn (JR a - JR b) (b - a)
def ltL (a b:Int):Prop:=JR a < JR b ∨ (JR a = JR b ∧ b < a)
instance (a b:Int):Decidable (ltL a b):=by unfold ltL; infer_instance
def SmI (x:Int):Prop:=-1099511627776 ≤ x ∧ x ≤ 1099511627776
theorem JC (a:Int):¬ ltL a a:=by unfold ltL; omega
theorem Zao {a b c:Int} (h:ltL a b) (h':ltL b c):ltL a c:=by unfold ltL at *; omega
theorem Zbk {a b:Int} (h:¬ ltL a b) (h':¬ ltL b a):a = b:=by unfold ltL JR at *; omega
theorem Zht {a b:Int} (h:ltL a b) (h':ltL b a):False:=JC a (Zao h h')
theorem Zbl (a b:Int):cmpL a b < 0 ↔ ltL a b:=by
 unfold cmpL thn ltL
 split <;> omega
theorem Zmq {G:Int → Prop}:ZfV G (ltOf cmpL) where
 irrefl x _:=by
  have:=JC x
  rw [← Zbl] at this; simp [ltOf,this]
 trans x y z _ _ _ h1 h2:=by
  simp only [ltOf,decide_eq_true_eq,Zbl] at *
  exact Zao h1 h2
 ntrans x y z _ _ _ h1 h2:=by
  simp only [ltOf,decide_eq_false_iff_not,Zbl] at *
  intro h
  by_cases e:ltL y x
  ·exact h2 (Zao e h)
  ·have:=Zbk h1 e
   subst this; exact h2 h
def insL (x:Int):List Int → List Int
 | []=>[x]
 | y :: r=>if x = y then y :: r else if ltL x y then x :: y :: r else y :: insL x r
def Y5 (l:List Int):List Int:=l.foldr insL []
theorem Zdg (x:Int):∀ (r:List Int) (z:Int),z ∈ insL x r ↔ z = x ∨ z ∈ r
 | [],z=>by simp [insL]
 | y :: r,z=>by
  unfold insL
  split
  ·rename_i h; subst h; simp
  ·split
   ·simp
   ·simp only [List.mem_cons,Zdg x r z]
    constructor
    ·rintro (h | h | h)
     ·exact .inr (.inl h)
     ·exact .inl h
     ·exact .inr (.inr h)
    ·rintro (h | h | h)
     ·exact .inr (.inl h)
     ·exact .inl h
     ·exact .inr (.inr h)
theorem Zfn (x:Int):∀ {r:List Int},r.Pairwise ltL → (insL x r).Pairwise ltL
 | [],_=>by simp [insL]
 | y :: r,h=>by
  rw [List.pairwise_cons] at h
  unfold insL
  split
  ·exact List.pairwise_cons.2 h
  ·rename_i hne
   split
   ·rename_i hlt
    refine List.pairwise_cons.2 ⟨fun z hz=>?_,List.pairwise_cons.2 h⟩
    rcases List.mem_cons.1 hz with rfl | hz
    ·exact hlt
    ·exact Zao hlt (h.1 z hz)
   ·rename_i hlt
    refine List.pairwise_cons.2 ⟨fun z hz=>?_,Zfn x h.2⟩
    rcases (Zdg x r z).1 hz with rfl | hz
    ·by_cases e:ltL y z
     ·exact e
     ·exact absurd (Zbk hlt e) hne
    ·exact h.1 z hz
theorem ordL_mem:∀ (l:List Int) (z:Int),z ∈ Y5 l ↔ z ∈ l
 | [],z=>by simp [Y5]
 | x :: l,z=>by
  have:=ordL_mem l z
  unfold Y5 at *
  rw [List.foldr_cons,Zdg,this,List.mem_cons]
theorem ordL_asc:∀ l:List Int,(Y5 l).Pairwise ltL
 | []=>List.Pairwise.nil
 | x :: l=>Zfn x (ordL_asc l)
theorem ascL_unique:∀ {p q:List Int},p.Pairwise ltL → q.Pairwise ltL → (∀ x,x ∈ p ↔ x ∈ q) → p = q
 | [],[],_,_,_=>rfl
 | [],y :: q,_,_,h=>absurd ((h y).2 (by simp)) (by simp)
 | x :: p,[],_,_,h=>absurd ((h x).1 (by simp)) (by simp)
 | x :: p,y :: q,hp,hq,h=>by
  rw [List.pairwise_cons] at hp hq
  have e:x = y:=by
   have h1:=(h x).1 (by simp)
   have h2:=(h y).2 (by simp)
   rcases List.mem_cons.1 h1 with h1 | h1
   ·exact h1
   ·rcases List.mem_cons.1 h2 with h2 | h2
    ·exact h2.symm
    ·exact (Zht (hq.1 x h1) (hp.1 y h2)).elim
  subst e
  congr 1
  refine ascL_unique hp.2 hq.2 fun z=>?_
  have:=h z
  simp only [List.mem_cons] at this
  constructor
  ·intro hz
   rcases this.1 (.inr hz) with rfl | h
   ·exact (JC _ (hp.1 _ hz)).elim
   ·exact h
  ·intro hz
   rcases this.2 (.inr hz) with rfl | h
   ·exact (JC _ (hq.1 _ hz)).elim
   ·exact h
theorem Zcs {p l:List Int} (hp:p.Pairwise ltL) (h:∀ x,x ∈ p ↔ x ∈ l):p = Y5 l:=ascL_unique hp (ordL_asc l) fun x=>(h x).trans (ordL_mem l x).symm
theorem Ze9 (x:Int):∀ r:List Int,(insL x r).length ≤ r.length + 1
 | []=>by simp [insL]
 | y :: r=>by
  have:=Ze9 x r
  unfold insL
  split
  ·simp
  ·split
   ·simp
   ·simp only [List.length_cons]; omega
theorem ordL_len:∀ l:List Int,(Y5 l).length ≤ l.length
 | []=>Nat.le_refl _
 | x :: l=>by
  have h1:=ordL_len l
  have h2:=Ze9 x (Y5 l)
  unfold Y5 at *
  rw [List.foldr_cons,List.length_cons]; omega
theorem ZfX {ys l:List Int} (hp:ys.Perm l) (ha:∀ i i' (h:i < ys.length) (h':i' < ys.length),i < i' → ltOf cmpL ys[i'] ys[i] = false):Lib.compact ys = Y5 l:=by
 have hb:∀ i (h:i < ys.length),ys.toArray[i]! = ys[i]:=fun i h=>by rw [getElem!_pos ys.toArray i (by simpa using h)]; simp
 have ha':∀ i i' (h:i < ys.length) (h':i' < ys.length),i < i' → ¬ ltL ys[i'] ys[i]:=fun i i' h h' hi=>by
  have:=ha i i' h h' hi
  simpa [ltOf,Zbl] using this
 have key:∀ m,m ≤ ys.length → (∀ x,x ∈ Lib.compactUpTo ys.toArray m ↔ ∃ j,∃ h:j < ys.length,j < m ∧ ys[j] = x) ∧ (Lib.compactUpTo ys.toArray m).Pairwise ltL:=by
  intro m
  induction m with
  | zero=>intro _; simp [Lib.compactUpTo]
  | succ m ih =>
   intro hm
   obtain ⟨i1,i2⟩:=ih (by omega)
   have hml:m < ys.length:=by omega
   rw [Lib.compactUpTo_succ]
   by_cases hk:Lib.keeps ys.toArray m = true
   ·rw [if_pos hk,hb m hml]
    refine ⟨fun x=>?_,List.pairwise_append.2 ⟨i2,by simp,fun x hx y hy=>?_⟩⟩
    ·simp only [List.mem_append,i1,List.mem_singleton]
     constructor
     ·rintro (⟨j,h,hj,rfl⟩ | rfl)
      ·exact ⟨j,h,by omega,rfl⟩
      ·exact ⟨m,hml,by omega,rfl⟩
     ·rintro ⟨j,h,hj,rfl⟩
      by_cases e:j = m
      ·subst e; exact .inr rfl
      ·exact .inl ⟨j,h,by omega,rfl⟩
    ·simp only [List.mem_singleton] at hy
     subst hy
     obtain ⟨j,h,hj,rfl⟩:=(i1 x).1 hx
     have h1:=ha' j m h hml hj
     by_cases e:ltL ys[j] ys[m]
     ·exact e
     ·have e2:=Zbk e h1
      exfalso
      have hne:ys[m] ≠ ys[m - 1]:=by
       simp only [Lib.keeps,Bool.or_eq_true,beq_iff_eq,bne_iff_ne,decide_eq_true_eq] at hk
       rcases hk with hk | hk
       ·omega
       ·rw [hb m hml,hb (m - 1) (by omega)] at hk; exact hk
      by_cases e3:j = m - 1
      ·subst e3; exact hne e2.symm
      ·have a1:=ha' j (m - 1) h (by omega) (by omega)
       have a2:=ha' (m - 1) m (by omega) hml (by omega)
       by_cases a3:ltL ys[m - 1] ys[m]
       ·rw [← e2] at a3; exact a1 a3
       ·exact hne (Zbk a2 a3)
   ·rw [if_neg hk,List.append_nil]
    refine ⟨fun x=>?_,i2⟩
    rw [i1]
    constructor
    ·rintro ⟨j,h,hj,rfl⟩; exact ⟨j,h,by omega,rfl⟩
    ·rintro ⟨j,h,hj,rfl⟩
     by_cases e:j = m
     ·subst e
      simp only [Lib.keeps,Bool.or_eq_true,beq_iff_eq,bne_iff_ne,decide_eq_true_eq,not_or] at hk
      have hj0:j ≠ 0:=fun e=>by simp [e] at hk
      have h2:ys[j] = ys[j - 1]:=by
       have:=hk
       rw [hb j h,hb (j - 1) (by omega)] at this
       simpa using this.2
      exact ⟨j - 1,by omega,by omega,h2.symm⟩
     ·exact ⟨j,h,by omega,rfl⟩
 obtain ⟨h1,h2⟩:=key ys.length (Nat.le_refl _)
 refine Zcs h2 fun x=>?_
 rw [Lib.compact,h1,← hp.mem_iff]
 constructor
 ·rintro ⟨j,h,_,rfl⟩; exact List.getElem_mem h
 ·intro hx
  obtain ⟨j,h,rfl⟩:=List.getElem_of_mem hx
  exact ⟨j,h,h,rfl⟩
end Go.Abs
