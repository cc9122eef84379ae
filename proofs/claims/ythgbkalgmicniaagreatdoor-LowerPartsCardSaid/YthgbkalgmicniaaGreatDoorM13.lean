/- The reference's terms and atoms: depth, validity. -/
import Derived.Test.YthgbkalgmicniaaGreatDoorM12
import Derived.Shelf.SlSortCmp.NoneTotal
import Derived.Shelf.SlGeneric
import Derived.Ground.Names2Prog
import Derived.Ground.SlgnProg
import Derived.Ground.SlsfProg
import Derived.Shelf.SlSortCmp.HeapSort1
import Derived.Shelf.SlSortCmp.Insertion
import Derived.Shelf.SlSortCmp.Insertion1
import Derived.Shelf.SlSortCmp.Median1
import Derived.Shelf.SlSortCmp.PartialInsertion1
import Derived.Shelf.SlSortCmp.Partition1
import Derived.Shelf.SlSortCmp.PartitionEqual1
import Derived.Shelf.SlSortCmp.Pdq1
import Derived.Shelf.SlSortCmp.Pivot1
import Derived.Shelf.SlSortCmp.ReverseRange1
import Derived.Shelf.SlSortCmp.SiftDown1
import Derived.Shelf.SlSortCmp.Whole1
import Derived.Shelf.Slices.Cells
import Derived.Shelf.Slices.Clone
import Derived.Shelf.Slices.CompactI
import Derived.Shelf.Slices.SearchI
import Derived.Shelf.SlicesE.Clone
import Derived.KernelRfl
import Derived.Test.YthgbkalgmicniaaGreatDoorProg
import Derived.Test.YthgbkalgmicniaaGreatDoorM09
import Derived.Test.YthgbkalgmicniaaGreatDoorM08
set_option linter.all false
namespace Go.Proofs.YthgbkalgmicniaaGreatDoor
open Go.Abs
set_option maxRecDepth 100000
def V5 (t:Tm):Bool:=((t.name == [43]) || (t.name == [45]) || (t.name == [42]) || (t.name == [47]) || (t.name == [92]))
def XY (t:Tm):Bool :=
 if t.kind = 1 then decide (-2147483647 ≤ t.num) && decide (t.num ≤ 2147483647) && (t.name == []) && ((t.args.length:Int) == 0)
 else if t.kind = 2 then (t.num == 0) && sym t.name && ((t.args.length:Int) == 0)
 else if t.kind = 3 then (t.num == 0) && Wu t.name && ((t.args.length:Int) == 0)
 else if t.kind = 4 then (t.num == 0) && sym t.name && decide (1 ≤ (t.args.length:Int)) && decide ((t.args.length:Int) ≤ 8)
 else if t.kind = 5 then (t.num == 0) && ((V5 t && ((t.args.length:Int) == 2)) || ((t.name == [45]) && ((t.args.length:Int) == 1)))
 else if t.kind = 6 then (t.num == 0) && (t.name == []) && ((t.args.length:Int) == 2)
 else false
set_option maxHeartbeats 1000000 in
theorem a117 (t:Tm) (ht:t.Good):ZR Tryz.prog 270 [t.enc] (.bool (XY t)):=by
 intro n H hn hT
 have hs:=ht.name
 have hl:=ht.len
 refine Zm tok (Zb Tryz.func270 rfl rfl) (by simp) fun B=>?_
 refine Za tok rfl rfl ?_
 simp only [go_sem,simprocAttr]
 refine Za tok rfl rfl ?_
 simp only [go_sem,simprocAttr]
 refine Za tok rfl rfl ?_
 simp only [go_sem,simprocAttr]
 cases k1:(t.kind == 1) with
 | true =>
  have e1:t.kind = 1:=by simpa using k1
  refine Za tok rfl rfl ?_
  simp only [go_sem,simprocAttr,k1]
  refine Zp rfl rfl rfl ?_
  cases h1:decide (-2147483647 ≤ t.num) <;> cases h2:decide (t.num ≤ 2147483647) <;> cases h3:(t.name == []) <;> cases h4:((t.args.length:Int) == 0)
  all_goals
   refine Za tok rfl rfl ?_
   simp only [go_sem,simprocAttr,h1,h2,h3,h4]
   refine Zi rfl rfl ?_
   refine Ze ?_ (.bool _) rfl
   simp only [XY,e1,reduceIte,h1,h2,h3,h4,Bool.and_true,Bool.and_false,Bool.false_and,Bool.true_and]
   exact .refl _
 | false =>
 have e1:t.kind ≠ 1:=by simpa using k1
 refine Za tok rfl rfl ?_
 simp only [go_sem,simprocAttr,k1]
 refine Zn rfl rfl rfl ?_
 cases k2:(t.kind == 2) with
 | true =>
  have e2:t.kind = 2:=by simpa using k2
  refine Za tok rfl rfl ?_
  simp only [go_sem,simprocAttr,k2]
  refine Zp rfl rfl rfl ?_
  cases h1:(t.num == 0) with
  | false =>
   cases h4:((t.args.length:Int) == 0)
   all_goals
    refine Za tok rfl rfl ?_
    simp only [go_sem,simprocAttr,h1,h4]
    refine Zi rfl rfl ?_
    refine Ze ?_ (.bool _) rfl
    simp only [XY,e2,Int.reduceEq,reduceIte,h1,h4,Bool.and_true,Bool.and_false,Bool.false_and,Bool.true_and,Bool.or_true,Bool.or_false,Bool.false_or,Bool.true_or]
    exact .refl _
  | true =>
   refine Za tok rfl rfl ?_
   simp only [go_sem,simprocAttr,h1]
   refine Zq (Zb Tryz.func106 rfl rfl) (a47 t.name (by omega)) (by simp only [go_sem,simprocAttr,h1]) ?_
   simp only [go_sem,simprocAttr,h1]
   cases h2:sym t.name <;> cases h4:((t.args.length:Int) == 0)
   all_goals
    simp only [go_sem,simprocAttr,h2,h4]
    refine Zi rfl rfl ?_
    refine Ze ?_ (.bool _) rfl
    simp only [XY,e2,Int.reduceEq,reduceIte,h1,h2,h4,Bool.and_true,Bool.and_false,Bool.false_and,Bool.true_and,Bool.or_true,Bool.or_false,Bool.false_or,Bool.true_or]
    exact .refl _
 | false =>
 have e2:t.kind ≠ 2:=by simpa using k2
 refine Za tok rfl rfl ?_
 simp only [go_sem,simprocAttr,k2]
 refine Zn rfl rfl rfl ?_
 cases k3:(t.kind == 3) with
 | true =>
  have e3:t.kind = 3:=by simpa using k3
  refine Za tok rfl rfl ?_
  simp only [go_sem,simprocAttr,k3]
  refine Zp rfl rfl rfl ?_
  cases h1:(t.num == 0) with
  | false =>
   cases h4:((t.args.length:Int) == 0)
   all_goals
    refine Za tok rfl rfl ?_
    simp only [go_sem,simprocAttr,h1,h4]
    refine Zi rfl rfl ?_
    refine Ze ?_ (.bool _) rfl
    simp only [XY,e3,Int.reduceEq,reduceIte,h1,h4,Bool.and_true,Bool.and_false,Bool.false_and,Bool.true_and,Bool.or_true,Bool.or_false,Bool.false_or,Bool.true_or]
    exact .refl _
  | true =>
   refine Za tok rfl rfl ?_
   simp only [go_sem,simprocAttr,h1]
   refine Zq (Zb Tryz.func319 rfl rfl) (a162 t.name (by omega)) (by simp only [go_sem,simprocAttr,h1]) ?_
   simp only [go_sem,simprocAttr,h1]
   cases h2:Wu t.name <;> cases h4:((t.args.length:Int) == 0)
   all_goals
    simp only [go_sem,simprocAttr,h2,h4]
    refine Zi rfl rfl ?_
    refine Ze ?_ (.bool _) rfl
    simp only [XY,e3,Int.reduceEq,reduceIte,h1,h2,h4,Bool.and_true,Bool.and_false,Bool.false_and,Bool.true_and,Bool.or_true,Bool.or_false,Bool.false_or,Bool.true_or]
    exact .refl _
 | false =>
 have e3:t.kind ≠ 3:=by simpa using k3
 refine Za tok rfl rfl ?_
 simp only [go_sem,simprocAttr,k3]
 refine Zn rfl rfl rfl ?_
 cases k4:(t.kind == 4) with
 | true =>
  have e4:t.kind = 4:=by simpa using k4
  refine Za tok rfl rfl ?_
  simp only [go_sem,simprocAttr,k4]
  refine Zp rfl rfl rfl ?_
  cases h1:(t.num == 0) with
  | false =>
   refine Za tok rfl rfl ?_
   simp only [go_sem,simprocAttr,h1]
   refine Zi rfl rfl ?_
   refine Ze ?_ (.bool _) rfl
   simp only [XY,e4,Int.reduceEq,reduceIte,h1,Bool.and_true,Bool.and_false,Bool.false_and,Bool.true_and,Bool.or_true,Bool.or_false,Bool.false_or,Bool.true_or]
   exact .refl _
  | true =>
   refine Za tok rfl rfl ?_
   simp only [go_sem,simprocAttr,h1]
   refine Zq (Zb Tryz.func106 rfl rfl) (a47 t.name (by omega)) (by simp only [go_sem,simprocAttr,h1]) ?_
   simp only [go_sem,simprocAttr,h1]
   cases h2:sym t.name <;> cases h4:decide (1 ≤ (t.args.length:Int)) <;> cases h5:decide ((t.args.length:Int) ≤ 8)
   all_goals
    simp only [go_sem,simprocAttr,h2,h4,h5]
    refine Zi rfl rfl ?_
    refine Ze ?_ (.bool _) rfl
    simp only [XY,e4,Int.reduceEq,reduceIte,h1,h2,h4,h5,Bool.and_true,Bool.and_false,Bool.false_and,Bool.true_and,Bool.or_true,Bool.or_false,Bool.false_or,Bool.true_or]
    exact .refl _
 | false =>
 have e4:t.kind ≠ 4:=by simpa using k4
 refine Za tok rfl rfl ?_
 simp only [go_sem,simprocAttr,k4]
 refine Zn rfl rfl rfl ?_
 cases k5:(t.kind == 5) with
 | true =>
  have e5:t.kind = 5:=by simpa using k5
  refine Za tok rfl rfl ?_
  simp only [go_sem,simprocAttr,k5]
  refine Zp rfl rfl rfl ?_
  repeat refine kn rfl ?_
  refine XF ⟨[(4,.bool (V5 t)),(3,.int .i64 t.args.length),(1,.ptr n 1 0)],[(1,.box t.cs)],H⟩ ?_ ?_
  ·cases h1:(t.name == [43]) with
   | true =>
    refine Za tok rfl rfl ?_
    simp only [go_sem,simprocAttr,h1]
    refine Zt rfl ?_
    refine ⟨rfl,?_⟩
    refine Zg ?_ ?_ ?_ ?_ <;> repeat' first|exact trivial|refine q0 ?_|exact qb|exact q1|exact q2|exact q3|exact rfl|refine And.intro ?_ ?_|exact qA rfl|exact Inside.ptr _ _ _ (.inr ⟨rfl,rfl⟩)|exact Tm.ins _|exact Tm.Zj _ _|exact Am.ins _|exact Am.Zj _ _|refine Zd ?_|refine Tm.Zc ?_|refine Am.Zc ?_
    simp only [V5,h1,Bool.and_true,Bool.and_false,Bool.false_and,Bool.true_and,Bool.or_true,Bool.or_false,Bool.false_or,Bool.true_or]
    exact .refl _
   | false =>
   cases h2:(t.name == [45]) with
   | true =>
    refine Za tok rfl rfl ?_
    simp only [go_sem,simprocAttr,h1,h2]
    refine Zt rfl ?_
    refine ⟨rfl,?_⟩
    refine Zg ?_ ?_ ?_ ?_ <;> repeat' first|exact trivial|refine q0 ?_|exact qb|exact q1|exact q2|exact q3|exact rfl|refine And.intro ?_ ?_|exact qA rfl|exact Inside.ptr _ _ _ (.inr ⟨rfl,rfl⟩)|exact Tm.ins _|exact Tm.Zj _ _|exact Am.ins _|exact Am.Zj _ _|refine Zd ?_|refine Tm.Zc ?_|refine Am.Zc ?_
    simp only [V5,h1,h2,Bool.and_true,Bool.and_false,Bool.false_and,Bool.true_and,Bool.or_true,Bool.or_false,Bool.false_or,Bool.true_or]
    exact .refl _
   | false =>
   cases h3:(t.name == [42]) with
   | true =>
    refine Za tok rfl rfl ?_
    simp only [go_sem,simprocAttr,h1,h2,h3]
    refine Zt rfl ?_
    refine ⟨rfl,?_⟩
    refine Zg ?_ ?_ ?_ ?_ <;> repeat' first|exact trivial|refine q0 ?_|exact qb|exact q1|exact q2|exact q3|exact rfl|refine And.intro ?_ ?_|exact qA rfl|exact Inside.ptr _ _ _ (.inr ⟨rfl,rfl⟩)|exact Tm.ins _|exact Tm.Zj _ _|exact Am.ins _|exact Am.Zj _ _|refine Zd ?_|refine Tm.Zc ?_|refine Am.Zc ?_
    simp only [V5,h1,h2,h3,Bool.and_true,Bool.and_false,Bool.false_and,Bool.true_and,Bool.or_true,Bool.or_false,Bool.false_or,Bool.true_or]
    exact .refl _
   | false =>
   cases h4:(t.name == [47]) with
   | true =>
    refine Za tok rfl rfl ?_
    simp only [go_sem,simprocAttr,h1,h2,h3,h4]
    refine Zt rfl ?_
    refine ⟨rfl,?_⟩
    refine Zg ?_ ?_ ?_ ?_ <;> repeat' first|exact trivial|refine q0 ?_|exact qb|exact q1|exact q2|exact q3|exact rfl|refine And.intro ?_ ?_|exact qA rfl|exact Inside.ptr _ _ _ (.inr ⟨rfl,rfl⟩)|exact Tm.ins _|exact Tm.Zj _ _|exact Am.ins _|exact Am.Zj _ _|refine Zd ?_|refine Tm.Zc ?_|refine Am.Zc ?_
    simp only [V5,h1,h2,h3,h4,Bool.and_true,Bool.and_false,Bool.false_and,Bool.true_and,Bool.or_true,Bool.or_false,Bool.false_or,Bool.true_or]
    exact .refl _
   | false =>
   cases h5:(t.name == [92]) with
   | true =>
    refine Za tok rfl rfl ?_
    simp only [go_sem,simprocAttr,h1,h2,h3,h4,h5]
    refine Zt rfl ?_
    refine ⟨rfl,?_⟩
    refine Zg ?_ ?_ ?_ ?_ <;> repeat' first|exact trivial|refine q0 ?_|exact qb|exact q1|exact q2|exact q3|exact rfl|refine And.intro ?_ ?_|exact qA rfl|exact Inside.ptr _ _ _ (.inr ⟨rfl,rfl⟩)|exact Tm.ins _|exact Tm.Zj _ _|exact Am.ins _|exact Am.Zj _ _|refine Zd ?_|refine Tm.Zc ?_|refine Am.Zc ?_
    simp only [V5,h1,h2,h3,h4,h5,Bool.and_true,Bool.and_false,Bool.false_and,Bool.true_and,Bool.or_true,Bool.or_false,Bool.false_or,Bool.true_or]
    exact .refl _
   | false =>
   refine Za tok rfl rfl ?_
   simp only [go_sem,simprocAttr,h1,h2,h3,h4,h5]
   refine Zt rfl ?_
   refine ⟨rfl,?_⟩
   refine Zg ?_ ?_ ?_ ?_ <;> repeat' first|exact trivial|refine q0 ?_|exact qb|exact q1|exact q2|exact q3|exact rfl|refine And.intro ?_ ?_|exact qA rfl|exact Inside.ptr _ _ _ (.inr ⟨rfl,rfl⟩)|exact Tm.ins _|exact Tm.Zj _ _|exact Am.ins _|exact Am.Zj _ _|refine Zd ?_|refine Tm.Zc ?_|refine Am.Zc ?_
   simp only [V5,h1,h2,h3,h4,h5,Bool.and_true,Bool.and_false,Bool.false_and,Bool.true_and,Bool.or_true,Bool.or_false,Bool.false_or,Bool.true_or]
   exact .refl _
  cases h1:(t.num == 0) with
  | false =>
   refine Za tok rfl rfl ?_
   simp only [go_sem,simprocAttr,h1]
   refine Zi rfl rfl ?_
   refine Ze ?_ (.bool _) rfl
   simp only [XY,e5,Int.reduceEq,reduceIte,h1,Bool.and_true,Bool.and_false,Bool.false_and,Bool.true_and,Bool.or_true,Bool.or_false,Bool.false_or,Bool.true_or]
   exact .refl _
  | true =>
  cases h2:V5 t with
  | true =>
   cases h3:((t.args.length:Int) == 2) with
   | true =>
    refine Za tok rfl rfl ?_
    simp only [go_sem,simprocAttr,h1,h2,h3]
    refine Zi rfl rfl ?_
    refine Ze ?_ (.bool _) rfl
    simp only [XY,e5,Int.reduceEq,reduceIte,h1,h2,h3,Bool.and_true,Bool.and_false,Bool.false_and,Bool.true_and,Bool.or_true,Bool.or_false,Bool.false_or,Bool.true_or]
    exact .refl _
   | false =>
    cases h5:(t.name == [45]) <;> cases h4:((t.args.length:Int) == 1)
    all_goals
     refine Za tok rfl rfl ?_
     simp only [go_sem,simprocAttr,h1,h2,h3,h4,h5]
     refine Zi rfl rfl ?_
     refine Ze ?_ (.bool _) rfl
     simp only [XY,e5,Int.reduceEq,reduceIte,h1,h2,h3,h4,h5,Bool.and_true,Bool.and_false,Bool.false_and,Bool.true_and,Bool.or_true,Bool.or_false,Bool.false_or,Bool.true_or]
     exact .refl _
  | false =>
   cases h5:(t.name == [45]) <;> cases h4:((t.args.length:Int) == 1)
   all_goals
    refine Za tok rfl rfl ?_
    simp only [go_sem,simprocAttr,h1,h2,h4,h5]
    refine Zi rfl rfl ?_
    refine Ze ?_ (.bool _) rfl
    simp only [XY,e5,Int.reduceEq,reduceIte,h1,h2,h4,h5,Bool.and_true,Bool.and_false,Bool.false_and,Bool.true_and,Bool.or_true,Bool.or_false,Bool.false_or,Bool.true_or]
    exact .refl _
 | false =>
 have e5:t.kind ≠ 5:=by simpa using k5
 refine Za tok rfl rfl ?_
 simp only [go_sem,simprocAttr,k5]
 refine Zn rfl rfl rfl ?_
 cases k6:(t.kind == 6) with
 | true =>
  have e6:t.kind = 6:=by simpa using k6
  refine Za tok rfl rfl ?_
  simp only [go_sem,simprocAttr,k6]
  refine Zp rfl rfl rfl ?_
  cases h1:(t.num == 0) <;> cases h2:(t.name == []) <;> cases h3:((t.args.length:Int) == 2)
  all_goals
   refine Za tok rfl rfl ?_
   simp only [go_sem,simprocAttr,h1,h2,h3]
   refine Zi rfl rfl ?_
   refine Ze ?_ (.bool _) rfl
   simp only [XY,e6,Int.reduceEq,reduceIte,h1,h2,h3,Bool.and_true,Bool.and_false,Bool.false_and,Bool.true_and,Bool.or_true,Bool.or_false,Bool.false_or,Bool.true_or]
   exact .refl _
 | false =>
 have e6:t.kind ≠ 6:=by simpa using k6
 refine Za tok rfl rfl ?_
 simp only [go_sem,simprocAttr,k6]
 refine Zn rfl rfl rfl ?_
 refine Za tok rfl rfl ?_
 simp only [go_sem,simprocAttr]
 refine Zi rfl rfl ?_
 refine Ze ?_ (.bool _) rfl
 simp only [XY,e1,e2,e3,e4,e5,e6,reduceIte]
 exact .refl _
end Go.Proofs.YthgbkalgmicniaaGreatDoor

/- The reference's terms and atoms: validity. -/
namespace Go.Proofs.YthgbkalgmicniaaGreatDoor
open Go.Abs
set_option maxRecDepth 100000
theorem Zh2 (b:UInt8):Lib.contains sOps [b] = (b == 43 || b == 45 || b == 42 || b == 47 || b == 92):=by
 revert b
 have:∀ i:Fin 256,Lib.contains sOps [UInt8.ofNat i.val] = (UInt8.ofNat i.val == 43 || UInt8.ofNat i.val == 45 || UInt8.ofNat i.val == 42 || UInt8.ofNat i.val == 47 || UInt8.ofNat i.val == 92):=by decide +kernel
 intro b
 have h:=this ⟨b.toNat,b.toNat_lt⟩
 simpa using h
theorem Zkk (t:Tm):oper t = V5 t:=by
 unfold oper V5
 rcases hs:t.name with _ | ⟨b,_ | ⟨c,r⟩⟩
 ·rfl
 ·rw [Zh2]
  simp
 ·have:((((b :: c :: r).length:Nat):Int) == 1) = false:=by
   rw [beq_eq_false_iff_ne]; simp only [List.length_cons]; omega
  rw [this]; simp
theorem ZiU {s:List UInt8} (h:sym s = true):(s == []) = false:=by
 cases s with
 | nil=>simp [sym,wd] at h
 | cons b r=>rfl
theorem Zjp {s:List UInt8} (h:Wu s = true):(s == []) = false:=by
 cases s with
 | nil=>simp [Wu,wd,hpre] at h
 | cons b r=>rfl
theorem len2 (l:List Tm) (k:Int):(decide (k ≤ (l.length:Int)) && decide ((l.length:Int) ≤ k)) = ((l.length:Int) == k):=by
 rw [Bool.eq_iff_iff]; simp; omega
theorem Zd3 (t:Tm):XY t = shape t:=by
 unfold XY shape
 simp only [nargs,len2]
 split
 ·rfl
 split
 ·cases h1:sym t.name with
  | false=>simp
  | true=>simp [named,ZiU h1]
 split
 ·rename_i h1 h2 h3
  rw [if_neg (by omega)]
  cases h1:Wu t.name with
  | false=>simp
  | true=>simp [named,Zjp h1]
 split
 ·cases h1:sym t.name with
  | false=>simp
  | true=>simp [named,ZiU h1,Bool.and_assoc]
 split
 ·rw [Zkk]
  simp only [named,sMinus]
  cases h1:V5 t with
  | false =>
   have:(t.name == [45]) = false:=by
    simp only [V5,Bool.or_eq_false_iff] at h1
    exact h1.1.1.1.2
   simp [this]
  | true =>
   have:(t.name == []) = false:=by
    cases hs:t.name with
    | nil=>simp [V5,hs] at h1
    | cons b r=>rfl
   simp [this]
 split
 ·rfl
 ·rfl
def Znp (n:Nat) (t:Tm) (H:Zf) (i:Nat):Zh :=
 ⟨[(4,.int .i64 i),(3,.int .i64 (dep.deps (t.args.take i) 0)),(1,.ptr n 1 0)],[(1,.box t.cs)],H⟩
theorem a84 (t:Tm) (ht:t.Good):Pure Tryz.prog 184 [t.enc] (.int .i64 (dep t)):=by
 intro n H
 have hd:=Zjn t
 have hg:=dep_sz t
 have hb:=Zij ht
 have hl:=ht.len
 refine Zm tok (Zb Tryz.func184 rfl rfl) (by simp) fun B=>?_
 refine Za tok rfl rfl ?_
 simp only [go_sem,simprocAttr]
 refine Za tok rfl rfl ?_
 simp only [go_sem,simprocAttr]
 refine Za tok rfl rfl ?_
 simp only [go_sem,simprocAttr]
 repeat refine kn rfl ?_
 refine Zy (Znp n t H) t.args.length rfl ?_ ?_
 ·refine Zg ?_ ?_ ?_ ?_ <;> repeat' first|exact trivial|refine q0 ?_|exact qb|exact q1|exact q2|exact q3|exact rfl|refine And.intro ?_ ?_|exact qA rfl|exact Inside.ptr _ _ _ (.inr ⟨rfl,rfl⟩)|exact Tm.ins _|exact Tm.Zj _ _|exact Am.ins _|exact Am.Zj _ _|refine Zd ?_|refine Tm.Zc ?_|refine Am.Zc ?_
 intro i hi
 refine Yi rfl ?_
 rcases Nat.lt_or_ge i t.args.length with h | h
 ·refine Za tok rfl rfl ?_
  simp only [go_sem,simprocAttr,h]
  refine Zp rfl rfl rfl ?_
  refine Za tok rfl rfl ?_
  simp only [go_sem,simprocAttr,Tm.YI _ _ h,h]
  refine Zq (Zb Tryz.func184 rfl rfl) (a84 t.args[i] (ht.arg (List.getElem_mem h))) rfl ?_
  simp only [go_sem,simprocAttr]
  refine Za tok rfl rfl ?_
  simp only [go_sem,simprocAttr]
  refine Zt rfl ?_
  refine Zg ?_ ?_ ?_ ?_ <;> repeat' first|exact trivial|refine q0 ?_|exact qb|exact q1|exact q2|exact q3|exact rfl|refine And.intro ?_ ?_|exact qA rfl|exact Inside.ptr _ _ _ (.inr ⟨rfl,rfl⟩)|exact Tm.ins _|exact Tm.Zj _ _|exact Am.ins _|exact Am.Zj _ _|refine Zd ?_|refine Tm.Zc ?_|refine Am.Zc ?_
  ·simp only [go_sem,simprocAttr]
   rw [IntWalk.i64_in _ (by omega)]; exact Wk.refl _
  ·simp only [go_sem,simprocAttr]
   rw [ZdZ _ _ _ h]; exact Wk.refl _
 ·refine Za tok rfl rfl ?_
  simp only [go_sem,simprocAttr,Nat.not_lt.2 h]
  refine Zn rfl rfl rfl ?_
  refine Yh rfl rfl rfl rfl ?_
  refine Za tok rfl rfl ?_
  simp only [go_sem,simprocAttr]
  refine Zi rfl rfl ?_
  have hi:i = t.args.length:=by omega
  subst hi
  refine Ze ?_ (.int _ _) rfl
  rw [hd]
  simp only [go_sem,simprocAttr,List.take_length]
  rw [IntWalk.i64_in _ (by omega)]
  exact Wk.refl _
termination_by SizeOf.sizeOf t
decreasing_by exact Tm.Vm (List.getElem_mem h)
def inR (t:Tm):Bool:=shape t && !decide (t.kind > 4) && !(t.kind == 3)
def Zn7 (n:Nat) (t:Tm) (H:Zf) (i:Nat):Zh :=
 ⟨[(7,.int .i64 i),(3,.ptr n 3 0),(1,.int .u8 4),(2,.int .u8 3)],[(3,.box t.cs)],H⟩
theorem a85 (t:Tm) (ht:t.Good):ZR Tryz.prog 185 [t.enc,.int .u8 4,.int .u8 3] (.bool (t.all inR)):=by
 intro n H hn hT
 have hl:=ht.len
 have hx:t.all inR = (inR t && t.args.all (Tm.all inR)):=by rw [Tm.all_eq,Tm.J9]
 refine Zm tok (Zb Tryz.func185 rfl rfl) (by simp) fun B=>?_
 refine Za tok rfl rfl ?_
 simp only [go_sem,simprocAttr]
 refine Za tok rfl rfl ?_
 simp only [go_sem,simprocAttr]
 refine ZH (Zb Tryz.func270 rfl rfl) (a117 t ht) hn hT rfl ?_
 simp only [go_sem,simprocAttr]
 rw [Zd3]
 cases h1:shape t with
 | false =>
  simp only [go_sem,simprocAttr]
  refine Zp rfl rfl rfl ?_
  refine Za tok rfl rfl ?_
  simp only [go_sem,simprocAttr]
  refine Zi rfl rfl ?_
  refine Ze ?_ (.bool _) rfl
  try simp only [go_sem,simprocAttr,hx,inR,h1]
  exact .refl _
 | true =>
 cases h2:decide (t.kind > 4) with
 | true =>
  simp only [go_sem,simprocAttr,h2]
  refine Zp rfl rfl rfl ?_
  refine Za tok rfl rfl ?_
  simp only [go_sem,simprocAttr]
  refine Zi rfl rfl ?_
  refine Ze ?_ (.bool _) rfl
  try simp only [go_sem,simprocAttr,hx,inR,h1,h2]
  exact .refl _
 | false =>
 cases h3:(t.kind == 3) with
 | true =>
  simp only [go_sem,simprocAttr,h2,h3]
  refine Zp rfl rfl rfl ?_
  refine Za tok rfl rfl ?_
  simp only [go_sem,simprocAttr]
  refine Zi rfl rfl ?_
  refine Ze ?_ (.bool _) rfl
  try simp only [go_sem,simprocAttr,hx,inR,h1,h2,h3]
  exact .refl _
 | false =>
 simp only [go_sem,simprocAttr,h2,h3]
 refine Zn rfl rfl rfl ?_
 refine Za tok rfl rfl ?_
 simp only [go_sem,simprocAttr]
 have hy:t.all inR = t.args.all (Tm.all inR):=by rw [hx]; simp only [inR,h1,h2,h3]; rfl
 repeat refine kn rfl ?_
 refine Ye (Zn7 n t H) (fun i=>∀ j (h:j < t.args.length),j < i → Tm.all inR t.args[j] = true) t.args.length rfl ?_ (fun j _ h=>absurd h (Nat.not_lt_zero _)) ?_
 ·refine Zg ?_ ?_ ?_ ?_ <;> repeat' first|exact trivial|refine q0 ?_|exact qb|exact q1|exact q2|exact q3|exact rfl|refine And.intro ?_ ?_|exact qA rfl|exact Inside.ptr _ _ _ (.inr ⟨rfl,rfl⟩)|exact Tm.ins _|exact Tm.Zj _ _|exact Am.ins _|exact Am.Zj _ _|refine Zd ?_|refine Tm.Zc ?_|refine Am.Zc ?_
 intro i hi hq
 refine Yi rfl ?_
 rcases Nat.lt_or_ge i t.args.length with h | h
 ·refine Za tok rfl rfl ?_
  simp only [go_sem,simprocAttr,h]
  refine Zp rfl rfl rfl ?_
  refine Za tok rfl rfl ?_
  simp only [go_sem,simprocAttr,Tm.YI _ _ h,h]
  refine ZH (Zb Tryz.func185 rfl rfl) (a85 t.args[i] (ht.arg (List.getElem_mem h))) hn hT rfl ?_
  simp only [go_sem,simprocAttr]
  cases h5:t.args[i].all inR with
  | false =>
   simp only [go_sem,simprocAttr]
   refine Zp rfl rfl rfl ?_
   refine Za tok rfl rfl ?_
   simp only [go_sem,simprocAttr]
   refine XO rfl rfl ?_
   refine Ze ?_ (.bool _) rfl
   have:t.args.all (Tm.all inR) = false:=by
    rw [List.all_eq_false]; exact ⟨_,List.getElem_mem h,by rw [h5]; simp⟩
   simp only [go_sem,simprocAttr,hy,this]
   exact .refl _
  | true =>
   simp only [go_sem,simprocAttr]
   refine Zn rfl rfl rfl ?_
   refine Za tok rfl rfl ?_
   simp only [go_sem,simprocAttr]
   refine Zt rfl ?_
   refine ⟨fun j hj hji=>?_,?_⟩
   ·rcases Nat.lt_or_ge j i with h' | h'
    ·exact hq j hj h'
    ·have:j = i:=by omega
     subst this; exact h5
   ·refine Zg ?_ ?_ ?_ ?_ <;> repeat' first|exact trivial|refine q0 ?_|exact qb|exact q1|exact q2|exact q3|exact rfl|refine And.intro ?_ ?_|exact qA rfl|exact Inside.ptr _ _ _ (.inr ⟨rfl,rfl⟩)|exact Tm.ins _|exact Tm.Zj _ _|exact Am.ins _|exact Am.Zj _ _|refine Zd ?_|refine Tm.Zc ?_|refine Am.Zc ?_
    ·simp only [go_sem,simprocAttr]
     rw [IntWalk.i64_in _ (by omega)]; exact .refl _
 ·refine Za tok rfl rfl ?_
  simp only [go_sem,simprocAttr,Nat.not_lt.2 h]
  refine Zn rfl rfl rfl ?_
  refine Yh rfl rfl rfl rfl ?_
  refine Za tok rfl rfl ?_
  simp only [go_sem,simprocAttr]
  refine Zi rfl rfl ?_
  refine Ze ?_ (.bool _) rfl
  have:t.args.all (Tm.all inR) = true:=by
   rw [List.all_eq_true]; intro x hx
   obtain ⟨j,hj,rfl⟩:=List.getElem_of_mem hx
   exact hq j hj (by omega)
  simp only [go_sem,simprocAttr,hy,this]
  exact .refl _
termination_by SizeOf.sizeOf t
decreasing_by exact Tm.Vm (List.getElem_mem h)
theorem inR_eq:inR = fun t=>plain t && shape t:=by
 funext t
 unfold inR plain
 cases h:shape t with
 | false=>simp
 | true =>
  have:t.kind = 1 ∨ t.kind = 2 ∨ t.kind = 3 ∨ t.kind = 4 ∨ t.kind = 5 ∨ t.kind = 6:=by
   simp only [shape] at h
   split at h
   ·omega
   split at h
   ·omega
   split at h
   ·omega
   split at h
   ·omega
   split at h
   ·omega
   split at h
   ·omega
   ·cases h
  rcases this with h | h | h | h | h | h <;> simp [h]
theorem a48 (t:Tm) (ht:t.Good):ZR Tryz.prog 105 [t.enc] (.bool (ZW t)):=by
 intro n H hn hT
 have hx:t.all inR = (t.all plain && t.all shape):=by rw [inR_eq,Ze1]
 refine Zm tok (Zb Tryz.func105 rfl rfl) (by simp) fun B=>?_
 refine Za tok rfl rfl ?_
 simp only [go_sem,simprocAttr]
 refine Za tok rfl rfl ?_
 simp only [go_sem,simprocAttr]
 refine Zq (Zb Tryz.func184 rfl rfl) (a84 t ht) rfl ?_
 simp only [go_sem,simprocAttr]
 cases h1:decide (dep t ≤ 12) with
 | false =>
  simp only [go_sem,simprocAttr]
  refine Zi rfl rfl ?_
  refine Ze ?_ (.bool _) rfl
  try simp only [go_sem,simprocAttr,ZW,Jo,h1]
  exact .refl _
 | true =>
  simp only [go_sem,simprocAttr]
  refine ZH (Zb Tryz.func185 rfl rfl) (a85 t ht) hn hT rfl ?_
  simp only [go_sem,simprocAttr]
  rw [hx]
  cases h2:t.all plain <;> cases h3:t.all shape
  all_goals
   refine Zi rfl rfl ?_
   refine Ze ?_ (.bool _) rfl
   try simp only [go_sem,simprocAttr,ZW,Jo,h1,h2,h3]
   exact .refl _
end Go.Proofs.YthgbkalgmicniaaGreatDoor

/- The reference's atoms: validity; comparisons. -/
namespace Go.Proofs.YthgbkalgmicniaaGreatDoor
open Go.Abs
set_option maxRecDepth 100000
def Znh (n:Nat) (a:Am) (H:Zf) (i:Nat):Zh :=
 ⟨[(3,.int .i64 i),(1,.ptr n 1 0)],[(1,.box a.cs)],H⟩
theorem a15 (a:Am) (ha:a.Good):ZR Tryz.prog 58 [a.enc] (.bool (Yt a)):=by
 intro n H hn hT
 have hs:=ha.pred
 have hl:=ha.len
 refine Zm tok (Zb Tryz.func58 rfl rfl) (by simp) fun B=>?_
 refine Za tok rfl rfl ?_
 simp only [go_sem,simprocAttr]
 refine Za tok rfl rfl ?_
 simp only [go_sem,simprocAttr]
 refine Zq (Zb Tryz.func106 rfl rfl) (a47 a.pred (by omega)) rfl ?_
 simp only [go_sem,simprocAttr]
 cases h1:sym a.pred with
 | false =>
  simp only [go_sem,simprocAttr]
  refine Zp rfl rfl rfl ?_
  refine Za tok rfl rfl ?_
  simp only [go_sem,simprocAttr]
  refine Zi rfl rfl ?_
  refine Ze ?_ (.bool _) rfl
  try simp only [go_sem,simprocAttr,Yt,h1]
  exact .refl _
 | true =>
 cases h2:decide ((8:Int) < (a.args.length:Int)) with
 | true =>
  have h2':decide ((a.args.length:Int) ≤ 8) = false:=by rw [decide_eq_false_iff_not]; rw [decide_eq_true_eq] at h2; omega
  simp only [go_sem,simprocAttr,h2]
  refine Zp rfl rfl rfl ?_
  refine Za tok rfl rfl ?_
  simp only [go_sem,simprocAttr]
  refine Zi rfl rfl ?_
  refine Ze ?_ (.bool _) rfl
  try simp only [go_sem,simprocAttr,Yt,h1,h2']
  exact .refl _
 | false =>
 have h2':decide ((a.args.length:Int) ≤ 8) = true:=by rw [decide_eq_true_eq]; rw [decide_eq_false_iff_not] at h2; omega
 simp only [go_sem,simprocAttr,h2]
 refine Zn rfl rfl rfl ?_
 refine Za tok rfl rfl ?_
 simp only [go_sem,simprocAttr]
 repeat refine kn rfl ?_
 have hy:Yt a = a.args.all ZW:=by simp only [Yt,h1,h2']; rfl
 refine Ye (Znh n a H) (fun i=>∀ j (h:j < a.args.length),j < i → ZW a.args[j] = true) a.args.length rfl ?_ (fun j _ h=>absurd h (Nat.not_lt_zero _)) ?_
 ·refine Zg ?_ ?_ ?_ ?_ <;> repeat' first|exact trivial|refine q0 ?_|exact qb|exact q1|exact q2|exact q3|exact rfl|refine And.intro ?_ ?_|exact qA rfl|exact Inside.ptr _ _ _ (.inr ⟨rfl,rfl⟩)|exact Tm.ins _|exact Tm.Zj _ _|exact Am.ins _|exact Am.Zj _ _|refine Zd ?_|refine Tm.Zc ?_|refine Am.Zc ?_
 intro i hi hq
 refine Yi rfl ?_
 rcases Nat.lt_or_ge i a.args.length with h | h
 ·refine Za tok rfl rfl ?_
  simp only [go_sem,simprocAttr,h]
  refine Zp rfl rfl rfl ?_
  refine Za tok rfl rfl ?_
  simp only [go_sem,simprocAttr,Tm.YI _ _ h,h]
  refine ZH (Zb Tryz.func105 rfl rfl) (a48 a.args[i] (ha.arg (List.getElem_mem h))) hn hT rfl ?_
  simp only [go_sem,simprocAttr]
  cases h5:ZW a.args[i] with
  | false =>
   simp only [go_sem,simprocAttr]
   refine Zp rfl rfl rfl ?_
   refine Za tok rfl rfl ?_
   simp only [go_sem,simprocAttr]
   refine XO rfl rfl ?_
   refine Ze ?_ (.bool _) rfl
   have:a.args.all ZW = false:=by
    rw [List.all_eq_false]; exact ⟨_,List.getElem_mem h,by rw [h5]; simp⟩
   simp only [go_sem,simprocAttr,hy,this]
   exact .refl _
  | true =>
   simp only [go_sem,simprocAttr]
   refine Zn rfl rfl rfl ?_
   refine Za tok rfl rfl ?_
   simp only [go_sem,simprocAttr]
   refine Zt rfl ?_
   refine ⟨fun j hj hji=>?_,?_⟩
   ·rcases Nat.lt_or_ge j i with h' | h'
    ·exact hq j hj h'
    ·have:j = i:=by omega
     subst this; exact h5
   ·refine Zg ?_ ?_ ?_ ?_ <;> repeat' first|exact trivial|refine q0 ?_|exact qb|exact q1|exact q2|exact q3|exact rfl|refine And.intro ?_ ?_|exact qA rfl|exact Inside.ptr _ _ _ (.inr ⟨rfl,rfl⟩)|exact Tm.ins _|exact Tm.Zj _ _|exact Am.ins _|exact Am.Zj _ _|refine Zd ?_|refine Tm.Zc ?_|refine Am.Zc ?_
    ·simp only [go_sem,simprocAttr]
     rw [IntWalk.i64_in _ (by omega)]; exact .refl _
 ·refine Za tok rfl rfl ?_
  simp only [go_sem,simprocAttr,Nat.not_lt.2 h]
  refine Zn rfl rfl rfl ?_
  refine Yh rfl rfl rfl rfl ?_
  refine Za tok rfl rfl ?_
  simp only [go_sem,simprocAttr]
  refine Zi rfl rfl ?_
  refine Ze ?_ (.bool _) rfl
  have:a.args.all ZW = true:=by
   rw [List.all_eq_true]; intro x hx
   obtain ⟨j,hj,rfl⟩:=List.getElem_of_mem hx
   exact hq j hj (by omega)
  simp only [go_sem,simprocAttr,hy,this]
  exact .refl _
theorem a87 (a:Int):Pure Tryz.prog 219 [.int .i64 a] (.bool false):=by
 intro n H
 refine Zm tok (Zb Tryz.func219 rfl rfl) (by simp) fun B=>?_
 refine Za tok rfl rfl ?_
 simp only [go_sem,simprocAttr]
 refine Za tok rfl rfl ?_
 simp only [go_sem,simprocAttr,bne]
 refine Zi rfl rfl ?_
 refine Ze ?_ (.bool _) rfl
 try simp only [go_sem,simprocAttr]
 exact .refl _
theorem a51 (a b:Int):Pure Tryz.prog 132 [.int .i64 a,.int .i64 b] (.int .i64 (YO a b)):=by
 intro n H
 refine Zm tok (Zb Tryz.func132 rfl rfl) (by simp) fun B=>?_
 refine Za tok rfl rfl ?_
 simp only [go_sem,simprocAttr]
 refine Za tok rfl rfl ?_
 simp only [go_sem,simprocAttr]
 refine Zq (Zb Tryz.func219 rfl rfl) (a87 a) rfl ?_
 simp only [go_sem,simprocAttr]
 refine Za tok rfl rfl ?_
 simp only [go_sem,simprocAttr]
 refine Zq (Zb Tryz.func219 rfl rfl) (a87 b) rfl ?_
 simp only [go_sem,simprocAttr]
 refine Za tok rfl rfl ?_
 simp only [go_sem,simprocAttr]
 refine Zn rfl rfl rfl ?_
 refine Za tok rfl rfl ?_
 simp only [go_sem,simprocAttr]
 refine Zn rfl rfl rfl ?_
 cases h1:decide (a < b) with
 | true =>
  refine Za tok rfl rfl ?_
  simp only [go_sem,simprocAttr,h1]
  refine Zp rfl rfl rfl ?_
  refine Za tok rfl rfl ?_
  simp only [go_sem,simprocAttr]
  refine Zi rfl rfl ?_
  refine Ze ?_ (.int _ _) rfl
  try simp only [go_sem,simprocAttr,YO,of_decide_eq_true h1]
  exact .refl _
 | false =>
  refine Za tok rfl rfl ?_
  simp only [go_sem,simprocAttr,h1]
  refine Zn rfl rfl rfl ?_
  cases h2:decide (b < a) with
  | true =>
   refine Za tok rfl rfl ?_
   simp only [go_sem,simprocAttr,h2]
   refine Zp rfl rfl rfl ?_
   refine Za tok rfl rfl ?_
   simp only [go_sem,simprocAttr]
   refine Zi rfl rfl ?_
   refine Ze ?_ (.int _ _) rfl
   try simp only [go_sem,simprocAttr,YO,of_decide_eq_false h1,of_decide_eq_true h2]
   exact .refl _
  | false =>
   refine Za tok rfl rfl ?_
   simp only [go_sem,simprocAttr,h2]
   refine Zn rfl rfl rfl ?_
   refine Za tok rfl rfl ?_
   simp only [go_sem,simprocAttr]
   refine Zi rfl rfl ?_
   refine Ze ?_ (.int _ _) rfl
   try simp only [go_sem,simprocAttr,YO,of_decide_eq_false h1,of_decide_eq_false h2]
   exact .refl _
def orL:List Int → Int
 | []=>0
 | a :: r=>thn a (orL r)
theorem ZkL {l:List Int} {i:Nat} (h:i < l.length) (hn:l[i] ≠ 0) (hq:∀ j (h:j < l.length),j < i → l[j] = 0):orL l = l[i]:=by
 induction l generalizing i with
 | nil=>exact absurd h (Nat.not_lt_zero _)
 | cons a r ih =>
  cases i with
  | zero=>simp only [List.getElem_cons_zero] at hn ⊢; rw [orL,V7 hn]
  | succ i =>
   have h0:=hq 0 (by simp) (by omega)
   simp only [List.getElem_cons_zero] at h0
   subst h0
   simp only [List.getElem_cons_succ] at hn ⊢
   rw [orL,XA]
   exact ih (by simpa using h) hn (fun j hj hji=>by have:=hq (j + 1) (by simpa using hj) (by omega); simpa using this)
theorem Zin {l:List Int} (hq:∀ j (h:j < l.length),l[j] = 0):orL l = 0:=by
 induction l with
 | nil=>rfl
 | cons a r ih =>
  have h0:=hq 0 (by simp)
  simp only [List.getElem_cons_zero] at h0
  rw [orL,h0,XA]
  exact ih (fun j hj=>by have:=hq (j + 1) (by simpa using hj); simpa using this)
theorem ZbN {n k:Nat} {p:Nat → Prop} {xs:List AV} (hx:∀ x ∈ xs,Below n x):Inside n p (.sl k xs .full) :=
 .sl k xs _ (fun i hi c hc=>(((hx _ (List.getElem_mem hi)).cells _ (List.getElem_mem hc))).inside) (fun l j e=>by cases e)
theorem ZbG {n:Nat} (k:IntKind) (l:List Int):∀ x ∈ l.map (AV.int k),Below n x:=fun x hx=>by obtain ⟨u,_,rfl⟩:=List.mem_map.1 hx; exact .int _ _
theorem Zea (l:List Int) (i:Nat) (h:i < l.length) (d:AV):(l.map eInt).getD i d = .int .i64 l[i]:=getD_map eInt l i h d
def Znq (l:List Int) (H:Zf) (i:Nat):Zh :=
 ⟨[(8,.int .i64 i),(7,.int .i64 l.length),(6,.sl 1 (l.map eInt) .full),(3,.int .i64 0)],[],H⟩
theorem a49 (l:List Int) (hl:l.length ≤ 1000000):Pure Tryz.prog 131 [.sl 1 (l.map eInt) .full] (.int .i64 (orL l)):=by
 intro n H
 refine Zm tok (Zb Tryz.func131 rfl rfl) (by simp) fun B=>?_
 refine Za tok rfl rfl ?_
 simp only [go_sem,simprocAttr]
 refine Za tok rfl rfl ?_
 simp only [go_sem,simprocAttr]
 refine Za tok rfl rfl ?_
 simp only [go_sem,simprocAttr]
 repeat refine kn rfl ?_
 refine Ye (Znq l H) (fun i=>∀ j (h:j < l.length),j < i → l[j] = 0) l.length rfl ?_ (fun j _ h=>absurd h (Nat.not_lt_zero _)) ?_
 ·refine Zg ?_ ?_ ?_ ?_ <;> repeat' first|exact trivial|refine q0 ?_|exact qb|exact q1|exact q2|exact q3|exact rfl|refine And.intro ?_ ?_|exact qA rfl|exact Inside.ptr _ _ _ (.inr ⟨rfl,rfl⟩)|exact Tm.ins _|exact Tm.Zj _ _|exact Am.ins _|exact Am.Zj _ _|refine Zd ?_|refine Tm.Zc ?_|refine Am.Zc ?_
  exact ZbN (ZbG .i64 l)
 intro i hi hq
 refine Yi rfl ?_
 rcases Nat.lt_or_ge i l.length with h | h
 ·refine Za tok rfl rfl ?_
  simp only [go_sem,simprocAttr,h]
  refine Zp rfl rfl rfl ?_
  refine Za tok rfl rfl ?_
  simp only [go_sem,simprocAttr,Zea _ _ h,h]
  refine Za tok rfl rfl ?_
  simp only [go_sem,simprocAttr]
  cases h5:(l[i] == 0) with
  | false =>
   simp only [go_sem,simprocAttr,bne,h5]
   refine Zp rfl rfl rfl ?_
   refine Za tok rfl rfl ?_
   simp only [go_sem,simprocAttr]
   refine XO rfl rfl ?_
   refine Ze ?_ (.int _ _) rfl
   rw [ZkL h (by simpa using h5) hq]
   exact .refl _
  | true =>
   simp only [go_sem,simprocAttr,bne,h5]
   refine Zn rfl rfl rfl ?_
   refine Za tok rfl rfl ?_
   simp only [go_sem,simprocAttr]
   refine Zt rfl ?_
   refine ⟨fun j hj hji=>?_,?_⟩
   ·rcases Nat.lt_or_ge j i with h' | h'
    ·exact hq j hj h'
    ·have:j = i:=by omega
     subst this; simpa using h5
   ·refine Zg ?_ ?_ ?_ ?_ <;> repeat' first|exact trivial|refine q0 ?_|exact qb|exact q1|exact q2|exact q3|exact rfl|refine And.intro ?_ ?_|exact qA rfl|exact Inside.ptr _ _ _ (.inr ⟨rfl,rfl⟩)|exact Tm.ins _|exact Tm.Zj _ _|exact Am.ins _|exact Am.Zj _ _|refine Zd ?_|refine Tm.Zc ?_|refine Am.Zc ?_
    ·simp only [go_sem,simprocAttr]
     rw [IntWalk.i64_in _ (by omega)]; exact .refl _
    ·exact ZbN (ZbG .i64 l)
 ·refine Za tok rfl rfl ?_
  simp only [go_sem,simprocAttr,Nat.not_lt.2 h]
  refine Zn rfl rfl rfl ?_
  refine Yh rfl rfl rfl rfl ?_
  refine Za tok rfl rfl ?_
  simp only [go_sem,simprocAttr]
  refine Zi rfl rfl ?_
  refine Ze ?_ (.int _ _) rfl
  rw [Zin (fun j hj=>hq j hj (by omega))]
  exact .refl _
def Zfc (l:List Int) (k:Int):Int:=ZaG (fun x=>k == x) l
def Zmf (l:List Int) (k:Int) (H:Zf) (i:Nat):Zh :=
 ⟨[(8,.int .i64 i),(7,.int .i64 l.length),(0,.sl 1 (l.map (AV.int .u8)) .full),(1,.int .u8 k)],[],H⟩
theorem a119 (l:List Int) (k:Int) (hl:l.length ≤ 1000000):Pure Tryz.prog 296 [.sl 1 (l.map (AV.int .u8)) .full,.int .u8 k] (.int .i64 (Zfc l k)):=by
 intro n H
 refine Zm tok (Zb Tryz.func296 rfl rfl) (by simp) fun B=>?_
 refine Za tok rfl rfl ?_
 simp only [go_sem,simprocAttr]
 refine Za tok rfl rfl ?_
 simp only [go_sem,simprocAttr]
 repeat refine kn rfl ?_
 refine Ye (Zmf l k H) (fun i=>∀ j (h:j < l.length),j < i → (k == l[j]) = false) l.length rfl ?_ (fun j _ h=>absurd h (Nat.not_lt_zero _)) ?_
 ·refine Zg ?_ ?_ ?_ ?_ <;> repeat' first|exact trivial|refine q0 ?_|exact qb|exact q1|exact q2|exact q3|exact rfl|refine And.intro ?_ ?_|exact qA rfl|exact Inside.ptr _ _ _ (.inr ⟨rfl,rfl⟩)|exact Tm.ins _|exact Tm.Zj _ _|exact Am.ins _|exact Am.Zj _ _|refine Zd ?_|refine Tm.Zc ?_|refine Am.Zc ?_
  exact ZbN (ZbG .u8 l)
 intro i hi hq
 refine Yi rfl ?_
 rcases Nat.lt_or_ge i l.length with h | h
 ·refine Za tok rfl rfl ?_
  simp only [go_sem,simprocAttr,h]
  refine Zp rfl rfl rfl ?_
  refine Za tok rfl rfl ?_
  simp only [go_sem,simprocAttr]
  refine Za tok rfl rfl ?_
  simp only [go_sem,simprocAttr,getD_map (AV.int .u8) l i h,h]
  cases h5:(k == l[i]) with
  | true =>
   refine Zp rfl rfl (by simp only [go_sem,simprocAttr,h5]) ?_
   refine Za tok rfl rfl ?_
   simp only [go_sem,simprocAttr]
   refine XO rfl rfl ?_
   refine Ze ?_ (.int _ _) rfl
   rw [Zfc,Vp h h5 hq]
   exact .refl _
  | false =>
   refine Zn rfl rfl (by simp only [go_sem,simprocAttr,h5]) ?_
   refine Za tok rfl rfl ?_
   simp only [go_sem,simprocAttr]
   refine Zt rfl ?_
   refine ⟨fun j hj hji=>?_,?_⟩
   ·rcases Nat.lt_or_ge j i with h' | h'
    ·exact hq j hj h'
    ·have:j = i:=by omega
     subst this; exact h5
   ·refine Zg ?_ ?_ ?_ ?_ <;> repeat' first|exact trivial|refine q0 ?_|exact qb|exact q1|exact q2|exact q3|exact rfl|refine And.intro ?_ ?_|exact qA rfl|exact Inside.ptr _ _ _ (.inr ⟨rfl,rfl⟩)|exact Tm.ins _|exact Tm.Zj _ _|exact Am.ins _|exact Am.Zj _ _|refine Zd ?_|refine Tm.Zc ?_|refine Am.Zc ?_
    ·simp only [go_sem,simprocAttr]
     rw [IntWalk.i64_in _ (by omega)]; exact .refl _
    ·exact ZbN (ZbG .u8 l)
 ·refine Za tok rfl rfl ?_
  simp only [go_sem,simprocAttr,Nat.not_lt.2 h]
  refine Zn rfl rfl rfl ?_
  refine Yh rfl rfl rfl rfl ?_
  refine Za tok rfl rfl ?_
  simp only [go_sem,simprocAttr]
  refine Zi rfl rfl ?_
  refine Ze ?_ (.int _ _) rfl
  rw [Zfc,XV (fun j hj=>hq j hj (by omega))]
  exact .refl _
theorem Zi4 (k:Int):Zfc [1,2,4,3,5,6] k = if k = 1 then 0 else if k = 2 then 1 else if k = 4 then 2 else if k = 3 then 3 else if k = 5 then 4 else if k = 6 then 5 else -1:=by
 by_cases h1:k = 1
 ·subst h1; rfl
 by_cases h2:k = 2
 ·subst h2; rfl
 by_cases h4:k = 4
 ·subst h4; rfl
 by_cases h3:k = 3
 ·subst h3; rfl
 by_cases h5:k = 5
 ·subst h5; rfl
 by_cases h6:k = 6
 ·subst h6; rfl
 unfold Zfc ZaG
 simp [h1,h2,h3,h4,h5,h6]
theorem Zjm (k:Int):rank k = if 0 ≤ Zfc [1,2,4,3,5,6] k then Zfc [1,2,4,3,5,6] k else 6 + k:=by
 rw [Zi4]; unfold rank
 repeat' split
 all_goals first | rfl | omega
theorem a88 (k:Int) (hk:0 ≤ k ∧ k ≤ 255):Pure Tryz.prog 220 [.int .u8 k] (.int .i64 (rank k)):=by
 intro n H
 have hr:=Zjm k
 have ha:=a119 [1,2,4,3,5,6] k (by decide)
 simp only [List.map_cons,List.map_nil] at ha
 generalize Zfc [1,2,4,3,5,6] k = i at ha hr
 refine Zm tok (Zb Tryz.func220 rfl rfl) (by simp) fun B=>?_
 refine Za tok rfl rfl ?_
 simp only [go_sem,simprocAttr]
 refine Za tok rfl rfl ?_
 simp only [go_sem,simprocAttr]
 refine ⟨by decide,?_⟩
 refine Za tok rfl rfl ?_
 simp only [go_sem,simprocAttr]
 refine Zq (Zb Tryz.func296 rfl rfl) (ha) rfl ?_
 simp only [go_sem,simprocAttr]
 cases h1:decide (0 ≤ i) with
 | true =>
  refine Za tok rfl rfl ?_
  simp only [go_sem,simprocAttr,h1]
  refine Zp rfl rfl rfl ?_
  refine Za tok rfl rfl ?_
  simp only [go_sem,simprocAttr]
  refine Zi rfl rfl ?_
  refine Ze ?_ (.int _ _) rfl
  rw [hr,if_pos (of_decide_eq_true h1)]
  exact .refl _
 | false =>
  refine Za tok rfl rfl ?_
  simp only [go_sem,simprocAttr,h1]
  refine Zn rfl rfl rfl ?_
  refine Za tok rfl rfl ?_
  simp only [go_sem,simprocAttr]
  refine Zi rfl rfl ?_
  refine Ze ?_ (.int _ _) rfl
  simp only [go_sem,simprocAttr]
  rw [hr,if_neg (of_decide_eq_false h1),IntWalk.i64_in k (by omega),IntWalk.i64_in _ (by omega)]
  exact .refl _
structure ZkH (f:Nat) (p q:List Tm):Prop where
 fn:∃ fn c,Fun Tryz.prog f fn c
 on:∀ x ∈ p,∀ y ∈ q,Pure Tryz.prog f [x.enc,y.enc] (.int .i64 (cmpT x y))
def ZnT (p q:List Tm) (f:Nat) (H:Zf) (i:Nat):Zh :=
 ⟨[(13,.int .i64 i),(12,.int .i64 p.length),(11,.sl 4 (p.map Tm.enc) .any),(0,.sl 4 (p.map Tm.enc) .any),(1,.sl 4 (q.map Tm.enc) .any),(2,.fn (.func f) [])],[],H⟩
theorem Zd9 (p q:List Tm) (i:Nat) (h:i < p.length) (h':i < q.length):cmpT.cmps (p.drop i) (q.drop i) = thn (cmpT p[i] q[i]) (cmpT.cmps (p.drop (i + 1)) (q.drop (i + 1))):=by
 rw [List.drop_eq_getElem_cons h,List.drop_eq_getElem_cons h']; rfl
theorem a52 (p q:List Tm) (hp:p.length ≤ 1000000) (hq:q.length ≤ 1000000) (f:Nat) (hf:ZkH f p q):Pure Tryz.prog 133 [.sl 4 (p.map Tm.enc) .any,.sl 4 (q.map Tm.enc) .any,.fn (.func f) []] (.int .i64 (cmpT.cmps p q)):=by
 intro n H
 obtain ⟨⟨fn,c,hf⟩,hon⟩:=hf
 have hfi:∀ r,Inside n r (.fn (.func f) []):=fun r=>Inside.fn _ _ (fun i h=>absurd h (Nat.not_lt_zero _))
 refine Zm tok (Zb Tryz.func133 rfl rfl) (by simp) fun B=>?_
 refine Za tok rfl rfl ?_
 simp only [go_sem,simprocAttr]
 refine Za tok rfl rfl ?_
 simp only [go_sem,simprocAttr]
 repeat refine kn rfl ?_
 refine Ye (ZnT p q f H) (fun i=>cmpT.cmps p q = cmpT.cmps (p.drop i) (q.drop i)) p.length rfl ?_ rfl ?_
 ·refine Zg ?_ ?_ ?_ ?_ <;> repeat' first|exact trivial|refine q0 ?_|exact qb|exact q1|exact q2|exact q3|exact rfl|refine And.intro ?_ ?_|exact qA rfl|exact Inside.ptr _ _ _ (.inr ⟨rfl,rfl⟩)|exact Tm.ins _|exact Tm.Zj _ _|exact Am.ins _|exact Am.Zj _ _|refine Zd ?_|refine Tm.Zc ?_|refine Am.Zc ?_
 intro i hi hc
 refine Yi rfl ?_
 rcases Nat.lt_or_ge i p.length with h | h
 ·refine Za tok rfl rfl ?_
  simp only [go_sem,simprocAttr,h]
  refine Zp rfl rfl rfl ?_
  refine Za tok rfl rfl ?_
  simp only [go_sem,simprocAttr,Tm.YI _ _ h,h]
  rcases Nat.lt_or_ge i q.length with h' | h'
  ·refine Za tok rfl rfl ?_
   simp only [go_sem,simprocAttr,h',Nat.not_le.2 h']
   refine Zn rfl rfl rfl ?_
   refine Za tok rfl rfl ?_
   simp only [go_sem,simprocAttr,Tm.YI _ _ h',h']
   refine Za tok rfl rfl ?_
   simp only [go_sem,simprocAttr]
   refine XM (avs:=[p[i].enc,q[i].enc]) rfl hf (hon _ (List.getElem_mem h) _ (List.getElem_mem h') _ _) rfl ?_
   simp only [go_sem,simprocAttr]
   cases h5:(cmpT p[i] q[i] == 0) with
   | false =>
    refine Za tok rfl rfl ?_
    simp only [go_sem,simprocAttr,bne,h5]
    refine Zp rfl rfl rfl ?_
    refine Za tok rfl rfl ?_
    simp only [go_sem,simprocAttr]
    refine XO rfl rfl ?_
    refine Ze ?_ (.int _ _) rfl
    rw [hc,Zd9 p q i h h',V7 (by simpa using h5)]
    exact .refl _
   | true =>
    refine Za tok rfl rfl ?_
    simp only [go_sem,simprocAttr,bne,h5]
    refine Zn rfl rfl rfl ?_
    refine Za tok rfl rfl ?_
    simp only [go_sem,simprocAttr]
    refine Zt rfl ?_
    refine ⟨?_,?_⟩
    ·rw [hc,Zd9 p q i h h',(by simpa using h5:cmpT p[i] q[i] = 0),XA]
    ·refine Zg ?_ ?_ ?_ ?_ <;> repeat' first|exact trivial|refine q0 ?_|exact qb|exact q1|exact q2|exact q3|exact rfl|refine And.intro ?_ ?_|exact qA rfl|exact Inside.ptr _ _ _ (.inr ⟨rfl,rfl⟩)|exact Tm.ins _|exact Tm.Zj _ _|exact Am.ins _|exact Am.Zj _ _|refine Zd ?_|refine Tm.Zc ?_|refine Am.Zc ?_
     simp only [go_sem,simprocAttr]
     rw [IntWalk.i64_in _ (by omega)]; exact .refl _
  ·refine Za tok rfl rfl ?_
   simp only [go_sem,simprocAttr,h']
   refine Zp rfl rfl rfl ?_
   refine Za tok rfl rfl ?_
   simp only [go_sem,simprocAttr]
   refine XO rfl rfl ?_
   refine Ze ?_ (.int _ _) rfl
   rw [hc,List.drop_eq_nil_of_le h',List.drop_eq_getElem_cons h]
   exact .refl _
 ·refine Za tok rfl rfl ?_
  simp only [go_sem,simprocAttr,Nat.not_lt.2 h]
  refine Zn rfl rfl rfl ?_
  refine Yh rfl rfl rfl rfl ?_
  have hi':i = p.length:=by omega
  subst hi'
  rw [List.drop_length] at hc
  cases h1:decide (p.length < q.length) with
  | true =>
   refine Za tok rfl rfl ?_
   simp only [go_sem,simprocAttr,h1]
   refine Zp rfl rfl rfl ?_
   refine Za tok rfl rfl ?_
   simp only [go_sem,simprocAttr]
   refine Zi rfl rfl ?_
   refine Ze ?_ (.int _ _) rfl
   rw [hc,List.drop_eq_getElem_cons (by have:=of_decide_eq_true h1; omega)]
   exact .refl _
  | false =>
   refine Za tok rfl rfl ?_
   simp only [go_sem,simprocAttr,h1]
   refine Zn rfl rfl rfl ?_
   refine Za tok rfl rfl ?_
   simp only [go_sem,simprocAttr]
   refine Zi rfl rfl ?_
   refine Ze ?_ (.int _ _) rfl
   rw [hc,List.drop_eq_nil_of_le (by have:=of_decide_eq_false h1; omega)]
   exact .refl _
end Go.Proofs.YthgbkalgmicniaaGreatDoor

/- Comparisons of terms and atoms. -/
namespace Go.Proofs.YthgbkalgmicniaaGreatDoor
open Go.Abs
set_option maxRecDepth 100000
theorem ZnD (a b:Tm) (ha:a.Good) (hb:b.Good) (hc:ZkH 134 a.args b.args):Pure Tryz.prog 134 [a.enc,b.enc] (.int .i64 (cmpT a b)):=by
 intro n H
 have hla:=ha.len
 have hlb:=hb.len
 have hx:=ZeM a b
 refine Zm tok (Zb Tryz.func134 rfl rfl) (by simp) fun B=>?_
 refine Za tok rfl rfl ?_
 simp only [go_sem,simprocAttr]
 refine YX tok mixed drawO rfl rfl rfl ?_
 simp only [go_sem,simprocAttr]
 refine Zq (Zb Tryz.func220 rfl rfl) (a88 a.kind ha.kind) rfl ?_
 simp only [go_sem,simprocAttr]
 refine Zq (Zb Tryz.func220 rfl rfl) (a88 b.kind hb.kind) rfl ?_
 simp only [go_sem,simprocAttr]
 refine Zq (Zb Tryz.func132 rfl rfl) (a51 (rank a.kind) (rank b.kind)) rfl ?_
 simp only [go_sem,simprocAttr]
 cases h1:(YO (rank a.kind) (rank b.kind) == 0) with
 | false =>
  have h1':YO (rank a.kind) (rank b.kind) ≠ 0:=by simpa using h1
  refine Za tok rfl rfl ?_
  simp only [go_sem,simprocAttr,bne,h1]
  refine Zp rfl rfl rfl ?_
  refine Za tok rfl rfl ?_
  simp only [go_sem,simprocAttr]
  refine Zi rfl rfl ?_
  refine Ze ?_ (.int _ _) rfl
  rw [hx,V7 h1']
  exact .refl _
 | true =>
 have h1':YO (rank a.kind) (rank b.kind) = 0:=by simpa using h1
 rw [h1',XA] at hx
 refine Za tok rfl rfl ?_
 simp only [go_sem,simprocAttr,bne,h1]
 refine Zn rfl rfl rfl ?_
 refine Za tok rfl rfl ?_
 simp only [go_sem,simprocAttr]
 refine Zq (Zb Tryz.func132 rfl rfl) (a51 a.num b.num) rfl ?_
 simp only [go_sem,simprocAttr]
 cases h2:(YO a.num b.num == 0) with
 | false =>
  have h2':YO a.num b.num ≠ 0:=by simpa using h2
  cases h3:(a.kind == 1) with
  | true =>
   have h3':a.kind = 1:=by simpa using h3
   refine Za tok rfl rfl ?_
   simp only [go_sem,simprocAttr,bne,h2,h3]
   refine Zp rfl rfl rfl ?_
   refine Za tok rfl rfl ?_
   simp only [go_sem,simprocAttr]
   refine Zi rfl rfl ?_
   refine Ze ?_ (.int _ _) rfl
   rw [hx,if_pos h3',V7 h2']
   exact .refl _
  | false =>
   have h3':¬ a.kind = 1:=by simpa using h3
   refine Za tok rfl rfl ?_
   simp only [go_sem,simprocAttr,bne,h2,h3]
   refine Zn rfl rfl rfl ?_
   rw [if_neg h3',XA] at hx
   refine YX tok mixed drawO rfl rfl rfl ?_
   simp only [go_sem,simprocAttr]
   refine Zq (Zb Tryz.func132 rfl rfl) (a51 a.args.length b.args.length) rfl ?_
   simp only [go_sem,simprocAttr]
   refine Zq (Zb Tryz.func148 rfl rfl) (a50 a.name b.name) rfl ?_
   simp only [go_sem,simprocAttr]
   refine Zq (Zb Tryz.func133 rfl rfl) (a52 a.args b.args hla hlb _ hc) rfl ?_
   simp only [go_sem,simprocAttr]
   refine Zq (Zb Tryz.func132 rfl rfl) (a51 a.num b.num) rfl ?_
   simp only [go_sem,simprocAttr]
   refine ⟨by decide,?_⟩
   have ho:=a49 [YO a.args.length b.args.length,Lib.compareBytes a.name b.name,cmpT.cmps a.args b.args,YO a.num b.num] (by simp)
   simp only [List.map_cons,List.map_nil,eInt,orL,ZaC] at ho
   refine Zq (Zb Tryz.func131 rfl rfl) (ho) rfl ?_
   simp only [go_sem,simprocAttr]
   refine Zi rfl rfl ?_
   refine Ze ?_ (.int _ _) rfl
   rw [hx]
   exact .refl _
 | true =>
  have h2':YO a.num b.num = 0:=by simpa using h2
  refine Za tok rfl rfl ?_
  simp only [go_sem,simprocAttr,bne,h2]
  refine Zn rfl rfl rfl ?_
  rw [h2',(by split <;> rfl:(if a.kind = 1 then (0:Int) else 0) = 0),XA] at hx
  refine YX tok mixed drawO rfl rfl rfl ?_
  simp only [go_sem,simprocAttr]
  refine Zq (Zb Tryz.func132 rfl rfl) (a51 a.args.length b.args.length) rfl ?_
  simp only [go_sem,simprocAttr]
  refine Zq (Zb Tryz.func148 rfl rfl) (a50 a.name b.name) rfl ?_
  simp only [go_sem,simprocAttr]
  refine Zq (Zb Tryz.func133 rfl rfl) (a52 a.args b.args hla hlb _ hc) rfl ?_
  simp only [go_sem,simprocAttr]
  refine Zq (Zb Tryz.func132 rfl rfl) (a51 a.num b.num) rfl ?_
  simp only [go_sem,simprocAttr]
  refine ⟨by decide,?_⟩
  have ho:=a49 [YO a.args.length b.args.length,Lib.compareBytes a.name b.name,cmpT.cmps a.args b.args,YO a.num b.num] (by simp)
  simp only [List.map_cons,List.map_nil,eInt,orL,ZaC] at ho
  refine Zq (Zb Tryz.func131 rfl rfl) (ho) rfl ?_
  simp only [go_sem,simprocAttr]
  refine Zi rfl rfl ?_
  refine Ze ?_ (.int _ _) rfl
  rw [hx,h2']
  exact .refl _
theorem a53 (a b:Tm) (ha:a.Good) (hb:b.Good):Pure Tryz.prog 134 [a.enc,b.enc] (.int .i64 (cmpT a b)) :=
 ZnD a b ha hb ⟨⟨_,_,Zb Tryz.func134 rfl rfl⟩,fun x hx y hy=>a53 x y (ha.arg hx) (hb.arg hy)⟩
termination_by SizeOf.sizeOf a
decreasing_by exact Tm.Vm hx
theorem Zmr {a b:Am} (ha:a.Good) (hb:b.Good):ZkH 134 a.args b.args:=⟨⟨_,_,Zb Tryz.func134 rfl rfl⟩,fun x hx y hy=>a53 x y (ha.arg hx) (hb.arg hy)⟩
theorem a16 (a b:Am) (ha:a.Good) (hb:b.Good):Pure Tryz.prog 81 [a.enc,b.enc] (.int .i64 (ZdI a b)):=by
 intro n H
 have hla:=ha.len
 have hlb:=hb.len
 have hx:ZdI a b = thn (thn (Lib.compareBytes a.pred b.pred) (YO a.args.length b.args.length)) (cmpT.cmps a.args b.args):=by rw [ZdI,WM]
 have ho:=a49 [Lib.compareBytes a.pred b.pred,YO a.args.length b.args.length] (by simp)
 simp only [List.map_cons,List.map_nil,eInt,orL,ZaC] at ho
 refine Zm tok (Zb Tryz.func81 rfl rfl) (by simp) fun B=>?_
 refine Za tok rfl rfl ?_
 simp only [go_sem,simprocAttr]
 refine YX tok mixed drawO rfl rfl rfl ?_
 simp only [go_sem,simprocAttr]
 refine Zq (Zb Tryz.func148 rfl rfl) (a50 a.pred b.pred) rfl ?_
 simp only [go_sem,simprocAttr]
 refine Zq (Zb Tryz.func132 rfl rfl) (a51 a.args.length b.args.length) rfl ?_
 simp only [go_sem,simprocAttr]
 refine ⟨by decide,?_⟩
 refine Zq (Zb Tryz.func131 rfl rfl) (ho) rfl ?_
 simp only [go_sem,simprocAttr]
 generalize thn (Lib.compareBytes a.pred b.pred) (YO a.args.length b.args.length) = c at hx
 cases h1:(c == 0) with
 | false =>
  refine Za tok rfl rfl ?_
  simp only [go_sem,simprocAttr,bne,h1]
  refine Zp rfl rfl rfl ?_
  refine Za tok rfl rfl ?_
  simp only [go_sem,simprocAttr]
  refine Zi rfl rfl ?_
  refine Ze ?_ (.int _ _) rfl
  rw [hx,V7 (by simpa using h1)]
  exact .refl _
 | true =>
  have h1':c = 0:=by simpa using h1
  refine Za tok rfl rfl ?_
  simp only [go_sem,simprocAttr,bne,h1]
  refine Zn rfl rfl rfl ?_
  refine Za tok rfl rfl ?_
  simp only [go_sem,simprocAttr]
  refine Zq (Zb Tryz.func133 rfl rfl) (a52 a.args b.args hla hlb _ (Zmr ha hb)) rfl ?_
  simp only [go_sem,simprocAttr]
  refine Zi rfl rfl ?_
  refine Ze ?_ (.int _ _) rfl
  rw [hx,h1',XA]
  exact .refl _
end Go.Proofs.YthgbkalgmicniaaGreatDoor

/- Library functions of this translation, laid. -/
namespace Go.Proofs
open Go.Shelf
def Tryz.laysSlF6_f208_ren:Go.Shelf.Ren:=⟨fun | 6=>208 | 15=>196 | 14=>290 | 28=>286 | 29=>287 | 20=>328 | 21=>329 | 22=>330 | 23=>331 | 24=>332 | 25=>333 | 26=>334 | 27=>335 | 46=>354 | 47=>324 | 48=>325 | 49=>355 | 50=>356 | 57=>372 | n=>n,fun | 22=>61 | 24=>3 | 25=>175 | 3=>3 | 39=>256 | 0=>0 | 53=>319 | 55=>310 | 4=>4 | 46=>313 | 45=>312 | 50=>288 | 5=>5 | 9=>9 | 66=>349 | 70=>353 | 76=>369 | 77=>370 | n=>n,fun | n=>n⟩
theorem Tryz.laysSlF6_f208:Go.Proofs.SlLaysF.n6 Tryz.prog Tryz.laysSlF6_f208_ren:={
 mixed:=by kernel_rfl
 f6:=⟨Tryz.f208.name,by decide,Tryz.func208.trans (congrArg some (by kernel_rfl))⟩
 f14:=⟨Tryz.f290.name,by decide,Tryz.func290.trans (congrArg some (by kernel_rfl))⟩
 f15:=Tryz.func196.trans (congrArg some (by kernel_rfl))
 f20:=⟨Tryz.f328.name,by decide,Tryz.func328.trans (congrArg some (by kernel_rfl))⟩
 f21:=⟨Tryz.f329.name,by decide,Tryz.func329.trans (congrArg some (by kernel_rfl))⟩
 f22:=⟨Tryz.f330.name,by decide,Tryz.func330.trans (congrArg some (by kernel_rfl))⟩
 f23:=⟨Tryz.f331.name,by decide,Tryz.func331.trans (congrArg some (by kernel_rfl))⟩
 f24:=⟨Tryz.f332.name,by decide,Tryz.func332.trans (congrArg some (by kernel_rfl))⟩
 f25:=⟨Tryz.f333.name,by decide,Tryz.func333.trans (congrArg some (by kernel_rfl))⟩
 f26:=⟨Tryz.f334.name,by decide,Tryz.func334.trans (congrArg some (by kernel_rfl))⟩
 f27:=⟨Tryz.f335.name,by decide,Tryz.func335.trans (congrArg some (by kernel_rfl))⟩
 f28:=Tryz.func286.trans (congrArg some (by kernel_rfl))
 f29:=Tryz.func287.trans (congrArg some (by kernel_rfl))
 f46:=⟨Tryz.f354.name,by decide,Tryz.func354.trans (congrArg some (by kernel_rfl))⟩
 f47:=Tryz.func324.trans (congrArg some (by kernel_rfl))
 f48:=Tryz.func325.trans (congrArg some (by kernel_rfl))
 f49:=⟨Tryz.f355.name,by decide,Tryz.func355.trans (congrArg some (by kernel_rfl))⟩
 f50:=⟨Tryz.f356.name,by decide,Tryz.func356.trans (congrArg some (by kernel_rfl))⟩
 f57:=⟨Tryz.f372.name,by decide,Tryz.func372.trans (congrArg some (by kernel_rfl))⟩
 t0:=Tryz.underlying0
 a0:=Tryz.isAgg0
 z0:=Tryz.sizeOf0
 v0:=Tryz.zeroValue0
 t3:=Tryz.underlying3
 a3:=Tryz.isAgg3
 z3:=Tryz.sizeOf3
 v3:=Tryz.zeroValue3
 t4:=Tryz.underlying4
 a4:=Tryz.isAgg4
 z4:=Tryz.sizeOf4
 v4:=Tryz.zeroValue4
 t5:=Tryz.underlying5
 a5:=Tryz.isAgg5
 z5:=Tryz.sizeOf5
 v5:=Tryz.zeroValue5
 t9:=Tryz.underlying9
 a9:=Tryz.isAgg9
 z9:=Tryz.sizeOf9
 v9:=Tryz.zeroValue9
 t22:=Tryz.underlying61
 a22:=Tryz.isAgg61
 z22:=Tryz.sizeOf61
 v22:=Tryz.zeroValue61
 a24:=Tryz.isAgg3
 z24:=Tryz.sizeOf3
 t25:=Tryz.underlying175
 a25:=Tryz.isAgg175
 z25:=Tryz.sizeOf175
 v25:=Tryz.zeroValue175
 t39:=Tryz.underlying256
 a39:=Tryz.isAgg256
 z39:=Tryz.sizeOf256
 v39:=Tryz.zeroValue256
 t45:=Tryz.underlying312
 a45:=Tryz.isAgg312
 z45:=Tryz.sizeOf312
 v45:=Tryz.zeroValue312
 t46:=Tryz.underlying313
 a46:=Tryz.isAgg313
 z46:=Tryz.sizeOf313
 v46:=Tryz.zeroValue313
 t50:=Tryz.underlying288
 a50:=Tryz.isAgg288
 z50:=Tryz.sizeOf288
 v50:=Tryz.zeroValue288
 t53:=Tryz.underlying319
 a53:=Tryz.isAgg319
 z53:=Tryz.sizeOf319
 v53:=Tryz.zeroValue319
 t55:=Tryz.underlying310
 a55:=Tryz.isAgg310
 z55:=Tryz.sizeOf310
 v55:=Tryz.zeroValue310
 t66:=Tryz.underlying349
 a66:=Tryz.isAgg349
 z66:=Tryz.sizeOf349
 v66:=Tryz.zeroValue349
 t70:=Tryz.underlying353
 a70:=Tryz.isAgg353
 z70:=Tryz.sizeOf353
 v70:=Tryz.zeroValue353
 t76:=Tryz.underlying369
 a76:=Tryz.isAgg369
 z76:=Tryz.sizeOf369
 v76:=Tryz.zeroValue369
 t77:=Tryz.underlying370
 a77:=Tryz.isAgg370
 z77:=Tryz.sizeOf370
 v77:=Tryz.zeroValue370 }
def Tryz.sort116_ren:Go.Shelf.Ren:=⟨fun | 6=>116 | 15=>196 | 14=>195 | 28=>286 | 29=>287 | 20=>278 | 21=>279 | 22=>280 | 23=>281 | 24=>282 | 25=>283 | 26=>284 | 27=>285 | 46=>323 | 47=>324 | 48=>325 | 49=>326 | 50=>327 | 57=>353 | n=>n,fun | 22=>27 | 24=>33 | 25=>132 | 3=>3 | 39=>256 | 0=>0 | 53=>319 | 55=>310 | 4=>4 | 46=>313 | 45=>312 | 50=>288 | 5=>5 | 9=>9 | 66=>349 | 70=>353 | 76=>369 | 77=>370 | n=>n,fun | n=>n⟩
theorem Tryz.sort116:Go.Proofs.SlLaysF0.n6 Tryz.prog Tryz.sort116_ren:={
 mixed:=by kernel_rfl
 f6:=⟨Tryz.f116.name,by decide,Tryz.func116.trans (congrArg some (by kernel_rfl))⟩
 f14:=⟨Tryz.f195.name,by decide,Tryz.func195.trans (congrArg some (by kernel_rfl))⟩
 f15:=Tryz.func196.trans (congrArg some (by kernel_rfl))
 f20:=⟨Tryz.f278.name,by decide,Tryz.func278.trans (congrArg some (by kernel_rfl))⟩
 f21:=⟨Tryz.f279.name,by decide,Tryz.func279.trans (congrArg some (by kernel_rfl))⟩
 f22:=⟨Tryz.f280.name,by decide,Tryz.func280.trans (congrArg some (by kernel_rfl))⟩
 f23:=⟨Tryz.f281.name,by decide,Tryz.func281.trans (congrArg some (by kernel_rfl))⟩
 f24:=⟨Tryz.f282.name,by decide,Tryz.func282.trans (congrArg some (by kernel_rfl))⟩
 f25:=⟨Tryz.f283.name,by decide,Tryz.func283.trans (congrArg some (by kernel_rfl))⟩
 f26:=⟨Tryz.f284.name,by decide,Tryz.func284.trans (congrArg some (by kernel_rfl))⟩
 f27:=⟨Tryz.f285.name,by decide,Tryz.func285.trans (congrArg some (by kernel_rfl))⟩
 f28:=Tryz.func286.trans (congrArg some (by kernel_rfl))
 f29:=Tryz.func287.trans (congrArg some (by kernel_rfl))
 f46:=⟨Tryz.f323.name,by decide,Tryz.func323.trans (congrArg some (by kernel_rfl))⟩
 f47:=Tryz.func324.trans (congrArg some (by kernel_rfl))
 f48:=Tryz.func325.trans (congrArg some (by kernel_rfl))
 f49:=⟨Tryz.f326.name,by decide,Tryz.func326.trans (congrArg some (by kernel_rfl))⟩
 f50:=⟨Tryz.f327.name,by decide,Tryz.func327.trans (congrArg some (by kernel_rfl))⟩
 f57:=⟨Tryz.f353.name,by decide,Tryz.func353.trans (congrArg some (by kernel_rfl))⟩
 t0:=Tryz.underlying0
 a0:=Tryz.isAgg0
 z0:=Tryz.sizeOf0
 v0:=Tryz.zeroValue0
 t3:=Tryz.underlying3
 a3:=Tryz.isAgg3
 z3:=Tryz.sizeOf3
 v3:=Tryz.zeroValue3
 t4:=Tryz.underlying4
 a4:=Tryz.isAgg4
 z4:=Tryz.sizeOf4
 v4:=Tryz.zeroValue4
 t5:=Tryz.underlying5
 a5:=Tryz.isAgg5
 z5:=Tryz.sizeOf5
 v5:=Tryz.zeroValue5
 t9:=Tryz.underlying9
 a9:=Tryz.isAgg9
 z9:=Tryz.sizeOf9
 v9:=Tryz.zeroValue9
 t22:=Tryz.underlying27
 a22:=Tryz.isAgg27
 z22:=Tryz.sizeOf27
 v22:=Tryz.zeroValue27
 t25:=Tryz.underlying132
 a25:=Tryz.isAgg132
 z25:=Tryz.sizeOf132
 v25:=Tryz.zeroValue132
 t39:=Tryz.underlying256
 a39:=Tryz.isAgg256
 z39:=Tryz.sizeOf256
 v39:=Tryz.zeroValue256
 t45:=Tryz.underlying312
 a45:=Tryz.isAgg312
 z45:=Tryz.sizeOf312
 v45:=Tryz.zeroValue312
 t46:=Tryz.underlying313
 a46:=Tryz.isAgg313
 z46:=Tryz.sizeOf313
 v46:=Tryz.zeroValue313
 t50:=Tryz.underlying288
 a50:=Tryz.isAgg288
 z50:=Tryz.sizeOf288
 v50:=Tryz.zeroValue288
 t53:=Tryz.underlying319
 a53:=Tryz.isAgg319
 z53:=Tryz.sizeOf319
 v53:=Tryz.zeroValue319
 t55:=Tryz.underlying310
 a55:=Tryz.isAgg310
 z55:=Tryz.sizeOf310
 v55:=Tryz.zeroValue310
 t66:=Tryz.underlying349
 a66:=Tryz.isAgg349
 z66:=Tryz.sizeOf349
 v66:=Tryz.zeroValue349
 t70:=Tryz.underlying353
 a70:=Tryz.isAgg353
 z70:=Tryz.sizeOf353
 v70:=Tryz.zeroValue353
 t76:=Tryz.underlying369
 a76:=Tryz.isAgg369
 z76:=Tryz.sizeOf369
 v76:=Tryz.zeroValue369
 t77:=Tryz.underlying370
 a77:=Tryz.isAgg370
 z77:=Tryz.sizeOf370
 v77:=Tryz.zeroValue370 }
def Tryz.sort208_ren:Go.Shelf.Ren:=⟨fun | 6=>208 | 15=>196 | 14=>290 | 28=>286 | 29=>287 | 20=>328 | 21=>329 | 22=>330 | 23=>331 | 24=>332 | 25=>333 | 26=>334 | 27=>335 | 46=>354 | 47=>324 | 48=>325 | 49=>355 | 50=>356 | 57=>372 | n=>n,fun | 22=>61 | 24=>3 | 25=>175 | 3=>3 | 39=>256 | 0=>0 | 53=>319 | 55=>310 | 4=>4 | 46=>313 | 45=>312 | 50=>288 | 5=>5 | 9=>9 | 66=>349 | 70=>353 | 76=>369 | 77=>370 | n=>n,fun | n=>n⟩
theorem Tryz.sort208:Go.Proofs.SlLaysF0.n6 Tryz.prog Tryz.sort208_ren:={
 mixed:=by kernel_rfl
 f6:=⟨Tryz.f208.name,by decide,Tryz.func208.trans (congrArg some (by kernel_rfl))⟩
 f14:=⟨Tryz.f290.name,by decide,Tryz.func290.trans (congrArg some (by kernel_rfl))⟩
 f15:=Tryz.func196.trans (congrArg some (by kernel_rfl))
 f20:=⟨Tryz.f328.name,by decide,Tryz.func328.trans (congrArg some (by kernel_rfl))⟩
 f21:=⟨Tryz.f329.name,by decide,Tryz.func329.trans (congrArg some (by kernel_rfl))⟩
 f22:=⟨Tryz.f330.name,by decide,Tryz.func330.trans (congrArg some (by kernel_rfl))⟩
 f23:=⟨Tryz.f331.name,by decide,Tryz.func331.trans (congrArg some (by kernel_rfl))⟩
 f24:=⟨Tryz.f332.name,by decide,Tryz.func332.trans (congrArg some (by kernel_rfl))⟩
 f25:=⟨Tryz.f333.name,by decide,Tryz.func333.trans (congrArg some (by kernel_rfl))⟩
 f26:=⟨Tryz.f334.name,by decide,Tryz.func334.trans (congrArg some (by kernel_rfl))⟩
 f27:=⟨Tryz.f335.name,by decide,Tryz.func335.trans (congrArg some (by kernel_rfl))⟩
 f28:=Tryz.func286.trans (congrArg some (by kernel_rfl))
 f29:=Tryz.func287.trans (congrArg some (by kernel_rfl))
 f46:=⟨Tryz.f354.name,by decide,Tryz.func354.trans (congrArg some (by kernel_rfl))⟩
 f47:=Tryz.func324.trans (congrArg some (by kernel_rfl))
 f48:=Tryz.func325.trans (congrArg some (by kernel_rfl))
 f49:=⟨Tryz.f355.name,by decide,Tryz.func355.trans (congrArg some (by kernel_rfl))⟩
 f50:=⟨Tryz.f356.name,by decide,Tryz.func356.trans (congrArg some (by kernel_rfl))⟩
 f57:=⟨Tryz.f372.name,by decide,Tryz.func372.trans (congrArg some (by kernel_rfl))⟩
 t0:=Tryz.underlying0
 a0:=Tryz.isAgg0
 z0:=Tryz.sizeOf0
 v0:=Tryz.zeroValue0
 t3:=Tryz.underlying3
 a3:=Tryz.isAgg3
 z3:=Tryz.sizeOf3
 v3:=Tryz.zeroValue3
 t4:=Tryz.underlying4
 a4:=Tryz.isAgg4
 z4:=Tryz.sizeOf4
 v4:=Tryz.zeroValue4
 t5:=Tryz.underlying5
 a5:=Tryz.isAgg5
 z5:=Tryz.sizeOf5
 v5:=Tryz.zeroValue5
 t9:=Tryz.underlying9
 a9:=Tryz.isAgg9
 z9:=Tryz.sizeOf9
 v9:=Tryz.zeroValue9
 t22:=Tryz.underlying61
 a22:=Tryz.isAgg61
 z22:=Tryz.sizeOf61
 v22:=Tryz.zeroValue61
 t25:=Tryz.underlying175
 a25:=Tryz.isAgg175
 z25:=Tryz.sizeOf175
 v25:=Tryz.zeroValue175
 t39:=Tryz.underlying256
 a39:=Tryz.isAgg256
 z39:=Tryz.sizeOf256
 v39:=Tryz.zeroValue256
 t45:=Tryz.underlying312
 a45:=Tryz.isAgg312
 z45:=Tryz.sizeOf312
 v45:=Tryz.zeroValue312
 t46:=Tryz.underlying313
 a46:=Tryz.isAgg313
 z46:=Tryz.sizeOf313
 v46:=Tryz.zeroValue313
 t50:=Tryz.underlying288
 a50:=Tryz.isAgg288
 z50:=Tryz.sizeOf288
 v50:=Tryz.zeroValue288
 t53:=Tryz.underlying319
 a53:=Tryz.isAgg319
 z53:=Tryz.sizeOf319
 v53:=Tryz.zeroValue319
 t55:=Tryz.underlying310
 a55:=Tryz.isAgg310
 z55:=Tryz.sizeOf310
 v55:=Tryz.zeroValue310
 t66:=Tryz.underlying349
 a66:=Tryz.isAgg349
 z66:=Tryz.sizeOf349
 v66:=Tryz.zeroValue349
 t70:=Tryz.underlying353
 a70:=Tryz.isAgg353
 z70:=Tryz.sizeOf353
 v70:=Tryz.zeroValue353
 t76:=Tryz.underlying369
 a76:=Tryz.isAgg369
 z76:=Tryz.sizeOf369
 v76:=Tryz.zeroValue369
 t77:=Tryz.underlying370
 a77:=Tryz.isAgg370
 z77:=Tryz.sizeOf370
 v77:=Tryz.zeroValue370 }
end Go.Proofs

/- Ordered lists of literals. -/
namespace Go.Proofs.YthgbkalgmicniaaGreatDoor
open Go.Abs
set_option maxRecDepth 100000
theorem ZmH (x y:Int) (hx:SmI x) (hy:SmI y):Pure Tryz.prog 209 [.int .i64 x,.int .i64 y] (.int .i64 (cmpL x y)):=by
 intro n H
 unfold SmI at hx hy
 have w1:IntKind.i64.wrap (0 - x) = -x:=by rw [IntWalk.i64_in _ (by omega)]; omega
 have w2:IntKind.i64.wrap (0 - y) = -y:=by rw [IntWalk.i64_in _ (by omega)]; omega
 have w3:IntKind.i64.wrap (JR x - JR y) = JR x - JR y:=by rw [IntWalk.i64_in _ (by unfold JR; omega)]
 have w4:IntKind.i64.wrap (y - x) = y - x:=by rw [IntWalk.i64_in _ (by omega)]
 have e1:(if x < -x then -x else x) = JR x:=rfl
 have e2:(if y < -y then -y else y) = JR y:=rfl
 have e3:orL [JR x - JR y,y - x] = cmpL x y:=by simp only [orL,ZaC]; rfl
 refine Zm tok (Zb Tryz.func209 rfl rfl) (by simp) fun B=>?_
 refine Za tok rfl rfl ?_
 simp only [go_sem,simprocAttr]
 refine Za tok rfl rfl ?_
 simp only [go_sem,simprocAttr,w1,w2,e1,e2,w3,w4]
 refine ⟨rfl,?_⟩
 refine Zq (Zb Tryz.func131 rfl rfl) (a49 [JR x - JR y,y - x] (by simp)) (by simp only [go_sem,simprocAttr,eInt]) ?_
 simp only [go_sem,simprocAttr,eInt]
 refine Zi rfl rfl ?_
 refine Ze ?_ (.int _ _) rfl
 try simp only [go_sem,simprocAttr,e3]
 exact .refl _
theorem XQ {n k:Nat} (l:List Int):Below n (.sl k (ZI l) .any):=ZK fun x hx=>by obtain ⟨u,_,rfl⟩:=List.mem_map.1 hx; exact .int _ _
theorem flat_aInts:∀ l:List Int,flat (ZI l) = ZI l
 | []=>rfl
 | x :: l=>by simp only [ZI,List.map_cons,Xq]; rw [show flat (l.map (AV.int .i64)) = l.map (AV.int .i64) from flat_aInts l]; rfl
theorem ZcV (l:List Int):∀ y ∈ ZI l,ones y = true:=fun y hy=>by obtain ⟨u,_,rfl⟩:=List.mem_map.1 hy; rfl
theorem Zmh {n:Nat} {p:Nat → Prop} (l:List Int):∀ c ∈ ZI l,Inside n p c:=fun c hc=>by obtain ⟨u,_,rfl⟩:=List.mem_map.1 hc; exact .int _ _
theorem ZhS {n:Nat} (e sz k:Nat) (l:List Int):Zk.Below n (.ZN e sz (ZI l) k):=⟨fun a ha=>by obtain ⟨u,_,rfl⟩:=List.mem_map.1 ha; exact .int _ _,by simp [Zk.at_]⟩
def Zg0 (l k:Nat):Opt:=⟨false,false,fun d=>if d = 7 then .place l k true else .auto,[]⟩
theorem ZnU (n:Nat) (H:Zf) (xs:List Int) (o:Own) (l2 k2:Nat) (hl2:l2 < n) (hf:H l2 k2 = none) (hlen:xs.length ≤ 1000000) :
  Zr Tryz.prog n 207 [.sl 1 (ZI xs) o] H fun r H'=>r = .msl 1 l2 k2 xs.length ∧ H' = H.upd l2 k2 (.ZN 3 1 (ZI xs) xs.length):=by
 have hne:¬ l2 = n:=by omega
 have hle:l2 ≤ n:=by omega
 cases xs with
 | nil =>
  refine Zr.ZeJ ?_ ?_
  ·refine Zm tok (Zb Tryz.func207 rfl rfl) (by simp) fun B=>?_
   refine Za tok rfl rfl ?_
   simp only [go_sem,simprocAttr]
   refine Za tok rfl rfl ?_
   simp only [go_sem,simprocAttr]
   refine ⟨⟨_,rfl⟩,?_⟩
   refine Zp rfl rfl rfl ?_
   refine Za tok rfl rfl ?_
   simp only [go_sem,simprocAttr]
   repeat refine kn rfl ?_
   refine Yx (Je (t:=2) (l:=l2) (j:=k2) 3 1 true hle rfl (by simp only [full,if_neg hne]; exact hf)) ?_
   simp only [ZbS,setH,if_neg hne,if_true]
   refine Zi rfl rfl ?_
   exact ZP (.refl _) (.msl _ _ _ _ hl2) ⟨rfl,rfl⟩
  ·refine Zm tok (Zb Tryz.func207 rfl rfl) (by simp) fun B=>?_
   refine Za tok rfl rfl ?_
   simp only [go_sem,simprocAttr]
   refine Za tok rfl rfl ?_
   simp only [go_sem,simprocAttr]
   refine ⟨⟨_,rfl⟩,?_⟩
   refine Zn rfl rfl rfl ?_
   repeat refine kn rfl ?_
   refine Yx (s':=⟨[(0,.sl 1 [] .any)],[],H⟩) ?_ ?_
   ·refine Zg ⟨Wk.sln 1,trivial⟩ trivial ⟨?_,trivial⟩ trivial
    exact (XQ []).inside
   refine WG tok (Zg0 l2 k2) rfl rfl (by kernel_rfl) ?_
   simp only [go_sem,simprocAttr,Zg0,hne]
   refine ⟨rfl,⟨hle,hf⟩,.inr (ZhS 3 1 0 []),?_⟩
   refine Zi rfl rfl ?_
   exact ZP (.refl _) (.msl _ _ _ _ hl2) ⟨rfl,rfl⟩
 | cons x r =>
  have h1:=ZcV (x :: r)
  have h2:=ZhS (n:=n) 3 1 (r.length + 1) (x :: r)
  have h3:=flat_aInts (x :: r)
  simp only [List.length_cons] at hlen
  simp only [ZI,List.map_cons,List.mem_cons,forall_eq_or_imp] at h1 h2 h3
  refine Zm tok (Zb Tryz.func207 rfl rfl) (by simp) fun B=>?_
  refine Za tok rfl rfl ?_
  simp only [go_sem,simprocAttr]
  refine Za tok rfl rfl ?_
  simp only [go_sem,simprocAttr]
  refine ⟨⟨_,rfl⟩,?_⟩
  refine Zn rfl rfl rfl ?_
  repeat refine kn rfl ?_
  refine WG tok (Zg0 l2 k2) rfl rfl (by kernel_rfl) ?_
  simp only [go_sem,simprocAttr,Zg0,hne,h3]
  refine ⟨rfl,⟨hle,hf,h1.2,ZQ (by omega),by omega⟩,.inr h2,?_⟩
  refine Zi rfl rfl ?_
  exact ZP (.refl _) (.msl _ _ _ _ hl2) ⟨rfl,rfl⟩
theorem a208 (n:Nat) (H:Zf) (l j sz0:Nat) (xs:List Int) (hG:∀ x ∈ xs,SmI x) (hlen:xs.length ≤ 1000000) (hH:H l j = some (.ZN 3 1 (ZI xs) xs.length)) :
  Zr Tryz.prog n 208 [.msl sz0 l j xs.length,.fn (.func 209) []] H fun r H'=>r = .tup [] ∧ ∃ ys:List Int,Lib.compact ys = Y5 xs ∧ ys.length = xs.length ∧ H' = H.upd l j (.ZN 3 1 (ZI ys) xs.length):=by
 refine Zr.mono (ZfY (P:=Tryz.prog) Tryz.laysSlF6_f208 Tryz.sort208 rfl cmpL SmI Zmq 209 _ _ (Zb Tryz.func209 rfl rfl) (fun x y hx hy=>ZmH x y hx hy) n H l j 3 sz0 xs hG hH (by omega)) ?_
 rintro r H' ⟨rfl,ys,hp,ha,rfl⟩
 exact ⟨rfl,ys,ZfX hp ha,hp.length_eq,rfl⟩
theorem YE {n:Nat} {p:Nat → Prop} {sz l k i:Nat} (h:l < n ∨ (l = n ∧ p k)):Inside n p (.msl sz l k i):=.msl _ _ _ _ h
theorem Zia (xs:List Int) (o:Own) (hG:∀ x ∈ xs,SmI x) (hlen:xs.length ≤ 1000000):Pure Tryz.prog 122 [.sl 1 (ZI xs) o] (.sl 1 (ZI (Y5 xs)) .any):=by
 intro n H
 refine Zm tok (Zb Tryz.func122 rfl rfl) (by simp) fun B=>?_
 refine Za tok rfl rfl ?_
 simp only [go_sem,simprocAttr]
 refine Za tok rfl rfl ?_
 simp only [go_sem,simprocAttr]
 refine Xk (caps:=[]) (avs:=[.sl 1 (ZI xs) o]) rfl (Zb Tryz.func207 rfl rfl) (ZnU (n + 1) _ xs o n 200 (Nat.lt_succ_self n) (by simp only [go_sem,simprocAttr]) hlen) (by simp only [go_sem,simprocAttr]) ?_
 rintro r H1 ⟨rfl,rfl⟩
 refine ⟨[(200,.ZN 3 1 (ZI xs) xs.length)],H,(ZU n [] H 200 _).symm,.refl _ _,?_⟩
 simp only [go_sem,simprocAttr]
 refine Za tok rfl rfl ?_
 simp only [go_sem,simprocAttr]
 refine Xk (caps:=[]) (avs:=[.msl 1 n 200 xs.length,.fn (.func 209) []]) rfl (Zb Tryz.func208 rfl rfl) (a208 (n + 1) _ n 200 1 xs hG hlen (by simp only [go_sem,simprocAttr])) (by simp only [go_sem,simprocAttr]) ?_
 rintro r H1 ⟨rfl,ys,hys,hyl,rfl⟩
 refine ⟨[(200,.ZN 3 1 (ZI ys) xs.length)],H,(ZU n _ H 200 _).symm,.refl _ _,?_⟩
 simp only [go_sem,simprocAttr]
 rw [← hyl]
 rcases Nat.eq_zero_or_pos ys.length with h0 | hpos
 ·have hn:ys = []:=List.eq_nil_of_length_eq_zero h0
  subst hn
  have ho:Y5 xs = []:=by rw [← hys]; rfl
  rw [ho]
  refine Za tok rfl rfl ?_
  simp only [go_sem,simprocAttr]
  refine Xk (caps:=[]) (avs:=[.msl 1 n 200 0]) rfl (Zb Tryz.func210 rfl rfl) (Zez (P:=Tryz.prog) Tryz.laysNm220 (n + 1) _ n 200) (by simp only [go_sem,simprocAttr]) ?_
  rintro r H1 ⟨rfl,rfl⟩
  refine ⟨[(200,.ZN 3 1 [] 0)],H,rfl,.refl _ _,?_⟩
  simp only [go_sem,simprocAttr]
  repeat refine kn rfl ?_
  refine Yx (Vh (tm':=[(2,.sl 1 [] .any)]) (j:=200) [] rfl rfl rfl (by simp) (by simp) (fun p hp=>?_) (fun p hp=>?_)) ?_
  ·simp only [List.mem_singleton] at hp; subst hp
   exact .inr ⟨1,rfl,rfl⟩
  ·simp [delb] at hp
  refine Zi rfl rfl ?_
  exact Ze (.refl _) (XQ []) rfl
 ·refine Za tok rfl rfl ?_
  simp only [go_sem,simprocAttr]
  refine Xk (caps:=[]) (avs:=[.msl 1 n 200 ys.length]) rfl (Zb Tryz.func210 rfl rfl) (Zfz (P:=Tryz.prog) Tryz.laysNm220 (n + 1) _ n 200 3 ys hpos (by simp only [go_sem,simprocAttr]) (by omega)) (by simp only [go_sem,simprocAttr]) ?_
  rintro r H1 ⟨rfl,rfl⟩
  rw [hys]
  have hle:(Y5 xs).length ≤ ys.length:=by rw [← hys]; exact Lib.compact_length_le ys
  obtain ⟨zs,hzs⟩:∃ zs,zs = Y5 xs ++ List.replicate (ys.length - (Y5 xs).length) (0:Int):=⟨_,rfl⟩
  rw [← hzs]
  have hzl:zs.length = ys.length:=by rw [hzs]; simp; omega
  have htk:zs.take (Y5 xs).length = Y5 xs:=by rw [hzs]; simp
  refine ⟨[(200,.ZN 3 1 (ZI zs) ys.length)],H,(ZU n _ H 200 _).symm,.refl _ _,?_⟩
  simp only [go_sem,simprocAttr]
  repeat refine kn rfl ?_
  refine Yx (Zam (tm':=[(2,.sl 1 (ZI (Y5 xs)) .any)]) (j:=200) (ZI zs) rfl (flat_aInts zs) (by simp [hzl]) (fun x hx=>?_) (Zmh zs) (fun p hp=>?_) (fun p hp=>?_)) ?_
  ·obtain ⟨u,_,rfl⟩:=List.mem_map.1 hx; rfl
  ·simp only [List.mem_singleton] at hp; subst hp
   refine .inr (.inr ⟨0,(Y5 xs).length,rfl,?_⟩)
   rw [List.drop_zero,ZI,← List.map_take,htk]
  ·simp [delb] at hp
  refine Zi rfl rfl ?_
  exact Ze (.refl _) (XQ _) rfl
end Go.Proofs.YthgbkalgmicniaaGreatDoor

/- Maps as plain lists of pairs. No program. -/
namespace Go.Abs
section
variable {κ β:Type} [DecidableEq κ]
def getM (k:κ):List (κ × β) → Option β
 | []=>none
 | p :: r=>if p.1 = k then some p.2 else getM k r
def Xv (k:κ) (v:β):List (κ × β) → List (κ × β)
 | []=>[(k,v)]
 | p :: r=>if p.1 = k then (k,v) :: r else p :: Xv k v r
def ixM (k:κ):List (κ × β) → Nat
 | []=>0
 | p :: r=>if p.1 = k then 0 else ixM k r + 1
abbrev Y0 (ek:κ → AV) (ev:β → AV) (es:List (κ × β)):List (AV × AV):=es.map fun p=>(ek p.1,ev p.2)
def Zie (ek:κ → AV):Prop:=∀ a b,(ek a).kls = (ek b).kls → a = b
theorem Zg1 {ek:κ → AV} (hi:Zie ek) (ev:β → AV) (k:κ):∀ (es:List (κ × β)) (i:Nat),WC (ek k).kls ((Y0 ek ev es).map fun p=>p.1.kls) i = if (getM k es).isSome then some (i + ixM k es) else none
 | [],i=>by simp [WC,getM]
 | p :: r,i=>by
  simp only [List.map_cons,WC,getM,ixM]
  by_cases h:p.1 = k
  ·simp [h]
  ·have h':¬ (ek k).kls = (ek p.1).kls:=fun e=>h (hi _ _ e).symm
   have ih:=Zg1 hi ev k r (i + 1)
   simp only [Y0] at ih
   simp only [if_neg h,if_neg h',ih]
   cases getM k r with
   | none=>rfl
   | some v=>simp; omega
theorem ZgU {k:κ}:∀ {es:List (κ × β)} {v:β},getM k es = some v → es[ixM k es]? = some (k,v)
 | [],_,h=>by cases h
 | p :: r,v,h=>by
  simp only [getM] at h
  simp only [ixM]
  split at h
  ·rename_i e; cases h; rw [if_pos e]; simp [← e]
  ·rename_i e; rw [if_neg e]; simpa using ZgU h
theorem Zca {k:κ} {v:β} (w:β):∀ {es:List (κ × β)},getM k es = some v → Xv k w es = es.set (ixM k es) (k,w)
 | [],h=>by cases h
 | p :: r,h=>by
  simp only [getM] at h
  simp only [Xv,ixM]
  split at h
  ·rename_i e; rw [if_pos e,if_pos e]; rfl
  ·rename_i e; rw [if_neg e,if_neg e,Zca w h]; rfl
theorem Zas {k:κ} (w:β):∀ {es:List (κ × β)},getM k es = none → Xv k w es = es ++ [(k,w)]
 | [],_=>rfl
 | p :: r,h=>by
  simp only [getM] at h
  simp only [Xv]
  split at h
  ·cases h
  ·rename_i e; rw [if_neg e,Zas w h]; rfl
theorem Zhn {ek:κ → AV} (hi:Zie ek) (ev:β → AV) (k:κ) (es:List (κ × β)):X4 (ek k) (Y0 ek ev es) = if (getM k es).isSome then some (ixM k es) else none:=by
 unfold X4; rw [Zg1 hi]; simp
theorem JH {ek:κ → AV} (hi:Zie ek) (ev:β → AV) (re:ZE) (k:κ) (es:List (κ × β)):lookA re (ek k) (Y0 ek ev es) false = match getM k es with | some v=>ev v | none=>nilA (WB re):=by
 unfold lookA; rw [Zhn hi]
 cases h:getM k es with
 | none=>rfl
 | some v =>
  have h1:=ZgU h
  simp [Y0,h1]
theorem Za1 {ek:κ → AV} (hi:Zie ek) (ev:β → AV) (k:κ) (v:β) (es:List (κ × β)):Zbn (ek k) (ev v) (Y0 ek ev es) = Y0 ek ev (Xv k v es):=by
 unfold Zbn; rw [Zhn hi]
 cases h:getM k es with
 | none=>simp [Zas v h,Y0]
 | some w=>simp [Zca v h,Y0,List.map_set]
theorem Zb3 (k:κ) (v:β):∀ es:List (κ × β),(Xv k v es).map Prod.fst = if (getM k es).isSome then es.map Prod.fst else es.map Prod.fst ++ [k]
 | []=>by simp [Xv,getM]
 | p :: r=>by
  simp only [Xv,getM]
  by_cases h:p.1 = k
  ·simp [h]
  ·have ih:=Zb3 k v r
   simp only [if_neg h,List.map_cons,ih]
   cases getM k r <;> simp
theorem getM_none {k:κ}:∀ {es:List (κ × β)},getM k es = none ↔ k ∉ es.map Prod.fst
 | []=>by simp [getM]
 | p :: r=>by
  simp only [getM,List.map_cons,List.mem_cons,not_or]
  split
  ·rename_i h; simp [h]
  ·rename_i h; rw [getM_none]; exact ⟨fun hn=>⟨fun e=>h e.symm,hn⟩,fun hn=>hn.2⟩
theorem ZcM {k:κ} {v:β} {es:List (κ × β)} (h:(es.map Prod.fst).Nodup):((Xv k v es).map Prod.fst).Nodup:=by
 rw [Zb3]
 split
 ·exact h
 ·rename_i e
  have:getM k es = none:=by simpa using e
  exact List.nodup_append.2 ⟨h,by simp,fun a ha c hc e'=>by simp only [List.mem_singleton] at hc; subst hc; subst e'; exact getM_none.1 this ha⟩
theorem Zbf {k:κ} {v:β} {es:List (κ × β)} {p:κ × β} (h:p ∈ Xv k v es):p = (k,v) ∨ p ∈ es:=by
 induction es with
 | nil=>simp [Xv] at h; exact .inl h
 | cons q r ih =>
  simp only [Xv] at h
  split at h
  ·rcases List.mem_cons.1 h with h | h
   ·exact .inl h
   ·exact .inr (List.mem_cons_of_mem _ h)
  ·rcases List.mem_cons.1 h with h | h
   ·exact .inr (h ▸ List.mem_cons_self)
   ·exact (ih h).imp id (List.mem_cons_of_mem _)
theorem ZfI (k:κ) (v:β) (es:List (κ × β)):(Xv k v es).length = if (getM k es).isSome then es.length else es.length + 1:=by
 have:=congrArg List.length (Zb3 k v es)
 rw [List.length_map] at this
 rw [this]; split <;> simp
end
theorem kinj_str:Zie AV.str:=fun a b h=>by simp [AV.kls,AV.cells,klAll,AV.kl] at h; exact h
theorem kinj_int:Zie (AV.int .i64):=fun a b h=>by simp [AV.kls,AV.cells,klAll,AV.kl] at h; exact h
theorem Zdc {κ β:Type} {n:Nat} {ek:κ → AV} {ev:β → AV} {es:List (κ × β)} (h1:∀ k,Below n (ek k)) (h2:∀ p ∈ es,Below n (ev p.2)):∀ p ∈ Y0 ek ev es,Below n p.1 ∧ Below n p.2:=fun p hp=>by
 obtain ⟨q,hq,rfl⟩:=List.mem_map.1 hp; exact ⟨h1 _,h2 q hq⟩
theorem Zfk {n:Nat} {es:List (AV × AV)} (h:∀ p ∈ es,Below n p.1 ∧ Below n p.2):Zk.Below n (.map es):=by
 refine ⟨fun a ha=>?_,by simp [Zk.at_]⟩
 simp only [Zk.avs,List.mem_append,List.mem_map] at ha
 rcases ha with ⟨p,hp,rfl⟩ | ⟨p,hp,rfl⟩
 ·exact (h p hp).1
 ·exact (h p hp).2
abbrev Wm:=List (Int × Int)
abbrev Y3 (w:Wm):List (AV × AV):=Y0 (AV.int .i64) (AV.int .i64) w
theorem Yc {n:Nat} (w:Wm):Zk.Below n (.map (Y3 w)):=Zfk (Zdc (fun _=>.int _ _) (fun _ _=>.int _ _))
end Go.Abs
