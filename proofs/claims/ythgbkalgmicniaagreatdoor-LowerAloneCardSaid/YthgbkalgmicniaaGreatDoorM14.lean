/- Comparisons of terms and atoms. -/
import Derived.Test.YthgbkalgmicniaaGreatDoorM13
import Derived.Shelf.SlSortCmp.NoneTotal
import Derived.Shelf.SlGeneric
import Derived.Ground.Names2Prog
import Derived.Ground.SlgnProg
import Derived.Ground.SlsfProg
import Derived.Shelf.SlSortCmp.HeapSort1
import Derived.Shelf.SlSortCmp.Insertion
import Derived.Shelf.SlSortCmp.Insertion1
import Derived.Shelf.SlSortCmp.Median1
import Derived.Shelf.SlSortCmp.PartialInsertion1
import Derived.Shelf.SlSortCmp.Partition1
import Derived.Shelf.SlSortCmp.PartitionEqual1
import Derived.Shelf.SlSortCmp.Pdq1
import Derived.Shelf.SlSortCmp.Pivot1
import Derived.Shelf.SlSortCmp.ReverseRange1
import Derived.Shelf.SlSortCmp.SiftDown1
import Derived.Shelf.SlSortCmp.Whole1
import Derived.Shelf.Slices.Cells
import Derived.Shelf.Slices.Clone
import Derived.Shelf.Slices.CompactI
import Derived.Shelf.Slices.SearchI
import Derived.Shelf.SlicesE.Clone
import Derived.KernelRfl
import Derived.Test.YthgbkalgmicniaaGreatDoorProg
import Derived.Test.YthgbkalgmicniaaGreatDoorM09
import Derived.Test.YthgbkalgmicniaaGreatDoorM08
import Derived.Test.YthgbkalgmicniaaGreatDoorM10
set_option linter.all false
namespace Go.Proofs.YthgbkalgmicniaaGreatDoor
open Go.Abs
set_option maxRecDepth 100000
theorem a53x (a b:Tm) (ha:a.Good) (hb:b.Good) (hc:CmpF 134 a.args b.args):Pure Tryz.prog 134 [a.enc,b.enc] (.int .i64 (cmpT a b)):=by
 intro n H
 have hla:=ha.len
 have hlb:=hb.len
 have hx:=cmpT_eq a b
 refine a_fun tok (fun_of Tryz.func134 rfl rfl) (by simp) fun B=>?_
 repeat refine kn rfl ?_
 refine k_region tok rfl (by kernel_rfl) ?_
 simp only [go_sem,simprocAttr]
 repeat refine kn rfl ?_
 refine k_draw tok mixed drawO rfl rfl (by kernel_rfl) (by kernel_rfl) ?_
 simp only [go_sem,simprocAttr]
 refine callP (fun_of Tryz.func220 rfl rfl) (a88 a.kind ha.kind) (by simp only [go_sem,simprocAttr]) ?_
 simp only [go_sem,simprocAttr]
 refine callP (fun_of Tryz.func220 rfl rfl) (a88 b.kind hb.kind) (by simp only [go_sem,simprocAttr]) ?_
 simp only [go_sem,simprocAttr]
 refine callP (fun_of Tryz.func132 rfl rfl) (a51 (rank a.kind) (rank b.kind)) (by simp only [go_sem,simprocAttr]) ?_
 simp only [go_sem,simprocAttr]
 cases h1:(ncmp (rank a.kind) (rank b.kind) == 0) with
 | false =>
  have h1':ncmp (rank a.kind) (rank b.kind) ≠ 0:=by simpa using h1
  repeat refine kn rfl ?_
  refine k_region tok rfl (by kernel_rfl) ?_
  simp only [go_sem,simprocAttr,bne,h1]
  repeat refine kn rfl ?_
  refine k_cond_t rfl (by simp only [go_sem,simprocAttr]) ?_
  repeat refine kn rfl ?_
  refine k_region tok rfl (by kernel_rfl) ?_
  simp only [go_sem,simprocAttr]
  repeat refine kn rfl ?_
  refine k_ret rfl ?_
  refine post_one ?_ (.int _ _) rfl
  rw [hx,thn_ne h1']
  exact .refl _
 | true =>
 have h1':ncmp (rank a.kind) (rank b.kind) = 0:=by simpa using h1
 rw [h1',thn_zero] at hx
 repeat refine kn rfl ?_
 refine k_region tok rfl (by kernel_rfl) ?_
 simp only [go_sem,simprocAttr,bne,h1]
 repeat refine kn rfl ?_
 refine k_cond_f rfl (by simp only [go_sem,simprocAttr]) ?_
 repeat refine kn rfl ?_
 refine k_region tok rfl (by kernel_rfl) ?_
 simp only [go_sem,simprocAttr]
 refine callP (fun_of Tryz.func132 rfl rfl) (a51 a.num b.num) (by simp only [go_sem,simprocAttr]) ?_
 simp only [go_sem,simprocAttr]
 cases h2:(ncmp a.num b.num == 0) with
 | false =>
  have h2':ncmp a.num b.num ≠ 0:=by simpa using h2
  cases h3:(a.kind == 1) with
  | true =>
   have h3':a.kind = 1:=by simpa using h3
   repeat refine kn rfl ?_
   refine k_region tok rfl (by kernel_rfl) ?_
   simp only [go_sem,simprocAttr,bne,h2,h3]
   repeat refine kn rfl ?_
   refine k_cond_t rfl (by simp only [go_sem,simprocAttr]) ?_
   repeat refine kn rfl ?_
   refine k_region tok rfl (by kernel_rfl) ?_
   simp only [go_sem,simprocAttr]
   repeat refine kn rfl ?_
   refine k_ret rfl ?_
   refine post_one ?_ (.int _ _) rfl
   rw [hx,if_pos h3',thn_ne h2']
   exact .refl _
  | false =>
   have h3':¬ a.kind = 1:=by simpa using h3
   repeat refine kn rfl ?_
   refine k_region tok rfl (by kernel_rfl) ?_
   simp only [go_sem,simprocAttr,bne,h2,h3]
   repeat refine kn rfl ?_
   refine k_cond_f rfl (by simp only [go_sem,simprocAttr]) ?_
   rw [if_neg h3',thn_zero] at hx
   repeat refine kn rfl ?_
   refine k_draw tok mixed drawO rfl rfl (by kernel_rfl) (by kernel_rfl) ?_
   simp only [go_sem,simprocAttr]
   refine callP (fun_of Tryz.func132 rfl rfl) (a51 a.args.length b.args.length) (by simp only [go_sem,simprocAttr]) ?_
   simp only [go_sem,simprocAttr]
   refine callP (fun_of Tryz.func148 rfl rfl) (a50 a.name b.name) (by simp only [go_sem,simprocAttr]) ?_
   simp only [go_sem,simprocAttr]
   refine callP (fun_of Tryz.func133 rfl rfl) (a52 a.args b.args hla hlb _ hc) (by simp only [go_sem,simprocAttr]) ?_
   simp only [go_sem,simprocAttr]
   refine callP (fun_of Tryz.func132 rfl rfl) (a51 a.num b.num) (by simp only [go_sem,simprocAttr]) ?_
   simp only [go_sem,simprocAttr]
   refine ⟨by decide,?_⟩
   have ho:=a49 [ncmp a.args.length b.args.length,Lib.compareBytes a.name b.name,cmpT.cmps a.args b.args,ncmp a.num b.num] (by simp)
   simp only [List.map_cons,List.map_nil,eInt,orL,thn_right] at ho
   refine callP (fun_of Tryz.func131 rfl rfl) (ho) (by simp only [go_sem,simprocAttr]) ?_
   simp only [go_sem,simprocAttr]
   repeat refine kn rfl ?_
   refine k_ret rfl ?_
   refine post_one ?_ (.int _ _) rfl
   rw [hx]
   exact .refl _
 | true =>
  have h2':ncmp a.num b.num = 0:=by simpa using h2
  repeat refine kn rfl ?_
  refine k_region tok rfl (by kernel_rfl) ?_
  simp only [go_sem,simprocAttr,bne,h2]
  repeat refine kn rfl ?_
  refine k_cond_f rfl (by simp only [go_sem,simprocAttr]) ?_
  rw [h2',(by split <;> rfl:(if a.kind = 1 then (0:Int) else 0) = 0),thn_zero] at hx
  repeat refine kn rfl ?_
  refine k_draw tok mixed drawO rfl rfl (by kernel_rfl) (by kernel_rfl) ?_
  simp only [go_sem,simprocAttr]
  refine callP (fun_of Tryz.func132 rfl rfl) (a51 a.args.length b.args.length) (by simp only [go_sem,simprocAttr]) ?_
  simp only [go_sem,simprocAttr]
  refine callP (fun_of Tryz.func148 rfl rfl) (a50 a.name b.name) (by simp only [go_sem,simprocAttr]) ?_
  simp only [go_sem,simprocAttr]
  refine callP (fun_of Tryz.func133 rfl rfl) (a52 a.args b.args hla hlb _ hc) (by simp only [go_sem,simprocAttr]) ?_
  simp only [go_sem,simprocAttr]
  refine callP (fun_of Tryz.func132 rfl rfl) (a51 a.num b.num) (by simp only [go_sem,simprocAttr]) ?_
  simp only [go_sem,simprocAttr]
  refine ⟨by decide,?_⟩
  have ho:=a49 [ncmp a.args.length b.args.length,Lib.compareBytes a.name b.name,cmpT.cmps a.args b.args,ncmp a.num b.num] (by simp)
  simp only [List.map_cons,List.map_nil,eInt,orL,thn_right] at ho
  refine callP (fun_of Tryz.func131 rfl rfl) (ho) (by simp only [go_sem,simprocAttr]) ?_
  simp only [go_sem,simprocAttr]
  repeat refine kn rfl ?_
  refine k_ret rfl ?_
  refine post_one ?_ (.int _ _) rfl
  rw [hx,h2']
  exact .refl _
theorem a53 (a b:Tm) (ha:a.Good) (hb:b.Good):Pure Tryz.prog 134 [a.enc,b.enc] (.int .i64 (cmpT a b)) :=
 a53x a b ha hb ⟨⟨_,_,fun_of Tryz.func134 rfl rfl⟩,fun x hx y hy=>a53 x y (ha.arg hx) (hb.arg hy)⟩
termination_by SizeOf.sizeOf a
decreasing_by exact Tm.size_lt hx
theorem cmp53 {a b:Am} (ha:a.Good) (hb:b.Good):CmpF 134 a.args b.args:=⟨⟨_,_,fun_of Tryz.func134 rfl rfl⟩,fun x hx y hy=>a53 x y (ha.arg hx) (hb.arg hy)⟩
theorem a16 (a b:Am) (ha:a.Good) (hb:b.Good):Pure Tryz.prog 81 [a.enc,b.enc] (.int .i64 (cmpA a b)):=by
 intro n H
 have hla:=ha.len
 have hlb:=hb.len
 have hx:cmpA a b = thn (thn (Lib.compareBytes a.pred b.pred) (ncmp a.args.length b.args.length)) (cmpT.cmps a.args b.args):=by rw [cmpA,thn_assoc]
 have ho:=a49 [Lib.compareBytes a.pred b.pred,ncmp a.args.length b.args.length] (by simp)
 simp only [List.map_cons,List.map_nil,eInt,orL,thn_right] at ho
 refine a_fun tok (fun_of Tryz.func81 rfl rfl) (by simp) fun B=>?_
 repeat refine kn rfl ?_
 refine k_region tok rfl (by kernel_rfl) ?_
 simp only [go_sem,simprocAttr]
 repeat refine kn rfl ?_
 refine k_draw tok mixed drawO rfl rfl (by kernel_rfl) (by kernel_rfl) ?_
 simp only [go_sem,simprocAttr]
 refine callP (fun_of Tryz.func148 rfl rfl) (a50 a.pred b.pred) (by simp only [go_sem,simprocAttr]) ?_
 simp only [go_sem,simprocAttr]
 refine callP (fun_of Tryz.func132 rfl rfl) (a51 a.args.length b.args.length) (by simp only [go_sem,simprocAttr]) ?_
 simp only [go_sem,simprocAttr]
 refine ⟨by decide,?_⟩
 refine callP (fun_of Tryz.func131 rfl rfl) (ho) (by simp only [go_sem,simprocAttr]) ?_
 simp only [go_sem,simprocAttr]
 generalize thn (Lib.compareBytes a.pred b.pred) (ncmp a.args.length b.args.length) = c at hx
 cases h1:(c == 0) with
 | false =>
  repeat refine kn rfl ?_
  refine k_region tok rfl (by kernel_rfl) ?_
  simp only [go_sem,simprocAttr,bne,h1]
  repeat refine kn rfl ?_
  refine k_cond_t rfl (by simp only [go_sem,simprocAttr]) ?_
  repeat refine kn rfl ?_
  refine k_region tok rfl (by kernel_rfl) ?_
  simp only [go_sem,simprocAttr]
  repeat refine kn rfl ?_
  refine k_ret rfl ?_
  refine post_one ?_ (.int _ _) rfl
  rw [hx,thn_ne (by simpa using h1)]
  exact .refl _
 | true =>
  have h1':c = 0:=by simpa using h1
  repeat refine kn rfl ?_
  refine k_region tok rfl (by kernel_rfl) ?_
  simp only [go_sem,simprocAttr,bne,h1]
  repeat refine kn rfl ?_
  refine k_cond_f rfl (by simp only [go_sem,simprocAttr]) ?_
  repeat refine kn rfl ?_
  refine k_region tok rfl (by kernel_rfl) ?_
  simp only [go_sem,simprocAttr]
  refine callP (fun_of Tryz.func133 rfl rfl) (a52 a.args b.args hla hlb _ (cmp53 ha hb)) (by simp only [go_sem,simprocAttr]) ?_
  simp only [go_sem,simprocAttr]
  repeat refine kn rfl ?_
  refine k_ret rfl ?_
  refine post_one ?_ (.int _ _) rfl
  rw [hx,h1',thn_zero]
  exact .refl _
end Go.Proofs.YthgbkalgmicniaaGreatDoor

/- Library functions of this translation, laid. -/
namespace Go.Proofs
open Go.Shelf
def Tryz.laysSlF6_f208_ren:Go.Shelf.Ren:=⟨fun | 6=>208 | 15=>196 | 14=>290 | 28=>286 | 29=>287 | 20=>328 | 21=>329 | 22=>330 | 23=>331 | 24=>332 | 25=>333 | 26=>334 | 27=>335 | 46=>354 | 47=>324 | 48=>325 | 49=>355 | 50=>356 | 57=>372 | n=>n,fun | 22=>61 | 24=>3 | 25=>175 | 3=>3 | 39=>256 | 0=>0 | 53=>319 | 55=>310 | 4=>4 | 46=>313 | 45=>312 | 50=>288 | 5=>5 | 9=>9 | 66=>349 | 70=>353 | 76=>369 | 77=>370 | n=>n,fun | n=>n⟩
theorem Tryz.laysSlF6_f208:Go.Proofs.SlLaysF.n6 Tryz.prog Tryz.laysSlF6_f208_ren:={
 mixed:=by kernel_rfl
 f6:=⟨Tryz.f208.name,by decide,Tryz.func208.trans (congrArg some (by kernel_rfl))⟩
 f14:=⟨Tryz.f290.name,by decide,Tryz.func290.trans (congrArg some (by kernel_rfl))⟩
 f15:=Tryz.func196.trans (congrArg some (by kernel_rfl))
 f20:=⟨Tryz.f328.name,by decide,Tryz.func328.trans (congrArg some (by kernel_rfl))⟩
 f21:=⟨Tryz.f329.name,by decide,Tryz.func329.trans (congrArg some (by kernel_rfl))⟩
 f22:=⟨Tryz.f330.name,by decide,Tryz.func330.trans (congrArg some (by kernel_rfl))⟩
 f23:=⟨Tryz.f331.name,by decide,Tryz.func331.trans (congrArg some (by kernel_rfl))⟩
 f24:=⟨Tryz.f332.name,by decide,Tryz.func332.trans (congrArg some (by kernel_rfl))⟩
 f25:=⟨Tryz.f333.name,by decide,Tryz.func333.trans (congrArg some (by kernel_rfl))⟩
 f26:=⟨Tryz.f334.name,by decide,Tryz.func334.trans (congrArg some (by kernel_rfl))⟩
 f27:=⟨Tryz.f335.name,by decide,Tryz.func335.trans (congrArg some (by kernel_rfl))⟩
 f28:=Tryz.func286.trans (congrArg some (by kernel_rfl))
 f29:=Tryz.func287.trans (congrArg some (by kernel_rfl))
 f46:=⟨Tryz.f354.name,by decide,Tryz.func354.trans (congrArg some (by kernel_rfl))⟩
 f47:=Tryz.func324.trans (congrArg some (by kernel_rfl))
 f48:=Tryz.func325.trans (congrArg some (by kernel_rfl))
 f49:=⟨Tryz.f355.name,by decide,Tryz.func355.trans (congrArg some (by kernel_rfl))⟩
 f50:=⟨Tryz.f356.name,by decide,Tryz.func356.trans (congrArg some (by kernel_rfl))⟩
 f57:=⟨Tryz.f372.name,by decide,Tryz.func372.trans (congrArg some (by kernel_rfl))⟩
 t0:=Tryz.underlying0
 a0:=Tryz.isAgg0
 z0:=Tryz.sizeOf0
 v0:=Tryz.zeroValue0
 t3:=Tryz.underlying3
 a3:=Tryz.isAgg3
 z3:=Tryz.sizeOf3
 v3:=Tryz.zeroValue3
 t4:=Tryz.underlying4
 a4:=Tryz.isAgg4
 z4:=Tryz.sizeOf4
 v4:=Tryz.zeroValue4
 t5:=Tryz.underlying5
 a5:=Tryz.isAgg5
 z5:=Tryz.sizeOf5
 v5:=Tryz.zeroValue5
 t9:=Tryz.underlying9
 a9:=Tryz.isAgg9
 z9:=Tryz.sizeOf9
 v9:=Tryz.zeroValue9
 t22:=Tryz.underlying61
 a22:=Tryz.isAgg61
 z22:=Tryz.sizeOf61
 v22:=Tryz.zeroValue61
 a24:=Tryz.isAgg3
 z24:=Tryz.sizeOf3
 t25:=Tryz.underlying175
 a25:=Tryz.isAgg175
 z25:=Tryz.sizeOf175
 v25:=Tryz.zeroValue175
 t39:=Tryz.underlying256
 a39:=Tryz.isAgg256
 z39:=Tryz.sizeOf256
 v39:=Tryz.zeroValue256
 t45:=Tryz.underlying312
 a45:=Tryz.isAgg312
 z45:=Tryz.sizeOf312
 v45:=Tryz.zeroValue312
 t46:=Tryz.underlying313
 a46:=Tryz.isAgg313
 z46:=Tryz.sizeOf313
 v46:=Tryz.zeroValue313
 t50:=Tryz.underlying288
 a50:=Tryz.isAgg288
 z50:=Tryz.sizeOf288
 v50:=Tryz.zeroValue288
 t53:=Tryz.underlying319
 a53:=Tryz.isAgg319
 z53:=Tryz.sizeOf319
 v53:=Tryz.zeroValue319
 t55:=Tryz.underlying310
 a55:=Tryz.isAgg310
 z55:=Tryz.sizeOf310
 v55:=Tryz.zeroValue310
 t66:=Tryz.underlying349
 a66:=Tryz.isAgg349
 z66:=Tryz.sizeOf349
 v66:=Tryz.zeroValue349
 t70:=Tryz.underlying353
 a70:=Tryz.isAgg353
 z70:=Tryz.sizeOf353
 v70:=Tryz.zeroValue353
 t76:=Tryz.underlying369
 a76:=Tryz.isAgg369
 z76:=Tryz.sizeOf369
 v76:=Tryz.zeroValue369
 t77:=Tryz.underlying370
 a77:=Tryz.isAgg370
 z77:=Tryz.sizeOf370
 v77:=Tryz.zeroValue370 }
def Tryz.sort116_ren:Go.Shelf.Ren:=⟨fun | 6=>116 | 15=>196 | 14=>195 | 28=>286 | 29=>287 | 20=>278 | 21=>279 | 22=>280 | 23=>281 | 24=>282 | 25=>283 | 26=>284 | 27=>285 | 46=>323 | 47=>324 | 48=>325 | 49=>326 | 50=>327 | 57=>353 | n=>n,fun | 22=>27 | 24=>33 | 25=>132 | 3=>3 | 39=>256 | 0=>0 | 53=>319 | 55=>310 | 4=>4 | 46=>313 | 45=>312 | 50=>288 | 5=>5 | 9=>9 | 66=>349 | 70=>353 | 76=>369 | 77=>370 | n=>n,fun | n=>n⟩
theorem Tryz.sort116:Go.Proofs.SlLaysF0.n6 Tryz.prog Tryz.sort116_ren:={
 mixed:=by kernel_rfl
 f6:=⟨Tryz.f116.name,by decide,Tryz.func116.trans (congrArg some (by kernel_rfl))⟩
 f14:=⟨Tryz.f195.name,by decide,Tryz.func195.trans (congrArg some (by kernel_rfl))⟩
 f15:=Tryz.func196.trans (congrArg some (by kernel_rfl))
 f20:=⟨Tryz.f278.name,by decide,Tryz.func278.trans (congrArg some (by kernel_rfl))⟩
 f21:=⟨Tryz.f279.name,by decide,Tryz.func279.trans (congrArg some (by kernel_rfl))⟩
 f22:=⟨Tryz.f280.name,by decide,Tryz.func280.trans (congrArg some (by kernel_rfl))⟩
 f23:=⟨Tryz.f281.name,by decide,Tryz.func281.trans (congrArg some (by kernel_rfl))⟩
 f24:=⟨Tryz.f282.name,by decide,Tryz.func282.trans (congrArg some (by kernel_rfl))⟩
 f25:=⟨Tryz.f283.name,by decide,Tryz.func283.trans (congrArg some (by kernel_rfl))⟩
 f26:=⟨Tryz.f284.name,by decide,Tryz.func284.trans (congrArg some (by kernel_rfl))⟩
 f27:=⟨Tryz.f285.name,by decide,Tryz.func285.trans (congrArg some (by kernel_rfl))⟩
 f28:=Tryz.func286.trans (congrArg some (by kernel_rfl))
 f29:=Tryz.func287.trans (congrArg some (by kernel_rfl))
 f46:=⟨Tryz.f323.name,by decide,Tryz.func323.trans (congrArg some (by kernel_rfl))⟩
 f47:=Tryz.func324.trans (congrArg some (by kernel_rfl))
 f48:=Tryz.func325.trans (congrArg some (by kernel_rfl))
 f49:=⟨Tryz.f326.name,by decide,Tryz.func326.trans (congrArg some (by kernel_rfl))⟩
 f50:=⟨Tryz.f327.name,by decide,Tryz.func327.trans (congrArg some (by kernel_rfl))⟩
 f57:=⟨Tryz.f353.name,by decide,Tryz.func353.trans (congrArg some (by kernel_rfl))⟩
 t0:=Tryz.underlying0
 a0:=Tryz.isAgg0
 z0:=Tryz.sizeOf0
 v0:=Tryz.zeroValue0
 t3:=Tryz.underlying3
 a3:=Tryz.isAgg3
 z3:=Tryz.sizeOf3
 v3:=Tryz.zeroValue3
 t4:=Tryz.underlying4
 a4:=Tryz.isAgg4
 z4:=Tryz.sizeOf4
 v4:=Tryz.zeroValue4
 t5:=Tryz.underlying5
 a5:=Tryz.isAgg5
 z5:=Tryz.sizeOf5
 v5:=Tryz.zeroValue5
 t9:=Tryz.underlying9
 a9:=Tryz.isAgg9
 z9:=Tryz.sizeOf9
 v9:=Tryz.zeroValue9
 t22:=Tryz.underlying27
 a22:=Tryz.isAgg27
 z22:=Tryz.sizeOf27
 v22:=Tryz.zeroValue27
 t25:=Tryz.underlying132
 a25:=Tryz.isAgg132
 z25:=Tryz.sizeOf132
 v25:=Tryz.zeroValue132
 t39:=Tryz.underlying256
 a39:=Tryz.isAgg256
 z39:=Tryz.sizeOf256
 v39:=Tryz.zeroValue256
 t45:=Tryz.underlying312
 a45:=Tryz.isAgg312
 z45:=Tryz.sizeOf312
 v45:=Tryz.zeroValue312
 t46:=Tryz.underlying313
 a46:=Tryz.isAgg313
 z46:=Tryz.sizeOf313
 v46:=Tryz.zeroValue313
 t50:=Tryz.underlying288
 a50:=Tryz.isAgg288
 z50:=Tryz.sizeOf288
 v50:=Tryz.zeroValue288
 t53:=Tryz.underlying319
 a53:=Tryz.isAgg319
 z53:=Tryz.sizeOf319
 v53:=Tryz.zeroValue319
 t55:=Tryz.underlying310
 a55:=Tryz.isAgg310
 z55:=Tryz.sizeOf310
 v55:=Tryz.zeroValue310
 t66:=Tryz.underlying349
 a66:=Tryz.isAgg349
 z66:=Tryz.sizeOf349
 v66:=Tryz.zeroValue349
 t70:=Tryz.underlying353
 a70:=Tryz.isAgg353
 z70:=Tryz.sizeOf353
 v70:=Tryz.zeroValue353
 t76:=Tryz.underlying369
 a76:=Tryz.isAgg369
 z76:=Tryz.sizeOf369
 v76:=Tryz.zeroValue369
 t77:=Tryz.underlying370
 a77:=Tryz.isAgg370
 z77:=Tryz.sizeOf370
 v77:=Tryz.zeroValue370 }
def Tryz.sort208_ren:Go.Shelf.Ren:=⟨fun | 6=>208 | 15=>196 | 14=>290 | 28=>286 | 29=>287 | 20=>328 | 21=>329 | 22=>330 | 23=>331 | 24=>332 | 25=>333 | 26=>334 | 27=>335 | 46=>354 | 47=>324 | 48=>325 | 49=>355 | 50=>356 | 57=>372 | n=>n,fun | 22=>61 | 24=>3 | 25=>175 | 3=>3 | 39=>256 | 0=>0 | 53=>319 | 55=>310 | 4=>4 | 46=>313 | 45=>312 | 50=>288 | 5=>5 | 9=>9 | 66=>349 | 70=>353 | 76=>369 | 77=>370 | n=>n,fun | n=>n⟩
theorem Tryz.sort208:Go.Proofs.SlLaysF0.n6 Tryz.prog Tryz.sort208_ren:={
 mixed:=by kernel_rfl
 f6:=⟨Tryz.f208.name,by decide,Tryz.func208.trans (congrArg some (by kernel_rfl))⟩
 f14:=⟨Tryz.f290.name,by decide,Tryz.func290.trans (congrArg some (by kernel_rfl))⟩
 f15:=Tryz.func196.trans (congrArg some (by kernel_rfl))
 f20:=⟨Tryz.f328.name,by decide,Tryz.func328.trans (congrArg some (by kernel_rfl))⟩
 f21:=⟨Tryz.f329.name,by decide,Tryz.func329.trans (congrArg some (by kernel_rfl))⟩
 f22:=⟨Tryz.f330.name,by decide,Tryz.func330.trans (congrArg some (by kernel_rfl))⟩
 f23:=⟨Tryz.f331.name,by decide,Tryz.func331.trans (congrArg some (by kernel_rfl))⟩
 f24:=⟨Tryz.f332.name,by decide,Tryz.func332.trans (congrArg some (by kernel_rfl))⟩
 f25:=⟨Tryz.f333.name,by decide,Tryz.func333.trans (congrArg some (by kernel_rfl))⟩
 f26:=⟨Tryz.f334.name,by decide,Tryz.func334.trans (congrArg some (by kernel_rfl))⟩
 f27:=⟨Tryz.f335.name,by decide,Tryz.func335.trans (congrArg some (by kernel_rfl))⟩
 f28:=Tryz.func286.trans (congrArg some (by kernel_rfl))
 f29:=Tryz.func287.trans (congrArg some (by kernel_rfl))
 f46:=⟨Tryz.f354.name,by decide,Tryz.func354.trans (congrArg some (by kernel_rfl))⟩
 f47:=Tryz.func324.trans (congrArg some (by kernel_rfl))
 f48:=Tryz.func325.trans (congrArg some (by kernel_rfl))
 f49:=⟨Tryz.f355.name,by decide,Tryz.func355.trans (congrArg some (by kernel_rfl))⟩
 f50:=⟨Tryz.f356.name,by decide,Tryz.func356.trans (congrArg some (by kernel_rfl))⟩
 f57:=⟨Tryz.f372.name,by decide,Tryz.func372.trans (congrArg some (by kernel_rfl))⟩
 t0:=Tryz.underlying0
 a0:=Tryz.isAgg0
 z0:=Tryz.sizeOf0
 v0:=Tryz.zeroValue0
 t3:=Tryz.underlying3
 a3:=Tryz.isAgg3
 z3:=Tryz.sizeOf3
 v3:=Tryz.zeroValue3
 t4:=Tryz.underlying4
 a4:=Tryz.isAgg4
 z4:=Tryz.sizeOf4
 v4:=Tryz.zeroValue4
 t5:=Tryz.underlying5
 a5:=Tryz.isAgg5
 z5:=Tryz.sizeOf5
 v5:=Tryz.zeroValue5
 t9:=Tryz.underlying9
 a9:=Tryz.isAgg9
 z9:=Tryz.sizeOf9
 v9:=Tryz.zeroValue9
 t22:=Tryz.underlying61
 a22:=Tryz.isAgg61
 z22:=Tryz.sizeOf61
 v22:=Tryz.zeroValue61
 t25:=Tryz.underlying175
 a25:=Tryz.isAgg175
 z25:=Tryz.sizeOf175
 v25:=Tryz.zeroValue175
 t39:=Tryz.underlying256
 a39:=Tryz.isAgg256
 z39:=Tryz.sizeOf256
 v39:=Tryz.zeroValue256
 t45:=Tryz.underlying312
 a45:=Tryz.isAgg312
 z45:=Tryz.sizeOf312
 v45:=Tryz.zeroValue312
 t46:=Tryz.underlying313
 a46:=Tryz.isAgg313
 z46:=Tryz.sizeOf313
 v46:=Tryz.zeroValue313
 t50:=Tryz.underlying288
 a50:=Tryz.isAgg288
 z50:=Tryz.sizeOf288
 v50:=Tryz.zeroValue288
 t53:=Tryz.underlying319
 a53:=Tryz.isAgg319
 z53:=Tryz.sizeOf319
 v53:=Tryz.zeroValue319
 t55:=Tryz.underlying310
 a55:=Tryz.isAgg310
 z55:=Tryz.sizeOf310
 v55:=Tryz.zeroValue310
 t66:=Tryz.underlying349
 a66:=Tryz.isAgg349
 z66:=Tryz.sizeOf349
 v66:=Tryz.zeroValue349
 t70:=Tryz.underlying353
 a70:=Tryz.isAgg353
 z70:=Tryz.sizeOf353
 v70:=Tryz.zeroValue353
 t76:=Tryz.underlying369
 a76:=Tryz.isAgg369
 z76:=Tryz.sizeOf369
 v76:=Tryz.zeroValue369
 t77:=Tryz.underlying370
 a77:=Tryz.isAgg370
 z77:=Tryz.sizeOf370
 v77:=Tryz.zeroValue370 }
end Go.Proofs

/- Ordered lists of literals. -/
namespace Go.Proofs.YthgbkalgmicniaaGreatDoor
open Go.Abs
set_option maxRecDepth 100000
theorem a209 (x y:Int) (hx:SmI x) (hy:SmI y):Pure Tryz.prog 209 [.int .i64 x,.int .i64 y] (.int .i64 (cmpL x y)):=by
 intro n H
 unfold SmI at hx hy
 have w1:IntKind.i64.wrap (0 - x) = -x:=by rw [IntWalk.i64_in _ (by omega)]; omega
 have w2:IntKind.i64.wrap (0 - y) = -y:=by rw [IntWalk.i64_in _ (by omega)]; omega
 have w3:IntKind.i64.wrap (absL x - absL y) = absL x - absL y:=by rw [IntWalk.i64_in _ (by unfold absL; omega)]
 have w4:IntKind.i64.wrap (y - x) = y - x:=by rw [IntWalk.i64_in _ (by omega)]
 have e1:(if x < -x then -x else x) = absL x:=rfl
 have e2:(if y < -y then -y else y) = absL y:=rfl
 have e3:orL [absL x - absL y,y - x] = cmpL x y:=by simp only [orL,thn_right]; rfl
 refine a_fun tok (fun_of Tryz.func209 rfl rfl) (by simp) fun B=>?_
 repeat refine kn rfl ?_
 refine k_region tok rfl (by kernel_rfl) ?_
 simp only [go_sem,simprocAttr]
 repeat refine kn rfl ?_
 refine k_region tok rfl (by kernel_rfl) ?_
 simp only [go_sem,simprocAttr,w1,w2,e1,e2,w3,w4]
 refine ⟨rfl,?_⟩
 refine callP (fun_of Tryz.func131 rfl rfl) (a49 [absL x - absL y,y - x] (by simp)) (by simp only [go_sem,simprocAttr,eInt]) ?_
 simp only [go_sem,simprocAttr,eInt]
 repeat refine kn rfl ?_
 refine k_ret rfl ?_
 refine post_one ?_ (.int _ _) rfl
 try simp only [go_sem,simprocAttr,e3]
 exact .refl _
theorem below_aInts {n k:Nat} (l:List Int):Below n (.sl k (aInts l) .any):=below_sla fun x hx=>by obtain ⟨u,_,rfl⟩:=List.mem_map.1 hx; exact .int _ _
theorem flat_aInts:∀ l:List Int,flat (aInts l) = aInts l
 | []=>rfl
 | x :: l=>by simp only [aInts,List.map_cons,flat_cons]; rw [show flat (l.map (AV.int .i64)) = l.map (AV.int .i64) from flat_aInts l]; rfl
theorem ones_aInts (l:List Int):∀ y ∈ aInts l,ones y = true:=fun y hy=>by obtain ⟨u,_,rfl⟩:=List.mem_map.1 hy; rfl
theorem insI {n:Nat} {p:Nat → Prop} (l:List Int):∀ c ∈ aInts l,Inside n p c:=fun c hc=>by obtain ⟨u,_,rfl⟩:=List.mem_map.1 hc; exact .int _ _
theorem blwI {n:Nat} (e sz k:Nat) (l:List Int):ABlk.Below n (.mbuf e sz (aInts l) k):=⟨fun a ha=>by obtain ⟨u,_,rfl⟩:=List.mem_map.1 ha; exact .int _ _,by simp [ABlk.at_]⟩
def op207 (l k:Nat):Opt:=⟨false,false,fun d=>if d = 7 then .place l k true else .auto,[]⟩
theorem a207 (n:Nat) (H:AHeap) (xs:List Int) (o:Own) (l2 k2:Nat) (hl2:l2 < n) (hf:H l2 k2 = none) (hlen:xs.length ≤ 1000000) :
  ACalls Tryz.prog n 207 [.sl 1 (aInts xs) o] H fun r H'=>r = .msl 1 l2 k2 xs.length ∧ H' = H.upd l2 k2 (.mbuf 3 1 (aInts xs) xs.length):=by
 have hne:¬ l2 = n:=by omega
 have hle:l2 ≤ n:=by omega
 cases xs with
 | nil =>
  refine ACalls.nil_or ?_ ?_
  ·refine a_fun tok (fun_of Tryz.func207 rfl rfl) (by simp) fun B=>?_
   repeat refine kn rfl ?_
   refine k_region tok rfl (by kernel_rfl) ?_
   simp only [go_sem,simprocAttr]
   repeat refine kn rfl ?_
   refine k_region tok rfl (by kernel_rfl) ?_
   simp only [go_sem,simprocAttr]
   refine ⟨⟨_,rfl⟩,?_⟩
   repeat refine kn rfl ?_
   refine k_cond_t rfl (by simp only [go_sem,simprocAttr]) ?_
   repeat refine kn rfl ?_
   refine k_region tok rfl (by kernel_rfl) ?_
   simp only [go_sem,simprocAttr]
   repeat refine kn rfl ?_
   refine k_weak (AWk_adopt (t:=2) (l:=l2) (j:=k2) 3 1 true hle rfl (by simp only [full,if_neg hne]; exact hf)) ?_
   simp only [setL,setH,if_neg hne,if_true]
   repeat refine kn rfl ?_
   refine k_ret rfl ?_
   exact post_oneQ (.refl _) (.msl _ _ _ _ hl2) ⟨rfl,rfl⟩
  ·refine a_fun tok (fun_of Tryz.func207 rfl rfl) (by simp) fun B=>?_
   repeat refine kn rfl ?_
   refine k_region tok rfl (by kernel_rfl) ?_
   simp only [go_sem,simprocAttr]
   repeat refine kn rfl ?_
   refine k_region tok rfl (by kernel_rfl) ?_
   simp only [go_sem,simprocAttr]
   refine ⟨⟨_,rfl⟩,?_⟩
   repeat refine kn rfl ?_
   refine k_cond_f rfl (by simp only [go_sem,simprocAttr]) ?_
   repeat refine kn rfl ?_
   refine k_weak (s':=⟨[(0,.sl 1 [] .any)],[],H⟩) ?_ ?_
   ·refine AWk_kept ⟨Wk.sln 1,trivial⟩ trivial ⟨?_,trivial⟩ trivial
    exact (below_aInts []).inside
   refine k_region_o tok (op207 l2 k2) rfl rfl (by kernel_rfl) ?_
   simp only [go_sem,simprocAttr,op207,hne]
   refine ⟨rfl,⟨hle,hf⟩,.inr (blwI 3 1 0 []),?_⟩
   repeat refine kn rfl ?_
   refine k_ret rfl ?_
   exact post_oneQ (.refl _) (.msl _ _ _ _ hl2) ⟨rfl,rfl⟩
 | cons x r =>
  have h1:=ones_aInts (x :: r)
  have h2:=blwI (n:=n) 3 1 (r.length + 1) (x :: r)
  have h3:=flat_aInts (x :: r)
  simp only [List.length_cons] at hlen
  simp only [aInts,List.map_cons,List.mem_cons,forall_eq_or_imp] at h1 h2 h3
  refine a_fun tok (fun_of Tryz.func207 rfl rfl) (by simp) fun B=>?_
  repeat refine kn rfl ?_
  refine k_region tok rfl (by kernel_rfl) ?_
  simp only [go_sem,simprocAttr]
  repeat refine kn rfl ?_
  refine k_region tok rfl (by kernel_rfl) ?_
  simp only [go_sem,simprocAttr]
  refine ⟨⟨_,rfl⟩,?_⟩
  repeat refine kn rfl ?_
  refine k_cond_f rfl (by simp only [go_sem,simprocAttr]) ?_
  repeat refine kn rfl ?_
  refine k_region_o tok (op207 l2 k2) rfl rfl (by kernel_rfl) ?_
  simp only [go_sem,simprocAttr,op207,hne,h3]
  refine ⟨rfl,⟨hle,hf,h1.2,le_maxLen (by omega),by omega⟩,.inr h2,?_⟩
  repeat refine kn rfl ?_
  refine k_ret rfl ?_
  exact post_oneQ (.refl _) (.msl _ _ _ _ hl2) ⟨rfl,rfl⟩
theorem a208 (n:Nat) (H:AHeap) (l j sz0:Nat) (xs:List Int) (hG:∀ x ∈ xs,SmI x) (hlen:xs.length ≤ 1000000) (hH:H l j = some (.mbuf 3 1 (aInts xs) xs.length)) :
  ACalls Tryz.prog n 208 [.msl sz0 l j xs.length,.fn (.func 209) []] H fun r H'=>r = .tup [] ∧ ∃ ys:List Int,Lib.compact ys = ordL xs ∧ ys.length = xs.length ∧ H' = H.upd l j (.mbuf 3 1 (aInts ys) xs.length):=by
 refine ACalls.mono (int_sort (P:=Tryz.prog) Tryz.laysSlF6_f208 Tryz.sort208 rfl cmpL SmI swoL 209 _ _ (fun_of Tryz.func209 rfl rfl) (fun x y hx hy=>a209 x y hx hy) n H l j 3 sz0 xs hG hH (by omega)) ?_
 rintro r H' ⟨rfl,ys,hp,ha,rfl⟩
 exact ⟨rfl,ys,compact_ord hp ha,hp.length_eq,rfl⟩
theorem insMs {n:Nat} {p:Nat → Prop} {sz l k i:Nat} (h:l < n ∨ (l = n ∧ p k)):Inside n p (.msl sz l k i):=.msl _ _ _ _ h
theorem a122 (xs:List Int) (o:Own) (hG:∀ x ∈ xs,SmI x) (hlen:xs.length ≤ 1000000):Pure Tryz.prog 122 [.sl 1 (aInts xs) o] (.sl 1 (aInts (ordL xs)) .any):=by
 intro n H
 refine a_fun tok (fun_of Tryz.func122 rfl rfl) (by simp) fun B=>?_
 repeat refine kn rfl ?_
 refine k_region tok rfl (by kernel_rfl) ?_
 simp only [go_sem,simprocAttr]
 repeat refine kn rfl ?_
 refine k_region tok rfl (by kernel_rfl) ?_
 simp only [go_sem,simprocAttr]
 refine callR (caps:=[]) (avs:=[.sl 1 (aInts xs) o]) rfl (fun_of Tryz.func207 rfl rfl) (a207 (n + 1) _ xs o n 200 (Nat.lt_succ_self n) (by simp only [go_sem,simprocAttr]) hlen) (by simp only [go_sem,simprocAttr]) ?_
 rintro r H1 ⟨rfl,rfl⟩
 refine ⟨[(200,.mbuf 3 1 (aInts xs) xs.length)],H,(full_setb n [] H 200 _).symm,.refl _ _,?_⟩
 simp only [go_sem,simprocAttr]
 repeat refine kn rfl ?_
 refine k_region tok rfl (by kernel_rfl) ?_
 simp only [go_sem,simprocAttr]
 refine callR (caps:=[]) (avs:=[.msl 1 n 200 xs.length,.fn (.func 209) []]) rfl (fun_of Tryz.func208 rfl rfl) (a208 (n + 1) _ n 200 1 xs hG hlen (by simp only [go_sem,simprocAttr])) (by simp only [go_sem,simprocAttr]) ?_
 rintro r H1 ⟨rfl,ys,hys,hyl,rfl⟩
 refine ⟨[(200,.mbuf 3 1 (aInts ys) xs.length)],H,(full_setb n _ H 200 _).symm,.refl _ _,?_⟩
 simp only [go_sem,simprocAttr]
 rw [← hyl]
 rcases Nat.eq_zero_or_pos ys.length with h0 | hpos
 ·have hn:ys = []:=List.eq_nil_of_length_eq_zero h0
  subst hn
  have ho:ordL xs = []:=by rw [← hys]; rfl
  rw [ho]
  repeat refine kn rfl ?_
  refine k_region tok rfl (by kernel_rfl) ?_
  simp only [go_sem,simprocAttr]
  refine callR (caps:=[]) (avs:=[.msl 1 n 200 0]) rfl (fun_of Tryz.func210 rfl rfl) (int_compact0 (P:=Tryz.prog) Tryz.laysNm220 (n + 1) _ n 200) (by simp only [go_sem,simprocAttr]) ?_
  rintro r H1 ⟨rfl,rfl⟩
  refine ⟨[(200,.mbuf 3 1 [] 0)],H,rfl,.refl _ _,?_⟩
  simp only [go_sem,simprocAttr]
  repeat refine kn rfl ?_
  refine k_weak (AWk_freeze_mbuf (tm':=[(2,.sl 1 [] .any)]) (j:=200) [] rfl rfl rfl (by simp) (by simp) (fun p hp=>?_) (fun p hp=>?_)) ?_
  ·simp only [List.mem_singleton] at hp; subst hp
   exact .inr ⟨1,rfl,rfl⟩
  ·simp [delb] at hp
  repeat refine kn rfl ?_
  refine k_ret rfl ?_
  exact post_one (.refl _) (below_aInts []) rfl
 ·repeat refine kn rfl ?_
  refine k_region tok rfl (by kernel_rfl) ?_
  simp only [go_sem,simprocAttr]
  refine callR (caps:=[]) (avs:=[.msl 1 n 200 ys.length]) rfl (fun_of Tryz.func210 rfl rfl) (int_compact (P:=Tryz.prog) Tryz.laysNm220 (n + 1) _ n 200 3 ys hpos (by simp only [go_sem,simprocAttr]) (by omega)) (by simp only [go_sem,simprocAttr]) ?_
  rintro r H1 ⟨rfl,rfl⟩
  rw [hys]
  have hle:(ordL xs).length ≤ ys.length:=by rw [← hys]; exact Lib.compact_length_le ys
  obtain ⟨zs,hzs⟩:∃ zs,zs = ordL xs ++ List.replicate (ys.length - (ordL xs).length) (0:Int):=⟨_,rfl⟩
  rw [← hzs]
  have hzl:zs.length = ys.length:=by rw [hzs]; simp; omega
  have htk:zs.take (ordL xs).length = ordL xs:=by rw [hzs]; simp
  refine ⟨[(200,.mbuf 3 1 (aInts zs) ys.length)],H,(full_setb n _ H 200 _).symm,.refl _ _,?_⟩
  simp only [go_sem,simprocAttr]
  repeat refine kn rfl ?_
  refine k_weak (AWk_freeze_sub (tm':=[(2,.sl 1 (aInts (ordL xs)) .any)]) (j:=200) (aInts zs) rfl (flat_aInts zs) (by simp [hzl]) (fun x hx=>?_) (insI zs) (fun p hp=>?_) (fun p hp=>?_)) ?_
  ·obtain ⟨u,_,rfl⟩:=List.mem_map.1 hx; rfl
  ·simp only [List.mem_singleton] at hp; subst hp
   refine .inr (.inr ⟨0,(ordL xs).length,rfl,?_⟩)
   rw [List.drop_zero,aInts,← List.map_take,htk]
  ·simp [delb] at hp
  repeat refine kn rfl ?_
  refine k_ret rfl ?_
  exact post_one (.refl _) (below_aInts _) rfl
end Go.Proofs.YthgbkalgmicniaaGreatDoor

/- Maps as plain lists of pairs. No program. -/
namespace Go.Abs
section
variable {κ β:Type} [DecidableEq κ]
def getM (k:κ):List (κ × β) → Option β
 | []=>none
 | p :: r=>if p.1 = k then some p.2 else getM k r
def putM (k:κ) (v:β):List (κ × β) → List (κ × β)
 | []=>[(k,v)]
 | p :: r=>if p.1 = k then (k,v) :: r else p :: putM k v r
def ixM (k:κ):List (κ × β) → Nat
 | []=>0
 | p :: r=>if p.1 = k then 0 else ixM k r + 1
abbrev encM (ek:κ → AV) (ev:β → AV) (es:List (κ × β)):List (AV × AV):=es.map fun p=>(ek p.1,ev p.2)
def KInj (ek:κ → AV):Prop:=∀ a b,(ek a).kls = (ek b).kls → a = b
theorem findL_M {ek:κ → AV} (hi:KInj ek) (ev:β → AV) (k:κ):∀ (es:List (κ × β)) (i:Nat),findL (ek k).kls ((encM ek ev es).map fun p=>p.1.kls) i = if (getM k es).isSome then some (i + ixM k es) else none
 | [],i=>by simp [findL,getM]
 | p :: r,i=>by
  simp only [List.map_cons,findL,getM,ixM]
  by_cases h:p.1 = k
  ·simp [h]
  ·have h':¬ (ek k).kls = (ek p.1).kls:=fun e=>h (hi _ _ e).symm
   have ih:=findL_M hi ev k r (i + 1)
   simp only [encM] at ih
   simp only [if_neg h,if_neg h',ih]
   cases getM k r with
   | none=>rfl
   | some v=>simp; omega
theorem getM_ix {k:κ}:∀ {es:List (κ × β)} {v:β},getM k es = some v → es[ixM k es]? = some (k,v)
 | [],_,h=>by cases h
 | p :: r,v,h=>by
  simp only [getM] at h
  simp only [ixM]
  split at h
  ·rename_i e; cases h; rw [if_pos e]; simp [← e]
  ·rename_i e; rw [if_neg e]; simpa using getM_ix h
theorem putM_some {k:κ} {v:β} (w:β):∀ {es:List (κ × β)},getM k es = some v → putM k w es = es.set (ixM k es) (k,w)
 | [],h=>by cases h
 | p :: r,h=>by
  simp only [getM] at h
  simp only [putM,ixM]
  split at h
  ·rename_i e; rw [if_pos e,if_pos e]; rfl
  ·rename_i e; rw [if_neg e,if_neg e,putM_some w h]; rfl
theorem putM_none {k:κ} (w:β):∀ {es:List (κ × β)},getM k es = none → putM k w es = es ++ [(k,w)]
 | [],_=>rfl
 | p :: r,h=>by
  simp only [getM] at h
  simp only [putM]
  split at h
  ·cases h
  ·rename_i e; rw [if_neg e,putM_none w h]; rfl
theorem findA_M {ek:κ → AV} (hi:KInj ek) (ev:β → AV) (k:κ) (es:List (κ × β)):findA (ek k) (encM ek ev es) = if (getM k es).isSome then some (ixM k es) else none:=by
 unfold findA; rw [findL_M hi]; simp
theorem lookA_M {ek:κ → AV} (hi:KInj ek) (ev:β → AV) (re:TRow) (k:κ) (es:List (κ × β)):lookA re (ek k) (encM ek ev es) false = match getM k es with | some v=>ev v | none=>nilA (zeroA re):=by
 unfold lookA; rw [findA_M hi]
 cases h:getM k es with
 | none=>rfl
 | some v =>
  have h1:=getM_ix h
  simp [encM,h1]
theorem putA_M {ek:κ → AV} (hi:KInj ek) (ev:β → AV) (k:κ) (v:β) (es:List (κ × β)):putA (ek k) (ev v) (encM ek ev es) = encM ek ev (putM k v es):=by
 unfold putA; rw [findA_M hi]
 cases h:getM k es with
 | none=>simp [putM_none v h,encM]
 | some w=>simp [putM_some v h,encM,List.map_set]
theorem putM_keys (k:κ) (v:β):∀ es:List (κ × β),(putM k v es).map Prod.fst = if (getM k es).isSome then es.map Prod.fst else es.map Prod.fst ++ [k]
 | []=>by simp [putM,getM]
 | p :: r=>by
  simp only [putM,getM]
  by_cases h:p.1 = k
  ·simp [h]
  ·have ih:=putM_keys k v r
   simp only [if_neg h,List.map_cons,ih]
   cases getM k r <;> simp
theorem getM_none {k:κ}:∀ {es:List (κ × β)},getM k es = none ↔ k ∉ es.map Prod.fst
 | []=>by simp [getM]
 | p :: r=>by
  simp only [getM,List.map_cons,List.mem_cons,not_or]
  split
  ·rename_i h; simp [h]
  ·rename_i h; rw [getM_none]; exact ⟨fun hn=>⟨fun e=>h e.symm,hn⟩,fun hn=>hn.2⟩
theorem putM_nodup {k:κ} {v:β} {es:List (κ × β)} (h:(es.map Prod.fst).Nodup):((putM k v es).map Prod.fst).Nodup:=by
 rw [putM_keys]
 split
 ·exact h
 ·rename_i e
  have:getM k es = none:=by simpa using e
  exact List.nodup_append.2 ⟨h,by simp,fun a ha c hc e'=>by simp only [List.mem_singleton] at hc; subst hc; subst e'; exact getM_none.1 this ha⟩
theorem putM_mem {k:κ} {v:β} {es:List (κ × β)} {p:κ × β} (h:p ∈ putM k v es):p = (k,v) ∨ p ∈ es:=by
 induction es with
 | nil=>simp [putM] at h; exact .inl h
 | cons q r ih =>
  simp only [putM] at h
  split at h
  ·rcases List.mem_cons.1 h with h | h
   ·exact .inl h
   ·exact .inr (List.mem_cons_of_mem _ h)
  ·rcases List.mem_cons.1 h with h | h
   ·exact .inr (h ▸ List.mem_cons_self)
   ·exact (ih h).imp id (List.mem_cons_of_mem _)
theorem putM_len (k:κ) (v:β) (es:List (κ × β)):(putM k v es).length = if (getM k es).isSome then es.length else es.length + 1:=by
 have:=congrArg List.length (putM_keys k v es)
 rw [List.length_map] at this
 rw [this]; split <;> simp
end
theorem kinj_str:KInj AV.str:=fun a b h=>by simp [AV.kls,AV.cells,klAll,AV.kl] at h; exact h
theorem kinj_int:KInj (AV.int .i64):=fun a b h=>by simp [AV.kls,AV.cells,klAll,AV.kl] at h; exact h
theorem below_encM {κ β:Type} {n:Nat} {ek:κ → AV} {ev:β → AV} {es:List (κ × β)} (h1:∀ k,Below n (ek k)) (h2:∀ p ∈ es,Below n (ev p.2)):∀ p ∈ encM ek ev es,Below n p.1 ∧ Below n p.2:=fun p hp=>by
 obtain ⟨q,hq,rfl⟩:=List.mem_map.1 hp; exact ⟨h1 _,h2 q hq⟩
theorem ablk_map {n:Nat} {es:List (AV × AV)} (h:∀ p ∈ es,Below n p.1 ∧ Below n p.2):ABlk.Below n (.map es):=by
 refine ⟨fun a ha=>?_,by simp [ABlk.at_]⟩
 simp only [ABlk.avs,List.mem_append,List.mem_map] at ha
 rcases ha with ⟨p,hp,rfl⟩ | ⟨p,hp,rfl⟩
 ·exact (h p hp).1
 ·exact (h p hp).2
abbrev Wm:=List (Int × Int)
abbrev encW (w:Wm):List (AV × AV):=encM (AV.int .i64) (AV.int .i64) w
theorem below_encW {n:Nat} (w:Wm):ABlk.Below n (.map (encW w)):=ablk_map (below_encM (fun _=>.int _ _) (fun _ _=>.int _ _))
end Go.Abs

/- Lists of elements of two cells each; sorting by insertion. No program, no condition. -/
namespace Go.Abs
def fl {α:Type} (cs:α → List AV) (l:List α):List AV:=l.flatMap cs
section
variable {α:Type} {cs:α → List AV} (hcs:∀ x,(cs x).length = 2)
include hcs
theorem fl_len:∀ l:List α,(fl cs l).length = l.length * 2
 | []=>rfl
 | x :: l=>by
  have:=fl_len l
  simp only [fl,List.flatMap_cons,List.length_append,List.length_cons,hcs] at this ⊢; omega
theorem fl_drop:∀ (l:List α) (i:Nat),(fl cs l).drop (i * 2) = fl cs (l.drop i)
 | l,0=>by simp
 | [],i + 1=>by simp [fl]
 | x :: l,i + 1=>by
  have h:(i + 1) * 2 = (cs x).length + i * 2:=by rw [hcs]; omega
  have:=fl_drop l i
  simp only [fl,List.flatMap_cons,List.drop_succ_cons] at this ⊢
  rw [h,List.drop_append,Nat.add_sub_cancel_left,this,List.drop_eq_nil_of_le (by omega)]
  simp
theorem fl_get (l:List α) (i:Nat) (h:i < l.length):((fl cs l).drop (i * 2)).take 2 = cs l[i]:=by
 rw [fl_drop hcs,List.drop_eq_getElem_cons h]
 simp only [fl,List.flatMap_cons]
 rw [List.take_append,List.take_of_length_le (by rw [hcs]; exact Nat.le_refl _),hcs]
 simp
end
theorem fl_append {α:Type} (cs:α → List AV) (l r:List α):fl cs (l ++ r) = fl cs l ++ fl cs r:=by simp [fl]
theorem fl_flat {α:Type} (cs:α → List AV) (enc:α → AV) (h:∀ x,(enc x).cells = cs x) (l:List α):flat (l.map enc) = fl cs l:=by
 induction l with
 | nil=>rfl
 | cons x l ih=>simp only [List.map_cons,flat_cons,h,ih]; rfl
section
variable {α:Type} (lt:α → α → Bool)
def insRev (s:α):List α → List α
 | []=>[s]
 | x :: r=>if lt s x = true then x :: insRev s r else s :: x :: r
def insB (s:α) (l:List α):List α:=(insRev lt s l.reverse).reverse
def sortB (l:List α):List α:=l.foldl (fun out s=>insB lt s out) []
theorem insB_perm (s:α) (l:List α):(insB lt s l).Perm (s :: l):=by
 have:∀ r:List α,(insRev lt s r).Perm (s :: r):=by
  intro r
  induction r with
  | nil=>exact .refl _
  | cons x r ih =>
   rw [insRev]; split
   ·exact (ih.cons x).trans (.swap s x r)
   ·exact .refl _
 unfold insB
 exact (List.reverse_perm _).trans ((this _).trans ((List.reverse_perm l).cons s))
theorem sortB_perm (l:List α):(sortB lt l).Perm l:=by
 have:∀ (l b:List α),(l.foldl (fun out s=>insB lt s out) b).Perm (b ++ l):=by
  intro l
  induction l with
  | nil=>intro b; simp
  | cons x l ih =>
   intro b
   refine (ih _).trans ?_
   refine ((insB_perm lt x b).append_right l).trans ?_
   exact List.perm_middle.symm
 exact this l []
end
end Go.Abs

/- A builder in the heap: its variable and its rules. No program. -/
namespace Go.Abs
open Go.Proofs Go.Proofs.YthgbkalgmicniaaGreatDoor
structure Fr where
 a:AV
 num:AV
 pn:AV
 kn:AV
structure St where
 n:Int
 rules:List GR
 err:Int
def GR.raw (x:GR):List AV:=[.bool x.choice,sInts x.head,.bool x.sum,.int .i64 x.bound,sInts x.body,.sl 1 (x.w.map (AV.int .i64)) (if x.sum then .any else .full)]
def GR.rawE (x:GR):AV:=.agg x.raw
def bxC (l b:Nat) (F:Fr) (s:St):List AV:=[F.a,F.num,.int .i64 s.n,.msl 6 l (b + 1) s.rules.length,F.pn,F.kn,.int .i64 s.err]
def bxR (s:St):ABlk:=.mbuf 70 6 (fl GR.raw s.rules) s.rules.length
def bxH (H:AHeap) (l b:Nat) (F:Fr) (s:St):AHeap:=(H.upd l (b + 1) (bxR s)).upd l b (.box (bxC l b F s))
theorem upd_upd (H:AHeap) (l k:Nat) (x y:ABlk):(H.upd l k x).upd l k y = H.upd l k y:=by
 funext l' k'; simp only [AHeap.upd]; split <;> rfl
theorem upd_comm (H:AHeap) {l k l' k':Nat} (h:¬(l = l' ∧ k = k')) (x y:ABlk):(H.upd l k x).upd l' k' y = (H.upd l' k' y).upd l k x:=by
 funext i j; simp only [AHeap.upd]
 by_cases h1:i = l' ∧ j = k' <;> by_cases h2:i = l ∧ j = k
 ·exact absurd ⟨h2.1.symm.trans h1.1,h2.2.symm.trans h1.2⟩ h
 ·rw [if_pos h1,if_neg h2,if_pos h1]
 ·rw [if_neg h1,if_pos h2,if_pos h2]
 ·rw [if_neg h1,if_neg h2,if_neg h2,if_neg h1]
section
variable {H:AHeap} {l b:Nat} {F:Fr} {s:St}
theorem bxH_box:bxH H l b F s l b = some (.box (bxC l b F s)):=AHeap.upd_same _ _ _ _
theorem bxH_rules:bxH H l b F s l (b + 1) = some (bxR s):=by
 unfold bxH; rw [AHeap.upd_ne _ _ (by omega),AHeap.upd_same]
theorem bxH_ne {l' k':Nat} (h1:¬(l' = l ∧ k' = b)) (h2:¬(l' = l ∧ k' = b + 1)):bxH H l b F s l' k' = H l' k':=by
 unfold bxH; rw [AHeap.upd_ne _ _ h1,AHeap.upd_ne _ _ h2]
theorem bxH_lv {l' k':Nat} (h:l' ≠ l):bxH H l b F s l' k' = H l' k':=bxH_ne (fun e=>h e.1) (fun e=>h e.1)
theorem bxH_set (s':St):((bxH H l b F s).upd l (b + 1) (bxR s')).upd l b (.box (bxC l b F s')) = bxH H l b F s':=by
 unfold bxH
 rw [upd_comm (H.upd l (b + 1) (bxR s)) (l:=l) (k:=b) (l':=l) (k':=b + 1) (by omega),upd_upd,upd_upd]
theorem bxH_setn (s':St) (h:s'.rules = s.rules):(bxH H l b F s).upd l b (.box (bxC l b F s')) = bxH H l b F s':=by
 unfold bxH
 rw [upd_upd,bxR,bxR,h]
theorem bxH_setF (F':Fr):(bxH H l b F s).upd l b (.box (bxC l b F' s)) = bxH H l b F' s:=by
 unfold bxH
 rw [upd_upd]
theorem bxH_upd {l' k':Nat} (h1:¬(l' = l ∧ k' = b)) (h2:¬(l' = l ∧ k' = b + 1)) (x:ABlk):(bxH H l b F s).upd l' k' x = bxH (H.upd l' k' x) l b F s:=by
 unfold bxH
 rw [upd_comm _ (fun e=>h1 ⟨e.1.symm,e.2.symm⟩),upd_comm H (fun e=>h2 ⟨e.1.symm,e.2.symm⟩)]
theorem full_bxH {n:Nat} (h:l ≠ n) (L:List (Nat × ABlk)):full n L (bxH H l b F s) = bxH (full n L H) l b F s:=by
 unfold bxH; rw [full_upd _ _ _ _ _ _ h,full_upd _ _ _ _ _ _ h]
end
def Fr.bel (F:Fr) (n:Nat):Prop:=AllP (fun c=>Below n c) [F.a,F.num,F.pn,F.kn]
theorem GR.braw {n:Nat} (x:GR):∀ c ∈ x.raw,Below n c:=by
 refine AllP.mem (p:=fun c=>Below n c) ⟨.bool _,below_sInts _,.bool _,.int _ _,below_sInts _,below_sl (fun y hy=>?_) ?_,trivial⟩
 ·obtain ⟨u,_,rfl⟩:=List.mem_map.1 hy; exact .int _ _
 ·intro l j e; split at e <;> cases e
theorem below_raws {n:Nat} (rs:List GR):∀ c ∈ fl GR.raw rs,Below n c:=fun c hc=>by
 simp only [fl,List.mem_flatMap] at hc
 obtain ⟨x,_,hx⟩:=hc; exact x.braw c hx
theorem below_bxR {n:Nat} (s:St):ABlk.Below n (bxR s):=⟨fun a ha=>below_raws _ a ha,by simp [ABlk.at_,bxR]⟩
theorem below_bxC {n l b:Nat} {F:Fr} (hF:F.bel n) (hl:l < n) (s:St):ABlk.Below n (.box (bxC l b F s)):=by
 obtain ⟨h1,h2,h3,h4,_⟩:=hF
 exact ABlk.below_box ⟨h1,h2,.int _ _,.msl _ _ _ _ hl,h3,h4,.int _ _,trivial⟩
theorem out_bxH {n l b:Nat} {F F':Fr} {H:AHeap} (hF:F'.bel n) (hl:l < n) (s s':St):OutStep n (bxH H l b F s) (bxH H l b F' s'):=fun l' k' x hx hb=>by
 by_cases h1:l' = l ∧ k' = b
 ·obtain ⟨rfl,rfl⟩:=h1
  rw [bxH_box] at hb; cases hb
  exact .inr (below_bxC hF hl s')
 by_cases h2:l' = l ∧ k' = b + 1
 ·obtain ⟨rfl,rfl⟩:=h2
  rw [bxH_rules] at hb; cases hb
  exact .inr (below_bxR s')
 rw [bxH_ne h1 h2] at hb ⊢
 exact .inl hb
theorem Fr.bel.mono {F:Fr} {n m:Nat} (h:F.bel n) (hm:n ≤ m):F.bel m:=by
 obtain ⟨h1,h2,h3,h4,_⟩:=h
 exact ⟨h1.mono hm,h2.mono hm,h3.mono hm,h4.mono hm,trivial⟩
def St.aux (s:St):St:=⟨s.n + 1,s.rules,s.err⟩
def St.rule (s:St) (h body:List Int):St:=⟨s.n,s.rules ++ [⟨false,ordL h,false,0,ordL body,[]⟩],s.err⟩
def splitL (w:Wm):List Int:=ordL (w.map Prod.fst)
def splitW (w:Wm):List Int:=(splitL w).map fun x=>(getM x w).getD 0
def totalW (w:Wm):Int:=(w.map Prod.snd).sum
def St.sum (s:St) (h:List Int) (w:Wm) (k:Int):St:=⟨s.n,s.rules ++ [⟨false,ordL h,true,k,splitL w,splitW w⟩],s.err⟩
def lastChoice:List GR → List GR
 | []=>[]
 | [x]=>[{ x with choice:=true }]
 | x :: r=>x :: lastChoice r
def St.choose (s:St):St:=⟨s.n,lastChoice s.rules,s.err⟩
structure St.Fit (s:St) (k:Int):Prop where
 n:0 ≤ s.n ∧ s.n ≤ k
 r:(s.rules.length:Int) ≤ k
theorem St.Fit.mono {s:St} {k k':Int} (h:s.Fit k) (hk:k ≤ k'):s.Fit k':=⟨⟨h.n.1,by have:=h.n.2; omega⟩,by have:=h.r; omega⟩
theorem lastChoice_len:∀ l:List GR,(lastChoice l).length = l.length
 | []=>rfl
 | [x]=>rfl
 | x :: y :: r=>by simp only [lastChoice,List.length_cons]; rw [lastChoice_len (y :: r)]; rfl
theorem St.Fit.aux {s:St} {k:Int} (h:s.Fit k):s.aux.Fit (k + 1):=⟨by have:=h.n; simp only [St.aux]; omega,by have:=h.r; simp only [St.aux]; omega⟩
theorem St.Fit.rule {s:St} {k:Int} (h:s.Fit k) (a c:List Int):(s.rule a c).Fit (k + 1):=⟨by have:=h.n; simp only [St.rule]; omega,by have:=h.r; simp only [St.rule,List.length_append,List.length_cons,List.length_nil]; omega⟩
theorem St.Fit.sum {s:St} {k:Int} (h:s.Fit k) (a:List Int) (w:Wm) (c:Int):(s.sum a w c).Fit (k + 1):=⟨by have:=h.n; simp only [St.sum]; omega,by have:=h.r; simp only [St.sum,List.length_append,List.length_cons,List.length_nil]; omega⟩
theorem St.Fit.choose {s:St} {k:Int} (h:s.Fit k):s.choose.Fit k:=⟨h.n,by have:=h.r; simp only [St.choose,lastChoice_len]; exact this⟩
theorem fl_lenK {α:Type} {cs:α → List AV} {k:Nat} (h:∀ x,(cs x).length = k):∀ l:List α,(fl cs l).length = l.length * k
 | []=>by simp [fl]
 | x :: l=>by
  have:=fl_lenK h l
  simp only [fl,List.flatMap_cons,List.length_append,List.length_cons,h] at *
  rw [this,Nat.add_mul,Nat.one_mul,Nat.add_comm]
theorem lastChoice_fl (rs:List GR) (x:GR):splice (fl GR.raw (rs ++ [x])) (rs.length * 6) [.bool true] = fl GR.raw (lastChoice (rs ++ [x])):=by
 have e:lastChoice (rs ++ [x]) = rs ++ [{ x with choice:=true }]:=by
  induction rs with
  | nil=>rfl
  | cons y r ih =>
   cases r with
   | nil=>rfl
   | cons z r=>simp only [List.cons_append,lastChoice] at ih ⊢; rw [ih]
 have hl:(fl GR.raw rs).length = rs.length * 6:=fl_lenK (k:=6) (cs:=GR.raw) (fun _=>rfl) rs
 rw [e,fl_append,fl_append]
 generalize fl GR.raw rs = p at *
 have e1:fl GR.raw [x] = [.bool x.choice] ++ [sInts x.head,.bool x.sum,.int .i64 x.bound,sInts x.body,.sl 1 (x.w.map (AV.int .i64)) (if x.sum then .any else .full)]:=by simp [fl,GR.raw]
 have e2:fl GR.raw [{ x with choice:=true }] = [.bool true] ++ [sInts x.head,.bool x.sum,.int .i64 x.bound,sInts x.body,.sl 1 (x.w.map (AV.int .i64)) (if x.sum then .any else .full)]:=by simp [fl,GR.raw]
 rw [e1,e2]
 simp only [splice,← hl]
 have e3:p.length + [AV.bool true].length = (p ++ [AV.bool x.choice]).length:=by simp
 rw [e3,List.take_left' rfl,← List.append_assoc p [AV.bool x.choice],List.drop_left' rfl]
def St.rulesOf (s:St) (t:Int) (l:List (List Int)):St:=l.foldl (fun s x=>s.rule [t] x) s
def St.stands (s:St) (l:List (List Int)):Int × St:=match l with
 | [[x]]=>(x,s)
 | l=>(s.n + 1,s.aux.rulesOf (s.n + 1) l)
theorem rulesOf_fit (t:Int):∀ (l:List (List Int)) {s:St} {k:Int},s.Fit k → (s.rulesOf t l).Fit (k + l.length)
 | [],s,k,h=>by simpa [St.rulesOf] using h
 | x :: l,s,k,h=>by
  have:=rulesOf_fit t l (h.rule [t] x)
  simp only [St.rulesOf,List.foldl_cons,List.length_cons] at *
  exact this.mono (by omega)
theorem stands_fit {s:St} {k:Int} (l:List (List Int)) (h:s.Fit k):(s.stands l).2.Fit (k + l.length + 1):=by
 unfold St.stands
 split
 ·exact h.mono (by simp; omega)
 ·exact (rulesOf_fit _ l h.aux).mono (by omega)
theorem callB {cx:Cx} {o:Oper} {args:List Operand} {ts:List TypeId} {tm:List (Nat × AV)} {L:List (Nat × ABlk)} {H:AHeap} {l b:Nat} {F:Fr} {s s':St} {K:AState → Prop} {f:FuncId} {fn:Func} {c:Code} {r:AV} {avs:List AV}
  (hl:l < cx.n) (hF:F.bel cx.n) (hf:Fun cx.P f fn c) (h:ACalls cx.P (cx.n + 1) f avs (bxH (full cx.n L H) l b F s) fun r' H'=>r' = r ∧ H' = bxH (full cx.n L H) l b F s')
  (ha:argsA cx.T (evT tm) args ts = avs) (hk:K ⟨putT tm o.dst r,L,bxH H l b F s'⟩):CallG cx false o (.func f) args ts ⟨tm,L,bxH H l b F s⟩ K:=by
 have hne:l ≠ cx.n:=by omega
 refine callR (caps:=[]) (avs:=avs) rfl hf (by rw [List.append_nil]; show ACalls _ _ _ _ (full cx.n L (bxH H l b F s)) _; rw [full_bxH hne]; exact h) ha ?_
 rintro r' H' ⟨rfl,rfl⟩
 exact ⟨L,bxH H l b F s',(full_bxH hne L).symm,out_bxH hF hl _ _,hk⟩
end Go.Abs

/- The sum of a map's weights; its keys in order. -/
namespace Go.Proofs.YthgbkalgmicniaaGreatDoor
open Go.Abs
set_option maxRecDepth 100000
theorem sub_len' {α:Type} [DecidableEq α]:∀ {p q:List α},p.Nodup → (∀ x ∈ p,x ∈ q) → p.length ≤ q.length
 | [],_,_,_=>Nat.zero_le _
 | x :: p,q,h,hs=>by
  rw [List.nodup_cons] at h
  have hx:=hs x (by simp)
  have:=sub_len' (q:=q.erase x) h.2 (fun y hy=>(List.mem_erase_of_ne (fun e=>h.1 (by rw [← e]; exact hy))).2 (hs y (by simp [hy])))
  rw [List.length_erase_of_mem hx] at this
  have:0 < q.length:=List.length_pos_of_mem hx
  simp only [List.length_cons]; omega
theorem ins_iter {n l k s:Nat} {q:List Nat} {p:Nat → Prop} (h:l < n):ABlk.Inside n p (.iter l k s q):=⟨by simp [ABlk.avs],by simp only [ABlk.at_,List.mem_singleton,forall_eq]; exact .inl h⟩
def wAt (w:Wm) (i:Nat):Int:=(w.getD i (0,0)).2
def kAt (w:Wm) (i:Nat):Int:=(w.getD i (0,0)).1
def sumAt (w:Wm) (seen:List Nat):Int:=(seen.map (wAt w)).sum
theorem range_wAt (w:Wm):(List.range w.length).map (wAt w) = w.map Prod.snd:=by
 apply List.ext_getElem
 ·simp
 ·intro i h1 h2
  have h3:i < w.length:=by simpa using h2
  simp [wAt,h3]
theorem range_kAt (w:Wm):(List.range w.length).map (kAt w) = w.map Prod.fst:=by
 apply List.ext_getElem
 ·simp
 ·intro i h1 h2
  have h3:i < w.length:=by simpa using h2
  simp [kAt,h3]
theorem perm_sum {p q:List Int} (h:p.Perm q):p.sum = q.sum:=by
 induction h with
 | nil=>rfl
 | cons _ _ ih=>simp [ih]
 | swap a b l=>simp; omega
 | trans _ _ h1 h2=>exact h1.trans h2
def SmW (w:Wm):Prop:=w.length ≤ 100000 ∧ ∀ p ∈ w,0 ≤ p.2 ∧ p.2 ≤ 1099511627776
theorem sum_bd {p:List Int} {c:Int} (h:∀ x ∈ p,0 ≤ x ∧ x ≤ c):0 ≤ p.sum ∧ p.sum ≤ p.length * c:=by
 induction p with
 | nil=>simp
 | cons x p ih =>
  have h1:=h x (by simp)
  have h2:=ih fun y hy=>h y (by simp [hy])
  simp only [List.sum_cons,List.length_cons]
  have:((p.length + 1:Nat):Int) * c = p.length * c + c:=by rw [Int.natCast_succ,Int.add_mul,Int.one_mul]
  omega
theorem seen_perm {w:Wm} {seen:List Nat} (hnd:seen.Nodup) (hlt:∀ i ∈ seen,i < w.length) (hall:∀ i,i < w.length → i ∈ seen):seen.Perm (List.range w.length) :=
 (List.perm_ext_iff_of_nodup hnd List.nodup_range).2 fun i=>by rw [List.mem_range]; exact ⟨hlt i,hall i⟩
def st137 (n l k:Nat) (w:Wm) (H:AHeap) (seen:List Nat):AState :=
 ⟨[(6,.ptr n 6 0),(2,.int .i64 (sumAt w seen))],[(6,.iter l k w.length seen)],H⟩
theorem encW_getD (w:Wm) (i:Nat) (h:i < w.length):(encW w).getD i (.dead,.dead) = (.int .i64 (kAt w i),.int .i64 (wAt w i)):=by
 rw [List.getD_eq_getElem?_getD]; simp [encM,h,kAt,wAt]
theorem a137 (n:Nat) (H:AHeap) (l k:Nat) (w:Wm) (hl:l < n) (hw:SmW w) (hH:H l k = some (.map (encW w))):PC Tryz.prog n 137 [.map l k] H (.int .i64 (totalW w)):=by
 have hne:¬ l = n:=by omega
 have hel:(encW w).length = w.length:=by simp [encM]
 have hgd:=encW_getD w
 generalize encW w = es at *
 refine a_fun tok (fun_of Tryz.func137 rfl rfl) (by simp) fun B=>?_
 repeat refine kn rfl ?_
 refine k_region tok rfl (by kernel_rfl) ?_
 simp only [go_sem,simprocAttr]
 repeat refine kn rfl ?_
 refine k_region tok rfl (by kernel_rfl) ?_
 simp only [go_sem,simprocAttr,hne,hH]
 repeat refine kn rfl ?_
 refine k_loop (fun m st=>∃ seen:List Nat,seen.Nodup ∧ (∀ i ∈ seen,i < w.length) ∧ m = w.length - seen.length ∧ st = st137 n l k w H seen) (m0:=w.length) (s0:=st137 n l k w H []) rfl ?_ ⟨[],by simp,by simp,by simp,rfl⟩ ?_
 ·rw [hel]
  refine AWk_kept ?_ ?_ ?_ ?_ <;> repeat' first | exact trivial | refine q0 ?_ | exact qb | exact q1 | exact q2 | exact q3 | exact rfl | refine And.intro ?_ ?_ | exact q4 | exact q5 | exact q6 | exact q7 | exact Inside.ptr _ _ _ (.inr ⟨rfl,rfl⟩) | exact q8 | exact q9 | exact qd | exact Tm.ins _ | exact Tm.inss _ _ | exact Am.ins _ | exact Am.inss _ _ | refine ins_buf_str ?_ | refine Tm.ins_buf ?_ | refine Am.ins_buf ?_ | exact qf
  all_goals first | exact (ins_iter hl).1 | (intro q hq; simp only [ABlk.at_,List.mem_singleton] at hq; subst hq; exact .inl hl) | skip
 rintro m st ⟨seen,hnd,hlt,rfl,rfl⟩
 refine k_st rfl ?_
 have hlen:seen.length ≤ w.length:=by
  have:=sub_len' hnd (q:=List.range w.length) (fun i hi=>by simpa using hlt i hi)
  simpa using this
 have hsb:∀ s:List Nat,(∀ i ∈ s,i < w.length) → s.length ≤ w.length → 0 ≤ sumAt w s ∧ sumAt w s ≤ 109951162777600000:=fun s hs hsl=>by
  have:=sum_bd (p:=s.map (wAt w)) (c:=1099511627776) (fun x hx=>by
   obtain ⟨i,hi,rfl⟩:=List.mem_map.1 hx
   have hi':=hs i hi
   have:w[i] ∈ w:=List.getElem_mem hi'
   have h2:=hw.2 _ this
   simp only [wAt,List.getD_eq_getElem?_getD,List.getElem?_eq_getElem hi',Option.getD_some]; exact h2)
  have hw1:=hw.1
  have e:((s.map (wAt w)).length:Int) ≤ 100000:=by rw [List.length_map]; omega
  unfold sumAt
  refine ⟨this.1,Int.le_trans this.2 ?_⟩
  have:=Int.mul_le_mul_of_nonneg_right e (show (0:Int) ≤ 1099511627776 by decide)
  omega
 repeat refine kn rfl ?_
 refine k_region tok rfl (by kernel_rfl) ?_
 simp only [go_sem,simprocAttr]
 refine ⟨6,l,k,es,seen,rfl,by simp only [go_sem,simprocAttr,hel],by simp only [go_sem,simprocAttr,hne,hH],fun hall=>?_,fun i hi hni=>?_⟩
 ·simp only [go_sem,simprocAttr]
  repeat refine kn rfl ?_
  refine k_cond_f rfl (by simp only [go_sem,simprocAttr]) ?_
  repeat refine kn rfl ?_
  refine k_exit_round rfl rfl rfl ?_
  have e:sumAt w seen = totalW w:=by
   have hp:=(seen_perm hnd hlt (fun i hi=>hall i (by omega))).map (wAt w)
   rw [range_wAt] at hp
   exact perm_sum hp
  repeat refine kn rfl ?_
  refine k_region tok rfl (by kernel_rfl) ?_
  simp only [go_sem,simprocAttr,e]
  repeat refine kn rfl ?_
  refine k_ret rfl ?_
  exact post_one (.refl _) (.int _ _) rfl
 ·have hi':i < w.length:=by omega
  have hgi:=hgd i hi'
  simp only [go_sem,simprocAttr,hgi]
  repeat refine kn rfl ?_
  refine k_cond_t rfl (by simp only [go_sem,simprocAttr]) ?_
  obtain ⟨h0,t0,het⟩:∃ h0 t0,seen ++ [i] = h0 :: t0:=by
   cases seen with
   | nil=>exact ⟨i,[],rfl⟩
   | cons x y=>exact ⟨x,y ++ [i],rfl⟩
  have hgl:∀ p,(h0 :: t0).getLast p = i:=fun p=>by
   have:∀ (l:List Nat) (q:l ≠ []),l = seen ++ [i] → l.getLast q = i:=fun l q e=>by subst e; simp
   exact this _ p het.symm
  rw [het]
  repeat refine kn rfl ?_
  refine k_region tok rfl (by kernel_rfl) ?_
  simp only [go_sem,simprocAttr,hne,hH,hel,hgl,hgi]
  refine ⟨hi',?_⟩
  repeat refine kn rfl ?_
  refine k_region tok rfl (by kernel_rfl) ?_
  simp only [go_sem,simprocAttr]
  rw [← het]
  repeat refine kn rfl ?_
  refine k_nil ?_
  have hnd':(seen ++ [i]).Nodup:=List.nodup_append.2 ⟨hnd,by simp,fun x hx y hy e=>by
   simp only [List.mem_singleton] at hy; subst hy; subst e; exact hni hx⟩
  have hlt':∀ x ∈ seen ++ [i],x < w.length:=fun x hx=>by
   rcases List.mem_append.1 hx with hx | hx
   ·exact hlt x hx
   ·simp only [List.mem_singleton] at hx; subst hx; exact hi'
  have hl1:(seen ++ [i]).length = seen.length + 1:=by simp
  have hle':=sub_len' hnd' (q:=List.range w.length) (fun x hx=>by simpa using hlt' x hx)
  rw [List.length_range] at hle'
  have hs1:sumAt w (seen ++ [i]) = sumAt w seen + wAt w i:=by simp [sumAt]
  have hb:=hsb _ hlt' hle'
  refine ⟨w.length - (seen ++ [i]).length,st137 n l k w H (seen ++ [i]),by omega,?_,seen ++ [i],hnd',hlt',rfl,rfl⟩
  refine AWk_kept ?_ ?_ ?_ ?_ <;> repeat' first | exact trivial | refine q0 ?_ | exact qb | exact q1 | exact q2 | exact q3 | exact rfl | refine And.intro ?_ ?_ | exact q4 | exact q5 | exact q6 | exact q7 | exact Inside.ptr _ _ _ (.inr ⟨rfl,rfl⟩) | exact q8 | exact q9 | exact qd | exact Tm.ins _ | exact Tm.inss _ _ | exact Am.ins _ | exact Am.inss _ _ | refine ins_buf_str ?_ | refine Tm.ins_buf ?_ | refine Am.ins_buf ?_ | exact qf
  all_goals first | exact (ins_iter hl).1 | (intro q hq; simp only [ABlk.at_,List.mem_singleton] at hq; subst hq; exact .inl hl) | skip
  simp only [go_sem,simprocAttr,hs1]
  rw [IntWalk.i64_in _ (by omega)]
  exact .refl _
end Go.Proofs.YthgbkalgmicniaaGreatDoor

/- Own slots that are given to a lower level. -/
namespace Go.Abs
theorem k_give {cx:Cx} {c:Code} {k:List Itm} {Q:Exit → AState → Prop} {tm:List (Nat × AV)} {L:List (Nat × ABlk)} {H:AHeap} (j l q:Nat) (x:ABlk) (tm':List (Nat × AV)) (hl:l < cx.n) (hfree:H l q = none) (hj:lkb L j = some x) (hb:x.Below cx.n)
  (h1:AllP (fun p=>Thin cx.n j (lkv tm p.1) ∧ Wk (ren cx.n j l q (lkv tm p.1)) p.2) tm') (hL:AllP (fun p=>AllP (fun a=>Thin cx.n j a) p.2.avs ∧ p.2.at_ = [] ∧ p.2.isRec = false) (delb L j))
  (h:AKc cx (.code c :: k) Q ⟨tm',renL cx.n j l q L,H.upd l q x⟩):AKc cx (.code c :: k) Q ⟨tm,L,H⟩ :=
 k_weak (AWk_give j l q hl hfree hj hb h1.mem (fun p hp=>by
  obtain ⟨g1,g2,g3⟩:=hL.mem p hp
  exact ⟨g1.mem,⟨(fun r hr=>absurd (g2 ▸ hr) (List.not_mem_nil)),g3⟩⟩)) h
end Go.Abs

/- A map's keys, one after the other. -/
namespace Go.Proofs.YthgbkalgmicniaaGreatDoor
open Go.Abs
set_option maxRecDepth 100000
def YAcc (x l:Nat) (S:List Int → Nat → Option ABlk):Prop :=
 ∀ m H ks k,x < m → ks.length ≤ 100000 → (∀ j,H x j = S ks j) → AYields Tryz.prog m l [.int .i64 k] H fun r H1=>r = .bool true ∧ H1 = H.setLv x (S (ks ++ [k]))
theorem setLv_lv {H:AHeap} {x:Nat} {S:Nat → Option ABlk} (j:Nat):H.setLv x S x j = S j:=by simp [AHeap.setLv]
theorem setLv_ne {H:AHeap} {x l:Nat} {S:Nat → Option ABlk} (h:l ≠ x) (j:Nat):H.setLv x S l j = H l j:=by simp [AHeap.setLv,h]
theorem setLv_setLv {H:AHeap} {x:Nat} {S S':Nat → Option ABlk}:(H.setLv x S).setLv x S' = H.setLv x S':=by
 funext l k; simp only [AHeap.setLv]; split <;> rfl
theorem setLv_self {H:AHeap} {x:Nat} {S:Nat → Option ABlk} (h:∀ j,H x j = S j):H.setLv x S = H:=by
 funext l k; simp only [AHeap.setLv]; split
 ·rename_i e; subst e; exact (h k).symm
 ·rfl
theorem full_low {n l:Nat} (h:l < n) (L:List (Nat × ABlk)) (H:AHeap) (k:Nat):full n L H l k = H l k:=by unfold full; rw [if_neg (by omega)]
def st299 (n x l l0 k0:Nat) (w:Wm) (S:List Int → Nat → Option ABlk) (H:AHeap) (seen:List Nat):AState :=
 ⟨[(5,.ptr n 5 0),(0,.fn (.yield l) [])],[(5,.iter l0 k0 w.length seen)],H.setLv x (S (seen.map (kAt w)))⟩
theorem a299 {x l:Nat} {S:List Int → Nat → Option ABlk} (hY:YAcc x l S) (hS:∀ ks k b,S ks k = some b → b.Below (x + 1)) (n:Nat) (H:AHeap) (l0 k0:Nat) (w:Wm) (hl:l0 < x) (hx:x < n) (hw:w.length ≤ 100000) (hH:H l0 k0 = some (.map (encW w))) (h0:∀ j,H x j = S [] j) :
  ACalls Tryz.prog n 299 [.fn (.yield l) [],.iptr [.map l0 k0]] H fun r H'=>∃ ks:List Int,ks.Perm (w.map Prod.fst) ∧ H' = H.setLv x (S ks):=by
 have hne:¬ l0 = n:=by omega
 have hel:(encW w).length = w.length:=by simp [encM]
 have hgd:=encW_getD w
 generalize encW w = es at *
 refine a_fun tok (fun_of Tryz.func299 rfl rfl) (by simp) fun B=>?_
 repeat refine kn rfl ?_
 refine k_region tok rfl (by kernel_rfl) ?_
 simp only [go_sem,simprocAttr,hne,hH]
 repeat refine kn rfl ?_
 refine k_loop (fun m st=>∃ seen:List Nat,seen.Nodup ∧ (∀ i ∈ seen,i < w.length) ∧ m = w.length - seen.length ∧ st = st299 n x l l0 k0 w S H seen) (m0:=w.length) (s0:=st299 n x l l0 k0 w S H []) rfl ?_ ⟨[],by simp,by simp,by simp,rfl⟩ ?_
 ·rw [hel]
  unfold st299
  rw [List.map_nil,setLv_self h0]
  refine AWk_kept ?_ ?_ ?_ ?_ <;> repeat' first | exact trivial | refine q0 ?_ | exact qb | exact q1 | exact q2 | exact q3 | exact rfl | refine And.intro ?_ ?_ | exact q4 | exact q5 | exact q6 | exact q7 | exact Inside.ptr _ _ _ (.inr ⟨rfl,rfl⟩) | exact q8 | exact q9 | exact qd | exact Tm.ins _ | exact Tm.inss _ _ | exact Am.ins _ | exact Am.inss _ _ | refine ins_buf_str ?_ | refine Tm.ins_buf ?_ | refine Am.ins_buf ?_ | exact qf
  all_goals first | exact (ins_iter (show l0 < n by omega)).1 | (intro q hq; simp only [ABlk.at_,List.mem_singleton] at hq; subst hq; exact .inl (show l0 < n by omega)) | exact .fn _ _ (fun i hi=>absurd hi (Nat.not_lt_zero _)) | skip
 rintro m st ⟨seen,hnd,hlt,rfl,rfl⟩
 refine k_st rfl ?_
 have hlen:seen.length ≤ w.length:=by
  have:=sub_len' hnd (q:=List.range w.length) (fun i hi=>by simpa using hlt i hi)
  simpa using this
 have hne':¬ l0 = x:=by omega
 repeat refine kn rfl ?_
 refine k_region tok rfl (by kernel_rfl) ?_
 simp only [go_sem,simprocAttr]
 refine ⟨5,l0,k0,es,seen,rfl,by simp only [go_sem,simprocAttr,hel],by simp only [go_sem,simprocAttr,hne,setLv_ne hne',hH],fun hall=>?_,fun i hi hni=>?_⟩
 ·simp only [go_sem,simprocAttr]
  repeat refine kn rfl ?_
  refine k_cond_f rfl (by simp only [go_sem,simprocAttr]) ?_
  repeat refine kn rfl ?_
  refine k_exit_round rfl rfl rfl ?_
  refine k_nil ⟨by simp [okRes],[],trivial,by simp,seen.map (kAt w),?_,rfl⟩
  have hp:=(seen_perm hnd hlt (fun i hi=>hall i (by omega))).map (kAt w)
  rw [range_kAt] at hp
  exact hp
 ·have hi':i < w.length:=by omega
  have hgi:=hgd i hi'
  simp only [go_sem,simprocAttr,hgi]
  repeat refine kn rfl ?_
  refine k_cond_t rfl (by simp only [go_sem,simprocAttr]) ?_
  obtain ⟨q0,t0,het⟩:∃ h0 t0,seen ++ [i] = h0 :: t0:=by
   cases seen with
   | nil=>exact ⟨i,[],rfl⟩
   | cons x y=>exact ⟨x,y ++ [i],rfl⟩
  have hgl:∀ p,(q0 :: t0).getLast p = i:=fun p=>by
   have:∀ (l:List Nat) (q:l ≠ []),l = seen ++ [i] → l.getLast q = i:=fun l q e=>by subst e; simp
   exact this _ p het.symm
  rw [het]
  repeat refine kn rfl ?_
  refine k_region tok rfl (by kernel_rfl) ?_
  simp only [go_sem,simprocAttr,hne,setLv_ne hne',hH,hel,hgl,hgi]
  refine ⟨hi',?_⟩
  repeat refine kn rfl ?_
  refine k_region tok rfl (by kernel_rfl) ?_
  simp only [go_sem,simprocAttr]
  have hks:seen.map (kAt w) ++ [kAt w i] = (seen ++ [i]).map (kAt w):=by simp
  refine callY (avs:=[.int .i64 (kAt w i)]) (by simp only [go_sem,simprocAttr]) (hY (n + 1) _ (seen.map (kAt w)) (kAt w i) (show x < n + 1 by omega) (by rw [List.length_map]; omega) (fun j=>by rw [full_low (n:=n) hx]; exact setLv_lv j)) (by simp only [go_sem,simprocAttr]) ?_
  rintro r H1 ⟨rfl,rfl⟩
  refine ⟨_,H.setLv x (S ((seen ++ [i]).map (kAt w))),by rw [← full_setLv (show x ≠ n by omega),setLv_setLv,hks],?_,?_⟩
  ·exact fun l' k' b' hl' hb'=>by
    have:=out_setLv (H:=H.setLv x (S (seen.map (kAt w)))) hx (hS ((seen ++ [i]).map (kAt w))) l' k' b' hl'
    rw [setLv_setLv] at this; exact this hb'
  simp only [go_sem,simprocAttr]
  repeat refine kn rfl ?_
  refine k_cond_f rfl (by simp only [go_sem,simprocAttr]) ?_
  refine k_skip rfl ?_
  rw [← het]
  repeat refine kn rfl ?_
  refine k_nil ?_
  have hnd':(seen ++ [i]).Nodup:=List.nodup_append.2 ⟨hnd,by simp,fun x hx y hy e=>by
   simp only [List.mem_singleton] at hy; subst hy; subst e; exact hni hx⟩
  have hlt':∀ x ∈ seen ++ [i],x < w.length:=fun x hx=>by
   rcases List.mem_append.1 hx with hx | hx
   ·exact hlt x hx
   ·simp only [List.mem_singleton] at hx; subst hx; exact hi'
  have hl1:(seen ++ [i]).length = seen.length + 1:=by simp
  have hle':=sub_len' hnd' (q:=List.range w.length) (fun x hx=>by simpa using hlt' x hx)
  rw [List.length_range] at hle'
  refine ⟨w.length - (seen ++ [i]).length,st299 n x l l0 k0 w S H (seen ++ [i]),by omega,?_,seen ++ [i],hnd',hlt',rfl,rfl⟩
  refine AWk_kept ?_ ?_ ?_ ?_ <;> repeat' first | exact trivial | refine q0 ?_ | exact qb | exact q1 | exact q2 | exact q3 | exact rfl | refine And.intro ?_ ?_ | exact q4 | exact q5 | exact q6 | exact q7 | exact Inside.ptr _ _ _ (.inr ⟨rfl,rfl⟩) | exact q8 | exact q9 | exact qd | exact Tm.ins _ | exact Tm.inss _ _ | exact Am.ins _ | exact Am.inss _ _ | refine ins_buf_str ?_ | refine Tm.ins_buf ?_ | refine Am.ins_buf ?_ | exact qf
  all_goals first | exact (ins_iter (show l0 < n by omega)).1 | (intro q hq; simp only [ABlk.at_,List.mem_singleton] at hq; subst hq; exact .inl (show l0 < n by omega)) | exact .fn _ _ (fun i hi=>absurd hi (Nat.not_lt_zero _)) | skip
theorem a224 (n:Nat) (H:AHeap) (l k:Nat) (hl:l < n):PC Tryz.prog n 224 [.map l k] H (.fn (.func 299) [.iptr [.map l k]]):=by
 refine a_fun tok (fun_of Tryz.func224 rfl rfl) (by simp) fun B=>?_
 repeat refine kn rfl ?_
 refine k_region tok rfl (by kernel_rfl) ?_
 simp only [go_sem,simprocAttr]
 repeat refine kn rfl ?_
 refine k_freeze 1 [.map l k] [(1,.iptr [.map l k])] rfl ?_ ?_ trivial ?_
 ·exact ⟨.map _ _ (.inl hl),trivial⟩
 ·exact ⟨.inr ⟨0,rfl,rfl⟩,trivial⟩
 simp only [go_sem,simprocAttr]
 repeat refine kn rfl ?_
 refine k_region tok rfl (by kernel_rfl) ?_
 simp only [go_sem,simprocAttr]
 repeat refine kn rfl ?_
 refine k_ret rfl ?_
 exact post_one (.refl _) (.fn _ _ fun i hi=>(show AllP (fun c=>Below n c) [.iptr [.map l k]] from ⟨below_iptr ⟨.map _ _ hl,trivial⟩,trivial⟩).mem _ (List.getElem_mem hi)) rfl
end Go.Proofs.YthgbkalgmicniaaGreatDoor
