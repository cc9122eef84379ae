/- Library functions, as the layer says them. -/
import Derived.Test.YtpoegdhgdgbmaaaGreatDoorRM10
import Derived.Test.YtpoegdhgdgbmaaaGreatDoorRRows
import Derived.Lib.ItoaLen
set_option linter.all false
namespace Go.Proofs.YtpoegdhgdgbmaaaGreatDoorR
open Go.Abs
set_option maxRecDepth 100000

/-- Behind a run that only lays blocks. -/
theorem _root_.Go.Abs.HRel.below {n : Nat} {H : AHeap} {E : Env} {w w' : World} (h : HRel n H E w) (hb : Go.RowKit.Below w.heap.size w w') (hd : E.qd = true → w.drawn ≤ w'.drawn) : HRel n H E w' ∧ Ext n E w E w' :=
  h.grow (F' := E.F) hb.os hb.tape hb.output hd hb.size (fun b hlt => hb.block b hlt) (fun _ _ _ h => h) (fun b o v hf => by
    have hlt := h.F_lt hf
    have := h.F b o v hf
    simp only [World.cell?, hb.block b hlt] at this ⊢; exact this) (fun _ _ _ => rfl)

/-- A library function that leaves the world alone. -/
theorem pure_same {P : Program} {f : FuncId} {args : List AV} {r : AV} (h : ∀ E w vs, VRs E args vs → ∃ v, VR E r v ∧ Calls P f vs.toArray w fun e w' => e = .returned v ∧ w' = w) : Pure P f args r := fun n H E w vs hr hv => by
  obtain ⟨v, h1, h2⟩ := h E w vs hv
  refine h2.mono ?_
  rintro e w' ⟨rfl, rfl⟩
  exact ⟨r, v, H, E, rfl, ⟨rfl, rfl⟩, h1, hr, .refl _ _ _⟩

/-- The variables of Go's library that are read: the longest needle, the powers of ten. -/
def Tabs (H : AHeap) : Prop := ∃ m t t', H 0 0 = some (.var 0 t [.int .i64 m]) ∧ H 0 1 = some (.var 3 t' (Lib.pow10Tab.map (.int .u64)))

/-- A function that looks at nothing but its arguments and these variables. -/
def PureT (P : Program) (f : FuncId) (args : List AV) (r : AV) : Prop := ∀ n H, 0 < n → Tabs H → PC P n f args H r

theorem Abs.Pure.tabs {P : Program} {f : FuncId} {args : List AV} {r : AV} (h : Pure P f args r) : PureT P f args r := fun n H _ _ => h n H

theorem Tabs.full {n : Nat} {L : List (Nat × ABlk)} {H : AHeap} (h : Tabs H) (hn : 0 < n) : Tabs (full n L H) := by
  obtain ⟨m, t, t', h1, h2⟩ := h
  refine ⟨m, t, t', ?_, ?_⟩ <;> simp only [Abs.full] <;> rw [if_neg (by omega)] <;> assumption

/-- A call of such a function. -/
theorem callT {cx : Cx} {dr : Bool} {o : Oper} {args : List Operand} {ts : List TypeId} {s : AState} {F : AState → Prop} {f : FuncId} {fn : Func} {c : Code} {r : AV} {avs : List AV} (hf : Fun cx.P f fn c)
    (h : PureT cx.P f avs r) (hn : 0 < cx.n) (hT : Tabs s.H) (ha : argsA cx.T (evT s.tmps) args ts = avs) (hF : F ⟨putT s.tmps o.dst r, s.L, s.H⟩) : CallG cx dr o (.func f) args ts s F :=
  callG hf rfl (by rw [List.append_nil, ha]; exact h _ _ (Nat.succ_pos _) (hT.full hn)) hF

theorem a50 (a b : List UInt8) : Pure Tryz.prog 50 [.str a, .str b] (.int .i64 (Lib.compareBytes a b)) := pure_same fun E w vs hv => by
  obtain ⟨v1, r1, rfl, h1, hv⟩ := hv.uncons
  obtain ⟨v2, r2, rfl, h2, hv⟩ := hv.uncons
  rw [hv.of_nil]
  cases h1; cases h2
  exact ⟨_, .int _ _, Any.strings_Compare Tryz.lays106 ⟨a.toArray⟩ ⟨b.toArray⟩ w⟩

theorem pc_of_var {n : Nat} {H : AHeap} {E : Env} {w : World} {l k b : Nat} {t : TypeId} {cs : List AV} (hr : HRel n H E w) (hl : l < n) (h : H l k = some (.var b t cs)) : E.qd = false ∧ ∃ c, w.heap[b]? = some (.cells c t (0, 0)) ∧ VRs E cs c.toList := by
  obtain ⟨h1, _, h2⟩ := hr.blk l k _ hl h
  exact ⟨h1, h2⟩

theorem a146 (s sub : List UInt8) (hs : s.length < 4294967281) : PureT Tryz.prog 146 [.str s, .str sub] (.bool (Lib.contains s sub)) := fun n H hn hT E w vs hr hv => by
  obtain ⟨m, t, t', hm, _⟩ := hT
  obtain ⟨v1, r1, rfl, h1, hv⟩ := hv.uncons
  obtain ⟨v2, r2, rfl, h2, hv⟩ := hv.uncons
  rw [hv.of_nil]
  cases h1; cases h2
  obtain ⟨_, c, hc, hcv⟩ := pc_of_var hr hn hm
  obtain ⟨x, r, hx, hxv, hrn⟩ := hcv.uncons
  have hcell : w.cell? ⟨0, 0, none⟩ = some (.int .i64 m) := by
    cases hxv
    simp only [World.cell?, hc]
    have : c = #[.int .i64 m] := by
      rw [hrn.of_nil] at hx
      exact Array.toList_inj.1 hx
    rw [this]; rfl
  refine (Any.strings_Contains Tryz.lays144 ⟨s.toArray⟩ ⟨sub.toArray⟩ m w (by show s.toArray.size < _; simpa using hs) hcell).mono ?_
  rintro e w' ⟨rfl, rfl⟩
  exact ⟨_, _, H, E, rfl, ⟨rfl, rfl⟩, .bool _, hr, .refl _ _ _⟩

theorem VRs.u64s {E : Env} : ∀ {l : List Int} {vs : List Value}, VRs E (l.map (.int .u64)) vs → vs = l.map (Value.int .u64)
  | [], vs, h => h.of_nil
  | x :: l, vs, h => by
    obtain ⟨v, r, rfl, h1, h2⟩ := VRs.uncons h
    cases h1
    rw [VRs.u64s h2]; rfl

theorem a123 (i : Int) (h0 : -9223372036854775808 ≤ i) (h1 : i ≤ 9223372036854775807) : PureT Tryz.prog 123 [.int .i64 i] (.str (Lib.itoa i)) := fun n H hn hT E w vs hr hv => by
  obtain ⟨m, t, t', _, hm⟩ := hT
  obtain ⟨v1, r1, rfl, hv1, hv⟩ := hv.uncons
  rw [hv.of_nil]
  cases hv1
  obtain ⟨hq, c, hc, hcv⟩ := pc_of_var hr hn hm
  have hg : Tryz.prog.globalNamed (Rows.storeTellsRow.named.getD 3 default) = some 3 := by kernel_rfl
  have htab : Lib.TabIs Tryz.prog w (Rows.storeTellsRow.named.getD 3 default) .u64 Lib.pow10Tab := by
    simp only [Lib.TabIs, World.var?, hg, Option.bind_some, hc]
    exact congrArg some (Array.toList_inj.1 (VRs.u64s hcv))
  refine (Any.strconv_Itoa Tryz.laysM171 i h0 h1 w htab).mono ?_
  rintro e w' ⟨rfl, k, os, rfl⟩
  obtain ⟨hh, hx⟩ := hr.below (w' := Sort.grow (w.drewN k) os) ⟨rfl, rfl, rfl, by simp [Sort.grow, World.drewN], fun b hb => by simp [Sort.grow, World.drewN, Array.getElem?_append, hb]⟩ (fun hq' => by rw [hq] at hq'; cases hq')
  exact ⟨_, _, H, E, rfl, ⟨rfl, rfl⟩, .str _, hh, hx⟩

theorem strs_of {E : Env} {b off : Nat} : ∀ (xs : List (List UInt8)) (c : Nat → Nat → Value), (∀ i (h : i < (xs.map AV.str).length) j (h' : j < ((xs.map AV.str)[i]).cells.length), VR E ((xs.map AV.str)[i]).cells[j] (c i j)) →
    ∀ j x, (xs.map fun s => (⟨s.toArray⟩ : ByteArray))[j]? = some x → c j 0 = .string x := fun xs c h j x hx => by
  rw [List.getElem?_map, Option.map_eq_some_iff] at hx
  obtain ⟨s, hs, rfl⟩ := hx
  obtain ⟨hj, rfl⟩ := List.getElem?_eq_some_iff.1 hs
  have := h j (by simpa using hj) 0 (by simp [AV.cells])
  simp only [List.getElem_map, AV.cells, List.getElem_cons_zero] at this
  generalize c j 0 = y at this
  cases this; rfl

theorem a92 (xs : List (List UInt8)) (sep : List UInt8) (o : Own) (hN : xs.length ≤ 140737488355328) (hl : (Lib.join xs sep).length ≤ 140737488355328) : PureT Tryz.prog 92 [.sl 1 (xs.map .str) o, .str sep] (.str (Lib.join xs sep)) := fun n H hn hT E w vs hr hv => by
  obtain ⟨m, t, t', _, hm⟩ := hT
  obtain ⟨v1, r1, rfl, hv1, hv⟩ := hv.uncons
  obtain ⟨v2, r2, rfl, hv2, hv⟩ := hv.uncons
  rw [hv.of_nil]
  cases hv2
  obtain ⟨hq, _⟩ := pc_of_var hr hn hm
  have fin : ∀ w', Go.RowKit.Below w.heap.size w w' → ∃ r v H' E', Ending.returned (.string ⟨(Lib.join xs sep).toArray⟩) = .returned v ∧ (r = .str (Lib.join xs sep) ∧ H' = H) ∧ VR E' r v ∧ HRel n H' E' w' ∧ Ext n E w E' w' := fun w' hb => by
    obtain ⟨hh, hx⟩ := hr.below hb (fun hq' => by rw [hq] at hq'; cases hq')
    exact ⟨_, _, H, E, rfl, ⟨rfl, rfl⟩, .str _, hh, hx⟩
  cases hx : xs with
  | nil =>
    subst hx
    have hnone : ∀ a c, Calls Tryz.prog 92 #[.slice a 0 c, .string ⟨sep.toArray⟩] w fun e w' => ∃ r v H' E', e = .returned v ∧ (r = .str (Lib.join [] sep) ∧ H' = H) ∧ VR E' r v ∧ HRel n H' E' w' ∧ Ext n E w E' w' := fun a c =>
      (Any.strings_Join_none Tryz.lays156 Tryz.Builder_Extra_156 a c ⟨sep.toArray⟩ w).mono fun e w' ⟨he, hw⟩ => by
        subst hw; rw [he]; exact fin _ (Go.RowKit.Below.refl _ _)
    generalize hxs : AV.sl 1 (List.map AV.str []) o = av at hv1
    cases hv1 <;> cases hxs
    · exact hnone _ _
    · exact hnone _ _
  | cons x r =>
    rw [hx] at hv1 hN hl fin
    generalize hxs : AV.sl 1 (List.map AV.str (x :: r)) o = av at hv1
    cases hv1 <;> cases hxs
    rename_i b off cap c hv' hcap hml hk hc ho
    have hcell : ∀ i, i < (x :: r).length → w.cell? ⟨b, off + i, none⟩ = some (c i 0) := fun i hi => by
      have := hr.F _ _ _ (hc i 0 (by simpa using hi) (by omega))
      simpa using this
    have hlen : (List.map AV.str (x :: r)).length = ((x :: r).map fun s => (⟨s.toArray⟩ : ByteArray)).length := by simp
    have hmm : ((x :: r).map fun s => (⟨s.toArray⟩ : ByteArray)).map (·.data.toList) = x :: r := by
      rw [List.map_map]
      exact (List.map_congr_left (g := fun s => s) (fun s _ => by simp)).trans (List.map_id' _)
    have hj := Any.strings_Join Tryz.lays156 Tryz.Builder_Extra_156 b off cap ((x :: r).map fun s => (⟨s.toArray⟩ : ByteArray)) ⟨sep.toArray⟩ w (fun j y hy => by
      have hlt : j < (x :: r).length := by
        have := (List.getElem?_eq_some_iff.1 hy).1; simpa using this
      rw [hcell j hlt, strs_of (b := b) (off := off) _ c hv' j y hy]) (hr.F_lt (hc 0 0 (by simp) (by omega))) (by simpa using hN) (by simpa using hcap) (by rw [hmm]; exact hl)
    rw [hmm] at hj
    rw [hlen]
    refine Calls.mono hj ?_
    rintro e w' ⟨rfl, hb⟩
    exact fin w' hb
end Go.Proofs.YtpoegdhgdgbmaaaGreatDoorR

/- Shapes and validity. -/
namespace Go.Proofs.YtpoegdhgdgbmaaaGreatDoorR
open Go.Abs
set_option maxRecDepth 100000

def sOps : List UInt8 := [43, 45, 42, 47, 92]
def oper (t : Tm) : Bool := Lib.contains sOps t.name && ((t.name.length : Int) == 1)

/-- The row of a term's kind. -/
def shape (t : Tm) : Bool :=
  if t.kind = 1 then decide (-2147483647 ≤ t.num) && decide (t.num ≤ 2147483647) && (t.name == []) && nargs t 0 0
  else if t.kind = 2 then named t && sym t.name && nargs t 0 0
  else if t.kind = 4 then named t && sym t.name && nargs t 1 8
  else if t.kind = 3 then named t && vname t.name && nargs t 0 0
  else if t.kind = 5 then named t && oper t && (nargs t 2 2 || (t.name == sMinus) && nargs t 1 1)
  else if t.kind = 6 then (t.num == 0) && (t.name == []) && nargs t 2 2
  else false

theorem a107 (t : Tm) (ht : t.Good) : PureT Tryz.prog 107 [t.enc] (.bool (shape t)) := by
  intro n H hn hT
  have hs := ht.name
  refine a_fun tok (fun_of Tryz.func107 rfl rfl) (by simp) fun B => ?_
  repeat refine kn rfl ?_
  refine k_region tok rfl (by kernel_rfl) ?_
  simp only [go_sem, simprocAttr]
  repeat refine kn rfl ?_
  refine k_cut ⟨[(3, .ptr n 3 0), (2, .bool false), (1, .ptr n 1 0)], [(1, .box t.cs), (3, .box [.bool (named t)])], H⟩ ?_ ?_
  · cases h1 : (t.num == 0)
    all_goals
      repeat refine kn rfl ?_
      refine k_region tok rfl (by kernel_rfl) ?_
      simp only [go_sem, simprocAttr, h1]
      repeat refine kn rfl ?_
      refine k_nil ?_
      refine ⟨rfl, ?_⟩
      refine AWk_kept ?_ ?_ ?_ ?_ <;> repeat' first | exact trivial | refine q0 ?_ | exact qb | exact q1 | exact q2 | exact q3 | exact rfl | refine And.intro ?_ ?_ | exact q4 | exact q5 | exact q6 | exact q7 | exact Inside.ptr _ _ _ (.inr ⟨rfl, rfl⟩) | exact q8 | exact q9 | exact qd | exact Tm.ins _ | exact Tm.inss _ _ | exact Am.ins _ | exact Am.inss _ _ | refine ins_buf_str ?_ | refine Tm.ins_buf ?_ | refine Am.ins_buf ?_ | exact qf
      simp only [go_sem, simprocAttr, named, h1, bne]
  repeat refine kn rfl ?_
  refine k_cut ⟨[(4, .ptr n 4 0), (3, .ptr n 3 0), (2, .bool false), (1, .ptr n 1 0)], [(1, .box t.cs), (3, .box [.bool (named t)]), (4, .box [.bool (oper t)])], H⟩ ?_ ?_
  · repeat refine kn rfl ?_
    refine k_region tok rfl (by kernel_rfl) ?_
    simp only [go_sem, simprocAttr]
    refine callT (fun_of Tryz.func146 rfl rfl) (a146 [43, 45, 42, 47, 92] t.name (by decide)) hn hT (by simp only [go_sem, simprocAttr]) ?_
    simp only [go_sem, simprocAttr]
    cases h1 : Lib.contains [43, 45, 42, 47, 92] t.name
    all_goals
      try simp only [go_sem, simprocAttr]
      repeat refine kn rfl ?_
      refine k_nil ?_
      refine ⟨rfl, ?_⟩
      refine AWk_kept ?_ ?_ ?_ ?_ <;> repeat' first | exact trivial | refine q0 ?_ | exact qb | exact q1 | exact q2 | exact q3 | exact rfl | refine And.intro ?_ ?_ | exact q4 | exact q5 | exact q6 | exact q7 | exact Inside.ptr _ _ _ (.inr ⟨rfl, rfl⟩) | exact q8 | exact q9 | exact qd | exact Tm.ins _ | exact Tm.inss _ _ | exact Am.ins _ | exact Am.inss _ _ | refine ins_buf_str ?_ | refine Tm.ins_buf ?_ | refine Am.ins_buf ?_ | exact qf
      simp only [go_sem, simprocAttr, oper, sOps, h1]
  repeat refine kn rfl ?_
  refine k_freeze 1 t.cs [(4, .ptr n 4 0), (3, .ptr n 3 0), (2, .bool false), (1, .iptr t.cs)] rfl ?_ ?_ ?_ ?_
  · exact ⟨.int _ _, .int _ _, .str _, Tm.inss _ _, trivial⟩
  · exact ⟨.inl ⟨.refl _, .ptr _ _ _ (.inr ⟨rfl, by decide⟩)⟩, .inl ⟨.refl _, .ptr _ _ _ (.inr ⟨rfl, by decide⟩)⟩, .inl ⟨.refl _, .bool _⟩, .inr ⟨0, rfl, rfl⟩, trivial⟩
  · exact ⟨ABlk.inside_box ⟨.bool _, trivial⟩, ABlk.inside_box ⟨.bool _, trivial⟩, trivial⟩
  refine k_freeze 3 [.bool (named t)] [(4, .ptr n 4 0), (3, .iptr [.bool (named t)]), (2, .bool false), (1, .iptr t.cs)] rfl ?_ ?_ ?_ ?_
  · exact ⟨.bool _, trivial⟩
  · exact ⟨.inl ⟨.refl _, .ptr _ _ _ (.inr ⟨rfl, by decide⟩)⟩, .inr ⟨0, rfl, rfl⟩, .inl ⟨.refl _, .bool _⟩, .inl ⟨.refl _, Below.inside (below_iptr t.bcs)⟩, trivial⟩
  · exact ⟨ABlk.inside_box ⟨.bool _, trivial⟩, trivial⟩
  refine k_freeze 4 [.bool (oper t)] [(4, .iptr [.bool (oper t)]), (3, .iptr [.bool (named t)]), (2, .bool false), (1, .iptr t.cs)] rfl ?_ ?_ trivial ?_
  · exact ⟨.bool _, trivial⟩
  · exact ⟨.inr ⟨0, rfl, rfl⟩, .inl ⟨.refl _, Below.inside (below_iptr ⟨.bool _, trivial⟩)⟩, .inl ⟨.refl _, .bool _⟩, .inl ⟨.refl _, Below.inside (below_iptr t.bcs)⟩, trivial⟩
  repeat refine kn rfl ?_
  refine k_region tok rfl (by kernel_rfl) ?_
  simp only [go_sem, simprocAttr, putA, findA, findL, AV.kls, klAll, AV.kl, Option.getD_some, List.mem_cons, forall_eq_or_imp, List.not_mem_nil, KL.int.injEq, List.cons.injEq, List.map_cons, Int.reduceEq, false_and, and_false, not_false_eq_true]
  by_cases k1 : t.kind = 1
  · repeat refine kn rfl ?_
    refine k_region tok rfl (by kernel_rfl) ?_
    simp only [go_sem, simprocAttr, lookA, findA, findL, AV.kls, klAll, AV.kl, Option.getD_some, List.mem_cons, forall_eq_or_imp, List.not_mem_nil, KL.int.injEq, List.cons.injEq, List.map_cons, eq_true k1, true_and, and_true, false_and]
    repeat refine kn rfl ?_
    refine k_region tok rfl (by kernel_rfl) ?_
    simp only [go_sem, simprocAttr, bne]
    refine callV (avs := []) rfl (fun_of Tryz.func147 rfl rfl) (a147 t _ _) rfl ?_
    simp only [go_sem, simprocAttr]
    repeat refine kn rfl ?_
    refine k_ret rfl ?_
    refine post_one ?_ (.bool _) rfl
    rw [shape]
    simp only [k1, reduceIte, Int.reduceEq]
    simp only [go_sem, simprocAttr]
    first | exact .refl _ | (simp; exact .refl _)
  by_cases k2 : t.kind = 2
  · repeat refine kn rfl ?_
    refine k_region tok rfl (by kernel_rfl) ?_
    simp only [go_sem, simprocAttr, lookA, findA, findL, AV.kls, klAll, AV.kl, Option.getD_some, List.mem_cons, forall_eq_or_imp, List.not_mem_nil, KL.int.injEq, List.cons.injEq, List.map_cons, eq_false k1, eq_true k2, true_and, and_true, false_and]
    repeat refine kn rfl ?_
    refine k_region tok rfl (by kernel_rfl) ?_
    simp only [go_sem, simprocAttr, bne]
    refine callV (avs := []) rfl (fun_of Tryz.func148 rfl rfl) (a148 t ht _ _) rfl ?_
    simp only [go_sem, simprocAttr]
    repeat refine kn rfl ?_
    refine k_ret rfl ?_
    refine post_one ?_ (.bool _) rfl
    rw [shape]
    simp only [k1, k2, reduceIte, Int.reduceEq]
    simp only [go_sem, simprocAttr]
    first | exact .refl _ | (simp; exact .refl _)
  by_cases k3 : t.kind = 3
  · repeat refine kn rfl ?_
    refine k_region tok rfl (by kernel_rfl) ?_
    simp only [go_sem, simprocAttr, lookA, findA, findL, AV.kls, klAll, AV.kl, Option.getD_some, List.mem_cons, forall_eq_or_imp, List.not_mem_nil, KL.int.injEq, List.cons.injEq, List.map_cons, eq_false k1, eq_false k2, eq_true k3, true_and, and_true, false_and]
    repeat refine kn rfl ?_
    refine k_region tok rfl (by kernel_rfl) ?_
    simp only [go_sem, simprocAttr, bne]
    refine callV (avs := []) rfl (fun_of Tryz.func149 rfl rfl) (a149 t ht _ _) rfl ?_
    simp only [go_sem, simprocAttr]
    repeat refine kn rfl ?_
    refine k_ret rfl ?_
    refine post_one ?_ (.bool _) rfl
    rw [shape]
    simp only [k1, k2, k3, reduceIte, Int.reduceEq]
    simp only [go_sem, simprocAttr]
    first | exact .refl _ | (simp; exact .refl _)
  by_cases k4 : t.kind = 4
  · repeat refine kn rfl ?_
    refine k_region tok rfl (by kernel_rfl) ?_
    simp only [go_sem, simprocAttr, lookA, findA, findL, AV.kls, klAll, AV.kl, Option.getD_some, List.mem_cons, forall_eq_or_imp, List.not_mem_nil, KL.int.injEq, List.cons.injEq, List.map_cons, eq_false k1, eq_false k2, eq_false k3, eq_true k4, true_and, and_true, false_and]
    repeat refine kn rfl ?_
    refine k_region tok rfl (by kernel_rfl) ?_
    simp only [go_sem, simprocAttr, bne]
    refine callV (avs := []) rfl (fun_of Tryz.func151 rfl rfl) (a151 t ht _ _) rfl ?_
    simp only [go_sem, simprocAttr]
    repeat refine kn rfl ?_
    refine k_ret rfl ?_
    refine post_one ?_ (.bool _) rfl
    rw [shape]
    simp only [k1, k2, k3, k4, reduceIte, Int.reduceEq]
    simp only [go_sem, simprocAttr]
    first | exact .refl _ | (simp; exact .refl _)
  by_cases k5 : t.kind = 5
  · repeat refine kn rfl ?_
    refine k_region tok rfl (by kernel_rfl) ?_
    simp only [go_sem, simprocAttr, lookA, findA, findL, AV.kls, klAll, AV.kl, Option.getD_some, List.mem_cons, forall_eq_or_imp, List.not_mem_nil, KL.int.injEq, List.cons.injEq, List.map_cons, eq_false k1, eq_false k2, eq_false k3, eq_false k4, eq_true k5, true_and, and_true, false_and]
    repeat refine kn rfl ?_
    refine k_region tok rfl (by kernel_rfl) ?_
    simp only [go_sem, simprocAttr, bne]
    refine callV (avs := []) rfl (fun_of Tryz.func152 rfl rfl) (a152 t (oper t) _ _) rfl ?_
    simp only [go_sem, simprocAttr]
    repeat refine kn rfl ?_
    refine k_ret rfl ?_
    refine post_one ?_ (.bool _) rfl
    rw [shape]
    simp only [k1, k2, k3, k4, k5, reduceIte, Int.reduceEq]
    simp only [go_sem, simprocAttr]
    first | exact .refl _ | (simp; exact .refl _)
  by_cases k6 : t.kind = 6
  · repeat refine kn rfl ?_
    refine k_region tok rfl (by kernel_rfl) ?_
    simp only [go_sem, simprocAttr, lookA, findA, findL, AV.kls, klAll, AV.kl, Option.getD_some, List.mem_cons, forall_eq_or_imp, List.not_mem_nil, KL.int.injEq, List.cons.injEq, List.map_cons, eq_false k1, eq_false k2, eq_false k3, eq_false k4, eq_false k5, eq_true k6, true_and, and_true, false_and]
    repeat refine kn rfl ?_
    refine k_region tok rfl (by kernel_rfl) ?_
    simp only [go_sem, simprocAttr, bne]
    refine callV (avs := []) rfl (fun_of Tryz.func153 rfl rfl) (a153 t _ _) rfl ?_
    simp only [go_sem, simprocAttr]
    repeat refine kn rfl ?_
    refine k_ret rfl ?_
    refine post_one ?_ (.bool _) rfl
    rw [shape]
    simp only [k1, k2, k3, k4, k5, k6, reduceIte, Int.reduceEq]
    simp only [go_sem, simprocAttr]
    first | exact .refl _ | (simp; exact .refl _)
  repeat refine kn rfl ?_
  refine k_region tok rfl (by kernel_rfl) ?_
  simp only [go_sem, simprocAttr, lookA, findA, findL, AV.kls, klAll, AV.kl, Option.getD_some, List.mem_cons, forall_eq_or_imp, List.not_mem_nil, KL.int.injEq, List.cons.injEq, List.map_cons, eq_false k1, eq_false k2, eq_false k3, eq_false k4, eq_false k5, eq_false k6, zeroA]
  repeat refine kn rfl ?_
  refine k_region tok rfl (by kernel_rfl) ?_
  simp only [go_sem, simprocAttr, bne]
  repeat refine kn rfl ?_
  refine k_ret rfl ?_
  refine post_one ?_ (.bool _) rfl
  rw [shape]
  simp only [k1, k2, k3, k4, k5, k6, reduceIte]
  simp only [go_sem, simprocAttr]
  exact .refl _
end Go.Proofs.YtpoegdhgdgbmaaaGreatDoorR

/- Validity, as the program says it. -/
namespace Go.Proofs.YtpoegdhgdgbmaaaGreatDoorR
open Go.Abs
set_option maxRecDepth 100000

theorem Tabs.up {G H : AHeap} (h : Tabs H) (hG : ∀ k, G 0 k = H 0 k) : Tabs G := by
  obtain ⟨m, t, t', h1, h2⟩ := h
  exact ⟨m, t, t', (hG 0).trans h1, (hG 1).trans h2⟩

/-- A condition on terms, as a function value. -/
def PredIs (f : Nat) (caps : List AV) (p : Tm → Bool) : Prop := (∃ fn c, Fun Tryz.prog f fn c) ∧ ∀ t : Tm, t.Good → PureT Tryz.prog f (t.enc :: caps) (.bool (p t))

theorem a71 (t : Tm) (ht : t.Good) (f : Nat) (p : Tm → Bool) (hp : PredIs f [] p) : PureT Tryz.prog 71 [t.enc, .fn (.func f) []] (.bool (t.all p)) := by
  intro n H hn hT
  obtain ⟨⟨fn, c, hf⟩, hp⟩ := hp
  refine a_fun tok (fun_of Tryz.func71 rfl rfl) (by simp) fun B => ?_
  repeat refine kn rfl ?_
  refine k_region tok rfl (by kernel_rfl) ?_
  simp only [go_sem, simprocAttr]
  repeat refine kn rfl ?_
  refine k_region tok rfl (by kernel_rfl) ?_
  simp only [go_sem, simprocAttr]
  refine callP (fun_of Tryz.func104 rfl rfl) (a104 t) (by simp only [go_sem, simprocAttr]) ?_
  simp only [go_sem, simprocAttr]
  repeat refine kn rfl ?_
  refine k_terms (d := .ret) 100 t ht p [(2, .box t.cs), (3, .box [.fn (.func f) []]), (4, .box [.bool false])] rfl rfl rfl (by simp) (fun l => ?_) ?_ ?_ ?_
  · have hb : ∀ k, Below k (.fn (.func f) []) := fun k => .fn _ _ fun i h => absurd h (Nat.not_lt_zero _)
    have ht : ∀ k, AllP (fun c => Below k c) t.cs := fun k => ⟨.int _ _, .int _ _, .str _, below_sla (fun x hx => by obtain ⟨u, _, rfl⟩ := List.mem_map.1 hx; exact u.blw k), trivial⟩
    refine ⟨ABlk.below_box (ht _), ABlk.below_box ⟨hb _, trivial⟩, ABlk.below_box ⟨.bool _, trivial⟩, ABlk.below_lrec ?_, trivial⟩
    refine ⟨.fn _ _ (fun i hi => ?_), t.blw _, .ptr _ _ _ (Nat.lt_succ_self n), .ptr _ _ _ (Nat.lt_succ_self n), .ptr _ _ _ (Nat.lt_succ_self n), t.blw _, hb _, trivial⟩
    have : i = 0 := by simp at hi; exact hi
    subst this
    exact .iptr _ (fun j hj => (ht _).mem _ (List.getElem_mem hj))
  · intro l m B' t' H' ht' hm hlv hlow
    have hne : ¬ n = m := by omega
    have h3 := hlv 3
    have h4 := hlv 4
    have h100 := hlv 100
    simp only [go_sem, simprocAttr] at h3 h4 h100
    repeat refine kn rfl ?_
    refine k_region tok rfl (by kernel_rfl) ?_
    simp only [go_sem, simprocAttr]
    repeat refine kn rfl ?_
    refine k_nil ?_
    refine ⟨rfl, h100, ?_⟩
    simp only [go_sem, simprocAttr]
    repeat refine kn rfl ?_
    repeat refine kn rfl ?_
    refine k_region tok rfl (by kernel_rfl) ?_
    simp only [go_sem, simprocAttr, hne, h3, full, AHeap.upd, (show ¬ m = n by omega)]
    refine callV (avs := [t'.enc]) (by simp only [go_sem, simprocAttr, hne, h3, full, AHeap.upd]) hf (hp t' ht' _ _ (Nat.succ_pos _) (hT.up (by intro k; simp only [full, AHeap.upd]; rw [if_neg (by omega), if_neg (by omega), hlow 0 k hn]))) (by simp only [go_sem, simprocAttr]) ?_
    have hb4 : ABlk.Below m (.box [.bool false]) := ABlk.below_box ⟨.bool _, trivial⟩
    simp only [go_sem, simprocAttr]
    cases h1 : p t' with
    | false =>
      repeat refine kn rfl ?_
      refine k_cond_t rfl (by simp only [go_sem, simprocAttr, h1]) ?_
      repeat refine kn rfl ?_
      refine k_region tok rfl (by kernel_rfl) ?_
      simp only [go_sem, simprocAttr, hne, h4, full, AHeap.upd, setL, setH, (show ¬ m = n by omega)]
      refine ⟨.inr hb4, ?_⟩
      repeat refine kn rfl ?_
      refine k_ret rfl ?_
      refine ⟨by simp [AHeap.upd], rfl, eq_setLv (fun j => ?_) (fun l' j hne => ?_)⟩
      · by_cases e1 : j = 100
        · subst e1; simp [AHeap.upd]
        · by_cases e2 : j = 4
          · subst e2; simp [AHeap.upd]
          · simp [AHeap.upd, e1, e2, hlv j, setb, lkb, Ne.symm e1, Ne.symm e2]
      · simp [AHeap.upd, hne]
    | true =>
      repeat refine kn rfl ?_
      refine k_cond_f rfl (by simp only [go_sem, simprocAttr, h1]) ?_
      repeat refine kn rfl ?_
      repeat refine kn rfl ?_
      refine k_nil ?_
      exact ⟨by simp [AHeap.upd], rfl, by simp only [if_true]; exact upd_back h100⟩
  · intro l hall
    repeat refine kn rfl ?_
    repeat refine kn rfl ?_
    refine k_region tok rfl (by kernel_rfl) ?_
    simp only [go_sem, simprocAttr]
    repeat refine kn rfl ?_
    refine k_ret rfl ?_
    refine post_cell (.inl rfl) _ n 4 0 [.bool true] (by simp only [go_sem, simprocAttr]) (by simp only [go_sem, simprocAttr, full]) rfl (by simp) (by simp) ?_ (.bool _) rfl
    rw [hall]; exact .refl _
  · intro l hall
    repeat refine kn rfl ?_
    refine k_ret rfl ?_
    refine post_cell (.inl rfl) _ n 4 0 [.bool false] (by simp only [go_sem, simprocAttr]) (by simp only [go_sem, simprocAttr, full]) rfl (by simp) (by simp) ?_ (.bool _) rfl
    rw [hall]; exact .refl _

theorem a106 (t : Tm) (ht : t.Good) : PureT Tryz.prog 106 [t.enc] (.bool (shape t)) := by
  intro n H hn hT
  refine a_fun tok (fun_of Tryz.func106 rfl rfl) (by simp) fun B => ?_
  repeat refine kn rfl ?_
  refine k_region tok rfl (by kernel_rfl) ?_
  simp only [go_sem, simprocAttr]
  repeat refine kn rfl ?_
  refine k_region tok rfl (by kernel_rfl) ?_
  simp only [go_sem, simprocAttr]
  refine callT (fun_of Tryz.func107 rfl rfl) (a107 t ht) hn hT (by simp only [go_sem, simprocAttr]) ?_
  simp only [go_sem, simprocAttr]
  repeat refine kn rfl ?_
  refine k_ret rfl ?_
  refine post_one ?_ (.bool _) rfl
  try simp only [go_sem, simprocAttr]
  exact .refl _

theorem pred106 : PredIs 106 [] shape := ⟨⟨_, _, fun_of Tryz.func106 rfl rfl⟩, fun t ht => a106 t ht⟩

def plain (t : Tm) : Bool := (t.kind == 1) || (t.kind == 2) || (t.kind == 4)

theorem a70 (t : Tm) : Pure Tryz.prog 70 [t.enc] (.bool (plain t)) := by
  intro n H
  refine a_fun tok (fun_of Tryz.func70 rfl rfl) (by simp) fun B => ?_
  repeat refine kn rfl ?_
  refine k_region tok rfl (by kernel_rfl) ?_
  simp only [go_sem, simprocAttr]
  cases h1 : (t.kind == 1) <;> cases h2 : (t.kind == 2) <;> cases h3 : (t.kind == 4)
  all_goals
    repeat refine kn rfl ?_
    refine k_region tok rfl (by kernel_rfl) ?_
    simp only [go_sem, simprocAttr, h1, h2, h3]
    repeat refine kn rfl ?_
    refine k_ret rfl ?_
    refine post_one ?_ (.bool _) rfl
    try simp only [go_sem, simprocAttr, plain, h1, h2, h3, Bool.true_or, Bool.or_true, Bool.false_or, Bool.or_false]
    exact .refl _

theorem pred70 : PredIs 70 [] plain := ⟨⟨_, _, fun_of Tryz.func70 rfl rfl⟩, fun t _ => Abs.Pure.tabs (a70 t)⟩

end Go.Proofs.YtpoegdhgdgbmaaaGreatDoorR

/- Depth, validity, values. -/
namespace Go.Proofs.YtpoegdhgdgbmaaaGreatDoorR
open Go.Abs
set_option maxRecDepth 100000

/-- Depth. -/
def dep : Tm → Int
  | .mk _ _ _ l => deps l 0 + 1
where deps : List Tm → Int → Int
  | [], m => m
  | t :: r, m => deps r (if dep t > m then dep t else m)

theorem deps_take (l : List Tm) : ∀ (i : Nat) (m : Int) (h : i < l.length), dep.deps (l.take (i + 1)) m = (if dep l[i] > dep.deps (l.take i) m then dep l[i] else dep.deps (l.take i) m) := by
  induction l with
  | nil => intro i m h; exact absurd h (Nat.not_lt_zero _)
  | cons t r ih =>
    intro i m h
    cases i with
    | zero => rfl
    | succ i => simp only [List.take_succ_cons, dep.deps, List.getElem_cons_succ]; exact ih i _ (by simpa using h)

theorem dep_eq (t : Tm) : dep t = dep.deps t.args 0 + 1 := by cases t; rfl

theorem dep_sz : ∀ t : Tm, 1 ≤ dep t ∧ dep t ≤ t.sz
  | .mk k n s l => by
    have hl : ∀ (r : List Tm), (∀ u ∈ r, u ∈ l) → ∀ m : Int, 0 ≤ m → 0 ≤ dep.deps r m ∧ dep.deps r m ≤ max m (Tm.sz.szs r) := by
      intro r
      induction r with
      | nil => intro _ m hm; simp only [dep.deps, Tm.sz.szs]; omega
      | cons t r ih =>
        intro hr m hm
        have ht := dep_sz t
        have := ih (fun u hu => hr u (List.mem_cons_of_mem _ hu)) (if dep t > m then dep t else m) (by split <;> omega)
        simp only [dep.deps, Tm.sz.szs]
        by_cases hc : dep t > m
        · rw [if_pos hc] at this ⊢; omega
        · rw [if_neg hc] at this ⊢; omega
    have := hl l (fun u h => h) 0 (Int.le_refl _)
    simp only [dep, Tm.sz]
    omega
termination_by t => SizeOf.sizeOf t
decreasing_by
  have := List.sizeOf_lt_of_mem (hr t (by simp))
  simp only [Tm.mk.sizeOf_spec]; omega

theorem dep_lt {t : Tm} (ht : t.Good) : dep t ≤ 1000000 := by have := (dep_sz t).2; have := ht.sz; omega

def st105 (n : Nat) (t : Tm) (H : AHeap) (i : Nat) : AState :=
  ⟨[(9, .int .i64 i), (8, .int .i64 t.args.length), (7, .sl 4 (t.args.map Tm.enc) .any), (3, .int .i64 (dep.deps (t.args.take i) 0)), (1, .ptr n 1 0)], [(1, .box t.cs)], H⟩

theorem a105 (t : Tm) (ht : t.Good) : Pure Tryz.prog 105 [t.enc] (.int .i64 (dep t)) := by
  intro n H
  have hd := dep_eq t
  have hg := dep_sz t
  have hb := dep_lt ht
  have hl := ht.len
  refine a_fun tok (fun_of Tryz.func105 rfl rfl) (by simp) fun B => ?_
  repeat refine kn rfl ?_
  refine k_region tok rfl (by kernel_rfl) ?_
  simp only [go_sem, simprocAttr]
  repeat refine kn rfl ?_
  refine k_region tok rfl (by kernel_rfl) ?_
  simp only [go_sem, simprocAttr]
  repeat refine kn rfl ?_
  refine k_region tok rfl (by kernel_rfl) ?_
  simp only [go_sem, simprocAttr]
  repeat refine kn rfl ?_
  refine k_loop_ix (st105 n t H) t.args.length rfl ?_ ?_
  · refine AWk_kept ?_ ?_ ?_ ?_ <;> repeat' first | exact trivial | refine q0 ?_ | exact qb | exact q1 | exact q2 | exact q3 | exact rfl | refine And.intro ?_ ?_ | exact q4 | exact q5 | exact q6 | exact q7 | exact Inside.ptr _ _ _ (.inr ⟨rfl, rfl⟩) | exact q8 | exact q9 | exact qd | exact Tm.ins _ | exact Tm.inss _ _ | exact Am.ins _ | exact Am.inss _ _ | refine ins_buf_str ?_ | refine Tm.ins_buf ?_ | refine Am.ins_buf ?_ | exact qf
  intro i hi
  refine k_st rfl ?_
  rcases Nat.lt_or_ge i t.args.length with h | h
  · repeat refine kn rfl ?_
    refine k_region tok rfl (by kernel_rfl) ?_
    simp only [go_sem, simprocAttr, h]
    repeat refine kn rfl ?_
    refine k_cond_t rfl (by simp only [go_sem, simprocAttr]) ?_
    repeat refine kn rfl ?_
    refine k_region tok rfl (by kernel_rfl) ?_
    simp only [go_sem, simprocAttr, Tm.getD_enc _ _ h, h]
    repeat refine kn rfl ?_
    refine k_region tok rfl (by kernel_rfl) ?_
    simp only [go_sem, simprocAttr]
    refine callP (fun_of Tryz.func105 rfl rfl) (a105 t.args[i] (ht.arg (List.getElem_mem h))) (by simp only [go_sem, simprocAttr]) ?_
    simp only [go_sem, simprocAttr]
    repeat refine kn rfl ?_
    refine k_region tok rfl (by kernel_rfl) ?_
    simp only [go_sem, simprocAttr]
    repeat refine kn rfl ?_
    refine k_nil ?_
    refine AWk_kept ?_ ?_ ?_ ?_ <;> repeat' first | exact trivial | refine q0 ?_ | exact qb | exact q1 | exact q2 | exact q3 | exact rfl | refine And.intro ?_ ?_ | exact q4 | exact q5 | exact q6 | exact q7 | exact Inside.ptr _ _ _ (.inr ⟨rfl, rfl⟩) | exact q8 | exact q9 | exact qd | exact Tm.ins _ | exact Tm.inss _ _ | exact Am.ins _ | exact Am.inss _ _ | refine ins_buf_str ?_ | refine Tm.ins_buf ?_ | refine Am.ins_buf ?_ | exact qf
    · simp only [go_sem, simprocAttr]
      rw [IntWalk.i64_in _ (by omega)]; exact Wk.refl _
    · simp only [go_sem, simprocAttr]
      rw [deps_take _ _ _ h]; exact Wk.refl _
  · repeat refine kn rfl ?_
    refine k_region tok rfl (by kernel_rfl) ?_
    simp only [go_sem, simprocAttr, Nat.not_lt.2 h]
    repeat refine kn rfl ?_
    refine k_cond_f rfl (by simp only [go_sem, simprocAttr]) ?_
    repeat refine kn rfl ?_
    refine k_exit_round rfl rfl rfl ?_
    repeat refine kn rfl ?_
    refine k_region tok rfl (by kernel_rfl) ?_
    simp only [go_sem, simprocAttr]
    repeat refine kn rfl ?_
    refine k_ret rfl ?_
    have hi : i = t.args.length := by omega
    subst hi
    refine post_one ?_ (.int _ _) rfl
    rw [hd]
    simp only [go_sem, simprocAttr, List.take_length]
    rw [IntWalk.i64_in _ (by omega)]
    exact Wk.refl _
termination_by SizeOf.sizeOf t
decreasing_by exact Tm.size_lt (List.getElem_mem h)

def validT (t : Tm) : Bool := decide (dep t ≤ 12) && t.all shape

theorem a72 (t : Tm) (ht : t.Good) : PureT Tryz.prog 72 [t.enc] (.bool (validT t)) := by
  intro n H hn hT
  refine a_fun tok (fun_of Tryz.func72 rfl rfl) (by simp) fun B => ?_
  repeat refine kn rfl ?_
  refine k_region tok rfl (by kernel_rfl) ?_
  simp only [go_sem, simprocAttr]
  repeat refine kn rfl ?_
  refine k_region tok rfl (by kernel_rfl) ?_
  simp only [go_sem, simprocAttr]
  refine callP (fun_of Tryz.func105 rfl rfl) (a105 t ht) (by simp only [go_sem, simprocAttr]) ?_
  simp only [go_sem, simprocAttr]
  cases h1 : decide (dep t ≤ 12) with
  | false =>
    simp only [go_sem, simprocAttr]
    repeat refine kn rfl ?_
    refine k_ret rfl ?_
    refine post_one ?_ (.bool _) rfl
    try simp only [go_sem, simprocAttr, validT, h1]
    exact .refl _
  | true =>
    simp only [go_sem, simprocAttr]
    refine callT (fun_of Tryz.func71 rfl rfl) (a71 t ht 106 shape pred106) hn hT (by simp only [go_sem, simprocAttr]) ?_
    simp only [go_sem, simprocAttr]
    repeat refine kn rfl ?_
    refine k_ret rfl ?_
    refine post_one ?_ (.bool _) rfl
    try simp only [go_sem, simprocAttr, validT, h1]
    exact .refl _

def valueT (t : Tm) : Bool := t.all plain && validT t

theorem a37 (t : Tm) (ht : t.Good) : PureT Tryz.prog 37 [t.enc] (.bool (valueT t)) := by
  intro n H hn hT
  refine a_fun tok (fun_of Tryz.func37 rfl rfl) (by simp) fun B => ?_
  repeat refine kn rfl ?_
  refine k_region tok rfl (by kernel_rfl) ?_
  simp only [go_sem, simprocAttr]
  repeat refine kn rfl ?_
  refine k_region tok rfl (by kernel_rfl) ?_
  simp only [go_sem, simprocAttr]
  repeat refine kn rfl ?_
  refine k_region tok rfl (by kernel_rfl) ?_
  simp only [go_sem, simprocAttr]
  refine callT (fun_of Tryz.func71 rfl rfl) (a71 t ht 70 plain pred70) hn hT (by simp only [go_sem, simprocAttr]) ?_
  simp only [go_sem, simprocAttr]
  cases h1 : t.all plain with
  | false =>
    simp only [go_sem, simprocAttr]
    repeat refine kn rfl ?_
    refine k_ret rfl ?_
    refine post_one ?_ (.bool _) rfl
    try simp only [go_sem, simprocAttr, valueT, h1]
    exact .refl _
  | true =>
    simp only [go_sem, simprocAttr]
    refine callT (fun_of Tryz.func72 rfl rfl) (a72 t ht) hn hT (by simp only [go_sem, simprocAttr]) ?_
    simp only [go_sem, simprocAttr]
    repeat refine kn rfl ?_
    refine k_ret rfl ?_
    refine post_one ?_ (.bool _) rfl
    try simp only [go_sem, simprocAttr, valueT, h1]
    exact .refl _
end Go.Proofs.YtpoegdhgdgbmaaaGreatDoorR

/- The text of a value. -/
namespace Go.Proofs.YtpoegdhgdgbmaaaGreatDoorR
open Go.Abs
set_option maxRecDepth 100000

/-- The text of a value. -/
def txt : Tm → List UInt8
  | .mk k n s l => if k = 1 then Lib.itoa n else if k = 4 then ((s ++ [40]) ++ Lib.join (txts l) [44]) ++ [41] else s
where txts : List Tm → List (List UInt8)
  | [] => []
  | t :: r => txt t :: txts r

theorem txts_eq : ∀ l : List Tm, txt.txts l = l.map txt
  | [] => rfl
  | t :: r => by rw [txt.txts, txts_eq r]; rfl

theorem txt_eq (t : Tm) : txt t = if t.kind = 1 then Lib.itoa t.num else if t.kind = 4 then ((t.name ++ [40]) ++ Lib.join (t.args.map txt) [44]) ++ [41] else t.name := by
  cases t; rw [txt, txts_eq]; rfl

/-- A value: of a plain kind and of its row's shape, at every place. -/
def okv (t : Tm) : Bool := plain t && shape t

theorem all_and (p q : Tm → Bool) : ∀ t : Tm, t.all (fun u => p u && q u) = (t.all p && t.all q)
  | .mk k n s l => by
    have hl : ∀ r : List Tm, (∀ u ∈ r, u ∈ l) → Tm.all.alls (fun u => p u && q u) r = (Tm.all.alls p r && Tm.all.alls q r) := by
      intro r
      induction r with
      | nil => intro _; rfl
      | cons t r ih =>
        intro hr
        have ht := all_and p q t
        simp only [Tm.all.alls, ht, ih (fun u hu => hr u (List.mem_cons_of_mem _ hu))]
        cases t.all p <;> cases t.all q <;> simp
    simp only [Tm.all, hl l (fun u h => h)]
    cases p (.mk k n s l) <;> cases q (.mk k n s l) <;> simp
termination_by t => SizeOf.sizeOf t
decreasing_by
  have := List.sizeOf_lt_of_mem (hr t (by simp))
  simp only [Tm.mk.sizeOf_spec]; omega

theorem all_here {p : Tm → Bool} {t : Tm} (h : t.all p = true) : p t = true := by
  rw [Tm.all_eq, Bool.and_eq_true] at h; exact h.1
theorem all_arg {p : Tm → Bool} {t u : Tm} (h : t.all p = true) (hu : u ∈ t.args) : u.all p = true := by
  rw [Tm.all_eq, Bool.and_eq_true, Tm.alls_iff, List.all_eq_true] at h; exact h.2 u hu

theorem sym_len {s : List UInt8} (h : sym s = true) : s.length ≤ 32 := by
  simp only [sym, wd, Bool.and_eq_true, decide_eq_true_eq] at h
  exact h.1.2.2

/-- What is known of a value's own fields. -/
theorem okv_cases {t : Tm} (h : okv t = true) : (t.kind = 1 ∧ -2147483647 ≤ t.num ∧ t.num ≤ 2147483647 ∧ t.name = [] ∧ t.args = []) ∨
    (t.kind = 2 ∧ t.num = 0 ∧ sym t.name = true ∧ t.args = []) ∨ (t.kind = 4 ∧ t.num = 0 ∧ sym t.name = true ∧ 1 ≤ t.args.length ∧ t.args.length ≤ 8) := by
  simp only [okv, plain, Bool.and_eq_true, Bool.or_eq_true, beq_iff_eq] at h
  obtain ⟨(h1 | h1) | h1, h2⟩ := h
  · refine .inl ⟨h1, ?_⟩
    simp [shape, h1, nargs] at h2
    exact ⟨h2.1.1.1, h2.1.1.2, h2.1.2, h2.2⟩
  · refine .inr (.inl ⟨h1, ?_⟩)
    simp [shape, h1, nargs, named] at h2
    exact ⟨h2.1.1.1, h2.1.2, h2.2⟩
  · refine .inr (.inr ⟨h1, ?_⟩)
    simp [shape, h1, nargs, named] at h2
    refine ⟨h2.1.1.1, h2.1.2, ?_, ?_⟩ <;> omega

theorem txt_len : ∀ t : Tm, t.all okv = true → (txt t).length ≤ 60 * t.sz
  | .mk k n s l => fun h => by
    have hl : ∀ r : List Tm, (∀ u ∈ r, u ∈ l) → Lib.lens (r.map txt) ≤ 60 * Tm.sz.szs r := by
      intro r
      induction r with
      | nil => intro _; simp [Lib.lens]
      | cons t r ih =>
        intro hr
        have := txt_len t (all_arg (t := .mk k n s l) h (hr t (by simp)))
        have := ih (fun u hu => hr u (List.mem_cons_of_mem _ hu))
        simp only [List.map_cons, Lib.lens, Tm.sz.szs, List.sum_cons] at *
        omega
    rw [txt_eq]
    rcases okv_cases (all_here h) with ⟨h1, h2, h3, h4, h5⟩ | ⟨h1, h2, h3, h4⟩ | ⟨h1, h2, h3, h4, h5⟩
    · rw [if_pos h1]
      have := Lib.itoa_length_le (Tm.mk k n s l).num (by omega) (by omega)
      have := (Tm.mk k n s l).sz_pos
      omega
    · rw [if_neg (by omega), if_neg (by omega)]
      have := sym_len h3
      have := (Tm.mk k n s l).sz_pos
      omega
    · rw [if_neg (by omega), if_pos h1]
      have h6 := sym_len h3
      have h7 := hl l (fun u h => h)
      have h8 : (Tm.mk k n s l).args = l := rfl
      have h9 : (Tm.mk k n s l).name = s := rfl
      rw [h8] at h4 h5 ⊢
      rw [h9] at h6 ⊢
      simp only [List.length_append, List.length_cons, List.length_nil, Tm.sz]
      cases hc : l with
      | nil => rw [hc] at h4; simp at h4
      | cons x r =>
        rw [hc] at h7 h5
        rw [List.map_cons, Lib.join_length]
        simp only [List.map_cons, List.length_cons, List.length_nil, List.length_map] at *
        omega
termination_by t => SizeOf.sizeOf t
decreasing_by
  have := List.sizeOf_lt_of_mem (hr t (by simp))
  simp only [Tm.mk.sizeOf_spec]; omega

def st94 (t : Tm) (n : Nat) (H : AHeap) (i : Nat) : AState :=
  ⟨[(21, .int .i64 i), (20, .int .i64 t.args.length), (19, .sl 4 (t.args.map Tm.enc) .any), (3, .sl 1 (((t.args.take i).map txt).map .str) (.buf n 200)), (1, .ptr n 1 0)], [(1, .box t.cs), (200, .buf 9 1 i)], H⟩

theorem a94 (t : Tm) (ht : t.Good) (hv : t.all okv = true) : PureT Tryz.prog 94 [t.enc] (.str (txt t)) := by
  intro n H hn hT
  have hs := ht.name
  have hlen := ht.len
  refine a_fun tok (fun_of Tryz.func94 rfl rfl) (by simp) fun B => ?_
  repeat refine kn rfl ?_
  refine k_region tok rfl (by kernel_rfl) ?_
  simp only [go_sem, simprocAttr]
  repeat refine kn rfl ?_
  refine k_region tok rfl (by kernel_rfl) ?_
  simp only [go_sem, simprocAttr]
  repeat refine kn rfl ?_
  rcases okv_cases (all_here hv) with ⟨h1, h2, h3, h4, h5⟩ | ⟨h1, h2, h3, h4⟩ | ⟨h1, h2, h3, h4, h5⟩
  · have e1 : (t.kind == 1) = true := by simp [h1]
    repeat refine kn rfl ?_
    refine k_region tok rfl (by kernel_rfl) ?_
    simp only [go_sem, simprocAttr, e1]
    repeat refine kn rfl ?_
    refine k_cond_t rfl (by simp only [go_sem, simprocAttr]) ?_
    repeat refine kn rfl ?_
    refine k_region tok rfl (by kernel_rfl) ?_
    simp only [go_sem, simprocAttr]
    refine callT (fun_of Tryz.func123 rfl rfl) (a123 t.num (by omega) (by omega)) hn hT (by simp only [go_sem, simprocAttr]) ?_
    simp only [go_sem, simprocAttr]
    repeat refine kn rfl ?_
    refine k_ret rfl ?_
    refine post_one ?_ (.str _) rfl
    rw [txt_eq, if_pos h1]
    exact .refl _
  · have e1 : (t.kind == 1) = false := by simp [h1]
    have e4 : (t.kind == 4) = false := by simp [h1]
    have e6 : (t.kind == 6) = false := by simp [h1]
    have e5 : (t.kind == 5) = false := by simp [h1]
    repeat refine kn rfl ?_
    refine k_region tok rfl (by kernel_rfl) ?_
    simp only [go_sem, simprocAttr, e1]
    repeat refine kn rfl ?_
    refine k_cond_f rfl (by simp only [go_sem, simprocAttr]) ?_
    repeat refine kn rfl ?_
    refine k_region tok rfl (by kernel_rfl) ?_
    simp only [go_sem, simprocAttr, e4]
    repeat refine kn rfl ?_
    refine k_cond_f rfl (by simp only [go_sem, simprocAttr]) ?_
    repeat refine kn rfl ?_
    refine k_region tok rfl (by kernel_rfl) ?_
    simp only [go_sem, simprocAttr, e6]
    repeat refine kn rfl ?_
    refine k_cond_f rfl (by simp only [go_sem, simprocAttr]) ?_
    repeat refine kn rfl ?_
    refine k_region tok rfl (by kernel_rfl) ?_
    simp only [go_sem, simprocAttr, e5]
    repeat refine kn rfl ?_
    refine k_cond_f rfl (by simp only [go_sem, simprocAttr]) ?_
    repeat refine kn rfl ?_
    repeat refine kn rfl ?_
    refine k_region tok rfl (by kernel_rfl) ?_
    simp only [go_sem, simprocAttr]
    repeat refine kn rfl ?_
    refine k_ret rfl ?_
    refine post_one ?_ (.str _) rfl
    rw [txt_eq, if_neg (by omega), if_neg (by omega)]
    exact .refl _
  · have e1 : (t.kind == 1) = false := by simp [h1]
    have e4 : (t.kind == 4) = true := by simp [h1]
    repeat refine kn rfl ?_
    refine k_region tok rfl (by kernel_rfl) ?_
    simp only [go_sem, simprocAttr, e1]
    repeat refine kn rfl ?_
    refine k_cond_f rfl (by simp only [go_sem, simprocAttr]) ?_
    repeat refine kn rfl ?_
    refine k_region tok rfl (by kernel_rfl) ?_
    simp only [go_sem, simprocAttr, e4]
    repeat refine kn rfl ?_
    refine k_cond_t rfl (by simp only [go_sem, simprocAttr]) ?_
    repeat refine kn rfl ?_
    refine k_region tok rfl (by kernel_rfl) ?_
    simp only [go_sem, simprocAttr]
    repeat refine kn rfl ?_
    refine k_region tok rfl (by kernel_rfl) ?_
    simp only [go_sem, simprocAttr]
    repeat refine kn rfl ?_
    refine k_adopt 3 200 9 1 rfl rfl ?_
    refine k_loop_ix (st94 t n H) t.args.length rfl ?_ ?_
    · refine AWk_kept ?_ ?_ ?_ ?_ <;> repeat' first | exact trivial | refine q0 ?_ | exact qb | exact q1 | exact q2 | exact q3 | exact rfl | refine And.intro ?_ ?_ | exact q4 | exact q5 | exact q6 | exact q7 | exact Inside.ptr _ _ _ (.inr ⟨rfl, rfl⟩) | exact q8 | exact q9 | exact qd | exact Tm.ins _ | exact Tm.inss _ _ | exact Am.ins _ | exact Am.inss _ _ | refine ins_buf_str ?_ | refine Tm.ins_buf ?_ | refine Am.ins_buf ?_ | exact qf
    intro i hi
    refine k_st rfl ?_
    rcases Nat.lt_or_ge i t.args.length with h | h
    · repeat refine kn rfl ?_
      refine k_region tok rfl (by kernel_rfl) ?_
      simp only [go_sem, simprocAttr, h]
      repeat refine kn rfl ?_
      refine k_cond_t rfl (by simp only [go_sem, simprocAttr]) ?_
      repeat refine kn rfl ?_
      refine k_region tok rfl (by kernel_rfl) ?_
      simp only [go_sem, simprocAttr, Tm.getD_enc _ _ h, h]
      repeat refine kn rfl ?_
      refine k_region tok rfl (by kernel_rfl) ?_
      simp only [go_sem, simprocAttr]
      have hmin : (t.args.take i).length = i := List.length_take_of_le (by omega)
      refine callT (fun_of Tryz.func94 rfl rfl) (a94 t.args[i] (ht.arg (List.getElem_mem h)) (all_arg hv (List.getElem_mem h))) hn hT (by simp only [go_sem, simprocAttr, hmin]) ?_
      simp only [go_sem, simprocAttr, hmin]
      refine ⟨by first | exact ⟨rfl, by decide⟩ | exact rfl, ⟨le_maxLen (by omega), by omega⟩, ?_⟩
      repeat refine kn rfl ?_
      refine k_region tok rfl (by kernel_rfl) ?_
      simp only [go_sem, simprocAttr]
      repeat refine kn rfl ?_
      refine k_nil ?_
      refine AWk_kept ?_ ?_ ?_ ?_ <;> repeat' first | exact trivial | refine q0 ?_ | exact qb | exact q1 | exact q2 | exact q3 | exact rfl | refine And.intro ?_ ?_ | exact q4 | exact q5 | exact q6 | exact q7 | exact Inside.ptr _ _ _ (.inr ⟨rfl, rfl⟩) | exact q8 | exact q9 | exact qd | exact Tm.ins _ | exact Tm.inss _ _ | exact Am.ins _ | exact Am.inss _ _ | refine ins_buf_str ?_ | refine Tm.ins_buf ?_ | refine Am.ins_buf ?_ | exact qf
      · simp only [go_sem, simprocAttr]
        rw [IntWalk.i64_in _ (by omega)]; exact .refl _
      · simp only [go_sem, simprocAttr, List.take_succ_eq_append_getElem h, List.map_append]
        exact .refl _
    · repeat refine kn rfl ?_
      refine k_region tok rfl (by kernel_rfl) ?_
      simp only [go_sem, simprocAttr, Nat.not_lt.2 h]
      repeat refine kn rfl ?_
      refine k_cond_f rfl (by simp only [go_sem, simprocAttr]) ?_
      repeat refine kn rfl ?_
      refine k_exit_round rfl rfl rfl ?_
      have hi' : i = t.args.length := by omega
      subst hi'
      have hl := txt_len t hv
      rw [txt_eq, if_neg (by omega), if_pos h1] at hl
      simp only [List.length_append, List.length_cons, List.length_nil] at hl
      have hsz := ht.sz
      repeat refine kn rfl ?_
      repeat refine kn rfl ?_
      refine k_draw tok mixed drawO rfl rfl (by kernel_rfl) (by kernel_rfl) ?_
      simp only [go_sem, simprocAttr, List.take_length]
      refine ⟨by omega, ?_⟩
      refine callT (fun_of Tryz.func92 rfl rfl) (a92 (t.args.map txt) [44] (.buf n 200) (by simp; omega) (by omega)) hn hT (by simp only [go_sem, simprocAttr]) ?_
      simp only [go_sem, simprocAttr]
      refine ⟨by simp only [List.length_append, List.length_cons, List.length_nil]; omega, by simp only [List.length_append, List.length_cons, List.length_nil]; omega, ?_⟩
      repeat refine kn rfl ?_
      refine k_ret rfl ?_
      refine post_one ?_ (.str _) rfl
      rw [txt_eq, if_neg (by omega), if_pos h1]
      exact .refl _
termination_by SizeOf.sizeOf t
decreasing_by exact Tm.size_lt (List.getElem_mem h)
end Go.Proofs.YtpoegdhgdgbmaaaGreatDoorR

/- Texts, validity of atoms. -/
namespace Go.Proofs.YtpoegdhgdgbmaaaGreatDoorR
open Go.Abs
set_option maxRecDepth 100000

theorem value_okv {t : Tm} (h : valueT t = true) : t.all okv = true := by
  simp only [valueT, validT, Bool.and_eq_true] at h
  have := all_and plain shape t
  rw [h.1, h.2.2] at this
  exact this

theorem a58 (t : Tm) (ht : t.Good) (hv : valueT t = true) : PureT Tryz.prog 58 [t.enc] (.str (txt t)) := by
  intro n H hn hT
  have h1 : validT t = true := by simp only [valueT, Bool.and_eq_true] at hv; exact hv.2
  refine a_fun tok (fun_of Tryz.func58 rfl rfl) (by simp) fun B => ?_
  repeat refine kn rfl ?_
  refine k_region tok rfl (by kernel_rfl) ?_
  simp only [go_sem, simprocAttr]
  repeat refine kn rfl ?_
  refine k_region tok rfl (by kernel_rfl) ?_
  simp only [go_sem, simprocAttr]
  refine callT (fun_of Tryz.func72 rfl rfl) (a72 t ht) hn hT (by simp only [go_sem, simprocAttr, h1]) ?_
  simp only [go_sem, simprocAttr, h1]
  repeat refine kn rfl ?_
  refine k_cond_f rfl (by simp only [go_sem, simprocAttr]) ?_
  repeat refine kn rfl ?_
  refine k_region tok rfl (by kernel_rfl) ?_
  simp only [go_sem, simprocAttr]
  refine callT (fun_of Tryz.func94 rfl rfl) (a94 t ht (value_okv hv)) hn hT (by simp only [go_sem, simprocAttr]) ?_
  simp only [go_sem, simprocAttr]
  repeat refine kn rfl ?_
  refine k_ret rfl ?_
  refine post_one ?_ (.str _) rfl
  try simp only [go_sem, simprocAttr]
  exact .refl _

theorem a44 (t : Tm) (ht : t.Good) : PureT Tryz.prog 44 [t.enc] (.bool (!valueT t)) := by
  intro n H hn hT
  refine a_fun tok (fun_of Tryz.func44 rfl rfl) (by simp) fun B => ?_
  repeat refine kn rfl ?_
  refine k_region tok rfl (by kernel_rfl) ?_
  simp only [go_sem, simprocAttr]
  repeat refine kn rfl ?_
  refine k_region tok rfl (by kernel_rfl) ?_
  simp only [go_sem, simprocAttr]
  refine callT (fun_of Tryz.func37 rfl rfl) (a37 t ht) hn hT (by simp only [go_sem, simprocAttr]) ?_
  simp only [go_sem, simprocAttr]
  repeat refine kn rfl ?_
  refine k_ret rfl ?_
  refine post_one ?_ (.bool _) rfl
  try simp only [go_sem, simprocAttr]
  exact .refl _

/-- The place of the first that is such, or -1. -/
def idxF {α : Type} (p : α → Bool) (l : List α) : Int := if l.any p then ((l.findIdx p : Nat) : Int) else -1

theorem idxF_ge {α : Type} (p : α → Bool) (l : List α) : decide (0 ≤ idxF p l) = l.any p := by
  unfold idxF; split
  · rename_i h; rw [h]; simp
  · rename_i h; simp only [Bool.not_eq_true] at h; rw [h]; rfl

theorem idxF_at {α : Type} {p : α → Bool} {l : List α} {i : Nat} (h : i < l.length) (hp : p l[i] = true) (hq : ∀ j (h : j < l.length), j < i → p l[j] = false) : idxF p l = i := by
  have h1 : l.any p = true := List.any_eq_true.2 ⟨_, List.getElem_mem h, hp⟩
  unfold idxF
  rw [if_pos h1]
  congr 1
  rw [List.findIdx_eq h]
  exact ⟨hp, fun j hj => by rw [hq j (by omega) hj]⟩

theorem idxF_none {α : Type} {p : α → Bool} {l : List α} (hq : ∀ j (h : j < l.length), p l[j] = false) : idxF p l = -1 := by
  unfold idxF
  rw [if_neg]
  rw [List.any_eq_true]
  rintro ⟨x, hx, hp⟩
  obtain ⟨j, hj, rfl⟩ := List.getElem_of_mem hx
  rw [hq j hj] at hp; cases hp

/-- A condition on a list's elements, as a function value. -/
structure CondF {α : Type} (f : Nat) (caps : List AV) (enc : α → AV) (l : List α) (p : α → Bool) : Prop where
  fn : ∃ fn c, Fun Tryz.prog f fn c
  on : ∀ x ∈ l, PureT Tryz.prog f (enc x :: caps) (.bool (p x))
  below : ∀ n, AllP (fun c => Below n c) caps

def st80 (l : List Tm) (f : Nat) (caps : List AV) (H : AHeap) (i : Nat) : AState :=
  ⟨[(8, .int .i64 i), (7, .int .i64 l.length), (1, .fn (.func f) caps), (0, .sl 4 (l.map Tm.enc) .any)], [], H⟩

theorem a80 (l : List Tm) (hl : l.length ≤ 1000000) (f : Nat) (caps : List AV) (p : Tm → Bool) (hp : CondF f caps Tm.enc l p) : PureT Tryz.prog 80 [.sl 4 (l.map Tm.enc) .any, .fn (.func f) caps] (.int .i64 (idxF p l)) := by
  intro n H hn hT
  obtain ⟨⟨fn, c, hf⟩, hp, hbl⟩ := hp
  have hfi : ∀ q, Inside n q (.fn (.func f) caps) := fun q => (Below.fn _ _ fun i hi => (hbl n).mem _ (List.getElem_mem hi)).inside
  refine a_fun tok (fun_of Tryz.func80 rfl rfl) (by simp) fun B => ?_
  repeat refine kn rfl ?_
  refine k_region tok rfl (by kernel_rfl) ?_
  simp only [go_sem, simprocAttr]
  repeat refine kn rfl ?_
  refine k_region tok rfl (by kernel_rfl) ?_
  simp only [go_sem, simprocAttr]
  repeat refine kn rfl ?_
  refine k_loop_p (st80 l f caps H) (fun i => ∀ j (h : j < l.length), j < i → p l[j] = false) l.length rfl ?_ (fun j _ h => absurd h (Nat.not_lt_zero _)) ?_
  · refine AWk_kept ?_ ?_ ?_ ?_ <;> repeat' first | exact trivial | refine q0 ?_ | exact qb | exact q1 | exact q2 | exact q3 | exact rfl | refine And.intro ?_ ?_ | exact q4 | exact q5 | exact q6 | exact q7 | exact Inside.ptr _ _ _ (.inr ⟨rfl, rfl⟩) | exact q8 | exact q9 | exact qd | exact Tm.ins _ | exact Tm.inss _ _ | exact Am.ins _ | exact Am.inss _ _ | refine ins_buf_str ?_ | refine Tm.ins_buf ?_ | refine Am.ins_buf ?_ | exact qf
    exact hfi _
  intro i hi hq
  refine k_st rfl ?_
  rcases Nat.lt_or_ge i l.length with h | h
  · repeat refine kn rfl ?_
    refine k_region tok rfl (by kernel_rfl) ?_
    simp only [go_sem, simprocAttr, h]
    repeat refine kn rfl ?_
    refine k_cond_t rfl (by simp only [go_sem, simprocAttr]) ?_
    repeat refine kn rfl ?_
    refine k_region tok rfl (by kernel_rfl) ?_
    simp only [go_sem, simprocAttr]
    repeat refine kn rfl ?_
    refine k_region tok rfl (by kernel_rfl) ?_
    simp only [go_sem, simprocAttr, Tm.getD_enc _ _ h, h]
    refine callV (avs := [l[i].enc]) rfl hf (hp l[i] (List.getElem_mem h) _ _ (Nat.succ_pos _) (hT.full hn)) rfl ?_
    cases h1 : p l[i] with
    | true =>
      simp only [go_sem, simprocAttr]
      repeat refine kn rfl ?_
      refine k_cond_t rfl (by simp only [go_sem, simprocAttr]) ?_
      repeat refine kn rfl ?_
      refine k_region tok rfl (by kernel_rfl) ?_
      simp only [go_sem, simprocAttr]
      repeat refine kn rfl ?_
      refine k_ret_round rfl ?_
      refine post_one ?_ (.int _ _) rfl
      rw [idxF_at h h1 hq]
      exact .refl _
    | false =>
      simp only [go_sem, simprocAttr]
      repeat refine kn rfl ?_
      refine k_cond_f rfl (by simp only [go_sem, simprocAttr]) ?_
      repeat refine kn rfl ?_
      refine k_region tok rfl (by kernel_rfl) ?_
      simp only [go_sem, simprocAttr]
      repeat refine kn rfl ?_
      refine k_nil ?_
      refine ⟨fun j hj hji => ?_, ?_⟩
      · rcases Nat.lt_or_ge j i with h' | h'
        · exact hq j hj h'
        · have : j = i := by omega
          subst this; exact h1
      · refine AWk_kept ?_ ?_ ?_ ?_ <;> repeat' first | exact trivial | refine q0 ?_ | exact qb | exact q1 | exact q2 | exact q3 | exact rfl | refine And.intro ?_ ?_ | exact q4 | exact q5 | exact q6 | exact q7 | exact Inside.ptr _ _ _ (.inr ⟨rfl, rfl⟩) | exact q8 | exact q9 | exact qd | exact Tm.ins _ | exact Tm.inss _ _ | exact Am.ins _ | exact Am.inss _ _ | refine ins_buf_str ?_ | refine Tm.ins_buf ?_ | refine Am.ins_buf ?_ | exact qf
        · simp only [go_sem, simprocAttr]
          rw [IntWalk.i64_in _ (by omega)]; exact .refl _
        · exact hfi _
  · repeat refine kn rfl ?_
    refine k_region tok rfl (by kernel_rfl) ?_
    simp only [go_sem, simprocAttr, Nat.not_lt.2 h]
    repeat refine kn rfl ?_
    refine k_cond_f rfl (by simp only [go_sem, simprocAttr]) ?_
    repeat refine kn rfl ?_
    refine k_exit_round rfl rfl rfl ?_
    repeat refine kn rfl ?_
    refine k_region tok rfl (by kernel_rfl) ?_
    simp only [go_sem, simprocAttr]
    repeat refine kn rfl ?_
    refine k_ret rfl ?_
    refine post_one ?_ (.int _ _) rfl
    rw [idxF_none (fun j hj => hq j hj (by omega))]
    exact .refl _

theorem a46 (l : List Tm) (hl : l.length ≤ 1000000) (f : Nat) (caps : List AV) (p : Tm → Bool) (hp : CondF f caps Tm.enc l p) : PureT Tryz.prog 46 [.sl 4 (l.map Tm.enc) .any, .fn (.func f) caps] (.bool (l.any p)) := by
  intro n H hn hT
  refine a_fun tok (fun_of Tryz.func46 rfl rfl) (by simp) fun B => ?_
  repeat refine kn rfl ?_
  refine k_region tok rfl (by kernel_rfl) ?_
  simp only [go_sem, simprocAttr]
  repeat refine kn rfl ?_
  refine k_region tok rfl (by kernel_rfl) ?_
  simp only [go_sem, simprocAttr]
  refine callT (fun_of Tryz.func80 rfl rfl) (a80 l hl f caps p hp) hn hT (by simp only [go_sem, simprocAttr]) ?_
  simp only [go_sem, simprocAttr]
  repeat refine kn rfl ?_
  refine k_ret rfl ?_
  refine post_one ?_ (.bool _) rfl
  simp only [go_sem, simprocAttr, idxF_ge]
  exact .refl _

/-- A ground atom. -/
def validA (a : Am) : Bool := sym a.pred && decide ((a.args.length : Int) ≤ 8) && a.args.all valueT

theorem a14 (a : Am) (ha : a.Good) : PureT Tryz.prog 14 [a.enc] (.bool (validA a)) := by
  intro n H hn hT
  have hs := ha.pred
  refine a_fun tok (fun_of Tryz.func14 rfl rfl) (by simp) fun B => ?_
  repeat refine kn rfl ?_
  refine k_region tok rfl (by kernel_rfl) ?_
  simp only [go_sem, simprocAttr]
  repeat refine kn rfl ?_
  refine k_region tok rfl (by kernel_rfl) ?_
  simp only [go_sem, simprocAttr]
  repeat refine kn rfl ?_
  refine k_region tok rfl (by kernel_rfl) ?_
  simp only [go_sem, simprocAttr]
  refine callP (fun_of Tryz.func45 rfl rfl) (a45 a.pred (by omega)) (by simp only [go_sem, simprocAttr]) ?_
  simp only [go_sem, simprocAttr]
  cases h1 : sym a.pred with
  | false =>
    simp only [go_sem, simprocAttr]
    repeat refine kn rfl ?_
    refine k_ret rfl ?_
    refine post_one ?_ (.bool _) rfl
    try simp only [go_sem, simprocAttr, validA, h1]
    exact .refl _
  | true =>
    cases h2 : decide ((a.args.length : Int) ≤ 8) with
    | false =>
      simp only [go_sem, simprocAttr, h2]
      repeat refine kn rfl ?_
      refine k_ret rfl ?_
      refine post_one ?_ (.bool _) rfl
      try simp only [go_sem, simprocAttr, validA, h1, h2]
      exact .refl _
    | true =>
      simp only [go_sem, simprocAttr, h2]
      refine callT (fun_of Tryz.func46 rfl rfl) (a46 a.args ha.len 44 [] (fun t => !valueT t) ⟨⟨_, _, fun_of Tryz.func44 rfl rfl⟩, fun t ht => a44 t (ha.arg ht), fun _ => trivial⟩) hn hT (by simp only [go_sem, simprocAttr]) ?_
      simp only [go_sem, simprocAttr]
      repeat refine kn rfl ?_
      refine k_ret rfl ?_
      refine post_one ?_ (.bool _) rfl
      simp only [go_sem, simprocAttr, validA, h1, h2, List.not_any_eq_all_not, Bool.not_not]
      exact .refl _
end Go.Proofs.YtpoegdhgdgbmaaaGreatDoorR

/- each. -/
namespace Go.Proofs.YtpoegdhgdgbmaaaGreatDoorR
open Go.Abs
set_option maxRecDepth 100000

/-- A function value that is applied to all elements of a list. -/
structure MapF {α β : Type} (f : Nat) (caps : List AV) (ea : α → AV) (eb : β → AV) (l : List α) (g : α → β) : Prop where
  fn : ∃ fn c, Fun Tryz.prog f fn c
  on : ∀ x ∈ l, PureT Tryz.prog f (ea x :: caps) (eb (g x))
  below : ∀ n, AllP (fun c => Below n c) caps

theorem getD_map {α : Type} (f : α → AV) (l : List α) (i : Nat) (h : i < l.length) (d : AV) : (l.map f).getD i d = f l[i] := by
  rw [List.getD_eq_getElem?_getD, List.getElem?_map, List.getElem?_eq_getElem h]; rfl

abbrev Str := List UInt8
abbrev eStr (s : Str) : AV := .str s
abbrev eInt (i : Int) : AV := .int .i64 i

theorem below_ints {n k : Nat} (l : List Int) : Below n (.sl k (l.map eInt) .any) := below_sla fun x hx => by obtain ⟨u, _, rfl⟩ := List.mem_map.1 hx; exact .int _ _
theorem ins_ints {n k : Nat} {p : Nat → Prop} (l : List Int) : Inside n p (.sl k (l.map eInt) .any) := (below_ints l).inside

def st63 (l : List (Am)) (f : Nat) (caps : List AV) (g : Am → Am) (n : Nat) (H : AHeap) (i : Nat) : AState :=
  ⟨[(10, .int .i64 i), (9, .int .i64 l.length), (8, .sl 2 (l.map Am.enc) .any), (5, .sl 2 (((l.take i).map g).map Am.enc) (.buf n 200)), (1, .fn (.func f) caps)], [(200, .buf 25 2 i)], H⟩

theorem a63 (l : List (Am)) (hl : l.length ≤ 1000000) (f : Nat) (caps : List AV) (g : Am → Am) (hp : MapF f caps Am.enc Am.enc l g) : PureT Tryz.prog 63 [.sl 2 (l.map Am.enc) .any, .fn (.func f) caps] (.sl 2 ((l.map g).map Am.enc) .any) := by
  intro n H hn hT
  obtain ⟨⟨fn, c, hf⟩, hp, hbl⟩ := hp
  have hfi : ∀ q, Inside n q (.fn (.func f) caps) := fun q => (Below.fn _ _ fun i hi => (hbl n).mem _ (List.getElem_mem hi)).inside
  refine a_fun tok (fun_of Tryz.func63 rfl rfl) (by simp) fun B => ?_
  repeat refine kn rfl ?_
  refine k_region tok rfl (by kernel_rfl) ?_
  simp only [go_sem, simprocAttr]
  repeat refine kn rfl ?_
  refine k_region tok rfl (by kernel_rfl) ?_
  simp only [go_sem, simprocAttr]
  repeat refine kn rfl ?_
  refine k_region tok rfl (by kernel_rfl) ?_
  simp only [go_sem, simprocAttr]
  repeat refine kn rfl ?_
  refine k_adopt 5 200 25 2 rfl rfl ?_
  refine k_loop_ix (st63 l f caps g n H) l.length rfl ?_ ?_
  · refine AWk_kept ?_ ?_ ?_ ?_ <;> repeat' first | exact trivial | refine q0 ?_ | exact qb | exact q1 | exact q2 | exact q3 | exact rfl | refine And.intro ?_ ?_ | exact q4 | exact q5 | exact q6 | exact q7 | exact Inside.ptr _ _ _ (.inr ⟨rfl, rfl⟩) | exact q8 | exact q9 | exact qd | exact Tm.ins _ | exact Tm.inss _ _ | exact Am.ins _ | exact Am.inss _ _ | refine ins_buf_str ?_ | refine Tm.ins_buf ?_ | refine Am.ins_buf ?_ | exact qf
    all_goals first | exact hfi _ | exact ins_ints _
  intro i hi
  refine k_st rfl ?_
  rcases Nat.lt_or_ge i l.length with h | h
  · have hmin : (l.take i).length = i := List.length_take_of_le (by omega)
    repeat refine kn rfl ?_
    refine k_region tok rfl (by kernel_rfl) ?_
    simp only [go_sem, simprocAttr, h]
    repeat refine kn rfl ?_
    refine k_cond_t rfl (by simp only [go_sem, simprocAttr]) ?_
    repeat refine kn rfl ?_
    refine k_region tok rfl (by kernel_rfl) ?_
    simp only [go_sem, simprocAttr, getD_map Am.enc _ _ h, h]
    repeat refine kn rfl ?_
    refine k_region tok rfl (by kernel_rfl) ?_
    simp only [go_sem, simprocAttr]
    refine callV (avs := [Am.enc l[i]]) rfl hf (hp l[i] (List.getElem_mem h) _ _ (Nat.succ_pos _) (hT.full hn)) rfl ?_
    simp only [go_sem, simprocAttr, hmin]
    refine ⟨by first | exact ⟨rfl, by decide⟩ | exact rfl, ⟨le_maxLen (by omega), by omega⟩, ?_⟩
    repeat refine kn rfl ?_
    refine k_region tok rfl (by kernel_rfl) ?_
    simp only [go_sem, simprocAttr]
    repeat refine kn rfl ?_
    refine k_nil ?_
    refine AWk_kept ?_ ?_ ?_ ?_ <;> repeat' first | exact trivial | refine q0 ?_ | exact qb | exact q1 | exact q2 | exact q3 | exact rfl | refine And.intro ?_ ?_ | exact q4 | exact q5 | exact q6 | exact q7 | exact Inside.ptr _ _ _ (.inr ⟨rfl, rfl⟩) | exact q8 | exact q9 | exact qd | exact Tm.ins _ | exact Tm.inss _ _ | exact Am.ins _ | exact Am.inss _ _ | refine ins_buf_str ?_ | refine Tm.ins_buf ?_ | refine Am.ins_buf ?_ | exact qf
    · simp only [go_sem, simprocAttr]
      rw [IntWalk.i64_in _ (by omega)]; exact .refl _
    · simp only [go_sem, simprocAttr, List.take_succ_eq_append_getElem h, List.map_append]
      exact .refl _
    all_goals first | exact hfi _ | exact ins_ints _
  · repeat refine kn rfl ?_
    refine k_region tok rfl (by kernel_rfl) ?_
    simp only [go_sem, simprocAttr, Nat.not_lt.2 h]
    repeat refine kn rfl ?_
    refine k_cond_f rfl (by simp only [go_sem, simprocAttr]) ?_
    repeat refine kn rfl ?_
    refine k_exit_round rfl rfl rfl ?_
    have hi' : i = l.length := by omega
    subst hi'
    repeat refine kn rfl ?_
    refine k_region tok rfl (by kernel_rfl) ?_
    simp only [go_sem, simprocAttr, List.take_length]
    repeat refine kn rfl ?_
    refine k_ret rfl ?_
    refine post_one ?_ (below_ams _) rfl
    simp only [go_sem, simprocAttr]
    exact .any _ _ _

def st93 (l : List (Tm)) (f : Nat) (caps : List AV) (g : Tm → Str) (n : Nat) (H : AHeap) (i : Nat) : AState :=
  ⟨[(10, .int .i64 i), (9, .int .i64 l.length), (8, .sl 4 (l.map Tm.enc) .any), (5, .sl 1 (((l.take i).map g).map eStr) (.buf n 200)), (1, .fn (.func f) caps)], [(200, .buf 9 1 i)], H⟩

theorem a93 (l : List (Tm)) (hl : l.length ≤ 1000000) (f : Nat) (caps : List AV) (g : Tm → Str) (hp : MapF f caps Tm.enc eStr l g) : PureT Tryz.prog 93 [.sl 4 (l.map Tm.enc) .any, .fn (.func f) caps] (.sl 1 ((l.map g).map eStr) .any) := by
  intro n H hn hT
  obtain ⟨⟨fn, c, hf⟩, hp, hbl⟩ := hp
  have hfi : ∀ q, Inside n q (.fn (.func f) caps) := fun q => (Below.fn _ _ fun i hi => (hbl n).mem _ (List.getElem_mem hi)).inside
  refine a_fun tok (fun_of Tryz.func93 rfl rfl) (by simp) fun B => ?_
  repeat refine kn rfl ?_
  refine k_region tok rfl (by kernel_rfl) ?_
  simp only [go_sem, simprocAttr]
  repeat refine kn rfl ?_
  refine k_region tok rfl (by kernel_rfl) ?_
  simp only [go_sem, simprocAttr]
  repeat refine kn rfl ?_
  refine k_region tok rfl (by kernel_rfl) ?_
  simp only [go_sem, simprocAttr]
  repeat refine kn rfl ?_
  refine k_adopt 5 200 9 1 rfl rfl ?_
  refine k_loop_ix (st93 l f caps g n H) l.length rfl ?_ ?_
  · refine AWk_kept ?_ ?_ ?_ ?_ <;> repeat' first | exact trivial | refine q0 ?_ | exact qb | exact q1 | exact q2 | exact q3 | exact rfl | refine And.intro ?_ ?_ | exact q4 | exact q5 | exact q6 | exact q7 | exact Inside.ptr _ _ _ (.inr ⟨rfl, rfl⟩) | exact q8 | exact q9 | exact qd | exact Tm.ins _ | exact Tm.inss _ _ | exact Am.ins _ | exact Am.inss _ _ | refine ins_buf_str ?_ | refine Tm.ins_buf ?_ | refine Am.ins_buf ?_ | exact qf
    all_goals first | exact hfi _ | exact ins_ints _
  intro i hi
  refine k_st rfl ?_
  rcases Nat.lt_or_ge i l.length with h | h
  · have hmin : (l.take i).length = i := List.length_take_of_le (by omega)
    repeat refine kn rfl ?_
    refine k_region tok rfl (by kernel_rfl) ?_
    simp only [go_sem, simprocAttr, h]
    repeat refine kn rfl ?_
    refine k_cond_t rfl (by simp only [go_sem, simprocAttr]) ?_
    repeat refine kn rfl ?_
    refine k_region tok rfl (by kernel_rfl) ?_
    simp only [go_sem, simprocAttr, getD_map Tm.enc _ _ h, h]
    repeat refine kn rfl ?_
    refine k_region tok rfl (by kernel_rfl) ?_
    simp only [go_sem, simprocAttr]
    refine callV (avs := [Tm.enc l[i]]) rfl hf (hp l[i] (List.getElem_mem h) _ _ (Nat.succ_pos _) (hT.full hn)) rfl ?_
    simp only [go_sem, simprocAttr, hmin]
    refine ⟨by first | exact ⟨rfl, by decide⟩ | exact rfl, ⟨le_maxLen (by omega), by omega⟩, ?_⟩
    repeat refine kn rfl ?_
    refine k_region tok rfl (by kernel_rfl) ?_
    simp only [go_sem, simprocAttr]
    repeat refine kn rfl ?_
    refine k_nil ?_
    refine AWk_kept ?_ ?_ ?_ ?_ <;> repeat' first | exact trivial | refine q0 ?_ | exact qb | exact q1 | exact q2 | exact q3 | exact rfl | refine And.intro ?_ ?_ | exact q4 | exact q5 | exact q6 | exact q7 | exact Inside.ptr _ _ _ (.inr ⟨rfl, rfl⟩) | exact q8 | exact q9 | exact qd | exact Tm.ins _ | exact Tm.inss _ _ | exact Am.ins _ | exact Am.inss _ _ | refine ins_buf_str ?_ | refine Tm.ins_buf ?_ | refine Am.ins_buf ?_ | exact qf
    · simp only [go_sem, simprocAttr]
      rw [IntWalk.i64_in _ (by omega)]; exact .refl _
    · simp only [go_sem, simprocAttr, List.take_succ_eq_append_getElem h, List.map_append]
      exact .refl _
    all_goals first | exact hfi _ | exact ins_ints _
  · repeat refine kn rfl ?_
    refine k_region tok rfl (by kernel_rfl) ?_
    simp only [go_sem, simprocAttr, Nat.not_lt.2 h]
    repeat refine kn rfl ?_
    refine k_cond_f rfl (by simp only [go_sem, simprocAttr]) ?_
    repeat refine kn rfl ?_
    refine k_exit_round rfl rfl rfl ?_
    have hi' : i = l.length := by omega
    subst hi'
    repeat refine kn rfl ?_
    refine k_region tok rfl (by kernel_rfl) ?_
    simp only [go_sem, simprocAttr, List.take_length]
    repeat refine kn rfl ?_
    refine k_ret rfl ?_
    refine post_one ?_ (below_strs _) rfl
    simp only [go_sem, simprocAttr]
    exact .any _ _ _

def st95 (l : List (Tm)) (f : Nat) (caps : List AV) (g : Tm → Tm) (n : Nat) (H : AHeap) (i : Nat) : AState :=
  ⟨[(10, .int .i64 i), (9, .int .i64 l.length), (8, .sl 4 (l.map Tm.enc) .any), (5, .sl 4 (((l.take i).map g).map Tm.enc) (.buf n 200)), (1, .fn (.func f) caps)], [(200, .buf 27 4 i)], H⟩

theorem a95 (l : List (Tm)) (hl : l.length ≤ 1000000) (f : Nat) (caps : List AV) (g : Tm → Tm) (hp : MapF f caps Tm.enc Tm.enc l g) : PureT Tryz.prog 95 [.sl 4 (l.map Tm.enc) .any, .fn (.func f) caps] (.sl 4 ((l.map g).map Tm.enc) .any) := by
  intro n H hn hT
  obtain ⟨⟨fn, c, hf⟩, hp, hbl⟩ := hp
  have hfi : ∀ q, Inside n q (.fn (.func f) caps) := fun q => (Below.fn _ _ fun i hi => (hbl n).mem _ (List.getElem_mem hi)).inside
  refine a_fun tok (fun_of Tryz.func95 rfl rfl) (by simp) fun B => ?_
  repeat refine kn rfl ?_
  refine k_region tok rfl (by kernel_rfl) ?_
  simp only [go_sem, simprocAttr]
  repeat refine kn rfl ?_
  refine k_region tok rfl (by kernel_rfl) ?_
  simp only [go_sem, simprocAttr]
  repeat refine kn rfl ?_
  refine k_region tok rfl (by kernel_rfl) ?_
  simp only [go_sem, simprocAttr]
  repeat refine kn rfl ?_
  refine k_adopt 5 200 27 4 rfl rfl ?_
  refine k_loop_ix (st95 l f caps g n H) l.length rfl ?_ ?_
  · refine AWk_kept ?_ ?_ ?_ ?_ <;> repeat' first | exact trivial | refine q0 ?_ | exact qb | exact q1 | exact q2 | exact q3 | exact rfl | refine And.intro ?_ ?_ | exact q4 | exact q5 | exact q6 | exact q7 | exact Inside.ptr _ _ _ (.inr ⟨rfl, rfl⟩) | exact q8 | exact q9 | exact qd | exact Tm.ins _ | exact Tm.inss _ _ | exact Am.ins _ | exact Am.inss _ _ | refine ins_buf_str ?_ | refine Tm.ins_buf ?_ | refine Am.ins_buf ?_ | exact qf
    all_goals first | exact hfi _ | exact ins_ints _
  intro i hi
  refine k_st rfl ?_
  rcases Nat.lt_or_ge i l.length with h | h
  · have hmin : (l.take i).length = i := List.length_take_of_le (by omega)
    repeat refine kn rfl ?_
    refine k_region tok rfl (by kernel_rfl) ?_
    simp only [go_sem, simprocAttr, h]
    repeat refine kn rfl ?_
    refine k_cond_t rfl (by simp only [go_sem, simprocAttr]) ?_
    repeat refine kn rfl ?_
    refine k_region tok rfl (by kernel_rfl) ?_
    simp only [go_sem, simprocAttr, getD_map Tm.enc _ _ h, h]
    repeat refine kn rfl ?_
    refine k_region tok rfl (by kernel_rfl) ?_
    simp only [go_sem, simprocAttr]
    refine callV (avs := [Tm.enc l[i]]) rfl hf (hp l[i] (List.getElem_mem h) _ _ (Nat.succ_pos _) (hT.full hn)) rfl ?_
    simp only [go_sem, simprocAttr, hmin]
    refine ⟨by first | exact ⟨rfl, by decide⟩ | exact rfl, ⟨le_maxLen (by omega), by omega⟩, ?_⟩
    repeat refine kn rfl ?_
    refine k_region tok rfl (by kernel_rfl) ?_
    simp only [go_sem, simprocAttr]
    repeat refine kn rfl ?_
    refine k_nil ?_
    refine AWk_kept ?_ ?_ ?_ ?_ <;> repeat' first | exact trivial | refine q0 ?_ | exact qb | exact q1 | exact q2 | exact q3 | exact rfl | refine And.intro ?_ ?_ | exact q4 | exact q5 | exact q6 | exact q7 | exact Inside.ptr _ _ _ (.inr ⟨rfl, rfl⟩) | exact q8 | exact q9 | exact qd | exact Tm.ins _ | exact Tm.inss _ _ | exact Am.ins _ | exact Am.inss _ _ | refine ins_buf_str ?_ | refine Tm.ins_buf ?_ | refine Am.ins_buf ?_ | exact qf
    · simp only [go_sem, simprocAttr]
      rw [IntWalk.i64_in _ (by omega)]; exact .refl _
    · simp only [go_sem, simprocAttr, List.take_succ_eq_append_getElem h, List.map_append]
      exact .refl _
    all_goals first | exact hfi _ | exact ins_ints _
  · repeat refine kn rfl ?_
    refine k_region tok rfl (by kernel_rfl) ?_
    simp only [go_sem, simprocAttr, Nat.not_lt.2 h]
    repeat refine kn rfl ?_
    refine k_cond_f rfl (by simp only [go_sem, simprocAttr]) ?_
    repeat refine kn rfl ?_
    refine k_exit_round rfl rfl rfl ?_
    have hi' : i = l.length := by omega
    subst hi'
    repeat refine kn rfl ?_
    refine k_region tok rfl (by kernel_rfl) ?_
    simp only [go_sem, simprocAttr, List.take_length]
    repeat refine kn rfl ?_
    refine k_ret rfl ?_
    refine post_one ?_ (below_tms _) rfl
    simp only [go_sem, simprocAttr]
    exact .any _ _ _

def st97 (l : List (Int)) (f : Nat) (caps : List AV) (g : Int → Am) (n : Nat) (H : AHeap) (i : Nat) : AState :=
  ⟨[(10, .int .i64 i), (9, .int .i64 l.length), (8, .sl 1 (l.map eInt) .any), (5, .sl 2 (((l.take i).map g).map Am.enc) (.buf n 200)), (1, .fn (.func f) caps)], [(200, .buf 25 2 i)], H⟩

theorem a97 (l : List (Int)) (hl : l.length ≤ 1000000) (f : Nat) (caps : List AV) (g : Int → Am) (hp : MapF f caps eInt Am.enc l g) : PureT Tryz.prog 97 [.sl 1 (l.map eInt) .any, .fn (.func f) caps] (.sl 2 ((l.map g).map Am.enc) .any) := by
  intro n H hn hT
  obtain ⟨⟨fn, c, hf⟩, hp, hbl⟩ := hp
  have hfi : ∀ q, Inside n q (.fn (.func f) caps) := fun q => (Below.fn _ _ fun i hi => (hbl n).mem _ (List.getElem_mem hi)).inside
  refine a_fun tok (fun_of Tryz.func97 rfl rfl) (by simp) fun B => ?_
  repeat refine kn rfl ?_
  refine k_region tok rfl (by kernel_rfl) ?_
  simp only [go_sem, simprocAttr]
  repeat refine kn rfl ?_
  refine k_region tok rfl (by kernel_rfl) ?_
  simp only [go_sem, simprocAttr]
  repeat refine kn rfl ?_
  refine k_region tok rfl (by kernel_rfl) ?_
  simp only [go_sem, simprocAttr]
  repeat refine kn rfl ?_
  refine k_adopt 5 200 25 2 rfl rfl ?_
  refine k_loop_ix (st97 l f caps g n H) l.length rfl ?_ ?_
  · refine AWk_kept ?_ ?_ ?_ ?_ <;> repeat' first | exact trivial | refine q0 ?_ | exact qb | exact q1 | exact q2 | exact q3 | exact rfl | refine And.intro ?_ ?_ | exact q4 | exact q5 | exact q6 | exact q7 | exact Inside.ptr _ _ _ (.inr ⟨rfl, rfl⟩) | exact q8 | exact q9 | exact qd | exact Tm.ins _ | exact Tm.inss _ _ | exact Am.ins _ | exact Am.inss _ _ | refine ins_buf_str ?_ | refine Tm.ins_buf ?_ | refine Am.ins_buf ?_ | exact qf
    all_goals first | exact hfi _ | exact ins_ints _
  intro i hi
  refine k_st rfl ?_
  rcases Nat.lt_or_ge i l.length with h | h
  · have hmin : (l.take i).length = i := List.length_take_of_le (by omega)
    repeat refine kn rfl ?_
    refine k_region tok rfl (by kernel_rfl) ?_
    simp only [go_sem, simprocAttr, h]
    repeat refine kn rfl ?_
    refine k_cond_t rfl (by simp only [go_sem, simprocAttr]) ?_
    repeat refine kn rfl ?_
    refine k_region tok rfl (by kernel_rfl) ?_
    simp only [go_sem, simprocAttr, getD_map eInt _ _ h, h]
    repeat refine kn rfl ?_
    refine k_region tok rfl (by kernel_rfl) ?_
    simp only [go_sem, simprocAttr]
    refine callV (avs := [eInt l[i]]) rfl hf (hp l[i] (List.getElem_mem h) _ _ (Nat.succ_pos _) (hT.full hn)) rfl ?_
    simp only [go_sem, simprocAttr, hmin]
    refine ⟨by first | exact ⟨rfl, by decide⟩ | exact rfl, ⟨le_maxLen (by omega), by omega⟩, ?_⟩
    repeat refine kn rfl ?_
    refine k_region tok rfl (by kernel_rfl) ?_
    simp only [go_sem, simprocAttr]
    repeat refine kn rfl ?_
    refine k_nil ?_
    refine AWk_kept ?_ ?_ ?_ ?_ <;> repeat' first | exact trivial | refine q0 ?_ | exact qb | exact q1 | exact q2 | exact q3 | exact rfl | refine And.intro ?_ ?_ | exact q4 | exact q5 | exact q6 | exact q7 | exact Inside.ptr _ _ _ (.inr ⟨rfl, rfl⟩) | exact q8 | exact q9 | exact qd | exact Tm.ins _ | exact Tm.inss _ _ | exact Am.ins _ | exact Am.inss _ _ | refine ins_buf_str ?_ | refine Tm.ins_buf ?_ | refine Am.ins_buf ?_ | exact qf
    · simp only [go_sem, simprocAttr]
      rw [IntWalk.i64_in _ (by omega)]; exact .refl _
    · simp only [go_sem, simprocAttr, List.take_succ_eq_append_getElem h, List.map_append]
      exact .refl _
    all_goals first | exact hfi _ | exact ins_ints _
  · repeat refine kn rfl ?_
    refine k_region tok rfl (by kernel_rfl) ?_
    simp only [go_sem, simprocAttr, Nat.not_lt.2 h]
    repeat refine kn rfl ?_
    refine k_cond_f rfl (by simp only [go_sem, simprocAttr]) ?_
    repeat refine kn rfl ?_
    refine k_exit_round rfl rfl rfl ?_
    have hi' : i = l.length := by omega
    subst hi'
    repeat refine kn rfl ?_
    refine k_region tok rfl (by kernel_rfl) ?_
    simp only [go_sem, simprocAttr, List.take_length]
    repeat refine kn rfl ?_
    refine k_ret rfl ?_
    refine post_one ?_ (below_ams _) rfl
    simp only [go_sem, simprocAttr]
    exact .any _ _ _
end Go.Proofs.YtpoegdhgdgbmaaaGreatDoorR
