/- The store's functions at pointers that were not made. -/
import Derived.Test.YtpoegdhgdgbmaaaGreatDoorRM19
import Derived.Test.YtpoegdhgdgbmaaaGreatDoorRM18
import Derived.Test.YtpoegdhgdgbmaaaGreatDoorRM21
set_option linter.all false
namespace Go.Proofs.YtpoegdhgdgbmaaaGreatDoorR
open Go.Abs
set_option maxRecDepth 100000

/-- Nil, or a zero store. -/
def NotMade (n : Nat) (H : AHeap) (v : AV) : Prop := v = .nilp ∨ ∃ l b, l < n ∧ H l b = some (.box zeroCells) ∧ v = .ptr l b 0
theorem NotMade.full {n : Nat} {H : AHeap} {v : AV} (h : NotMade n H v) (L : List (Nat × ABlk)) : NotMade (n + 1) (full n L H) v := by
  rcases h with h | ⟨l, b, hl, hb, rfl⟩
  · exact .inl h
  · exact .inr ⟨l, b, by omega, by rw [full_lt hl]; exact hb, rfl⟩
theorem e55 {n : Nat} {H : AHeap} {v : AV} (h : NotMade n H v) : PC Tryz.prog n 55 [v] H (.bool false) := by
  rcases h with rfl | ⟨l, b, hl, hb, rfl⟩
  · exact a55n n H
  · exact a55z n H l b hl hb

theorem e24 (n : Nat) (H : AHeap) (v : AV) (h : NotMade n H v) : PC Tryz.prog n 24 [v] H (.int .i64 0) := by
  refine a_fun tok (fun_of Tryz.func24 rfl rfl) (by simp) fun B => ?_
  repeat refine kn rfl ?_
  refine k_region tok rfl (by kernel_rfl) ?_
  simp only [go_sem, simprocAttr]
  repeat refine kn rfl ?_
  refine k_region tok rfl (by kernel_rfl) ?_
  simp only [go_sem, simprocAttr]
  refine callH (fun_of Tryz.func55 rfl rfl) (e55 (h.full _)) (by simp only [go_sem, simprocAttr]) ?_
  simp only [go_sem, simprocAttr]
  repeat refine kn rfl ?_
  refine k_cond_t rfl (by simp only [go_sem, simprocAttr]) ?_
  repeat refine kn rfl ?_
  refine k_region tok rfl (by kernel_rfl) ?_
  simp only [go_sem, simprocAttr]
  repeat refine kn rfl ?_
  refine k_ret rfl ?_
  refine post_one ?_ (.int _ _) rfl
  try simp only [go_sem, simprocAttr]
  exact .refl _
theorem e23 (n : Nat) (H : AHeap) (v : AV) (h : NotMade n H v) (a : Am) : PC Tryz.prog n 23 [v, a.enc] H (.tup [.bool false, .int .i64 1]) := by
  refine a_fun tok (fun_of Tryz.func23 rfl rfl) (by simp) fun B => ?_
  repeat refine kn rfl ?_
  refine k_region tok rfl (by kernel_rfl) ?_
  simp only [go_sem, simprocAttr]
  repeat refine kn rfl ?_
  refine k_region tok rfl (by kernel_rfl) ?_
  simp only [go_sem, simprocAttr]
  refine callH (fun_of Tryz.func55 rfl rfl) (e55 (h.full _)) (by simp only [go_sem, simprocAttr]) ?_
  simp only [go_sem, simprocAttr]
  repeat refine kn rfl ?_
  refine k_cond_t rfl (by simp only [go_sem, simprocAttr]) ?_
  repeat refine kn rfl ?_
  refine k_region tok rfl (by kernel_rfl) ?_
  simp only [go_sem, simprocAttr]
  repeat refine kn rfl ?_
  refine k_ret rfl ?_
  exact post_two (.refl _) (.refl _) (.bool _) (.int _ _) rfl
theorem e26 (n : Nat) (H : AHeap) (v : AV) (h : NotMade n H v) (a : Am) : PC Tryz.prog n 26 [v, a.enc] H (.bool false) := by
  refine a_fun tok (fun_of Tryz.func26 rfl rfl) (by simp) fun B => ?_
  repeat refine kn rfl ?_
  refine k_region tok rfl (by kernel_rfl) ?_
  simp only [go_sem, simprocAttr]
  repeat refine kn rfl ?_
  refine k_region tok rfl (by kernel_rfl) ?_
  simp only [go_sem, simprocAttr]
  refine callH (fun_of Tryz.func55 rfl rfl) (e55 (h.full _)) (by simp only [go_sem, simprocAttr]) ?_
  simp only [go_sem, simprocAttr]
  repeat refine kn rfl ?_
  refine k_cond_t rfl (by simp only [go_sem, simprocAttr]) ?_
  repeat refine kn rfl ?_
  refine k_region tok rfl (by kernel_rfl) ?_
  simp only [go_sem, simprocAttr]
  repeat refine kn rfl ?_
  refine k_ret rfl ?_
  refine post_one ?_ (.bool _) rfl
  try simp only [go_sem, simprocAttr]
  exact .refl _
theorem e27 (n : Nat) (H : AHeap) (v : AV) (h : NotMade n H v) (i : Int) : PC Tryz.prog n 27 [v, .int .i64 i] H (.tup [(⟨[], []⟩ : Am).enc, .int .i64 1]) := by
  refine a_fun tok (fun_of Tryz.func27 rfl rfl) (by simp) fun B => ?_
  repeat refine kn rfl ?_
  refine k_region tok rfl (by kernel_rfl) ?_
  simp only [go_sem, simprocAttr]
  repeat refine kn rfl ?_
  refine k_region tok rfl (by kernel_rfl) ?_
  simp only [go_sem, simprocAttr]
  refine callH (fun_of Tryz.func55 rfl rfl) (e55 (h.full _)) (by simp only [go_sem, simprocAttr]) ?_
  simp only [go_sem, simprocAttr]
  repeat refine kn rfl ?_
  refine k_cond_t rfl (by simp only [go_sem, simprocAttr]) ?_
  repeat refine kn rfl ?_
  refine k_region tok rfl (by kernel_rfl) ?_
  simp only [go_sem, simprocAttr]
  repeat refine kn rfl ?_
  refine k_ret rfl ?_
  have hz : Wk (.agg [.str [], .sl 4 [] .full]) (Am.mk [] []).enc := .deep (.aggL ⟨.refl _, .nil _ _ _, trivial⟩)
  exact post_cell2 _ n 4 0 [.str [], .sl 4 [] .full] (by simp only [go_sem, simprocAttr]) (by simp only [go_sem, simprocAttr, Go.Abs.full]) rfl (Nat.le_refl _) (by simp only [go_sem, simprocAttr]) hz (by simp only [go_sem, simprocAttr]; exact .refl _) (Am.blw _ _) (.int _ _) rfl
theorem e30 (n : Nat) (H : AHeap) (v : AV) (h : NotMade n H v) (g : Sg) : PC Tryz.prog n 30 [v, g.enc] H (.sl 2 [] .any) := by
  refine a_fun tok (fun_of Tryz.func30 rfl rfl) (by simp) fun B => ?_
  repeat refine kn rfl ?_
  refine k_region tok rfl (by kernel_rfl) ?_
  simp only [go_sem, simprocAttr]
  repeat refine kn rfl ?_
  refine k_region tok rfl (by kernel_rfl) ?_
  simp only [go_sem, simprocAttr]
  refine callH (fun_of Tryz.func55 rfl rfl) (e55 (h.full _)) (by simp only [go_sem, simprocAttr]) ?_
  simp only [go_sem, simprocAttr]
  repeat refine kn rfl ?_
  refine k_cond_t rfl (by simp only [go_sem, simprocAttr]) ?_
  repeat refine kn rfl ?_
  refine k_region tok rfl (by kernel_rfl) ?_
  simp only [go_sem, simprocAttr]
  repeat refine kn rfl ?_
  refine k_ret rfl ?_
  exact post_one (.any _ _ _) (below_ams []) rfl
theorem e32 (n : Nat) (H : AHeap) (v : AV) (h : NotMade n H v) (g : Sg) (c : Int) (u : Tm) : PC Tryz.prog n 32 [v, g.enc, .int .i64 c, u.enc] H (.sl 2 [] .any) := by
  refine a_fun tok (fun_of Tryz.func32 rfl rfl) (by simp) fun B => ?_
  repeat refine kn rfl ?_
  refine k_region tok rfl (by kernel_rfl) ?_
  simp only [go_sem, simprocAttr]
  repeat refine kn rfl ?_
  refine k_region tok rfl (by kernel_rfl) ?_
  simp only [go_sem, simprocAttr]
  refine callH (fun_of Tryz.func55 rfl rfl) (e55 (h.full _)) (by simp only [go_sem, simprocAttr]) ?_
  simp only [go_sem, simprocAttr]
  repeat refine kn rfl ?_
  refine k_cond_t rfl (by simp only [go_sem, simprocAttr]) ?_
  repeat refine kn rfl ?_
  refine k_region tok rfl (by kernel_rfl) ?_
  simp only [go_sem, simprocAttr]
  repeat refine kn rfl ?_
  refine k_ret rfl ?_
  exact post_one (.any _ _ _) (below_ams []) rfl
theorem e33 (n : Nat) (H : AHeap) (v : AV) (h : NotMade n H v) : PC Tryz.prog n 33 [v] H (.sl 2 [] .any) := by
  refine a_fun tok (fun_of Tryz.func33 rfl rfl) (by simp) fun B => ?_
  repeat refine kn rfl ?_
  refine k_region tok rfl (by kernel_rfl) ?_
  simp only [go_sem, simprocAttr]
  repeat refine kn rfl ?_
  refine k_region tok rfl (by kernel_rfl) ?_
  simp only [go_sem, simprocAttr]
  refine callH (fun_of Tryz.func55 rfl rfl) (e55 (h.full _)) (by simp only [go_sem, simprocAttr]) ?_
  simp only [go_sem, simprocAttr]
  repeat refine kn rfl ?_
  refine k_cond_t rfl (by simp only [go_sem, simprocAttr]) ?_
  repeat refine kn rfl ?_
  refine k_region tok rfl (by kernel_rfl) ?_
  simp only [go_sem, simprocAttr]
  repeat refine kn rfl ?_
  refine k_ret rfl ?_
  exact post_one (.any _ _ _) (below_ams []) rfl
theorem e36 (n : Nat) (H : AHeap) (v : AV) (h : NotMade n H v) : PC Tryz.prog n 36 [v] H (.sl 2 [] .any) := by
  refine a_fun tok (fun_of Tryz.func36 rfl rfl) (by simp) fun B => ?_
  repeat refine kn rfl ?_
  refine k_region tok rfl (by kernel_rfl) ?_
  simp only [go_sem, simprocAttr]
  repeat refine kn rfl ?_
  refine k_region tok rfl (by kernel_rfl) ?_
  simp only [go_sem, simprocAttr]
  refine callH (fun_of Tryz.func55 rfl rfl) (e55 (h.full _)) (by simp only [go_sem, simprocAttr]) ?_
  simp only [go_sem, simprocAttr]
  repeat refine kn rfl ?_
  refine k_cond_t rfl (by simp only [go_sem, simprocAttr]) ?_
  repeat refine kn rfl ?_
  refine k_region tok rfl (by kernel_rfl) ?_
  simp only [go_sem, simprocAttr]
  repeat refine kn rfl ?_
  refine k_ret rfl ?_
  exact post_one (.any _ _ _) (below_ams []) rfl
theorem e34 (n : Nat) (H : AHeap) (v : AV) (h : NotMade n H v) : PC Tryz.prog n 34 [v] H .nilp := by
  refine a_fun tok (fun_of Tryz.func34 rfl rfl) (by simp) fun B => ?_
  repeat refine kn rfl ?_
  refine k_region tok rfl (by kernel_rfl) ?_
  simp only [go_sem, simprocAttr]
  repeat refine kn rfl ?_
  refine k_region tok rfl (by kernel_rfl) ?_
  simp only [go_sem, simprocAttr]
  refine callH (fun_of Tryz.func55 rfl rfl) (e55 (h.full _)) (by simp only [go_sem, simprocAttr]) ?_
  simp only [go_sem, simprocAttr]
  repeat refine kn rfl ?_
  refine k_cond_t rfl (by simp only [go_sem, simprocAttr]) ?_
  repeat refine kn rfl ?_
  refine k_region tok rfl (by kernel_rfl) ?_
  simp only [go_sem, simprocAttr]
  repeat refine kn rfl ?_
  refine k_ret rfl ?_
  exact post_one (.refl _) .nilp rfl
/-- As vcG_ft, not by unfolding alone (the kernel's comparison of a long row of unfoldings is dear). -/
theorem ft' (cx : Cx) (op : Opt) (o : Oper) (s : AState) (F : AState → Prop) : vcG cx op o s F false (.bool true) = F ⟨putT s.tmps o.dst (.tup []), s.L, s.H⟩ := (vcG_ft cx op o s F).trans rfl
/-- Nil, or a pointer to a lower level's place. -/
def PtrAt (n : Nat) (u : AV) : Prop := u = .nilp ∨ ∃ l b, l < n ∧ u = .ptr l b 0
theorem NotMade.at {n : Nat} {H : AHeap} {v : AV} (h : NotMade n H v) : PtrAt n v := h.imp id fun ⟨l, b, h1, _, h2⟩ => ⟨l, b, h1, h2⟩
theorem e35 (n : Nat) (H : AHeap) (v u : AV) (h : NotMade n H v) (hu : PtrAt n u) : PC Tryz.prog n 35 [v, u] H (.bool false) := by
  rcases hu with rfl | ⟨l, b, hl, rfl⟩
  · refine a_fun tok (fun_of Tryz.func35 rfl rfl) (by simp) fun B => ?_
    repeat refine kn rfl ?_
    refine k_region tok rfl (by kernel_rfl) ?_
    simp only [go_sem, simprocAttr]
    repeat refine kn rfl ?_
    refine k_draw tok mixed drawO rfl rfl (by kernel_rfl) (by kernel_rfl) ?_
    simp only [go_sem, simprocAttr]
    refine callH (fun_of Tryz.func55 rfl rfl) (e55 (h.full _)) (by simp only [go_sem, simprocAttr]) ?_
    simp only [go_sem, simprocAttr, ft']
    repeat refine kn rfl ?_
    refine k_cond_t rfl (by simp only [go_sem, simprocAttr]) ?_
    repeat refine kn rfl ?_
    refine k_region tok rfl (by kernel_rfl) ?_
    simp only [go_sem, simprocAttr]
    repeat refine kn rfl ?_
    refine k_ret rfl ?_
    refine post_one ?_ (.bool _) rfl
    try simp only [go_sem, simprocAttr]
    exact .refl _
  · refine a_fun tok (fun_of Tryz.func35 rfl rfl) (by simp) fun B => ?_
    repeat refine kn rfl ?_
    refine k_region tok rfl (by kernel_rfl) ?_
    simp only [go_sem, simprocAttr]
    repeat refine kn rfl ?_
    refine k_draw tok mixed drawO rfl rfl (by kernel_rfl) (by kernel_rfl) ?_
    simp only [go_sem, simprocAttr]
    refine callH (fun_of Tryz.func55 rfl rfl) (e55 (h.full _)) (by simp only [go_sem, simprocAttr]) ?_
    simp only [go_sem, simprocAttr, ft']
    repeat refine kn rfl ?_
    refine k_cond_t rfl (by simp only [go_sem, simprocAttr]) ?_
    repeat refine kn rfl ?_
    refine k_region tok rfl (by kernel_rfl) ?_
    simp only [go_sem, simprocAttr]
    repeat refine kn rfl ?_
    refine k_ret rfl ?_
    refine post_one ?_ (.bool _) rfl
    try simp only [go_sem, simprocAttr]
    exact .refl _
theorem e35r (n : Nat) (H : AHeap) (v : AV) (l b : Nat) (s : Sto) (hl : l < n) (hs : HasSto H l b s) (h : NotMade n H v) : PC Tryz.prog n 35 [.ptr l b 0, v] H (.bool false) := by
  have h' := h
  rcases h with rfl | ⟨l2, b2, hl2, hb2, rfl⟩
  · refine a_fun tok (fun_of Tryz.func35 rfl rfl) (by simp) fun B => ?_
    repeat refine kn rfl ?_
    refine k_region tok rfl (by kernel_rfl) ?_
    simp only [go_sem, simprocAttr]
    repeat refine kn rfl ?_
    refine k_draw tok mixed drawO rfl rfl (by kernel_rfl) (by kernel_rfl) ?_
    simp only [go_sem, simprocAttr]
    refine callH (fun_of Tryz.func55 rfl rfl) (a55 (n + 1) _ l b s (by omega) (hs.full hl _)) (by simp only [go_sem, simprocAttr]) ?_
    simp only [go_sem, simprocAttr]
    refine callH (fun_of Tryz.func55 rfl rfl) (e55 (h'.full _)) (by simp only [go_sem, simprocAttr]) ?_
    simp only [go_sem, simprocAttr, ft']
    repeat refine kn rfl ?_
    refine k_cond_t rfl (by simp only [go_sem, simprocAttr]) ?_
    repeat refine kn rfl ?_
    refine k_region tok rfl (by kernel_rfl) ?_
    simp only [go_sem, simprocAttr]
    repeat refine kn rfl ?_
    refine k_ret rfl ?_
    refine post_one ?_ (.bool _) rfl
    try simp only [go_sem, simprocAttr]
    exact .refl _
  · refine a_fun tok (fun_of Tryz.func35 rfl rfl) (by simp) fun B => ?_
    repeat refine kn rfl ?_
    refine k_region tok rfl (by kernel_rfl) ?_
    simp only [go_sem, simprocAttr]
    repeat refine kn rfl ?_
    refine k_draw tok mixed drawO rfl rfl (by kernel_rfl) (by kernel_rfl) ?_
    simp only [go_sem, simprocAttr]
    refine callH (fun_of Tryz.func55 rfl rfl) (a55 (n + 1) _ l b s (by omega) (hs.full hl _)) (by simp only [go_sem, simprocAttr]) ?_
    simp only [go_sem, simprocAttr]
    refine callH (fun_of Tryz.func55 rfl rfl) (e55 (h'.full _)) (by simp only [go_sem, simprocAttr]) ?_
    simp only [go_sem, simprocAttr, ft']
    repeat refine kn rfl ?_
    refine k_cond_t rfl (by simp only [go_sem, simprocAttr]) ?_
    repeat refine kn rfl ?_
    refine k_region tok rfl (by kernel_rfl) ?_
    simp only [go_sem, simprocAttr]
    repeat refine kn rfl ?_
    refine k_ret rfl ?_
    refine post_one ?_ (.bool _) rfl
    try simp only [go_sem, simprocAttr]
    exact .refl _
end Go.Proofs.YtpoegdhgdgbmaaaGreatDoorR

/- The law StoreNone. -/
namespace Go.Proofs.YtpoegdhgdgbmaaaGreatDoorR
open Go.Abs
set_option maxRecDepth 100000

def noneG : Sg := ⟨[110, 111, 110, 101, 32, 111, 102, 32, 116, 104, 101, 115, 101], 1⟩
theorem sym_none : sym noneG.p = false := by decide
theorem find_none (A : List Am) (hv : ∀ a ∈ A, validA a = true) (c : Int) (v : Tm) : findR A noneG c v = [] := by
  unfold findR
  rw [List.filter_eq_nil_iff]
  intro a ha h
  simp only [findP, Bool.and_eq_true, beq_iff_eq] at h
  have h1 := (validA_cases (hv a ha)).1
  have h2 : a.pred = noneG.p := congrArg Sg.p h.1.1.1
  rw [h2, sym_none] at h1
  exact absurd h1 (by simp)
theorem add_any (a : Am) : (addT sto0 a).1.A.any (eqA · a) = validA a := by
  have e : (addT sto0 a).1.A = (addR [] a).1 := congrArg Prod.fst (ok0.addT_eq a)
  rw [e]
  unfold addR
  cases h : validA a with
  | false => simp
  | true => simp [eqA_self]

def st9 (n : Nat) (xs : List AV) (a : Am) (v : Tm) (c : Int) (s : Sto) (H : AHeap) (i : Nat) : AState :=
  ⟨[(10, .int .i64 i), (9, .sl 1 xs .full), (7, .ptr n 0 0), (3, .ptr (n + 1) 3 0), (4, .ptr (n + 1) 4 0), (2, .int .i64 c)], [(3, .box a.cs), (4, .box v.cs), (33, .box zeroCells)], put (cutH n H) n 0 s⟩

theorem a9 (a : Am) (v : Tm) (c : Int) (ha : NmA a) (hv : v.Nm) : PureT Tryz.prog 9 [a.enc, v.enc, .int .i64 c] (.bool true) := by
  intro n H hn hT
  have hTc := hT.cut hn
  have hfr := FreeAt.cut n n H (Nat.le_refl _) 0
  refine PC.up 1 (.bool _) ?_
  refine a_fun tok (fun_of Tryz.func9 rfl rfl) (by simp) fun B => ?_
  repeat refine kn rfl ?_
  refine k_region tok rfl (by kernel_rfl) ?_
  simp only [go_sem, simprocAttr]
  repeat refine kn rfl ?_
  refine k_region tok rfl (by kernel_rfl) ?_
  simp only [go_sem, simprocAttr]
  refine callT (fun_of Tryz.func12 rfl rfl) a12 (Nat.succ_pos _) hTc (by simp only [go_sem, simprocAttr]) ?_
  simp only [go_sem, simprocAttr]
  repeat refine kn rfl ?_
  refine k_cond_f rfl (by simp only [go_sem, simprocAttr]) ?_
  repeat refine kn rfl ?_
  refine k_region tok rfl (by kernel_rfl) ?_
  simp only [go_sem, simprocAttr]
  refine ⟨by decide, ?_⟩
  refine callP (fun_of Tryz.func10 rfl rfl) (a10o [a] .full) (by simp only [go_sem, simprocAttr]) ?_
  simp only [go_sem, simprocAttr]
  cases h2 : great [a] with
  | true =>
    simp only [go_sem, simprocAttr, h2]
    repeat refine kn rfl ?_
    refine k_cond_t rfl (by simp only [go_sem, simprocAttr]) ?_
    repeat refine kn rfl ?_
    refine k_region tok rfl (by kernel_rfl) ?_
    simp only [go_sem, simprocAttr]
    repeat refine kn rfl ?_
    refine k_ret rfl ?_
    exact post_oneQ (.refl _) (.bool _) ⟨rfl, fun l' k h => by simp only [cutH, if_pos h]⟩
  | false =>
  simp only [go_sem, simprocAttr, h2]
  refine callP (fun_of Tryz.func11 rfl rfl) (a11 v 2000 (by decide) (by decide)) (by simp only [go_sem, simprocAttr]) ?_
  simp only [go_sem, simprocAttr]
  simp only [go_sem, simprocAttr, cut_le]
  cases h3 : decide ((2000 : Int) < (v.sz : Int)) with
  | true =>
    repeat refine kn rfl ?_
    refine k_cond_t rfl (by simp only [go_sem, simprocAttr, h3]) ?_
    repeat refine kn rfl ?_
    refine k_region tok rfl (by kernel_rfl) ?_
    simp only [go_sem, simprocAttr]
    repeat refine kn rfl ?_
    refine k_ret rfl ?_
    exact post_oneQ (.refl _) (.bool _) ⟨rfl, fun l' k h => by simp only [cutH, if_pos h]⟩
  | false =>
  obtain ⟨hg3, _, _⟩ := great_good h2 (by simpa using ha)
  have hga : a.Good := hg3 a (by simp)
  have hgv : v.Good := ⟨by simp at h3; omega, hv⟩
  repeat refine kn rfl ?_
  refine k_cond_f rfl (by simp only [go_sem, simprocAttr, h3]) ?_
  repeat refine kn rfl ?_
  refine k_region tok rfl (by kernel_rfl) ?_
  simp only [go_sem, simprocAttr]
  refine call22 rfl n 0 (Nat.lt_succ_self n) hfr (by simp only [go_sem, simprocAttr]) ?_
  simp only [go_sem, simprocAttr]
  repeat refine kn rfl ?_
  refine k_region tok rfl (by kernel_rfl) ?_
  simp only [go_sem, simprocAttr]
  refine call23 rfl n 0 sto0 a rfl (Nat.lt_succ_self n) hfr ok0.fit hga (Nat.succ_pos _) hTc (by simp only [go_sem, simprocAttr]) ?_
  simp only [go_sem, simprocAttr]
  repeat refine kn rfl ?_
  refine k_region tok rfl (by kernel_rfl) ?_
  simp only [go_sem, simprocAttr]
  repeat refine kn rfl ?_
  refine k_region tok rfl (by kernel_rfl) ?_
  simp only [go_sem, simprocAttr]
  refine ⟨by decide, ?_⟩
  repeat refine kn rfl ?_
  refine k_region tok rfl (by kernel_rfl) ?_
  simp only [go_sem, simprocAttr]
  repeat refine kn rfl ?_
  have hos := ok0.addT hga
  have hany := add_any a
  have hTp := hTc.put hfr (addT sto0 a).1
  have hst := HasSto.put (cutH n H) n 0 (addT sto0 a).1
  generalize (addT sto0 a).1 = s at *
  have hpi : ∀ q, Inside (n + 1) q (.ptr n 0 0) := fun q => .ptr _ _ _ (.inl (Nat.lt_succ_self n))
  obtain ⟨xs, hxs⟩ : ∃ xs, xs = [AV.nilp, .ptr (n + 1) 33 0] := ⟨_, rfl⟩
  rw [← hxs]
  have hxl : xs.length = 2 := by rw [hxs]; rfl
  have hxc : ∀ i, i < 2 → ∃ u, xs.getD i .dead = u ∧ u.cells = [u] ∧ PtrAt (n + 1 + 1) u ∧ ∀ L H', lkb L 33 = some (.box zeroCells) → NotMade (n + 1 + 1) (Go.Abs.full (n + 1) L H') u := by
    intro i hi
    subst hxs
    rcases i with _ | _ | i
    · exact ⟨.nilp, rfl, rfl, .inl rfl, fun _ _ _ => .inl rfl⟩
    · exact ⟨.ptr (n + 1) 33 0, rfl, rfl, .inr ⟨n + 1, 33, by omega, rfl⟩, fun L H' hL => .inr ⟨n + 1, 33, by omega, by unfold Go.Abs.full; rw [if_pos rfl]; exact hL, rfl⟩⟩
    · omega
  have hxi : ∀ q : Nat → Prop, q 33 → Inside (n + 1) q (.sl 1 xs .full) := fun q hq => by
    subst hxs
    refine .sl _ _ _ (fun i hi j hj => ?_) (fun l j e => by cases e)
    rcases i with _ | _ | i
    · simp only [List.getElem_cons_zero, AV.cells, List.length_singleton] at hj ⊢
      obtain rfl : j = 0 := by omega
      exact .nilp
    · simp only [List.getElem_cons_succ, List.getElem_cons_zero, AV.cells, List.length_singleton] at hj ⊢
      obtain rfl : j = 0 := by omega
      exact .ptr _ _ _ (.inr ⟨rfl, hq⟩)
    · simp only [List.length_cons, List.length_nil] at hi; omega
  have hz : ∀ q : Nat → Prop, Inside (n + 1) q (.sl 2 [] .full) := fun q => .sl _ _ _ (fun i hi => absurd hi (Nat.not_lt_zero _)) (fun l j e => by cases e)
  clear hxs
  refine k_loop_ix (st9 n xs a v c s H) 2 rfl ?_ ?_
  · refine AWk_kept ?_ ?_ ?_ ?_ <;> repeat' first | exact trivial | refine q0 ?_ | exact qb | exact q1 | exact q2 | exact q3 | exact rfl | refine And.intro ?_ ?_ | exact q4 | exact q5 | exact q6 | exact q7 | exact Inside.ptr _ _ _ (.inr ⟨rfl, rfl⟩) | exact q8 | exact q9 | exact qd | exact Tm.ins _ | exact Tm.inss _ _ | exact Am.ins _ | exact Am.inss _ _ | refine ins_buf_str ?_ | refine Tm.ins_buf ?_ | refine Am.ins_buf ?_ | exact qf
    all_goals first | exact hpi _ | exact hxi _ rfl | exact hz _ | skip
  intro i hi
  refine k_st rfl ?_
  rcases Nat.lt_or_ge i 2 with h | h
  · have hi2 : (i : Int) < 2 := by omega
    obtain ⟨u, hu, huc, hua, hun⟩ := hxc i h
    repeat refine kn rfl ?_
    refine k_region tok rfl (by kernel_rfl) ?_
    simp only [go_sem, simprocAttr, hi2]
    repeat refine kn rfl ?_
    refine k_cond_t rfl (by simp only [go_sem, simprocAttr]) ?_
    repeat refine kn rfl ?_
    refine k_region tok rfl (by kernel_rfl) ?_
    simp only [go_sem, simprocAttr, hxl, hu, huc]
    refine ⟨hi2, ?_⟩
    repeat refine kn rfl ?_
    refine k_region tok rfl (by kernel_rfl) ?_
    simp only [go_sem, simprocAttr]
    repeat refine kn rfl ?_
    refine k_region tok rfl (by kernel_rfl) ?_
    simp only [go_sem, simprocAttr]
    refine callH (fun_of Tryz.func23 rfl rfl) (e23 (n + 1 + 1) _ u (hun _ _ rfl) a) (by simp only [go_sem, simprocAttr]) ?_
    simp only [go_sem, simprocAttr]
    repeat refine kn rfl ?_
    refine k_region tok rfl (by kernel_rfl) ?_
    simp only [go_sem, simprocAttr]
    refine callH (fun_of Tryz.func27 rfl rfl) (e27 (n + 1 + 1) _ u (hun _ _ rfl) c) (by simp only [go_sem, simprocAttr]) ?_
    simp only [go_sem, simprocAttr]
    repeat refine kn rfl ?_
    refine k_draw tok mixed drawO rfl rfl (by kernel_rfl) (by kernel_rfl) ?_
    simp only [go_sem, simprocAttr, bne_self_eq_false, List.append_eq]
    refine callP (fun_of Tryz.func28 rfl rfl) (z28) (by simp only [go_sem, simprocAttr, eqA_self, Bool.not_true]) ?_
    simp only [go_sem, simprocAttr, eqA_self, Bool.not_true]
    refine callH (fun_of Tryz.func26 rfl rfl) (e26 (n + 1 + 1) _ u (hun _ _ rfl) a) (by simp only [go_sem, simprocAttr]) ?_
    simp only [go_sem, simprocAttr]
    refine callH (fun_of Tryz.func24 rfl rfl) (e24 (n + 1 + 1) _ u (hun _ _ rfl)) (by simp only [go_sem, simprocAttr]) ?_
    simp only [go_sem, simprocAttr, bne_self_eq_false]
    refine callH (fun_of Tryz.func36 rfl rfl) (e36 (n + 1 + 1) _ u (hun _ _ rfl)) (by simp only [go_sem, simprocAttr]) ?_
    simp only [go_sem, simprocAttr]
    refine callH (fun_of Tryz.func30 rfl rfl) (e30 (n + 1 + 1) _ u (hun _ _ rfl) a.sg) (by simp only [go_sem, simprocAttr, Am.sg]) ?_
    simp only [go_sem, simprocAttr]
    refine callH (fun_of Tryz.func32 rfl rfl) (e32 (n + 1 + 1) _ u (hun _ _ rfl) a.sg c v) (by simp only [go_sem, simprocAttr, Am.sg]) ?_
    simp only [go_sem, simprocAttr]
    refine callH (fun_of Tryz.func33 rfl rfl) (e33 (n + 1 + 1) _ u (hun _ _ rfl)) (by simp only [go_sem, simprocAttr]) ?_
    simp only [go_sem, simprocAttr, show IntKind.i64.wrap 0 = 0 from rfl, bne_self_eq_false]
    refine callH (fun_of Tryz.func34 rfl rfl) (e34 (n + 1 + 1) _ u (hun _ _ rfl)) (by simp only [go_sem, simprocAttr]) ?_
    simp only [go_sem, simprocAttr, bne_self_eq_false]
    refine callH (fun_of Tryz.func35 rfl rfl) (e35 (n + 1 + 1) _ u (.ptr n 0 0) (hun _ _ rfl) (.inr ⟨n, 0, by omega, rfl⟩)) (by simp only [go_sem, simprocAttr]) ?_
    simp only [go_sem, simprocAttr]
    refine callH (fun_of Tryz.func35 rfl rfl) (e35r (n + 1 + 1) _ u n 0 s (by omega) (hst.full (Nat.lt_succ_self n) _) (hun _ _ rfl)) (by simp only [go_sem, simprocAttr]) ?_
    simp only [go_sem, simprocAttr]
    refine callH (fun_of Tryz.func35 rfl rfl) (e35 (n + 1 + 1) _ u u (hun _ _ rfl) hua) (by simp only [go_sem, simprocAttr]) ?_
    simp only [go_sem, simprocAttr]
    repeat refine kn rfl ?_
    refine k_cond_f rfl (by simp only [go_sem, simprocAttr]) ?_
    repeat refine kn rfl ?_
    refine k_region tok rfl (by kernel_rfl) ?_
    simp only [go_sem, simprocAttr]
    repeat refine kn rfl ?_
    refine k_nil ?_
    refine ⟨h, ?_⟩
    refine AWk_kept ?_ ?_ ?_ ?_ <;> repeat' first | exact trivial | refine q0 ?_ | exact qb | exact q1 | exact q2 | exact q3 | exact rfl | refine And.intro ?_ ?_ | exact q4 | exact q5 | exact q6 | exact q7 | exact Inside.ptr _ _ _ (.inr ⟨rfl, rfl⟩) | exact q8 | exact q9 | exact qd | exact Tm.ins _ | exact Tm.inss _ _ | exact Am.ins _ | exact Am.inss _ _ | refine ins_buf_str ?_ | refine Tm.ins_buf ?_ | refine Am.ins_buf ?_ | exact qf
    all_goals first | exact hpi _ | exact hxi _ rfl | exact hz _ | skip
    simp only [go_sem, simprocAttr]
    rw [IntWalk.i64_in _ (by omega)]; exact .refl _
  · have hi2 : ¬ (i : Int) < 2 := by omega
    repeat refine kn rfl ?_
    refine k_region tok rfl (by kernel_rfl) ?_
    simp only [go_sem, simprocAttr, hi2]
    repeat refine kn rfl ?_
    refine k_cond_f rfl (by simp only [go_sem, simprocAttr]) ?_
    repeat refine kn rfl ?_
    refine k_exit_round rfl rfl rfl ?_
    repeat refine kn rfl ?_
    refine k_draw tok mixed drawO rfl rfl (by kernel_rfl) (by kernel_rfl) ?_
    simp only [go_sem, simprocAttr]
    refine callT (fun_of Tryz.func14 rfl rfl) (a14 a hga) (Nat.succ_pos _) hTp (by simp only [go_sem, simprocAttr]) ?_
    simp only [go_sem, simprocAttr]
    refine callH (fun_of Tryz.func26 rfl rfl) (a26 (n + 1 + 1) _ n 0 s a (by omega) (hst.full (Nat.lt_succ_self n) _) hga (Nat.succ_pos _) (hTp.full (Nat.succ_pos _))) (by simp only [go_sem, simprocAttr]) ?_
    rw [hos.has', hany]
    simp only [go_sem, simprocAttr, beq_self_eq_true]
    refine callT (fun_of Tryz.func37 rfl rfl) (a37 v hgv) (Nat.succ_pos _) hTp (by simp only [go_sem, simprocAttr]) ?_
    have hix := hos.ixR (⟨noneG, 0, txt v⟩ : Ak)
    cases h5 : valueT v with
    | false =>
      simp only [go_sem, simprocAttr]
      repeat refine kn rfl ?_
      refine k_ret rfl ?_
      exact post_oneQ (.refl _) (.bool _) ⟨rfl, put_cut (Nat.le_refl n)⟩
    | true =>
      simp only [go_sem, simprocAttr]
      refine callH (fun_of Tryz.func32 rfl rfl) (a32 (n + 1 + 1) _ n 0 s noneG 0 v hgv (by omega) (hst.full (Nat.lt_succ_self n) _) hos.g (Nat.succ_pos _) (hTp.full (Nat.succ_pos _)) hix.1 hix.2) (by simp only [go_sem, simprocAttr, noneG]) ?_
      rw [hos.find', find_none _ hos.v]
      simp only [go_sem, simprocAttr, beq_self_eq_true]
      repeat refine kn rfl ?_
      refine k_ret rfl ?_
      exact post_oneQ (.refl _) (.bool _) ⟨rfl, put_cut (Nat.le_refl n)⟩
end Go.Proofs.YtpoegdhgdgbmaaaGreatDoorR

/- The law StoreSmall. -/
namespace Go.Proofs.YtpoegdhgdgbmaaaGreatDoorR
open Go.Abs
set_option maxRecDepth 100000

def tF : Tm := .mk 4 0 [102] [tInt 1]
def tX : Tm := .mk 3 0 [88] []
def tZ : Tm := .mk 0 0 [] []
def F5 : List Am := [⟨[112], []⟩, ⟨[112], [tInt 1]⟩, ⟨[112], [tInt 1, tInt 2]⟩, ⟨[112], [tInt 2, tInt 1]⟩, ⟨[113], [tSym [97], tF]⟩, ⟨[113], [tF, tSym [97]]⟩, ⟨[113], [tInt (-1), tInt 1]⟩, ⟨[81], []⟩, ⟨[112], [tX]⟩, ⟨[112, 113], []⟩]
def V5 : List Tm := [tInt 1, tSym [97], tF, tZ]
theorem tFe : Tm.mk 4 0 [102] [tInt 1] = tF := rfl

theorem nmF : tF.Nm := .mk _ _ _ _ (by decide) (by decide) (by decide) (by simp only [List.mem_singleton, forall_eq]; exact nmI 1 (by decide))
theorem nmX : tX.Nm := .mk _ _ _ _ (by decide) (by decide) (by decide) (by simp)
theorem nmZ : tZ.Nm := .mk _ _ _ _ (by decide) (by decide) (by decide) (by simp)
theorem nI1 : (tInt 1).Nm := nmI 1 (by decide)
theorem nI2 : (tInt 2).Nm := nmI 2 (by decide)
theorem nIm : (tInt (-1)).Nm := nmI (-1) (by decide)
theorem nSa : (tSym [97]).Nm := nmS _ (by decide)
theorem gF5 : AllP Am.Good F5 :=
  ⟨goodA (by decide) (by decide) trivial, goodA (by decide) (by decide) ⟨nI1, trivial⟩, goodA (by decide) (by decide) ⟨nI1, nI2, trivial⟩, goodA (by decide) (by decide) ⟨nI2, nI1, trivial⟩, goodA (by decide) (by decide) ⟨nSa, nmF, trivial⟩,
    goodA (by decide) (by decide) ⟨nmF, nSa, trivial⟩, goodA (by decide) (by decide) ⟨nIm, nI1, trivial⟩, goodA (by decide) (by decide) trivial, goodA (by decide) (by decide) ⟨nmX, trivial⟩, goodA (by decide) (by decide) trivial, trivial⟩
theorem gV5 : AllP Tm.Good V5 := ⟨⟨by decide, nI1⟩, ⟨by decide, nSa⟩, ⟨by decide, nmF⟩, ⟨by decide, nmZ⟩, trivial⟩
theorem good_nm {a : Am} (h : a.Good) : NmA a := ⟨h.pred, h.nm⟩

/-- The atoms n(0), n(1), .. -/
def nAt (i : Nat) : Am := ⟨[110], [tInt i]⟩
theorem nAt_good {i : Nat} (h : i ≤ 2002) : (nAt i).Good := goodA (by show (1 : Nat) ≤ _; decide) (by simp only [nAt, Am.sz, Tm.sz.szs, tInt, Tm.sz]; decide) ⟨nmI i (by omega), trivial⟩
theorem n_val {i : Nat} (h : i ≤ 2002) : valueT (tInt i) = true := by
  have h1 : shape (tInt i) = true := by
    show (if (1 : Int) = 1 then decide (-2147483647 ≤ (i : Int)) && decide ((i : Int) ≤ 2147483647) && (([] : List UInt8) == []) && nargs (tInt i) 0 0 else _) = true
    rw [if_pos rfl, decide_eq_true (by omega), decide_eq_true (by omega)]
    rfl
  show ((plain (tInt i) && true) && (decide ((0 : Int) + 1 ≤ 12) && (shape (tInt i) && true))) = true
  rw [h1]; rfl
theorem nAt_valid {i : Nat} (h : i ≤ 2002) : validA (nAt i) = true := by
  show (sym [110] && decide (((0 + 1 : Nat) : Int) ≤ 8) && (valueT (tInt i) && true)) = true
  rw [n_val h]; rfl
def nL (k : Nat) : List Am := (List.range k).map nAt
theorem nAt_inj {i j : Nat} (h : nAt i = nAt j) : i = j := by
  simp only [nAt, tInt, Am.mk.injEq, List.cons.injEq, Tm.mk.injEq, true_and, and_true] at h
  omega

theorem a13o (l : List Am) (a : Am) (c : Int) (v : Tm) (o : Own) (hlen : l.length ≤ 1000000) (hg : GoodL l) (ha : a.Good) (hv : v.Good) : PureT Tryz.prog 13 [.sl 2 (l.map Am.enc) o, a.enc, .int .i64 c, v.enc] (.bool true) :=
  PureT.wk (a13 l a c v hlen hg ha hv) ⟨.any _ _ _, .refl _, .refl _, .refl _, trivial⟩

/-- The store behind i of them. -/
theorem nL_snoc (i : Nat) : nL (i + 1) = nL i ++ [nAt i] := by simp only [nL, List.range_succ, List.map_append, List.map_cons, List.map_nil]
theorem nL_good {i : Nat} (h : i ≤ 2002) : GoodL (nL i) := fun a ha => by
  obtain ⟨j, hj, rfl⟩ := List.mem_map.1 ha
  have := List.mem_range.1 hj
  exact nAt_good (by omega)
theorem nL_any {i m : Nat} (h : m ≤ i) : (nL m).any (eqA · (nAt i)) = false := by
  rw [Bool.eq_false_iff]; intro hy
  obtain ⟨x, hx, e⟩ := List.any_eq_true.1 hy
  obtain ⟨j, hj, rfl⟩ := List.mem_map.1 hx
  have := nAt_inj ((eqA_iff _ _).1 e)
  have := List.mem_range.1 hj
  omega
theorem nL_len (i : Nat) : (nL i).length = i := by simp [nL]
theorem n_add {i : Nat} (hi : i ≤ 2002) : addR (nL (min i 2000)) (nAt i) = (nL (min (i + 1) 2000), decide ((i : Int) < 2000), if i < 2000 then 0 else 5) := by
  unfold addR
  rw [if_neg (by simp [nAt_valid hi]), nL_any (Nat.min_le_left _ _), if_neg (by simp), nL_len]
  rcases Nat.lt_or_ge i 2000 with h | h
  · rw [if_neg (by omega), if_pos h, Nat.min_eq_left (by omega), Nat.min_eq_left (by omega), nL_snoc, decide_eq_true (by omega)]
  · rw [if_pos (by omega), if_neg (by omega), Nat.min_eq_right (by omega), Nat.min_eq_right (by omega), decide_eq_false (by omega)]
theorem n_ok {i : Nat} (h : i ≤ 2002) : Ok (addL sto0 (nL i)) := ok0.addL (nL_good h)
theorem n_A : ∀ {i : Nat}, i ≤ 2002 → (addL sto0 (nL i)).A = nL (min i 2000)
  | 0, _ => rfl
  | i + 1, h => by
    have e := (n_ok (i := i) (by omega)).addT_eq (nAt i)
    rw [n_A (by omega), n_add (by omega)] at e
    rw [nL_snoc, addL_snoc]
    exact congrArg Prod.fst e
theorem n_res {i : Nat} (h : i < 2002) : (addT (addL sto0 (nL i)) (nAt i)).2 = (decide ((i : Int) < 2000), if i < 2000 then 0 else 5) := by
  have e := (n_ok (i := i) (by omega)).addT_eq (nAt i)
  rw [n_A (by omega), n_add (by omega)] at e
  exact congrArg Prod.snd e
theorem n_seven : addT (addL sto0 (nL 2002)) (nAt 7) = (addL sto0 (nL 2002), false, 0) := by
  have ho := n_ok (i := 2002) (by omega)
  unfold addT
  rw [if_neg (by simp [nAt_valid (show 7 ≤ 2002 by decide)]), ho.has (nAt_valid (show 7 ≤ 2002 by decide)), n_A (by omega), if_pos]
  exact List.any_eq_true.2 ⟨nAt 7, List.mem_map.2 ⟨7, List.mem_range.2 (by decide), rfl⟩, eqA_self _⟩

def W8 : Am := ⟨[119], [tInt 1, tInt 2, tInt 3, tInt 4, tInt 5, tInt 6, tInt 7, tInt 8]⟩
def W9 : Am := ⟨[119], W8.args ++ [tInt 9]⟩
theorem gW8 : W8.Good := goodA (by decide) (by decide) ⟨nI1, nI2, nmI 3 (by decide), nmI 4 (by decide), nmI 5 (by decide), nmI 6 (by decide), nmI 7 (by decide), nmI 8 (by decide), trivial⟩
theorem gW9 : W9.Good := goodA (by decide) (by decide) ⟨nI1, nI2, nmI 3 (by decide), nmI 4 (by decide), nmI 5 (by decide), nmI 6 (by decide), nmI 7 (by decide), nmI 8 (by decide), nmI 9 (by decide), trivial⟩
theorem vW8 : validA W8 = true := by kernel_rfl
theorem vW9 : validA W9 = false := by kernel_rfl
theorem a18f (p : List UInt8) (l : List Tm) : Abs.Pure Tryz.prog 18 [.str p, .sl 4 (l.map Tm.enc) .full] (.agg [.str p, .sl 4 (l.map Tm.enc) .full]) := by
  intro n H
  refine a_fun tok (fun_of Tryz.func18 rfl rfl) (by simp) fun B => ?_
  repeat refine kn rfl ?_
  refine k_region tok rfl (by kernel_rfl) ?_
  simp only [go_sem, simprocAttr]
  repeat refine kn rfl ?_
  refine k_region tok rfl (by kernel_rfl) ?_
  simp only [go_sem, simprocAttr]
  repeat refine kn rfl ?_
  refine k_ret rfl ?_
  refine post_cell (.inl rfl) _ n 4 0 [.str p, .sl 4 (l.map Tm.enc) .full] (by simp only [go_sem, simprocAttr]) (by simp only [go_sem, simprocAttr, full]) rfl (Nat.le_refl _) (by simp only [go_sem, simprocAttr]) ?_ ?_ rfl
  · simp only [go_sem, simprocAttr]
    exact .refl _
  · exact below_agg (by simp only [List.mem_cons, List.not_mem_nil, or_false, forall_eq_or_imp, forall_eq]; exact ⟨.str _, below_sl (fun x hx => by obtain ⟨u, _, rfl⟩ := List.mem_map.1 hx; exact u.blw n) (fun _ _ e => by cases e)⟩)

theorem a14f (a : Am) (ha : a.Good) : PureT Tryz.prog 14 [.agg [.str a.pred, .sl 4 (a.args.map Tm.enc) .full]] (.bool (validA a)) := PureT.wk (a14 a ha) ⟨.deep (.aggL ⟨.refl _, .sl _ _ _ _ rfl (fun _ _ _ => .refl _), trivial⟩), trivial⟩
def st5 (n : Nat) (H : AHeap) (i : Nat) : AState :=
  ⟨[(3, .int .i64 i), (2, .sl 4 (V5.map Tm.enc) .any), (1, .sl 2 (F5.map Am.enc) .any)], [], cutH n H⟩

def st5b (n : Nat) (H : AHeap) (i : Nat) : AState :=
  ⟨[(6, .int .i64 i), (5, .ptr n 0 0)], [], put (cutH n H) n 0 (addL sto0 (nL i))⟩

theorem a5 : PureT Tryz.prog 5 [] (.bool true) := by
  intro n H hn hT
  have hTc := hT.cut hn
  have hfr := FreeAt.cut n n H (Nat.le_refl _) 0
  refine PC.up 1 (.bool _) ?_
  refine a_fun tok (fun_of Tryz.func5 rfl rfl) (by simp) fun B => ?_
  repeat refine kn rfl ?_
  refine k_region tok rfl (by kernel_rfl) ?_
  simp only [go_sem, simprocAttr]
  repeat refine kn rfl ?_
  refine k_region tok rfl (by kernel_rfl) ?_
  simp only [go_sem, simprocAttr]
  refine callP (fun_of Tryz.func18 rfl rfl) (a18o [112] [] .full) (by simp only [go_sem, simprocAttr]) ?_
  simp only [go_sem, simprocAttr]
  refine callP (fun_of Tryz.func19 rfl rfl) (a19t 1) (by simp only [go_sem, simprocAttr]) ?_
  simp only [go_sem, simprocAttr]
  refine ⟨by decide, ?_⟩
  refine callP (fun_of Tryz.func18 rfl rfl) (a18o [112] [tInt 1] .full) (by simp only [go_sem, simprocAttr]) ?_
  simp only [go_sem, simprocAttr]
  refine callP (fun_of Tryz.func19 rfl rfl) (a19t 1) (by simp only [go_sem, simprocAttr]) ?_
  simp only [go_sem, simprocAttr]
  refine callP (fun_of Tryz.func19 rfl rfl) (a19t 2) (by simp only [go_sem, simprocAttr]) ?_
  simp only [go_sem, simprocAttr]
  refine ⟨by decide, ?_⟩
  refine callP (fun_of Tryz.func18 rfl rfl) (a18o [112] [tInt 1, tInt 2] .full) (by simp only [go_sem, simprocAttr]) ?_
  simp only [go_sem, simprocAttr]
  refine callP (fun_of Tryz.func19 rfl rfl) (a19t 2) (by simp only [go_sem, simprocAttr]) ?_
  simp only [go_sem, simprocAttr]
  refine callP (fun_of Tryz.func19 rfl rfl) (a19t 1) (by simp only [go_sem, simprocAttr]) ?_
  simp only [go_sem, simprocAttr]
  refine ⟨by decide, ?_⟩
  refine callP (fun_of Tryz.func18 rfl rfl) (a18o [112] [tInt 2, tInt 1] .full) (by simp only [go_sem, simprocAttr]) ?_
  simp only [go_sem, simprocAttr]
  refine callP (fun_of Tryz.func20 rfl rfl) (a20t [97]) (by simp only [go_sem, simprocAttr]) ?_
  simp only [go_sem, simprocAttr]
  refine callP (fun_of Tryz.func19 rfl rfl) (a19t 1) (by simp only [go_sem, simprocAttr]) ?_
  simp only [go_sem, simprocAttr]
  refine ⟨by decide, ?_⟩
  refine callP (fun_of Tryz.func21 rfl rfl) (a21o [102] [tInt 1] .full) (by simp only [go_sem, simprocAttr, tFe]) ?_
  simp only [go_sem, simprocAttr, tFe]
  refine ⟨by decide, ?_⟩
  refine callP (fun_of Tryz.func18 rfl rfl) (a18o [113] [tSym [97], tF] .full) (by simp only [go_sem, simprocAttr]) ?_
  simp only [go_sem, simprocAttr]
  refine callP (fun_of Tryz.func19 rfl rfl) (a19t 1) (by simp only [go_sem, simprocAttr]) ?_
  simp only [go_sem, simprocAttr]
  refine ⟨by decide, ?_⟩
  refine callP (fun_of Tryz.func21 rfl rfl) (a21o [102] [tInt 1] .full) (by simp only [go_sem, simprocAttr, tFe]) ?_
  simp only [go_sem, simprocAttr, tFe]
  refine callP (fun_of Tryz.func20 rfl rfl) (a20t [97]) (by simp only [go_sem, simprocAttr]) ?_
  simp only [go_sem, simprocAttr]
  refine ⟨by decide, ?_⟩
  refine callP (fun_of Tryz.func18 rfl rfl) (a18o [113] [tF, tSym [97]] .full) (by simp only [go_sem, simprocAttr]) ?_
  simp only [go_sem, simprocAttr]
  refine callP (fun_of Tryz.func19 rfl rfl) (a19t (-1)) (by simp only [go_sem, simprocAttr]) ?_
  simp only [go_sem, simprocAttr]
  refine callP (fun_of Tryz.func19 rfl rfl) (a19t 1) (by simp only [go_sem, simprocAttr]) ?_
  simp only [go_sem, simprocAttr]
  refine ⟨by decide, ?_⟩
  refine callP (fun_of Tryz.func18 rfl rfl) (a18o [113] [tInt (-1), tInt 1] .full) (by simp only [go_sem, simprocAttr]) ?_
  simp only [go_sem, simprocAttr]
  refine callP (fun_of Tryz.func18 rfl rfl) (a18o [81] [] .full) (by simp only [go_sem, simprocAttr]) ?_
  simp only [go_sem, simprocAttr]
  refine ⟨by decide, ?_⟩
  refine callP (fun_of Tryz.func18 rfl rfl) (Pure.wk (a18 [112] [tX]) xWk) (by simp only [go_sem, simprocAttr]) ?_
  simp only [go_sem, simprocAttr]
  refine callP (fun_of Tryz.func18 rfl rfl) (a18o [112, 113] [] .full) (by simp only [go_sem, simprocAttr]) ?_
  simp only [go_sem, simprocAttr]
  refine ⟨by decide, ?_⟩
  repeat refine kn rfl ?_
  refine k_region tok rfl (by kernel_rfl) ?_
  simp only [go_sem, simprocAttr]
  refine callP (fun_of Tryz.func19 rfl rfl) (a19t 1) (by simp only [go_sem, simprocAttr]) ?_
  simp only [go_sem, simprocAttr]
  refine callP (fun_of Tryz.func20 rfl rfl) (a20t [97]) (by simp only [go_sem, simprocAttr]) ?_
  simp only [go_sem, simprocAttr]
  refine callP (fun_of Tryz.func19 rfl rfl) (a19t 1) (by simp only [go_sem, simprocAttr]) ?_
  simp only [go_sem, simprocAttr]
  refine ⟨by decide, ?_⟩
  refine callP (fun_of Tryz.func21 rfl rfl) (a21o [102] [tInt 1] .full) (by simp only [go_sem, simprocAttr, tFe]) ?_
  simp only [go_sem, simprocAttr, tFe]
  refine ⟨by decide, ?_⟩
  repeat refine kn rfl ?_
  refine k_region tok rfl (by kernel_rfl) ?_
  simp only [go_sem, simprocAttr]
  repeat refine kn rfl ?_
  refine k_loop_ix (st5 n H) 10000 rfl ?_ ?_
  · refine AWk_kept ?_ ?_ ?_ ?_ <;> repeat' first | exact trivial | refine q0 ?_ | exact qb | exact q1 | exact q2 | exact q3 | exact rfl | refine And.intro ?_ ?_ | exact q4 | exact q5 | exact q6 | exact q7 | exact Inside.ptr _ _ _ (.inr ⟨rfl, rfl⟩) | exact q8 | exact q9 | exact qd | exact Tm.ins _ | exact Tm.inss _ _ | exact Am.ins _ | exact Am.inss _ _ | refine ins_buf_str ?_ | refine Tm.ins_buf ?_ | refine Am.ins_buf ?_ | exact qf
    · exact .deep (WkS.slL ⟨.refl _, .refl _, .refl _, WkS.aggL ⟨.refl _, .refl _, .refl _, .nil _ _ _, trivial⟩, trivial⟩)
  intro i hi
  refine k_st rfl ?_
  rcases Nat.lt_or_ge i 10000 with h | h
  · have hi2 : (i : Int) < 10000 := by omega
    repeat refine kn rfl ?_
    refine k_region tok rfl (by kernel_rfl) ?_
    simp only [go_sem, simprocAttr, hi2]
    repeat refine kn rfl ?_
    refine k_cond_t rfl (by simp only [go_sem, simprocAttr]) ?_
    repeat refine kn rfl ?_
    refine k_region tok rfl (by kernel_rfl) ?_
    simp only [go_sem, simprocAttr]
    have m7 : (i : Int).tmod 7 = ((i % 7 : Nat) : Int) := by rw [Int.tmod_eq_emod_of_nonneg (by omega)]; omega
    have hnext : IntKind.i64.wrap ((i : Int) + 1) = ((i + 1 : Nat) : Int) := by rw [IntWalk.i64_in _ (by omega)]; rfl
    by_cases h7 : i % 7 = 0
    · have e7 : ((i : Int).tmod 7 != 0) = false := by rw [m7, h7]; rfl
      have k1 : i % 10 < F5.length := Nat.mod_lt _ (by decide)
      have k2 : i / 10 % 10 < F5.length := Nat.mod_lt _ (by decide)
      have k3 : i / 100 % 10 < F5.length := Nat.mod_lt _ (by decide)
      have k4 : i / 1000 < F5.length := by show i / 1000 < 10; omega
      have k5 : i / 3 % 10 < F5.length := Nat.mod_lt _ (by decide)
      have k6 : i % 4 < V5.length := Nat.mod_lt _ (by decide)
      have t10 : ∀ j : Nat, (j : Int).tmod 10 = ((j % 10 : Nat) : Int) := fun j => by rw [Int.tmod_eq_emod_of_nonneg (by omega)]; omega
      have t4 : ∀ j : Nat, (j : Int).tmod 4 = ((j % 4 : Nat) : Int) := fun j => by rw [Int.tmod_eq_emod_of_nonneg (by omega)]; omega
      have d10 : IntKind.i64.wrap ((i : Int).tdiv 10) = ((i / 10 : Nat) : Int) := by rw [Int.tdiv_eq_ediv_of_nonneg (by omega), IntWalk.i64_in _ (by omega)]; omega
      have d100 : IntKind.i64.wrap ((i : Int).tdiv 100) = ((i / 100 : Nat) : Int) := by rw [Int.tdiv_eq_ediv_of_nonneg (by omega), IntWalk.i64_in _ (by omega)]; omega
      have d1000 : IntKind.i64.wrap ((i : Int).tdiv 1000) = ((i / 1000 : Nat) : Int) := by rw [Int.tdiv_eq_ediv_of_nonneg (by omega), IntWalk.i64_in _ (by omega)]; omega
      have d3 : IntKind.i64.wrap ((i : Int).tdiv 3) = ((i / 3 : Nat) : Int) := by rw [Int.tdiv_eq_ediv_of_nonneg (by omega), IntWalk.i64_in _ (by omega)]; omega
      repeat refine kn rfl ?_
      refine k_cond_f rfl (by simp only [go_sem, simprocAttr, e7]) ?_
      repeat refine kn rfl ?_
      refine k_draw tok mixed drawO rfl rfl (by kernel_rfl) (by kernel_rfl) ?_
      simp only [go_sem, simprocAttr, d10, d100, d1000, t10, Am.getD_enc _ _ k1, Am.getD_enc _ _ k2, Am.getD_enc _ _ k3, Am.getD_enc _ _ k4, k1, k2, k3, k4]
      refine ⟨rfl, ?_⟩
      have g1 := gF5.mem _ (List.getElem_mem k1)
      have g2' := gF5.mem _ (List.getElem_mem k2)
      have g3' := gF5.mem _ (List.getElem_mem k3)
      have g4' := gF5.mem _ (List.getElem_mem k4)
      have g5 := gF5.mem _ (List.getElem_mem k5)
      have g6 := gV5.mem _ (List.getElem_mem k6)
      generalize F5[i % 10] = x1 at *
      generalize F5[i / 10 % 10] = x2 at *
      generalize F5[i / 100 % 10] = x3 at *
      generalize F5[i / 1000] = x4 at *
      repeat refine kn rfl ?_
      refine k_draw tok mixed drawO rfl rfl (by kernel_rfl) (by kernel_rfl) ?_
      simp only [go_sem, simprocAttr, d3, t10, t4, Am.getD_enc _ _ k5, Tm.getD_enc _ _ k6, k5, k6]
      have gX : GoodL [x1, x2, x3, x4] := by
        intro x hx
        simp only [List.mem_cons, List.not_mem_nil, or_false] at hx
        rcases hx with rfl | rfl | rfl | rfl <;> assumption
      refine callT (fun_of Tryz.func13 rfl rfl) (a13o [x1, x2, x3, x4] F5[i / 3 % 10] (IntKind.i64.wrap (((i % 4 : Nat) : Int) - 1)) V5[i % 4] .full (by simp) gX g5 g6) (Nat.succ_pos _) hTc (by simp only [go_sem, simprocAttr]) ?_
      simp only [go_sem, simprocAttr]
      refine callT (fun_of Tryz.func4 rfl rfl) (a4 x1 x2 (good_nm g1) (good_nm g2')) (Nat.succ_pos _) hTc (by simp only [go_sem, simprocAttr]) ?_
      simp only [go_sem, simprocAttr]
      repeat refine kn rfl ?_
      refine k_cond_f rfl (by simp only [go_sem, simprocAttr]) ?_
      repeat refine kn rfl ?_
      refine k_region tok rfl (by kernel_rfl) ?_
      simp only [go_sem, simprocAttr]
      repeat refine kn rfl ?_
      refine k_nil ?_
      refine ⟨h, ?_⟩
      refine AWk_kept ?_ ?_ ?_ ?_ <;> repeat' first | exact trivial | refine q0 ?_ | exact qb | exact q1 | exact q2 | exact q3 | exact rfl | refine And.intro ?_ ?_ | exact q4 | exact q5 | exact q6 | exact q7 | exact Inside.ptr _ _ _ (.inr ⟨rfl, rfl⟩) | exact q8 | exact q9 | exact qd | exact Tm.ins _ | exact Tm.inss _ _ | exact Am.ins _ | exact Am.inss _ _ | refine ins_buf_str ?_ | refine Tm.ins_buf ?_ | refine Am.ins_buf ?_ | exact qf
      · simp only [go_sem, simprocAttr]
        rw [hnext]; exact .refl _
    · have e7 : ((i : Int).tmod 7 != 0) = true := by rw [m7]; exact bne_iff_ne.2 (by omega)
      repeat refine kn rfl ?_
      refine k_cond_t rfl (by simp only [go_sem, simprocAttr, e7]) ?_
      repeat refine kn rfl ?_
      refine k_exit rfl rfl ?_
      repeat refine kn rfl ?_
      refine k_region tok rfl (by kernel_rfl) ?_
      simp only [go_sem, simprocAttr]
      repeat refine kn rfl ?_
      refine k_nil ?_
      refine ⟨h, ?_⟩
      refine AWk_kept ?_ ?_ ?_ ?_ <;> repeat' first | exact trivial | refine q0 ?_ | exact qb | exact q1 | exact q2 | exact q3 | exact rfl | refine And.intro ?_ ?_ | exact q4 | exact q5 | exact q6 | exact q7 | exact Inside.ptr _ _ _ (.inr ⟨rfl, rfl⟩) | exact q8 | exact q9 | exact qd | exact Tm.ins _ | exact Tm.inss _ _ | exact Am.ins _ | exact Am.inss _ _ | refine ins_buf_str ?_ | refine Tm.ins_buf ?_ | refine Am.ins_buf ?_ | exact qf
      · simp only [go_sem, simprocAttr]
        rw [hnext]; exact .refl _
  · have hi2 : ¬ (i : Int) < 10000 := by omega
    repeat refine kn rfl ?_
    refine k_region tok rfl (by kernel_rfl) ?_
    simp only [go_sem, simprocAttr, hi2]
    repeat refine kn rfl ?_
    refine k_cond_f rfl (by simp only [go_sem, simprocAttr]) ?_
    repeat refine kn rfl ?_
    refine k_exit_round rfl rfl rfl ?_
    repeat refine kn rfl ?_
    refine k_region tok rfl (by kernel_rfl) ?_
    simp only [go_sem, simprocAttr]
    refine call22 rfl n 0 (Nat.lt_succ_self n) hfr (by simp only [go_sem, simprocAttr]) ?_
    simp only [go_sem, simprocAttr]
    repeat refine kn rfl ?_
    refine k_region tok rfl (by kernel_rfl) ?_
    simp only [go_sem, simprocAttr]
    repeat refine kn rfl ?_
    have hpi : ∀ q, Inside (n + 1) q (.ptr n 0 0) := fun q => .ptr _ _ _ (.inl (Nat.lt_succ_self n))
    refine k_loop_ix (st5b n H) 2002 rfl ?_ ?_
    · refine AWk_kept ?_ ?_ ?_ ?_ <;> repeat' first | exact trivial | refine q0 ?_ | exact qb | exact q1 | exact q2 | exact q3 | exact rfl | refine And.intro ?_ ?_ | exact q4 | exact q5 | exact q6 | exact q7 | exact Inside.ptr _ _ _ (.inr ⟨rfl, rfl⟩) | exact q8 | exact q9 | exact qd | exact Tm.ins _ | exact Tm.inss _ _ | exact Am.ins _ | exact Am.inss _ _ | refine ins_buf_str ?_ | refine Tm.ins_buf ?_ | refine Am.ins_buf ?_ | exact qf
      all_goals first | exact hpi _ | skip
    intro i hi
    refine k_st rfl ?_
    rcases Nat.lt_or_ge i 2002 with h | h
    · have hi2 : (i : Int) < 2002 := by omega
      have hoi := n_ok (i := i) (by omega)
      have hres := n_res h
      repeat refine kn rfl ?_
      refine k_region tok rfl (by kernel_rfl) ?_
      simp only [go_sem, simprocAttr, hi2]
      repeat refine kn rfl ?_
      refine k_cond_t rfl (by simp only [go_sem, simprocAttr]) ?_
      repeat refine kn rfl ?_
      refine k_region tok rfl (by kernel_rfl) ?_
      simp only [go_sem, simprocAttr]
      refine callP (fun_of Tryz.func19 rfl rfl) (a19t i) (by simp only [go_sem, simprocAttr]) ?_
      simp only [go_sem, simprocAttr]
      refine ⟨by decide, ?_⟩
      refine callP (fun_of Tryz.func18 rfl rfl) (a18o [110] [tInt i] .full) (by simp only [go_sem, simprocAttr]) ?_
      simp only [go_sem, simprocAttr]
      refine call23 rfl n 0 _ (nAt i) rfl (Nat.lt_succ_self n) hfr hoi.fit (nAt_good (by omega)) (Nat.succ_pos _) hTc (by simp only [go_sem, simprocAttr, nAt]) ?_
      rw [← addL_snoc, ← nL_snoc, hres]
      simp only [go_sem, simprocAttr]
      have hnext : IntKind.i64.wrap ((i : Int) + 1) = ((i + 1 : Nat) : Int) := by rw [IntWalk.i64_in _ (by omega)]; rfl
      rcases Nat.lt_or_ge i 2000 with h20 | h20
      · have e1 : decide ((i : Int) < 2000) = true := decide_eq_true (by omega)
        have e2 : decide (2000 ≤ (i : Int)) = false := decide_eq_false (by omega)
        rw [e1, if_pos h20]
        repeat refine kn rfl ?_
        refine k_region tok rfl (by kernel_rfl) ?_
        simp only [go_sem, simprocAttr, e1, e2, eInt, bne_self_eq_false]
        repeat refine kn rfl ?_
        refine k_cond_f rfl (by simp only [go_sem, simprocAttr]) ?_
        repeat refine kn rfl ?_
        refine k_region tok rfl (by kernel_rfl) ?_
        simp only [go_sem, simprocAttr]
        repeat refine kn rfl ?_
        refine k_nil ?_
        refine ⟨h, ?_⟩
        refine AWk_kept ?_ ?_ ?_ ?_ <;> repeat' first | exact trivial | refine q0 ?_ | exact qb | exact q1 | exact q2 | exact q3 | exact rfl | refine And.intro ?_ ?_ | exact q4 | exact q5 | exact q6 | exact q7 | exact Inside.ptr _ _ _ (.inr ⟨rfl, rfl⟩) | exact q8 | exact q9 | exact qd | exact Tm.ins _ | exact Tm.inss _ _ | exact Am.ins _ | exact Am.inss _ _ | refine ins_buf_str ?_ | refine Tm.ins_buf ?_ | refine Am.ins_buf ?_ | exact qf
        all_goals first | exact hpi _ | skip
        simp only [go_sem, simprocAttr]
        rw [hnext]; exact .refl _
      · have e1 : decide ((i : Int) < 2000) = false := decide_eq_false (by omega)
        have e2 : decide (2000 ≤ (i : Int)) = true := decide_eq_true (by omega)
        rw [e1, if_neg (by omega)]
        repeat refine kn rfl ?_
        refine k_region tok rfl (by kernel_rfl) ?_
        simp only [go_sem, simprocAttr, e1, e2, eInt, bne_self_eq_false]
        repeat refine kn rfl ?_
        refine k_cond_f rfl (by simp only [go_sem, simprocAttr]) ?_
        repeat refine kn rfl ?_
        refine k_region tok rfl (by kernel_rfl) ?_
        simp only [go_sem, simprocAttr]
        repeat refine kn rfl ?_
        refine k_nil ?_
        refine ⟨h, ?_⟩
        refine AWk_kept ?_ ?_ ?_ ?_ <;> repeat' first | exact trivial | refine q0 ?_ | exact qb | exact q1 | exact q2 | exact q3 | exact rfl | refine And.intro ?_ ?_ | exact q4 | exact q5 | exact q6 | exact q7 | exact Inside.ptr _ _ _ (.inr ⟨rfl, rfl⟩) | exact q8 | exact q9 | exact qd | exact Tm.ins _ | exact Tm.inss _ _ | exact Am.ins _ | exact Am.inss _ _ | refine ins_buf_str ?_ | refine Tm.ins_buf ?_ | refine Am.ins_buf ?_ | exact qf
        all_goals first | exact hpi _ | skip
        simp only [go_sem, simprocAttr]
        rw [hnext]; exact .refl _
    · have hi2 : ¬ (i : Int) < 2002 := by omega
      have hi' : i = 2002 := by omega
      have hoi := n_ok (i := 2002) (by omega)
      have hsA := n_A (i := 2002) (by omega)
      have h7 := n_seven
      have hTp := hTc.put hfr (addL sto0 (nL 2002))
      have hst := HasSto.put (cutH n H) n 0 (addL sto0 (nL 2002))
      repeat refine kn rfl ?_
      refine k_region tok rfl (by kernel_rfl) ?_
      simp only [go_sem, simprocAttr, hi2]
      repeat refine kn rfl ?_
      refine k_cond_f rfl (by simp only [go_sem, simprocAttr]) ?_
      repeat refine kn rfl ?_
      refine k_exit_round rfl rfl rfl ?_
      rw [hi']
      repeat refine kn rfl ?_
      refine k_region tok rfl (by kernel_rfl) ?_
      simp only [go_sem, simprocAttr]
      refine callP (fun_of Tryz.func19 rfl rfl) (a19t 7) (by simp only [go_sem, simprocAttr]) ?_
      simp only [go_sem, simprocAttr]
      refine ⟨by decide, ?_⟩
      refine callP (fun_of Tryz.func18 rfl rfl) (a18o [110] [tInt 7] .full) (by simp only [go_sem, simprocAttr]) ?_
      simp only [go_sem, simprocAttr]
      refine call23 rfl n 0 _ (nAt 7) rfl (Nat.lt_succ_self n) hfr hoi.fit (nAt_good (by omega)) (Nat.succ_pos _) hTc (by simp only [go_sem, simprocAttr, nAt]) ?_
      rw [h7]
      simp only [go_sem, simprocAttr]
      repeat refine kn rfl ?_
      refine k_region tok rfl (by kernel_rfl) ?_
      simp only [go_sem, simprocAttr]
      refine callP (fun_of Tryz.func19 rfl rfl) (a19t 1) (by simp only [go_sem, simprocAttr]) ?_
      simp only [go_sem, simprocAttr]
      refine callP (fun_of Tryz.func19 rfl rfl) (a19t 2) (by simp only [go_sem, simprocAttr]) ?_
      simp only [go_sem, simprocAttr]
      refine callP (fun_of Tryz.func19 rfl rfl) (a19t 3) (by simp only [go_sem, simprocAttr]) ?_
      simp only [go_sem, simprocAttr]
      refine callP (fun_of Tryz.func19 rfl rfl) (a19t 4) (by simp only [go_sem, simprocAttr]) ?_
      simp only [go_sem, simprocAttr]
      refine callP (fun_of Tryz.func19 rfl rfl) (a19t 5) (by simp only [go_sem, simprocAttr]) ?_
      simp only [go_sem, simprocAttr]
      refine callP (fun_of Tryz.func19 rfl rfl) (a19t 6) (by simp only [go_sem, simprocAttr]) ?_
      simp only [go_sem, simprocAttr]
      refine callP (fun_of Tryz.func19 rfl rfl) (a19t 7) (by simp only [go_sem, simprocAttr]) ?_
      simp only [go_sem, simprocAttr]
      refine callP (fun_of Tryz.func19 rfl rfl) (a19t 8) (by simp only [go_sem, simprocAttr]) ?_
      simp only [go_sem, simprocAttr]
      refine ⟨by decide, ?_⟩
      refine callP (fun_of Tryz.func18 rfl rfl) (a18f [119] W8.args) (by simp only [go_sem, simprocAttr, W8]) ?_
      simp only [go_sem, simprocAttr]
      repeat refine kn rfl ?_
      refine k_region tok rfl (by kernel_rfl) ?_
      simp only [go_sem, simprocAttr]
      refine callT (fun_of Tryz.func14 rfl rfl) (a14f W8 gW8) (Nat.succ_pos _) hTp (by simp only [go_sem, simprocAttr, W8]) ?_
      rw [vW8]
      simp only [go_sem, simprocAttr]
      repeat refine kn rfl ?_
      refine k_cond_f rfl (by simp only [go_sem, simprocAttr]) ?_
      repeat refine kn rfl ?_
      refine k_draw tok mixed drawO rfl rfl (by kernel_rfl) (by kernel_rfl) ?_
      simp only [go_sem, simprocAttr]
      refine callP (fun_of Tryz.func19 rfl rfl) (a19t 9) (by simp only [go_sem, simprocAttr]) ?_
      simp only [go_sem, simprocAttr]
      refine ⟨by decide, ?_⟩
      refine ⟨⟨by decide, by decide⟩, ?_⟩
      have hW9 : AV.agg [.str [119], .sl 4 (W8.args.map Tm.enc ++ [(tInt 9).enc]) .any] = W9.enc := rfl
      repeat refine kn rfl ?_
      refine k_region tok rfl (by kernel_rfl) ?_
      simp only [go_sem, simprocAttr, eInt, beq_self_eq_true]
      refine callH (fun_of Tryz.func24 rfl rfl) (a24 (n + 1 + 1) _ n 0 _ (by omega) (hst.full (Nat.lt_succ_self n) _)) (by simp only [go_sem, simprocAttr]) ?_
      rw [hsA, nL_len]
      simp only [go_sem, simprocAttr, show ((min 2002 2000 : Nat) : Int) = 2000 from rfl, beq_self_eq_true, hW9]
      refine callT (fun_of Tryz.func14 rfl rfl) (a14 W9 gW9) (Nat.succ_pos _) hTp (by simp only [go_sem, simprocAttr, hW9]) ?_
      rw [vW9]
      simp only [go_sem, simprocAttr]
      refine callT (fun_of Tryz.func12 rfl rfl) a12 (Nat.succ_pos _) hTp (by simp only [go_sem, simprocAttr]) ?_
      simp only [go_sem, simprocAttr]
      repeat refine kn rfl ?_
      refine k_ret rfl ?_
      exact post_oneQ (.refl _) (.bool _) ⟨rfl, put_cut (Nat.le_refl n)⟩
end Go.Proofs.YtpoegdhgdgbmaaaGreatDoorR
