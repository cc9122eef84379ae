/- The laws StoreTells, StoreAtoms. -/
import Derived.Test.YtpoegdhgdgbmaaaGreatDoorRM19
import Derived.Test.YtpoegdhgdgbmaaaGreatDoorRM08
import Derived.Test.YtpoegdhgdgbmaaaGreatDoorRTie
import Derived.Test.YtpoegdhgdgbmaaaGreatDoorRCards
import Derived.LaidSub
import Derived.Shelf.Vars
import Derived.Deep.DeepHandedRow
import Derived.WalkKit
import Derived.ProofKit
import Derived.Stop.Joined
set_option linter.all false
namespace Go.Proofs.YtpoegdhgdgbmaaaGreatDoorR
open Go.Abs
set_option maxRecDepth 100000

/-- An atom of whatever size. -/
structure NmA (a : Am) : Prop where
  pred : a.pred.length ≤ 140737488355328
  nm : ∀ t ∈ a.args, t.Nm

theorem szA_mem : ∀ {l : List Am} {a : Am}, a ∈ l → a.sz ≤ szA l
  | b :: l, a, h => by
    simp only [szA]
    rcases List.mem_cons.1 h with rfl | h
    · omega
    · have := szA_mem h; omega
theorem great_good {l : List Am} (h : great l = false) (hn : ∀ a ∈ l, NmA a) : GoodL l ∧ l.length ≤ 150 ∧ szA l ≤ 2000 := by
  simp only [great, Bool.or_eq_false_iff, decide_eq_false_iff_not] at h
  refine ⟨fun a ha => ⟨(hn a ha).pred, ?_, (hn a ha).nm⟩, by omega, by omega⟩
  have := szA_mem ha; omega

theorem a10o (l : List Am) (o : Own) : Abs.Pure Tryz.prog 10 [.sl 2 (l.map Am.enc) o] (.bool (great l)) := Pure.wk (a10 l) ⟨.any _ _ _, trivial⟩

theorem cut_le {m : Int} {k : Nat} (h0 : 0 ≤ m) : decide (m < cutN k m) = decide (m < (k : Int)) := by
  unfold cutN; split
  · rfl
  · rw [Bool.eq_iff_iff]; simp; omega

theorem a3 (l : List Am) (a : Am) (c : Int) (v : Tm) (hl : ∀ a ∈ l, NmA a) (ha : NmA a) (hv : v.Nm) : PureT Tryz.prog 3 [.sl 2 (l.map Am.enc) .any, a.enc, .int .i64 c, v.enc] (.bool true) := by
  intro n H hn hT
  refine a_fun tok (fun_of Tryz.func3 rfl rfl) (by simp) fun B => ?_
  repeat refine kn rfl ?_
  refine k_region tok rfl (by kernel_rfl) ?_
  simp only [go_sem, simprocAttr]
  repeat refine kn rfl ?_
  refine k_region tok rfl (by kernel_rfl) ?_
  simp only [go_sem, simprocAttr]
  refine callP (fun_of Tryz.func10 rfl rfl) (a10 l) (by simp only [go_sem, simprocAttr]) ?_
  simp only [go_sem, simprocAttr]
  cases h1 : great l with
  | true =>
    simp only [go_sem, simprocAttr, h1]
    repeat refine kn rfl ?_
    refine k_cond_t rfl (by simp only [go_sem, simprocAttr]) ?_
    repeat refine kn rfl ?_
    refine k_region tok rfl (by kernel_rfl) ?_
    simp only [go_sem, simprocAttr]
    refine callT (fun_of Tryz.func12 rfl rfl) (a12) hn hT (by simp only [go_sem, simprocAttr]) ?_
    simp only [go_sem, simprocAttr]
    repeat refine kn rfl ?_
    refine k_ret rfl ?_
    refine post_one ?_ (.bool _) rfl
    try simp only [go_sem, simprocAttr]
    exact .refl _
  | false =>
  simp only [go_sem, simprocAttr, h1]
  refine ⟨by decide, ?_⟩
  refine callP (fun_of Tryz.func10 rfl rfl) (a10o [a] .full) (by simp only [go_sem, simprocAttr]) ?_
  simp only [go_sem, simprocAttr]
  cases h2 : great [a] with
  | true =>
    simp only [go_sem, simprocAttr, h2]
    repeat refine kn rfl ?_
    refine k_cond_t rfl (by simp only [go_sem, simprocAttr]) ?_
    repeat refine kn rfl ?_
    refine k_region tok rfl (by kernel_rfl) ?_
    simp only [go_sem, simprocAttr]
    refine callT (fun_of Tryz.func12 rfl rfl) (a12) hn hT (by simp only [go_sem, simprocAttr]) ?_
    simp only [go_sem, simprocAttr]
    repeat refine kn rfl ?_
    refine k_ret rfl ?_
    refine post_one ?_ (.bool _) rfl
    try simp only [go_sem, simprocAttr]
    exact .refl _
  | false =>
  simp only [go_sem, simprocAttr, h2]
  refine callP (fun_of Tryz.func11 rfl rfl) (a11 v 2000 (by decide) (by decide)) (by simp only [go_sem, simprocAttr]) ?_
  simp only [go_sem, simprocAttr]
  simp only [go_sem, simprocAttr, cut_le]
  cases h3 : decide ((2000 : Int) < (v.sz : Int)) with
  | true =>
    repeat refine kn rfl ?_
    refine k_cond_t rfl (by simp only [go_sem, simprocAttr, h3]) ?_
    repeat refine kn rfl ?_
    refine k_region tok rfl (by kernel_rfl) ?_
    simp only [go_sem, simprocAttr]
    refine callT (fun_of Tryz.func12 rfl rfl) (a12) hn hT (by simp only [go_sem, simprocAttr]) ?_
    simp only [go_sem, simprocAttr]
    repeat refine kn rfl ?_
    refine k_ret rfl ?_
    refine post_one ?_ (.bool _) rfl
    try simp only [go_sem, simprocAttr]
    exact .refl _
  | false =>
    obtain ⟨g1, g2, g3⟩ := great_good h1 hl
    obtain ⟨g4, _, _⟩ := great_good h2 (by simpa using ha)
    have g5 : v.Good := ⟨by simp at h3; omega, hv⟩
    repeat refine kn rfl ?_
    refine k_cond_f rfl (by simp only [go_sem, simprocAttr, h3]) ?_
    repeat refine kn rfl ?_
    refine k_region tok rfl (by kernel_rfl) ?_
    simp only [go_sem, simprocAttr]
    refine callT (fun_of Tryz.func13 rfl rfl) (a13 l a c v (by omega) g1 (g4 a (by simp)) g5) hn hT (by simp only [go_sem, simprocAttr]) ?_
    simp only [go_sem, simprocAttr]
    refine callT (fun_of Tryz.func12 rfl rfl) (a12) hn hT (by simp only [go_sem, simprocAttr]) ?_
    simp only [go_sem, simprocAttr]
    repeat refine kn rfl ?_
    refine k_ret rfl ?_
    refine post_one ?_ (.bool _) rfl
    try simp only [go_sem, simprocAttr]
    exact .refl _

theorem a4 (a b : Am) (ha : NmA a) (hb : NmA b) : PureT Tryz.prog 4 [a.enc, b.enc] (.bool true) := by
  intro n H hn hT
  refine a_fun tok (fun_of Tryz.func4 rfl rfl) (by simp) fun B => ?_
  repeat refine kn rfl ?_
  refine k_region tok rfl (by kernel_rfl) ?_
  simp only [go_sem, simprocAttr]
  repeat refine kn rfl ?_
  refine k_region tok rfl (by kernel_rfl) ?_
  simp only [go_sem, simprocAttr]
  refine ⟨by decide, ?_⟩
  refine callP (fun_of Tryz.func10 rfl rfl) (a10o [a, b] .full) (by simp only [go_sem, simprocAttr]) ?_
  simp only [go_sem, simprocAttr]
  cases h1 : great [a, b] with
  | true =>
    repeat refine kn rfl ?_
    refine k_cond_t rfl (by simp only [go_sem, simprocAttr, h1]) ?_
    repeat refine kn rfl ?_
    refine k_region tok rfl (by kernel_rfl) ?_
    simp only [go_sem, simprocAttr]
    refine callT (fun_of Tryz.func12 rfl rfl) (a12) hn hT (by simp only [go_sem, simprocAttr]) ?_
    simp only [go_sem, simprocAttr]
    repeat refine kn rfl ?_
    refine k_ret rfl ?_
    refine post_one ?_ (.bool _) rfl
    try simp only [go_sem, simprocAttr]
    exact .refl _
  | false =>
  obtain ⟨g1, _, _⟩ := great_good h1 (by simpa using ⟨ha, hb⟩)
  have ga := g1 a (by simp)
  have gb := g1 b (by simp)
  repeat refine kn rfl ?_
  refine k_cond_f rfl (by simp only [go_sem, simprocAttr, h1]) ?_
  repeat refine kn rfl ?_
  refine k_draw tok mixed drawO rfl rfl (by kernel_rfl) (by kernel_rfl) ?_
  simp only [go_sem, simprocAttr]
  refine callT (fun_of Tryz.func14 rfl rfl) (a14 a ga) hn hT (by simp only [go_sem, simprocAttr]) ?_
  simp only [go_sem, simprocAttr]
  refine callT (fun_of Tryz.func15 rfl rfl) (a15 a ga) hn hT (by simp only [go_sem, simprocAttr]) ?_
  simp only [go_sem, simprocAttr]
  refine callT (fun_of Tryz.func14 rfl rfl) (a14 b gb) hn hT (by simp only [go_sem, simprocAttr]) ?_
  simp only [go_sem, simprocAttr]
  refine callT (fun_of Tryz.func15 rfl rfl) (a15 b gb) hn hT (by simp only [go_sem, simprocAttr]) ?_
  simp only [go_sem, simprocAttr]
  refine callP (fun_of Tryz.func16 rfl rfl) (a16 a b ga gb) (by simp only [go_sem, simprocAttr]) ?_
  simp only [go_sem, simprocAttr]
  refine callT (fun_of Tryz.func17 rfl rfl) (a17 a b ga gb) hn hT (by simp only [go_sem, simprocAttr]) ?_
  simp only [go_sem, simprocAttr]
  refine callP (fun_of Tryz.func16 rfl rfl) (a16 b a gb ga) (by simp only [go_sem, simprocAttr]) ?_
  simp only [go_sem, simprocAttr]
  refine callT (fun_of Tryz.func17 rfl rfl) (a17 b a gb ga) hn hT (by simp only [go_sem, simprocAttr]) ?_
  simp only [go_sem, simprocAttr]
  refine callT (fun_of Tryz.func12 rfl rfl) (a12) hn hT (by simp only [go_sem, simprocAttr]) ?_
  simp only [go_sem, simprocAttr]
  repeat refine kn rfl ?_
  refine k_ret rfl ?_
  refine post_one ?_ (.bool _) rfl
  try simp only [go_sem, simprocAttr]
  exact .refl _
end Go.Proofs.YtpoegdhgdgbmaaaGreatDoorR

/- The laws' rows: what they read, as data; the variables that they list; the end of a call. -/
namespace Go.Proofs.YtpoegdhgdgbmaaaGreatDoorR
open Go.Abs Go.ChangeShapes Go.WideShapes Go.ChangeAt Go.RowKit
set_option maxRecDepth 100000

/-- The types that are read. -/
def rdS : List TypeId := [3, 5, 9, 22, 23, 25, 27]
theorem rdOk : readsB tt rdS = true := by kernel_rfl

theorem wf_i64 {n : Int} (h : (Lit.int .i64 n).wf = true) : -9223372036854775808 ≤ n ∧ n ≤ 9223372036854775807 := by
  simp [Lit.wf, IntKind.min, IntKind.max, IntKind.signed, IntKind.bits] at h; omega
theorem wf_u8 {n : Int} (h : (Lit.int .u8 n).wf = true) : 0 ≤ n ∧ n ≤ 255 := by
  simp [Lit.wf, IntKind.min, IntKind.max, IntKind.signed, IntKind.bits] at h; omega
theorem reach_le {n : Nat} (h : n ≤ reachBytes) : n ≤ 140737488355328 := Nat.le_trans h (by decide)

theorem r3 : tt 3 = some ⟨.int .i64, 1, 8, [.int .i64 0]⟩ := rfl
theorem r5 : tt 5 = some ⟨.int .u8, 1, 1, [.int .u8 0]⟩ := rfl
theorem r9 : tt 9 = some ⟨.str, 1, 16, [.str []]⟩ := rfl
theorem r22 : tt 22 = some ⟨.slice 25, 1, 24, [.sl 2 [] .full]⟩ := rfl
theorem r23 : tt 23 = some ⟨.slice 27, 1, 24, [.sl 4 [] .full]⟩ := rfl
theorem r25 : tt 25 = some ⟨.struct [(0, 9), (1, 23)], 2, 40, [.str [], .sl 4 [] .full]⟩ := rfl
theorem r27 : tt 27 = some ⟨.struct [(0, 5), (1, 3), (2, 9), (3, 23)], 4, 56, [.int .u8 0, .int .i64 0, .str [], .sl 4 [] .full]⟩ := rfl

theorem map_of {α : Type} {p : α → Prop} {enc : α → List AV} : ∀ {xs : List (List AV)}, (∀ x ∈ xs, ∃ a, x = enc a ∧ p a) → ∃ l : List α, xs = l.map enc ∧ ∀ a ∈ l, p a
  | [], _ => ⟨[], rfl, by simp⟩
  | x :: xs, h => by
    obtain ⟨a, h1, h2⟩ := h x (by simp)
    obtain ⟨l, h3, h4⟩ := map_of (xs := xs) (fun y hy => h y (by simp [hy]))
    exact ⟨a :: l, by rw [h1, h3]; rfl, fun b hb => by rcases List.mem_cons.1 hb with rfl | hb; exact h2; exact h4 b hb⟩

/-- A term, a list of terms. -/
theorem fit_tm {t : TypeId} {cs : List AV} (h : FitV tt t cs) : (t = 27 → ∃ u : Tm, cs = u.cs ∧ u.Nm) ∧ (t = 23 → ∃ l : List Tm, cs = [.sl 4 (l.map Tm.enc) .any] ∧ ∀ u ∈ l, u.Nm) := by
  induction h with
  | int h hd hw => exact ⟨fun e => (by subst e; rw [r27] at h; cases h; cases hd), fun e => (by subst e; rw [r23] at h; cases h; cases hd)⟩
  | bool h hd => exact ⟨fun e => (by subst e; rw [r27] at h; cases h; cases hd), fun e => (by subst e; rw [r23] at h; cases h; cases hd)⟩
  | str h hd hl => exact ⟨fun e => (by subst e; rw [r27] at h; cases h; cases hd), fun e => (by subst e; rw [r23] at h; cases h; cases hd)⟩
  | slice xs h hd he hx hl ih =>
    refine ⟨fun e => (by subst e; rw [r27] at h; cases h; cases hd), fun e => ?_⟩
    subst e
    rw [r23] at h; cases h; cases hd
    rw [r27] at he; cases he
    obtain ⟨l, h1, h2⟩ := map_of (enc := Tm.cs) (p := Tm.Nm) (fun x hx => (ih x hx).1 rfl)
    refine ⟨l, ?_, h2⟩
    rw [h1, List.map_map]
    congr 2
    exact List.map_congr_left fun u _ => by simp [wrapA, TRow.isAgg, Tm.enc_cs]
  | struct h hd ps hl hf ih =>
    refine ⟨fun e => ?_, fun e => (by subst e; rw [r23] at h; cases h; cases hd)⟩
    subst e
    rw [r27] at h; cases h; cases hd
    match ps, hl with
    | [p0, p1, p2, p3], _ =>
      obtain ⟨k, rfl, hk⟩ := (hf 0 (by simp) (by simp)).int_inv r5 rfl
      obtain ⟨n, rfl, hn⟩ := (hf 1 (by simp) (by simp)).int_inv r3 rfl
      obtain ⟨s, rfl, hs⟩ := (hf 2 (by simp) (by simp)).str_inv r9 rfl
      obtain ⟨l, rfl, hl⟩ := (ih 3 (by simp) (by simp)).2 rfl
      exact ⟨.mk k n s l, rfl, .mk k n s l (reach_le hs) (wf_u8 hk) (wf_i64 hn) hl⟩

theorem fit_am {cs : List AV} (h : FitV tt 25 cs) : ∃ a : Am, cs = a.cs ∧ NmA a := by
  obtain ⟨ps, rfl, hl, hf⟩ := h.struct_inv r25 rfl
  match ps, hl with
  | [p0, p1], _ =>
    obtain ⟨s, rfl, hs⟩ := (hf 0 (by simp) (by simp)).str_inv r9 rfl
    obtain ⟨l, rfl, hl⟩ := (fit_tm (hf 1 (by simp) (by simp))).2 rfl
    exact ⟨⟨s, l⟩, rfl, reach_le hs, hl⟩
theorem fit_ams {cs : List AV} (h : FitV tt 22 cs) : ∃ l : List Am, cs = [.sl 2 (l.map Am.enc) .any] ∧ ∀ a ∈ l, NmA a := by
  obtain ⟨xs, rfl, hx, _⟩ := h.slice_inv r22 rfl r25
  obtain ⟨l, rfl, h2⟩ := map_of (enc := Am.cs) (p := NmA) (fun x hx' => fit_am (hx x hx'))
  refine ⟨l, ?_, h2⟩
  rw [List.map_map]; rfl

/-- As arguments. -/
theorem arg_am {cs : List AV} (h : FitV tt 25 cs) : ∃ a : Am, wrapT tt 25 cs = a.enc ∧ NmA a := by
  obtain ⟨a, rfl, h2⟩ := fit_am h; exact ⟨a, rfl, h2⟩
theorem arg_ams {cs : List AV} (h : FitV tt 22 cs) : ∃ l : List Am, wrapT tt 22 cs = .sl 2 (l.map Am.enc) .any ∧ ∀ a ∈ l, NmA a := by
  obtain ⟨a, rfl, h2⟩ := fit_ams h; exact ⟨a, rfl, h2⟩
theorem arg_tm {cs : List AV} (h : FitV tt 27 cs) : ∃ u : Tm, wrapT tt 27 cs = u.enc ∧ u.Nm := by
  obtain ⟨u, rfl, h2⟩ := (fit_tm h).1 rfl; exact ⟨u, u.enc_cs.symm, h2⟩
theorem arg_int {cs : List AV} (h : FitV tt 3 cs) : ∃ n : Int, wrapT tt 3 cs = .int .i64 n ∧ -9223372036854775808 ≤ n ∧ n ≤ 9223372036854775807 := by
  obtain ⟨n, rfl, h2⟩ := h.int_inv r3 rfl; exact ⟨n, rfl, wf_i64 h2⟩

/-! The variables of Go's library. -/
theorem own : ownKnob Tryz.prog.godebug = none := by kernel_rfl
theorem gPow : Tryz.prog.globalNamed "internal/strconv.uint64pow10" = some 3 := by kernel_rfl
theorem gPowT : (Tryz.prog.globals[3]?).map (·.type) = some 211 := by kernel_rfl
theorem cells211 : Tryz.prog.cellsOf 211 = 20 := by kernel_rfl
theorem cells12 : Tryz.prog.cellsOf 12 = 1 := by kernel_rfl

theorem pow_tab {W : World} (h : laidMetH Tryz.prog Rows.storeTellsRow.laid W) : Lib.TabIs Tryz.prog W "internal/strconv.uint64pow10" .u64 Lib.pow10Tab := by
  have h1 := laidMetH.filter (fun x => x.1 == "internal/strconv.uint64pow10") h
  exact Lib.tabIs_of_head (rest := []) gPow gPowT Tryz.underlying211 Tryz.underlying12 cells12 cells211 h1

/-- The environment in which a law is called: all cells stand, but for the variables that are looked at. -/
def env0 (W : World) : Env where
  F := fun b o => if b = 0 ∨ b = 3 then none else W.cell? ⟨b, o, none⟩
  m := fun l k => if l = 0 ∧ k = 0 then some 0 else if l = 0 ∧ k = 1 then some 3 else none
  hist := fun _ _ _ => none
  g := fun _ _ => none
  qd := false
def heap0 (m : Int) : AHeap := fun l k => if l = 0 ∧ k = 0 then some (.var 0 3 [.int .i64 m]) else if l = 0 ∧ k = 1 then some (.var 3 211 (Lib.pow10Tab.map (.int .u64))) else none
theorem tabs0 (m : Int) : Tabs (heap0 m) := ⟨m, 3, 211, rfl, rfl⟩

theorem blocks0 {W : World} (hsh : W.ShapedOpen Tryz.prog) (hL : Lib.TabIs Tryz.prog W "internal/strconv.uint64pow10" .u64 Lib.pow10Tab) :
    ∃ m, W.heap[0]? = some (.cells #[.int .i64 m] 3 (0, 0)) ∧ W.heap[3]? = some (.cells (Lib.pow10Tab.map fun z => Value.int .u64 z).toArray 211 (0, 0)) := by
  obtain ⟨m, hm⟩ := cell_of_shapedOpen_int (P := Tryz.prog) (g := 0) (t := 3) (zero := #[.int .i64 0]) hsh (of_decide_eq_true (by kernel_rfl)) (by kernel_rfl) rfl (by kernel_rfl) (by kernel_rfl) Tryz.underlying3
  obtain ⟨cs, h1, h2, _⟩ := hsh.1 0 #[.int .i64 0] 3 (of_decide_eq_true (by kernel_rfl)) (by kernel_rfl)
  obtain ⟨cs3, h3, h4, _⟩ := hsh.1 3 (Array.replicate 20 (.int .u64 0)) 211 (of_decide_eq_true (by kernel_rfl)) (by kernel_rfl)
  refine ⟨m, ?_, ?_⟩
  · have hs : cs.size = 1 := h2
    simp only [World.cell?, h1] at hm
    rw [h1]
    have : cs = #[.int .i64 m] := by
      apply Array.ext_getElem?
      intro i
      cases i with
      | zero => simpa using hm
      | succ i => rw [Array.getElem?_eq_none (by omega), Array.getElem?_eq_none (by simp)]
    rw [this]
  · unfold Lib.TabIs World.var? at hL
    rw [gPow] at hL
    simp only [Option.bind_some, h3] at hL
    rw [h3, Option.some.inj hL]

theorem hrel0 {W : World} {m : Int} (h0 : W.heap[0]? = some (.cells #[.int .i64 m] 3 (0, 0))) (h3 : W.heap[3]? = some (.cells (Lib.pow10Tab.map fun z => Value.int .u64 z).toArray 211 (0, 0))) : HRel 1 (heap0 m) (env0 W) W := by
  have hm : ∀ l k b, (env0 W).m l k = some b → (l = 0 ∧ k = 0 ∧ b = 0) ∨ (l = 0 ∧ k = 1 ∧ b = 3) := fun l k b h => by
    simp only [env0] at h
    split at h
    · rename_i e; cases h; exact .inl ⟨e.1, e.2, rfl⟩
    · split at h
      · rename_i e; cases h; exact .inr ⟨e.1, e.2, rfl⟩
      · cases h
  refine { norm := ⟨fun l k hl => ?_, fun _ _ _ => rfl, fun _ _ _ _ => rfl⟩, F := fun b o v h => ?_, blk := fun l k b hl h => ?_, dom := fun l k hl h => ?_, nobuf := fun l k h => absurd rfl h, inj := fun l k l' k' b h h' => ?_, injg := fun _ _ _ _ _ h => (by cases h), mg := fun _ _ _ _ _ _ h => (by cases h), mF := fun l k b o h => ?_, lt := fun b h => ?_ }
  · simp only [env0]; rw [if_neg (by omega), if_neg (by omega)]
  · simp only [env0] at h; split at h
    · cases h
    · exact h
  · simp only [heap0] at h
    split at h
    · rename_i e; obtain ⟨rfl, rfl⟩ := e; cases h
      exact ⟨rfl, rfl, _, h0, VRs.cons (.int _ _) (VRs.nil _)⟩
    · split at h
      · rename_i e; obtain ⟨rfl, rfl⟩ := e; cases h
        exact ⟨rfl, rfl, _, h3, by simp, fun i h1 h2 => by simp only [List.getElem_map, List.toList_toArray]; exact .int _ _⟩
      · cases h
  · simp only [heap0] at h
    split at h
    · cases h
    · rename_i c1
      split at h
      · cases h
      · rename_i c2
        simp only [env0]
        rw [if_neg c1, if_neg c2]; simp
  · rcases hm _ _ _ h with ⟨rfl, rfl, rfl⟩ | ⟨rfl, rfl, rfl⟩ <;> rcases hm _ _ _ h' with ⟨rfl, rfl, e⟩ | ⟨rfl, rfl, e⟩ <;> first | (cases e; done) | exact ⟨trivial, trivial⟩ | exact ⟨rfl, rfl⟩ | simp
  · rcases hm _ _ _ h with ⟨_, _, rfl⟩ | ⟨_, _, rfl⟩ <;> simp [env0]
  · rcases h with ⟨l, k, h⟩ | ⟨l, k, h⟩
    · rcases hm _ _ _ h with ⟨_, _, rfl⟩ | ⟨_, _, rfl⟩
      · exact (Array.getElem?_eq_some_iff.1 h0).1
      · exact (Array.getElem?_eq_some_iff.1 h3).1
    · cases h

/-- Behind a call that leaves the slots alone, all old blocks are as they were. -/
theorem below0 {W W' : World} {m : Int} {E' : Env} (h0 : W.heap[0]? = some (.cells #[.int .i64 m] 3 (0, 0))) (h3 : W.heap[3]? = some (.cells (Lib.pow10Tab.map fun z => Value.int .u64 z).toArray 211 (0, 0)))
    (hh : HRel 1 (heap0 m) E' W') (hx : Ext 1 (env0 W) W E' W') : Go.RowKit.Below W.heap.size W W' := by
  refine ⟨hx.os, hx.tape, hx.output, hx.size, fun k hk => ?_⟩
  by_cases e0 : k = 0
  · subst e0
    obtain ⟨_, _, c, h1, h2⟩ := hh.blk 0 0 (.var 0 3 [.int .i64 m]) (by omega) rfl
    obtain ⟨x, r, hr, hv, hn⟩ := h2.uncons
    cases hv
    rw [h1, h0, show c = #[.int .i64 m] from Array.toList_inj.1 (by rw [hr, hn.of_nil])]
  · by_cases e3 : k = 3
    · subst e3
      obtain ⟨_, _, c, h1, h2⟩ := hh.blk 0 1 (.var 3 211 (Lib.pow10Tab.map (.int .u64))) (by omega) rfl
      rw [h1, h3, show c = _ from Array.toList_inj.1 (VRs.u64s h2)]
    · refine hx.block k hk ?_
      rintro (⟨l, j, h⟩ | ⟨l, j, h⟩)
      · simp only [env0] at h
        split at h
        · cases h; exact e0 rfl
        · split at h
          · cases h; exact e3 rfl
          · cases h
      · cases h

/-- A law that is called with what a row reads. -/
theorem law_walk {H : Type} {enc : TypeId × Value → H} (f : Nat) (ts : List TypeId) (hts : ∀ t ∈ ts, t ∈ rdS) (h : ∀ cs, FitVs tt ts cs → PureT Tryz.prog f (wraps tt ts cs) (.bool true))
    (W : World) (base : Nat) (args : Array Value) (ds : List (DataW H)) (ps : List MemPlace) (hA : DataW.TrodAll enc Tryz.prog W 0 (fun _ => true) true ts args.toList ds ps)
    (hok : ∀ (j : Nat) t v, ts[j]? = some t → args.toList[j]? = some v → Value.okWide Tryz.prog W .any base t v) (hw : ∀ n ∈ DataW.weightsEach Tryz.prog ts ds, n ≤ reachBytes)
    (hsh : W.ShapedOpen Tryz.prog) (hL : Lib.TabIs Tryz.prog W "internal/strconv.uint64pow10" .u64 Lib.pow10Tab) :
    Calls Tryz.prog f args W fun e W' => e = .returned (.bool true) ∧ Go.RowKit.Below W.heap.size W W' := by
  obtain ⟨m, h0, h3⟩ := blocks0 hsh hL
  obtain ⟨cs, hf, hv⟩ := args_of (E := env0 W) (X := fun b => b = 0 ∨ b = 3) tok rdS rdOk (fun b o v hX hc => by simp only [env0]; rw [if_neg hX]; exact hc)
    (fun b o v hX hc => by
      rcases hX with rfl | rfl
      · simp only [World.cell?, h0] at hc
        cases o with
        | zero => simp at hc; exact .inl ⟨m, hc.symm⟩
        | succ o => simp at hc
      · simp only [World.cell?, h3] at hc
        simp only [Option.isSome_none, Bool.false_eq_true, if_false, List.getElem?_toArray, List.getElem?_map, Option.map_eq_some_iff] at hc
        obtain ⟨z, _, rfl⟩ := hc
        exact .inr ⟨z, rfl⟩) ts args.toList ds ps hA hts hok hw
  have hc := h cs hf 1 (heap0 m) Nat.one_pos (tabs0 m) (env0 W) W args.toList (hrel0 h0 h3) hv
  refine Calls.mono hc ?_
  rintro e W' ⟨r, v, H', E', rfl, ⟨rfl, rfl⟩, h1, h2, h4⟩
  cases h1
  exact ⟨rfl, below0 h0 h3 h2 h4⟩
end Go.Proofs.YtpoegdhgdgbmaaaGreatDoorR

/- The laws' rows: from a walk that ends with true to the row's statement. -/
namespace Go.Proofs.YtpoegdhgdgbmaaaGreatDoorR
open Go.Abs Go.ChangeShapes Go.WideShapes Go.ChangeAt Go.RowKit
set_option maxRecDepth 100000

theorem laidOut : laidOutB Tryz.prog = true := by kernel_rfl
theorem rdRead : rdS.all (fun t => Tryz.prog.readableRec t && decide (t < Tryz.prog.types.size)) = true := by kernel_rfl
theorem rd_of {t : TypeId} (h : t ∈ rdS) : Tryz.prog.readableRec t = true ∧ t < Tryz.prog.types.size := by
  have := List.all_eq_true.1 rdRead t h
  simpa using this

theorem trod_len {H : Type} {enc : TypeId × Value → H} {P : Program} {W : World} {b : Nat} {sp : Nat → Bool} {hd : Bool} : ∀ {ts : List TypeId} {vs : List Value} {ds : List (DataW H)} {ps : List MemPlace}, DataW.TrodAll enc P W b sp hd ts vs ds ps → ds.length = ts.length
  | [], [], [], _, _ => rfl
  | t :: ts, v :: vs, d :: ds, ps, h => by
    obtain ⟨p, q, _, h2, _⟩ := h
    simp only [List.length_cons, trod_len h2]
  | [], _ :: _, _, _, h => h.elim
  | [], [], _ :: _, _, h => h.elim
  | _ :: _, [], _, _, h => h.elim
  | _ :: _, _ :: _, [], _, h => h.elim

theorem trod_stay {H : Type} {enc : TypeId × Value → H} {W W' : World} (hb : Go.RowKit.Below W.heap.size W W') : ∀ {ts : List TypeId} {vs : List Value} {ds : List (DataW H)} {ps : List MemPlace}, (∀ t ∈ ts, t ∈ rdS) →
    DataW.TrodAll enc Tryz.prog W 0 (fun _ => true) true ts vs ds ps → (∀ x ∈ ps, x.block < W.heap.size) → DataW.TrodAll enc Tryz.prog W' 0 (fun b => decide (b < W.heap.size)) true ts vs ds ps
  | [], [], [], _, _, h, _ => h
  | t :: ts, v :: vs, d :: ds, ps, hts, h, hlt => by
    obtain ⟨p, q, h1, h2, rfl⟩ := h
    have hr := rd_of (hts t (List.mem_cons_self ..))
    exact ⟨p, q, Go.RowKit.Below.trod laidOut hr.1 hr.2 h1 hb (fun x hx => hlt x (List.mem_append_left _ hx)), trod_stay hb (fun t h => hts t (List.mem_cons_of_mem _ h)) h2 (fun x hx => hlt x (List.mem_append_right _ hx)), rfl⟩
  | [], _ :: _, _, _, _, h, _ => h.elim
  | [], [], _ :: _, _, _, h, _ => h.elim
  | _ :: _, [], _, _, _, h, _ => h.elim
  | _ :: _, _ :: _, [], _, _, h, _ => h.elim

theorem und4 : Tryz.prog.underlying 4 = some .bool := by kernel_rfl

/-- A law's post, from its walk. -/
theorem law_post {H : Type} {enc : TypeId × Value → H} (f : Nat) (fn : Func) (s : ChangeSpec) (ts : List TypeId) (hp : fn.params.toList = ts) (hr : fn.resultTypes = #[4]) (hs : s.vars = [])
    (hfn : ∀ ds : List (DataW H), ds.length = ts.length → s.fn H ds = { results := [.lit (.bool true)], args := ds })
    (hts : ∀ t ∈ ts, t ∈ rdS) (h : ∀ cs, FitVs tt ts cs → PureT Tryz.prog f (wraps tt ts cs) (.bool true))
    (W : World) (base : Nat) (args : Array Value) (ds gs : List (DataW H)) (before : List MemPlace)
    (hval : ∀ (j : Nat) t v, fn.params[j]? = some t → args[j]? = some v → Value.okWide Tryz.prog W .any base t v)
    (hW : DataW.Whole enc Tryz.prog fn.params.toList s.vars false W args.toList ds gs before)
    (hw : ∀ n ∈ DataW.weightsEach Tryz.prog ts ds, n ≤ reachBytes)
    (hsh : W.ShapedOpen Tryz.prog) (hL : Lib.TabIs Tryz.prog W "internal/strconv.uint64pow10" .u64 Lib.pow10Tab) :
    Calls Tryz.prog f args W fun e W' => ∃ v, e = .returned v ∧ s.post enc Tryz.prog fn false true false false W args v W' := by
  have hlt := hW.lt
  have hW' := hW
  obtain ⟨p, q, hA, hV, rfl, hfz, hnd⟩ := hW
  rw [hs] at hV
  obtain ⟨rfl, rfl⟩ := trodVars_none hV
  rw [hp] at hA
  simp only [List.append_nil] at hlt hW'
  have hval' : ∀ (j : Nat) t v, ts[j]? = some t → args.toList[j]? = some v → Value.okWide Tryz.prog W .any base t v := fun j t v h1 h2 =>
    hval j t v (by rw [← hp] at h1; simpa using h1) (by simpa using h2)
  have w := law_walk f ts hts h W base args ds p hA hval' hw hsh hL
  refine w.mono fun e W' ⟨he, hg⟩ => ?_
  subst he
  refine ⟨_, rfl, ds, [], p, [], p, [], hW', ?_, ?_, ?_, hg.frame _, fun h => by cases h⟩
  · rw [List.append_nil, hfn ds (trod_len hA), hr]
    exact trodAll_mk1 (shut_bool und4 true)
  · rw [List.append_nil, hfn ds (trod_len hA), hp]
    exact trod_stay hg hts hA hlt
  · rw [List.append_nil, hfn ds (trod_len hA), hs]
    exact rfl

theorem weights_of {H : Type} {ts : List TypeId} {ds : List (DataW H)} (h : (DataW.weightsEach Tryz.prog (ts ++ []) (ds ++ [])).all (· ≤ reachBytes) = true) : ∀ n ∈ DataW.weightsEach Tryz.prog ts ds, n ≤ reachBytes := by
  intro n hn
  rw [List.append_nil, List.append_nil] at h
  simpa using List.all_eq_true.1 h n hn

def lits1 : DataW Unit → List Value
  | .lit (.int k n) => [.int k n]
  | _ => []
def lits2 : DataW Unit → List Value
  | .agg l => l.flatMap lits1
  | d => lits1 d
def lits3 : DataW Unit → List Value
  | .agg l => l.flatMap lits2
  | d => lits2 d
def lay (d : DataW Unit) : Obj → Obj
  | .cells _ t frozen => .cells (lits3 d).toArray t frozen
  | o => o
/-- A world for the witness: the settled one, Go's own tables holding what their initialisers lay. -/
noncomputable def laidWorld (os : Os) : World :=
  { World.holding Tryz.prog os ⟨#[], #[], []⟩ with heap := (((((World.holding Tryz.prog os ⟨#[], #[], []⟩).heap.modify 4 (lay Rows.laid_math_bits_deBruijn32tab)).modify 5 (lay Rows.laid_math_bits_deBruijn64tab)).modify 3
      (lay Rows.laid_internal_strconv_uint64pow10)).modify 2 (lay Rows.laid_unicode_utf8_acceptRanges)).modify 1 (lay Rows.laid_unicode_utf8_first) }
theorem laid_met (os : Os) (args : Array Value) : laidMet Tryz.prog Rows.storeTellsRow.laid ((laidWorld os).forCall (fun _ _ => 0) ⟨#[], args, []⟩).memory :=
  laidMet_of_run' 8 (by kernel_rfl) (by kernel_rfl)
end Go.Proofs.YtpoegdhgdgbmaaaGreatDoorR
