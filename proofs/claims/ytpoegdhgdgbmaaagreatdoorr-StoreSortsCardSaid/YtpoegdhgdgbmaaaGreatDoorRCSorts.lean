/- StoreSorts: for every list of atoms and every three atoms, the law returns true and leaves its arguments as they were. -/
import Derived.Test.YtpoegdhgdgbmaaaGreatDoorRM20
import Derived.Test.YtpoegdhgdgbmaaaGreatDoorRM21
set_option linter.all false
namespace Go.Proofs.YtpoegdhgdgbmaaaGreatDoorR.storeSorts
open Go.Abs Go.ChangeShapes Go.WideShapes Go.ChangeAt Go.RowKit
set_option maxRecDepth 100000

theorem pars : Tryz.f7.params.toList = [22, 25, 25, 25] := by kernel_rfl
theorem ress : Tryz.f7.resultTypes = #[4] := by kernel_rfl
theorem fits : ∀ cs, FitVs tt [22, 25, 25, 25] cs → PureT Tryz.prog 7 (wraps tt [22, 25, 25, 25] cs) (.bool true)
  | [c0, c1, c2, c3], ⟨h0, h1, h2, h3, _⟩ => by
    obtain ⟨x0, e0, p0⟩ := arg_ams h0
    obtain ⟨x1, e1, p1⟩ := arg_am h1
    obtain ⟨x2, e2, p2⟩ := arg_am h2
    obtain ⟨x3, e3, p3⟩ := arg_am h3
    simp only [wraps, e0, e1, e2, e3]
    exact a7 x0 x1 x2 x3 p0 p1 p2 p3

/-- The witness's arguments. -/
def wit : Array Value := #[.slice none 0 0, .agg #[.string .empty, .slice none 0 0], .agg #[.string .empty, .slice none 0 0], .agg #[.string .empty, .slice none 0 0]]
theorem reads (os : Os) {H : Type} (enc : TypeId × Value → H) : ∃ ds places, DataW.whole enc Tryz.prog ((laidWorld os).forCall (fun _ _ => 0) ⟨#[], wit, []⟩).memory
    Tryz.f7.params.toList Rows.storeSortsSpec.vars false wit.toList 8 = some (ds, [], places) :=
  ⟨[.nil, .agg [.lit (.string []), .nil], .agg [.lit (.string []), .nil], .agg [.lit (.string []), .nil]], [], by kernel_rfl⟩

theorem lifted (os : Os) (started : os.Started) (H : Type) (enc : TypeId × Value → H) (F : Stop.Interp) :
    ReturnsInHanded {} Tryz.checked os 7 .any ((OpenSpec.ofChange Rows.storeSortsSpec).preRow enc Tryz.prog Tryz.f7 Rows.storeSortsRow.domain false Rows.storeSortsRow.laid) (((OpenSpec.ofChange Rows.storeSortsSpec).at F).post enc Tryz.prog Tryz.f7 false true false false) := by
  obtain ⟨ds, places, hx⟩ := reads os enc
  refine returnsInHanded_of_row (C := Tryz.checked) (s := OpenSpec.ofChange Rows.storeSortsSpec) own started (by kernel_rfl) Tryz.func7
    (witness_row_at (enc := enc) (C := Tryz.checked) false (laidWorld os) wit rfl (by kernel_rfl) (by kernel_rfl) (by kernel_rfl)
      (OpenSpec.preRow_of_cond 8 hx (by kernel_rfl) (fun k hk => by cases hk) (by kernel_rfl) (laid_met os _))) ?_
  intro W base args ds gs before hval hW _ _ hwt hL hsh _
  have hg : gs = [] := by
    obtain ⟨_, _, _, hV, _⟩ := hW
    exact (trodVars_none hV).1
  subst hg
  exact law_post 7 Tryz.f7 Rows.storeSortsSpec [22, 25, 25, 25] pars ress rfl (fun ds h => by
    match ds, h with
    | [d0, d1, d2, d3], _ => rfl) (by decide) fits W base args ds [] before hval hW (weights_of (pars ▸ hwt)) hsh (pow_tab hL)

theorem said : Rows.StoreSortsSaid :=
  OpenClaim.holds_of_cond 7 Tryz.f7 rfl rfl rfl rfl rfl rfl rfl ⟨rfl, rfl, rfl, rfl, rfl⟩ rfl rfl rfl rfl rfl (by kernel_rfl) Tryz.func7 (by kernel_rfl)
    (of_decide_eq_true (by kernel_rfl)) (by unfold Func.isWrapper; first | (rw [if_pos (by decide +kernel)]; kernel_rfl) | (rw [if_neg (by decide +kernel)]; exact ⟨rfl, rfl⟩))
    (fun os started H enc _ F => by rw [OpenClaim.pre_eq_preRow]; exact lifted os started H enc F)

theorem plain (f : FuncId) (fn : Func) (hf : Tryz.pinned.checked.prog.funcNamed "ostler/ostlerlaw11.StoreSorts" = some f) (hfn : Tryz.pinned.checked.prog.funcs[f]? = some fn) :
    false = Tryz.pinned.checked.prog.looks [] ∧ ∀ (j : Nat) t, fn.params[j]? = some t → Tryz.pinned.checked.prog.wantsStandIn t = false := by
  obtain rfl : f = 7 := Option.some.inj ((show Tryz.prog.funcNamed "ostler/ostlerlaw11.StoreSorts" = some 7 by kernel_rfl).symm.trans hf) |>.symm
  obtain rfl : fn = Tryz.f7 := (Option.some.inj (Tryz.func7.symm.trans hfn)).symm
  refine ⟨by kernel_rfl, fun j t ht => ?_⟩
  have hm : t ∈ [22, 25, 25, 25] := pars ▸ (Array.mem_toList_iff.2 (Array.mem_of_getElem? ht))
  exact List.all_eq_true.1 (show [22, 25, 25, 25].all (fun t => Tryz.prog.wantsStandIn t == false) = true by kernel_rfl) t hm |> eq_of_beq

/-- The card. -/
theorem card : Rows.StoreSortsCardSaid :=
  Claim7.holds_tied_plain_at .later [] _ _ _ _ said (fun _ h => by cases h) (by kernel_rfl) (fun _ h => by cases h) storeSorts_row_tie rfl ⟨rfl, rfl⟩ (by kernel_rfl) rfl plain (by kernel_rfl)
end Go.Proofs.YtpoegdhgdgbmaaaGreatDoorR.storeSorts
