/- StoreCopies: for every list of atoms and every atom, the law returns true and leaves its arguments as they were. -/
import Derived.Test.YtpoegdhgdgbmaaaGreatDoorRM20
import Derived.Test.YtpoegdhgdgbmaaaGreatDoorRM21
set_option linter.all false
namespace Go.Proofs.YtpoegdhgdgbmaaaGreatDoorR.storeCopies
open Go.Abs Go.ChangeShapes Go.WideShapes Go.ChangeAt Go.RowKit
set_option maxRecDepth 100000

theorem pars : Tryz.f8.params.toList = [22, 25] := by kernel_rfl
theorem ress : Tryz.f8.resultTypes = #[4] := by kernel_rfl
theorem fits : ∀ cs, FitVs tt [22, 25] cs → PureT Tryz.prog 8 (wraps tt [22, 25] cs) (.bool true)
  | [c0, c1], ⟨h0, h1, _⟩ => by
    obtain ⟨x0, e0, p0⟩ := arg_ams h0
    obtain ⟨x1, e1, p1⟩ := arg_am h1
    simp only [wraps, e0, e1]
    exact a8 x0 x1 p0 p1

/-- The witness's arguments. -/
def wit : Array Value := #[.slice none 0 0, .agg #[.string .empty, .slice none 0 0]]
theorem reads (os : Os) {H : Type} (enc : TypeId × Value → H) : ∃ ds places, DataW.whole enc Tryz.prog ((laidWorld os).forCall (fun _ _ => 0) ⟨#[], wit, []⟩).memory
    Tryz.f8.params.toList Rows.storeCopiesSpec.vars false wit.toList 8 = some (ds, [], places) :=
  ⟨[.nil, .agg [.lit (.string []), .nil]], [], by kernel_rfl⟩

theorem lifted (os : Os) (started : os.Started) (H : Type) (enc : TypeId × Value → H) (F : Stop.Interp) :
    ReturnsInHanded {} Tryz.checked os 8 .any ((OpenSpec.ofChange Rows.storeCopiesSpec).preRow enc Tryz.prog Tryz.f8 Rows.storeCopiesRow.domain false Rows.storeCopiesRow.laid) (((OpenSpec.ofChange Rows.storeCopiesSpec).at F).post enc Tryz.prog Tryz.f8 false true false false) := by
  obtain ⟨ds, places, hx⟩ := reads os enc
  refine returnsInHanded_of_row (C := Tryz.checked) (s := OpenSpec.ofChange Rows.storeCopiesSpec) own started (by kernel_rfl) Tryz.func8
    (witness_row_at (enc := enc) (C := Tryz.checked) false (laidWorld os) wit rfl (by kernel_rfl) (by kernel_rfl) (by kernel_rfl)
      (OpenSpec.preRow_of_cond 8 hx (by kernel_rfl) (fun k hk => by cases hk) (by kernel_rfl) (laid_met os _))) ?_
  intro W base args ds gs before hval hW _ _ hwt hL hsh _
  have hg : gs = [] := by
    obtain ⟨_, _, _, hV, _⟩ := hW
    exact (trodVars_none hV).1
  subst hg
  exact law_post 8 Tryz.f8 Rows.storeCopiesSpec [22, 25] pars ress rfl (fun ds h => by
    match ds, h with
    | [d0, d1], _ => rfl) (by decide) fits W base args ds [] before hval hW (weights_of (pars ▸ hwt)) hsh (pow_tab hL)

theorem said : Rows.StoreCopiesSaid :=
  OpenClaim.holds_of_cond 8 Tryz.f8 rfl rfl rfl rfl rfl rfl rfl ⟨rfl, rfl, rfl, rfl, rfl⟩ rfl rfl rfl rfl rfl (by kernel_rfl) Tryz.func8 (by kernel_rfl)
    (of_decide_eq_true (by kernel_rfl)) (by unfold Func.isWrapper; first | (rw [if_pos (by decide +kernel)]; kernel_rfl) | (rw [if_neg (by decide +kernel)]; exact ⟨rfl, rfl⟩))
    (fun os started H enc _ F => by rw [OpenClaim.pre_eq_preRow]; exact lifted os started H enc F)

theorem plain (f : FuncId) (fn : Func) (hf : Tryz.pinned.checked.prog.funcNamed "ostler/ostlerlaw11.StoreCopies" = some f) (hfn : Tryz.pinned.checked.prog.funcs[f]? = some fn) :
    false = Tryz.pinned.checked.prog.looks [] ∧ ∀ (j : Nat) t, fn.params[j]? = some t → Tryz.pinned.checked.prog.wantsStandIn t = false := by
  obtain rfl : f = 8 := Option.some.inj ((show Tryz.prog.funcNamed "ostler/ostlerlaw11.StoreCopies" = some 8 by kernel_rfl).symm.trans hf) |>.symm
  obtain rfl : fn = Tryz.f8 := (Option.some.inj (Tryz.func8.symm.trans hfn)).symm
  refine ⟨by kernel_rfl, fun j t ht => ?_⟩
  have hm : t ∈ [22, 25] := pars ▸ (Array.mem_toList_iff.2 (Array.mem_of_getElem? ht))
  exact List.all_eq_true.1 (show [22, 25].all (fun t => Tryz.prog.wantsStandIn t == false) = true by kernel_rfl) t hm |> eq_of_beq

/-- The card. -/
theorem card : Rows.StoreCopiesCardSaid :=
  Claim7.holds_tied_plain_at .later [] _ _ _ _ said (fun _ h => by cases h) (by kernel_rfl) (fun _ h => by cases h) storeCopies_row_tie rfl ⟨rfl, rfl⟩ (by kernel_rfl) rfl plain (by kernel_rfl)
end Go.Proofs.YtpoegdhgdgbmaaaGreatDoorR.storeCopies
