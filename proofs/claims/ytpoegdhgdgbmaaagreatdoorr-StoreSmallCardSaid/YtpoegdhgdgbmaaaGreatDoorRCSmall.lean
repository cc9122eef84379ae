/- StoreSmall: the law returns true. -/
import Derived.Test.YtpoegdhgdgbmaaaGreatDoorRM20
import Derived.Test.YtpoegdhgdgbmaaaGreatDoorRM22
set_option linter.all false
namespace Go.Proofs.YtpoegdhgdgbmaaaGreatDoorR.storeSmall
open Go.Abs Go.ChangeShapes Go.WideShapes Go.ChangeAt Go.RowKit
set_option maxRecDepth 100000

theorem pars : Tryz.f5.params.toList = [] := by kernel_rfl
theorem ress : Tryz.f5.resultTypes = #[4] := by kernel_rfl
theorem fits : ∀ cs, FitVs tt [] cs → PureT Tryz.prog 5 (wraps tt [] cs) (.bool true)
  | [], _ => by

    simp only [wraps]
    exact a5  

/-- The witness's arguments. -/
def wit : Array Value := #[]
theorem reads (os : Os) {H : Type} (enc : TypeId × Value → H) : ∃ ds places, DataW.whole enc Tryz.prog ((laidWorld os).forCall (fun _ _ => 0) ⟨#[], wit, []⟩).memory
    Tryz.f5.params.toList Rows.storeSmallSpec.vars false wit.toList 8 = some (ds, [], places) :=
  ⟨[], [], by kernel_rfl⟩

theorem lifted (os : Os) (started : os.Started) (H : Type) (enc : TypeId × Value → H) (F : Stop.Interp) :
    ReturnsInHanded {} Tryz.checked os 5 .any ((OpenSpec.ofChange Rows.storeSmallSpec).preRow enc Tryz.prog Tryz.f5 Rows.storeSmallRow.domain false Rows.storeSmallRow.laid) (((OpenSpec.ofChange Rows.storeSmallSpec).at F).post enc Tryz.prog Tryz.f5 false true false false) := by
  obtain ⟨ds, places, hx⟩ := reads os enc
  refine returnsInHanded_of_row (C := Tryz.checked) (s := OpenSpec.ofChange Rows.storeSmallSpec) own started (by kernel_rfl) Tryz.func5
    (witness_row_at (enc := enc) (C := Tryz.checked) false (laidWorld os) wit rfl (by kernel_rfl) (by kernel_rfl) (by kernel_rfl)
      (OpenSpec.preRow_of_cond 8 hx (by kernel_rfl) (fun k hk => by cases hk) (by kernel_rfl) (laid_met os _))) ?_
  intro W base args ds gs before hval hW _ _ hwt hL hsh _
  have hg : gs = [] := by
    obtain ⟨_, _, _, hV, _⟩ := hW
    exact (trodVars_none hV).1
  subst hg
  exact law_post 5 Tryz.f5 Rows.storeSmallSpec [] pars ress rfl (fun ds h => by
    match ds, h with
    | [], _ => rfl) (by decide) fits W base args ds [] before hval hW (weights_of (pars ▸ hwt)) hsh (pow_tab hL)

theorem said : Rows.StoreSmallSaid :=
  OpenClaim.holds_of_cond 5 Tryz.f5 rfl rfl rfl rfl rfl rfl rfl ⟨rfl, rfl, rfl, rfl, rfl⟩ rfl rfl rfl rfl rfl (by kernel_rfl) Tryz.func5 (by kernel_rfl)
    (of_decide_eq_true (by kernel_rfl)) (by unfold Func.isWrapper; first | (rw [if_pos (by decide +kernel)]; kernel_rfl) | (rw [if_neg (by decide +kernel)]; exact ⟨rfl, rfl⟩))
    (fun os started H enc _ F => by rw [OpenClaim.pre_eq_preRow]; exact lifted os started H enc F)

theorem plain (f : FuncId) (fn : Func) (hf : Tryz.pinned.checked.prog.funcNamed "ostler/ostlerlaw11.StoreSmall" = some f) (hfn : Tryz.pinned.checked.prog.funcs[f]? = some fn) :
    false = Tryz.pinned.checked.prog.looks [] ∧ ∀ (j : Nat) t, fn.params[j]? = some t → Tryz.pinned.checked.prog.wantsStandIn t = false := by
  obtain rfl : f = 5 := Option.some.inj ((show Tryz.prog.funcNamed "ostler/ostlerlaw11.StoreSmall" = some 5 by kernel_rfl).symm.trans hf) |>.symm
  obtain rfl : fn = Tryz.f5 := (Option.some.inj (Tryz.func5.symm.trans hfn)).symm
  refine ⟨by kernel_rfl, fun j t ht => ?_⟩
  have hm : t ∈ ([] : List TypeId) := pars ▸ (Array.mem_toList_iff.2 (Array.mem_of_getElem? ht))
  exact List.all_eq_true.1 (show ([] : List TypeId).all (fun t => Tryz.prog.wantsStandIn t == false) = true by kernel_rfl) t hm |> eq_of_beq

/-- The card. -/
theorem card : Rows.StoreSmallCardSaid :=
  Claim7.holds_tied_plain_at .later [] _ _ _ _ said (fun _ h => by cases h) (by kernel_rfl) (fun _ h => by cases h) storeSmall_row_tie rfl ⟨rfl, rfl⟩ (by kernel_rfl) rfl plain (by kernel_rfl)
end Go.Proofs.YtpoegdhgdgbmaaaGreatDoorR.storeSmall
