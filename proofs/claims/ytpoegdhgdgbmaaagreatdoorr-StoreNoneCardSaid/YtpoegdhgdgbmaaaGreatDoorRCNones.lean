/- StoreNone: for every atom, value and number, the law returns true and leaves its arguments as they were. -/
import Derived.Test.YtpoegdhgdgbmaaaGreatDoorRM20
import Derived.Test.YtpoegdhgdgbmaaaGreatDoorRM22
set_option linter.all false
namespace Go.Proofs.YtpoegdhgdgbmaaaGreatDoorR.storeNone
open Go.Abs Go.ChangeShapes Go.WideShapes Go.ChangeAt Go.RowKit
set_option maxRecDepth 100000

theorem pars : Tryz.f9.params.toList = [25, 27, 3] := by kernel_rfl
theorem ress : Tryz.f9.resultTypes = #[4] := by kernel_rfl
theorem fits : ∀ cs, FitVs tt [25, 27, 3] cs → PureT Tryz.prog 9 (wraps tt [25, 27, 3] cs) (.bool true)
  | [c0, c1, c2], ⟨h0, h1, h2, _⟩ => by
    obtain ⟨x0, e0, p0⟩ := arg_am h0
    obtain ⟨x1, e1, p1⟩ := arg_tm h1
    obtain ⟨x2, e2, p2⟩ := arg_int h2
    simp only [wraps, e0, e1, e2]
    exact a9 x0 x1 x2 p0 p1

/-- The witness's arguments. -/
def wit : Array Value := #[.agg #[.string .empty, .slice none 0 0], .agg #[.int .u8 0, .int .i64 0, .string .empty, .slice none 0 0], .int .i64 0]
theorem reads (os : Os) {H : Type} (enc : TypeId × Value → H) : ∃ ds places, DataW.whole enc Tryz.prog ((laidWorld os).forCall (fun _ _ => 0) ⟨#[], wit, []⟩).memory
    Tryz.f9.params.toList Rows.storeNoneSpec.vars false wit.toList 8 = some (ds, [], places) :=
  ⟨[.agg [.lit (.string []), .nil], .agg [.lit (.int .u8 0), .lit (.int .i64 0), .lit (.string []), .nil], .lit (.int .i64 0)], [], by kernel_rfl⟩

theorem lifted (os : Os) (started : os.Started) (H : Type) (enc : TypeId × Value → H) (F : Stop.Interp) :
    ReturnsInHanded {} Tryz.checked os 9 .any ((OpenSpec.ofChange Rows.storeNoneSpec).preRow enc Tryz.prog Tryz.f9 Rows.storeNoneRow.domain false Rows.storeNoneRow.laid) (((OpenSpec.ofChange Rows.storeNoneSpec).at F).post enc Tryz.prog Tryz.f9 false true false false) := by
  obtain ⟨ds, places, hx⟩ := reads os enc
  refine returnsInHanded_of_row (C := Tryz.checked) (s := OpenSpec.ofChange Rows.storeNoneSpec) own started (by kernel_rfl) Tryz.func9
    (witness_row_at (enc := enc) (C := Tryz.checked) false (laidWorld os) wit rfl (by kernel_rfl) (by kernel_rfl) (by kernel_rfl)
      (OpenSpec.preRow_of_cond 8 hx (by kernel_rfl) (fun k hk => by cases hk) (by kernel_rfl) (laid_met os _))) ?_
  intro W base args ds gs before hval hW _ _ hwt hL hsh _
  have hg : gs = [] := by
    obtain ⟨_, _, _, hV, _⟩ := hW
    exact (trodVars_none hV).1
  subst hg
  exact law_post 9 Tryz.f9 Rows.storeNoneSpec [25, 27, 3] pars ress rfl (fun ds h => by
    match ds, h with
    | [d0, d1, d2], _ => rfl) (by decide) fits W base args ds [] before hval hW (weights_of (pars ▸ hwt)) hsh (pow_tab hL)

theorem said : Rows.StoreNoneSaid :=
  OpenClaim.holds_of_cond 9 Tryz.f9 rfl rfl rfl rfl rfl rfl rfl ⟨rfl, rfl, rfl, rfl, rfl⟩ rfl rfl rfl rfl rfl (by kernel_rfl) Tryz.func9 (by kernel_rfl)
    (of_decide_eq_true (by kernel_rfl)) (by unfold Func.isWrapper; first | (rw [if_pos (by decide +kernel)]; kernel_rfl) | (rw [if_neg (by decide +kernel)]; exact ⟨rfl, rfl⟩))
    (fun os started H enc _ F => by rw [OpenClaim.pre_eq_preRow]; exact lifted os started H enc F)

theorem plain (f : FuncId) (fn : Func) (hf : Tryz.pinned.checked.prog.funcNamed "ostler/ostlerlaw11.StoreNone" = some f) (hfn : Tryz.pinned.checked.prog.funcs[f]? = some fn) :
    false = Tryz.pinned.checked.prog.looks [] ∧ ∀ (j : Nat) t, fn.params[j]? = some t → Tryz.pinned.checked.prog.wantsStandIn t = false := by
  obtain rfl : f = 9 := Option.some.inj ((show Tryz.prog.funcNamed "ostler/ostlerlaw11.StoreNone" = some 9 by kernel_rfl).symm.trans hf) |>.symm
  obtain rfl : fn = Tryz.f9 := (Option.some.inj (Tryz.func9.symm.trans hfn)).symm
  refine ⟨by kernel_rfl, fun j t ht => ?_⟩
  have hm : t ∈ [25, 27, 3] := pars ▸ (Array.mem_toList_iff.2 (Array.mem_of_getElem? ht))
  exact List.all_eq_true.1 (show [25, 27, 3].all (fun t => Tryz.prog.wantsStandIn t == false) = true by kernel_rfl) t hm |> eq_of_beq

/-- The card. -/
theorem card : Rows.StoreNoneCardSaid :=
  Claim7.holds_tied_plain_at .later [] _ _ _ _ said (fun _ h => by cases h) (by kernel_rfl) (fun _ h => by cases h) storeNone_row_tie rfl ⟨rfl, rfl⟩ (by kernel_rfl) rfl plain (by kernel_rfl)
end Go.Proofs.YtpoegdhgdgbmaaaGreatDoorR.storeNone
