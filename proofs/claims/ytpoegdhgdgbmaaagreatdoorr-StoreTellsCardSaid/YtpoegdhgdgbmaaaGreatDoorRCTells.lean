/- StoreTells: for every list of atoms, atom, column and value, the law returns true and leaves its arguments as they were. -/
import Derived.Test.YtpoegdhgdgbmaaaGreatDoorRM20
set_option linter.all false
namespace Go.Proofs.YtpoegdhgdgbmaaaGreatDoorR.storeTells
open Go.Abs Go.ChangeShapes Go.WideShapes Go.ChangeAt Go.RowKit
set_option maxRecDepth 100000

theorem pars : Tryz.f3.params.toList = [22, 25, 3, 27] := by kernel_rfl
theorem ress : Tryz.f3.resultTypes = #[4] := by kernel_rfl
theorem fits : ∀ cs, FitVs tt [22, 25, 3, 27] cs → PureT Tryz.prog 3 (wraps tt [22, 25, 3, 27] cs) (.bool true)
  | [c1, c2, c3, c4], ⟨h1, h2, h3, h4, _⟩ => by
    obtain ⟨l, e1, hl⟩ := arg_ams h1
    obtain ⟨a, e2, ha⟩ := arg_am h2
    obtain ⟨n, e3, hn⟩ := arg_int h3
    obtain ⟨u, e4, hu⟩ := arg_tm h4
    simp only [wraps, e1, e2, e3, e4]
    exact a3 l a n u hl ha hu

/-- The witness's arguments. -/
def wit : Array Value := #[.slice none 0 0, .agg #[.string .empty, .slice none 0 0], .int .i64 0, .agg #[.int .u8 0, .int .i64 0, .string .empty, .slice none 0 0]]
theorem reads (os : Os) {H : Type} (enc : TypeId × Value → H) : ∃ ds places, DataW.whole enc Tryz.prog ((laidWorld os).forCall (fun _ _ => 0) ⟨#[], wit, []⟩).memory
    Tryz.f3.params.toList Rows.storeTellsSpec.vars false wit.toList 8 = some (ds, [], places) :=
  ⟨[.nil, .agg [.lit (.string []), .nil], .lit (.int .i64 0), .agg [.lit (.int .u8 0), .lit (.int .i64 0), .lit (.string []), .nil]], [], by kernel_rfl⟩

theorem lifted (os : Os) (started : os.Started) (H : Type) (enc : TypeId × Value → H) (F : Stop.Interp) :
    ReturnsInHanded {} Tryz.checked os 3 .any ((OpenSpec.ofChange Rows.storeTellsSpec).preRow enc Tryz.prog Tryz.f3 Rows.storeTellsRow.domain false Rows.storeTellsRow.laid) (((OpenSpec.ofChange Rows.storeTellsSpec).at F).post enc Tryz.prog Tryz.f3 false true false false) := by
  obtain ⟨ds, places, hx⟩ := reads os enc
  refine returnsInHanded_of_row (C := Tryz.checked) (s := OpenSpec.ofChange Rows.storeTellsSpec) own started (by kernel_rfl) Tryz.func3
    (witness_row_at (enc := enc) (C := Tryz.checked) false (laidWorld os) wit rfl (by kernel_rfl) (by kernel_rfl) (by kernel_rfl)
      (OpenSpec.preRow_of_cond 8 hx (by kernel_rfl) (fun k hk => by cases hk) (by kernel_rfl) (laid_met os _))) ?_
  intro W base args ds gs before hval hW _ _ hwt hL hsh _
  have hg : gs = [] := by
    obtain ⟨_, _, _, hV, _⟩ := hW
    exact (trodVars_none hV).1
  subst hg
  exact law_post 3 Tryz.f3 Rows.storeTellsSpec [22, 25, 3, 27] pars ress rfl (fun ds h => by
    match ds, h with
    | [d1, d2, d3, d4], _ => rfl) (by decide) fits W base args ds [] before hval hW (weights_of (pars ▸ hwt)) hsh (pow_tab hL)

theorem said : Rows.StoreTellsSaid :=
  OpenClaim.holds_of_cond 3 Tryz.f3 rfl rfl rfl rfl rfl rfl rfl ⟨rfl, rfl, rfl, rfl, rfl⟩ rfl rfl rfl rfl rfl (by kernel_rfl) Tryz.func3 (by kernel_rfl)
    (of_decide_eq_true (by kernel_rfl)) (by unfold Func.isWrapper; first | (rw [if_pos (by decide +kernel)]; kernel_rfl) | (rw [if_neg (by decide +kernel)]; exact ⟨rfl, rfl⟩))
    (fun os started H enc _ F => by rw [OpenClaim.pre_eq_preRow]; exact lifted os started H enc F)

theorem plain (f : FuncId) (fn : Func) (hf : Tryz.pinned.checked.prog.funcNamed "ostler/ostlerlaw11.StoreTells" = some f) (hfn : Tryz.pinned.checked.prog.funcs[f]? = some fn) :
    false = Tryz.pinned.checked.prog.looks [] ∧ ∀ (j : Nat) t, fn.params[j]? = some t → Tryz.pinned.checked.prog.wantsStandIn t = false := by
  obtain rfl : f = 3 := Option.some.inj ((show Tryz.prog.funcNamed "ostler/ostlerlaw11.StoreTells" = some 3 by kernel_rfl).symm.trans hf) |>.symm
  obtain rfl : fn = Tryz.f3 := (Option.some.inj (Tryz.func3.symm.trans hfn)).symm
  refine ⟨by kernel_rfl, fun j t ht => ?_⟩
  have hm : t ∈ [22, 25, 3, 27] := pars ▸ (Array.mem_toList_iff.2 (Array.mem_of_getElem? ht))
  exact List.all_eq_true.1 (show [22, 25, 3, 27].all (fun t => Tryz.prog.wantsStandIn t == false) = true by kernel_rfl) t hm |> eq_of_beq

/-- The card. -/
theorem card : Rows.StoreTellsCardSaid :=
  Claim7.holds_tied_plain_at .later [] _ _ _ _ said (fun _ h => by cases h) (by kernel_rfl) (fun _ h => by cases h) storeTells_row_tie rfl ⟨rfl, rfl⟩ (by kernel_rfl) rfl plain (by kernel_rfl)
end Go.Proofs.YtpoegdhgdgbmaaaGreatDoorR.storeTells
