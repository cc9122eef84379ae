/- JoinSorted: the law returns true for all arguments. -/
import Derived.Test.YtmdeagmbfhbbnaaGreatDoorRQ14
import Derived.Test.YtmdeagmbfhbbnaaGreatDoorRQ13
set_option linter.all false
namespace Go.Proofs.YtmdeagmbfhbbnaaGreatDoorR.joinSorted
open Go.Abs Go.ChangeShapes Go.WideShapes Go.ChangeAt Go.RowKit
set_option maxRecDepth 100000
theorem pars:Tryz.f4.params.toList=[22,23,34]:=by kernel_rfl
theorem ress:Tryz.f4.resultTypes= #[4]:=by kernel_rfl
theorem fits:∀cs,ZjR tt [22,23,34] cs→Z4 Tryz.prog 4 (wraps tt [22,23,34] cs) (.bool true)
 |[c0,c1,c2],⟨h0,h1,h2,_⟩=>by
  obtain⟨x0,e0,p0⟩:=ZqP h0;obtain⟨x1,e1,p1⟩:=Zqs h1;obtain⟨x2,e2,p2⟩:=Zq3 h2;simp only[wraps,e0,e1,e2];exact e4 x0 x1 x2 (ZsG p0 p1 p2)
def wit:Array Value:=#[.slice none 0 0,.slice none 0 0,.slice none 0 0]
theorem reads(os:Os){H:Type}(enc:TypeId×Value→H):∃ds places,DataW.whole enc Tryz.prog ((laidWorld os).forCall (fun _ _=>0) ⟨#[],wit,[]⟩).memory
  Tryz.f4.params.toList Rows.joinSortedSpec.vars false wit.toList 8=some (ds,[],places):=
 ⟨[.nil,.nil,.nil],[],by kernel_rfl⟩
theorem lifted(os:Os)(started:os.Started)(H:Type)(enc:TypeId×Value→H)(F:Stop.Interp):
  ReturnsInHanded {} Tryz.checked os 4 .any ((OpenSpec.ofChange Rows.joinSortedSpec).preRow enc Tryz.prog Tryz.f4 Rows.joinSortedRow.domain false Rows.joinSortedRow.laid) (((OpenSpec.ofChange Rows.joinSortedSpec).at F).post enc Tryz.prog Tryz.f4 false true false false):=by
 obtain⟨ds,places,hx⟩:=reads os enc;refine returnsInHanded_of_row (C:=Tryz.checked) (s:=OpenSpec.ofChange Rows.joinSortedSpec) own started (by kernel_rfl) Tryz.func4
  (witness_row_at (enc:=enc) (C:=Tryz.checked) false (laidWorld os) wit rfl (by kernel_rfl) (by kernel_rfl) (by kernel_rfl)
   (OpenSpec.preRow_of_cond 8 hx (by kernel_rfl) (fun k hk=>by cases hk) (by kernel_rfl) (laid_met os _))) ?_
 intro W base args ds gs before hval hW _ _ hwt hL hsh _;have hg:gs=[]:=by
  obtain⟨_,_,_,hV,_⟩:=hW;exact(trodVars_none hV).1
 subst hg;exact ZoQ 4 Tryz.f4 Rows.joinSortedSpec [22,23,34] pars ress rfl (fun ds h=>by
  match ds,h with
  |[d0,d1,d2],_=>rfl) dc fits W base args ds [] before hval hW (ZkV (pars▸hwt)) hsh (Zq4 hL)
theorem fact3:mapsRowed Tryz.pinned.checked.prog=true:=by kernel_rfl
theorem fact10:(Rows.joinSortedRow.inPlace==Tryz.pinned.checked.prog.inPlace 4)=true:=by kernel_rfl
theorem fact11:(Rows.joinSortedRow.unfollowed==Tryz.pinned.checked.prog.unfollowed 4)=true:=by kernel_rfl
theorem fact12:(Rows.joinSortedRow.recurses==Tryz.pinned.checked.prog.recurses 4)=true:=by kernel_rfl
theorem fact13:(Rows.joinSortedRow.named==Tryz.pinned.checked.prog.varsNamed 4)=true:=by kernel_rfl
theorem fact25:Tryz.pinned.checked.prog.stopsHeard=true:=by kernel_rfl
theorem fact26:Tryz.pinned.checked.prog.mayEnter=true:=by kernel_rfl
theorem fact27:(Rows.joinSortedRow.lifted==Tryz.pinned.checked.prog.liftsFinal)=true:=by kernel_rfl
theorem fact28:(Tryz.pinned.checked.prog.make==some Rows.joinSortedRow.make)=true:=by kernel_rfl
theorem closed:joinedFacts Tryz.pinned.checked.prog 4 Tryz.f4 (OpenSpec.ofChange Rows.joinSortedSpec).bare Rows.joinSortedRow=true:=by
 unfold joinedFacts;simp only[Qi];repeat' apply Qae
 ·kernel_rfl
 ·exact laidOut
 ·exact fact3
 ·kernel_rfl
 ·kernel_rfl
 ·kernel_rfl
 ·kernel_rfl
 ·kernel_rfl
 ·kernel_rfl
 ·exact fact10
 ·exact fact11
 ·exact fact12
 ·exact fact13
 ·kernel_rfl
 ·kernel_rfl
 ·kernel_rfl
 ·kernel_rfl
 ·kernel_rfl
 ·kernel_rfl
 ·kernel_rfl
 ·kernel_rfl
 ·kernel_rfl
 ·kernel_rfl
 ·kernel_rfl
 ·exact fact25
 ·exact fact26
 ·exact fact27
 ·exact fact28
 ·kernel_rfl
 ·kernel_rfl
 ·kernel_rfl
 ·kernel_rfl
theorem said:Rows.JoinSortedSaid:=
 OpenClaim.holds_of_cond 4 Tryz.f4 rfl rfl rfl rfl rfl rfl rfl ⟨rfl,rfl,rfl,rfl,rfl⟩ rfl rfl rfl rfl rfl (by kernel_rfl) Tryz.func4 closed
  (of_decide_eq_true (by as_aux_lemma=>kernel_rfl)) (by unfold Func.isWrapper;first|(rw[if_pos (by decide+kernel)];kernel_rfl)|(rw[if_neg (by decide+kernel)];exact⟨rfl,rfl⟩))
  (fun os started H enc _ F=>by rw[OpenClaim.pre_eq_preRow];exact lifted os started H enc F)
theorem plain (f : FuncId) (fn : Func) (hf : Tryz.pinned.checked.prog.funcNamed "ostler/ostlerlaw12.JoinSorted" = some f) (hfn : Tryz.pinned.checked.prog.funcs[f]? = some fn) :
  true=Tryz.pinned.checked.prog.looks []∧ ∀(j:Nat) t,fn.params[j]? =some t→Tryz.pinned.checked.prog.wantsStandIn t=false:=by
 obtain rfl : f = 4 := Option.some.inj ((show Tryz.prog.funcNamed "ostler/ostlerlaw12.JoinSorted" = some 4 by kernel_rfl).symm.trans hf) |>.symm
 obtain rfl:fn=Tryz.f4:=(UO (Tryz.func4.symm.trans hfn)).symm;refine⟨by as_aux_lemma=>kernel_rfl,fun j t ht=>?_⟩;have hm:t∈([22,23,34]:List TypeId):=pars▸(Array.mem_toList_iff.2 (Array.mem_of_getElem? ht));exact QA.1 (show([22,23,34]:List TypeId).all (fun t=>Tryz.prog.wantsStandIn t==false)=true by kernel_rfl) t hm|>eq_of_beq
theorem card:Rows.JoinSortedCardSaid:=
 Claim7.holds_tied_plain_at .later [] _ _ _ _ said (fun _ h=>by cases h) (by as_aux_lemma=>kernel_rfl) (fun _ h=>by cases h) joinSorted_row_tie rfl ⟨rfl,rfl⟩ (by as_aux_lemma=>kernel_rfl) rfl plain (by as_aux_lemma=>kernel_rfl)
end Go.Proofs.YtmdeagmbfhbbnaaGreatDoorR.joinSorted
