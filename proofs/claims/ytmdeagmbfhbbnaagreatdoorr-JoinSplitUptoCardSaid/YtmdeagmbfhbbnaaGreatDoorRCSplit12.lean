/- JoinSplit: the law returns true for all arguments of bulk at most 1048576. -/
import Derived.Test.YtmdeagmbfhbbnaaGreatDoorRS13
import Derived.Test.YtmdeagmbfhbbnaaGreatDoorRS14
set_option linter.all false
set_option maxRecDepth 100000
namespace Go.Proofs.YtmdeagmbfhbbnaaGreatDoorR.joinSplit
open Go.Abs Go.ChangeShapes Go.WideShapes Go.ChangeAt Go.RowKit
theorem pars:Tryz.f5.params.toList=[22,22,23]:=by kernel_rfl
theorem ress:Tryz.f5.resultTypes= #[4]:=by kernel_rfl
theorem fits:∀cs,ZkH tt [22,22,23] cs→Z4 Tryz.prog 5 (wraps tt [22,22,23] cs) (.bool true)
 |[c0,c1,c2],⟨h0,h1,h2,_⟩=>by
  obtain⟨x0,e0,p0⟩:=Znb h0;obtain⟨x1,e1,p1⟩:=Znb h1;obtain⟨x2,e2,p2⟩:=Zrm h2;simp only[wraps,e0,e1,e2];exact e5 x0 x1 x2 (Zsm ⟨by rw[Qd];have:=p0.1;have:=p1.1;omega,fun x hx=>(Qg.1 hx).elim (p0.2 x) (p1.2 x)⟩ ⟨by have:=p2.1;omega,p2.2⟩ ⟨sm,sm⟩) (by have:=p0.1;have:=p1.1;omega)
def wit:Array Value:=#[.slice none 0 0,.slice none 0 0,.slice none 0 0]
theorem reads(os:Os){H:Type}(enc:TypeId×Value→H):∃places,DataW.whole enc Tryz.prog ((laidWorld os).forCall (fun _ _=>0) ⟨#[],wit,[]⟩).memory
  Tryz.f5.params.toList Rows.joinSplitSpec.vars false wit.toList 8=some ([.nil,.nil,.nil],[],places):=
 ⟨[],by kernel_rfl⟩
theorem lifted(os:Os)(started:os.Started)(H:Type)(enc:TypeId×Value→H)(F:Stop.Interp):
  ReturnsInHanded {} Tryz.checked os 5 .any ((Rows.OpenSpec.upto Rows.joinSplitSpec).preRow enc Tryz.prog Tryz.f5 Rows.joinSplitUptoRow.domain false Rows.joinSplitUptoRow.laid) (((Rows.OpenSpec.upto Rows.joinSplitSpec).at F).post enc Tryz.prog Tryz.f5 false true false false):=by
 obtain⟨places,hx⟩:=reads os enc;refine returnsInHanded_of_row (C:=Tryz.checked) (s:=Rows.OpenSpec.upto Rows.joinSplitSpec) own started (by kernel_rfl) Tryz.func5
  (witness_row_at (enc:=enc) (C:=Tryz.checked) false (laidWorld os) wit rfl (by kernel_rfl) (by kernel_rfl) (by kernel_rfl)
   (OpenSpec.preRow_of_cond 8 hx (by kernel_rfl) (fun k hk=>by cases hk;kernel_rfl) (by kernel_rfl) (laid_met os _))) ?_
 intro W base args ds gs before hval hW _ hcond _ hL hsh _;have hg:gs=[]:=by
  obtain⟨_,_,_,hV,_⟩:=hW;exact(trodVars_none hV).1
 subst hg;exact Zpn 5 Tryz.f5 Rows.joinSplitSpec [22,22,23] pars ress rfl (fun ds h=>by
  match ds,h with
  |[d0,d1,d2],_=>rfl) dc fits W base args ds [] before hval hW (Zmc dc (hcond _ rfl)) hsh (Zrr hL)
theorem fact3:mapsRowed Tryz.pinned.checked.prog=true:=by kernel_rfl
theorem fact10:(Rows.joinSplitUptoRow.inPlace==Tryz.pinned.checked.prog.inPlace 5)=true:=by kernel_rfl
theorem fact11:(Rows.joinSplitUptoRow.unfollowed==Tryz.pinned.checked.prog.unfollowed 5)=true:=by kernel_rfl
theorem fact12:(Rows.joinSplitUptoRow.recurses==Tryz.pinned.checked.prog.recurses 5)=true:=by kernel_rfl
theorem fact13:(Rows.joinSplitUptoRow.named==Tryz.pinned.checked.prog.varsNamed 5)=true:=by kernel_rfl
theorem fact25:Tryz.pinned.checked.prog.stopsHeard=true:=by kernel_rfl
theorem fact26:Tryz.pinned.checked.prog.mayEnter=true:=by kernel_rfl
theorem fact27:(Rows.joinSplitUptoRow.lifted==Tryz.pinned.checked.prog.liftsFinal)=true:=by kernel_rfl
theorem fact28:(Tryz.pinned.checked.prog.make==some Rows.joinSplitUptoRow.make)=true:=by kernel_rfl
theorem closed:joinedFacts Tryz.pinned.checked.prog 5 Tryz.f5 (Rows.OpenSpec.upto Rows.joinSplitSpec).bare Rows.joinSplitUptoRow=true:=by
 unfold joinedFacts;simp only[Qh];repeat' apply QaQ
 ·kernel_rfl
 ·exact laidOut
 ·exact fact3
 ·kernel_rfl
 ·kernel_rfl
 ·kernel_rfl
 ·kernel_rfl
 ·kernel_rfl
 ·kernel_rfl
 ·exact fact10
 ·exact fact11
 ·exact fact12
 ·exact fact13
 ·kernel_rfl
 ·kernel_rfl
 ·kernel_rfl
 ·kernel_rfl
 ·kernel_rfl
 ·kernel_rfl
 ·kernel_rfl
 ·kernel_rfl
 ·kernel_rfl
 ·kernel_rfl
 ·kernel_rfl
 ·exact fact25
 ·exact fact26
 ·exact fact27
 ·exact fact28
 ·kernel_rfl
 ·kernel_rfl
 ·kernel_rfl
 ·kernel_rfl
theorem said:Rows.JoinSplitUptoSaid:=
 OpenClaim.holds_of_cond 5 Tryz.f5 rfl rfl rfl rfl rfl rfl rfl ⟨rfl,rfl,rfl,rfl,rfl⟩ rfl rfl rfl rfl rfl (by kernel_rfl) Tryz.func5 closed
  (of_decide_eq_true (by as_aux_lemma=>kernel_rfl)) (by unfold Func.isWrapper;first|(rw[if_pos (by decide+kernel)];kernel_rfl)|(rw[if_neg (by decide+kernel)];exact⟨rfl,rfl⟩))
  (fun os started H enc _ F=>by rw[OpenClaim.pre_eq_preRow];exact lifted os started H enc F)
theorem plain (f : FuncId) (fn : Func) (hf : Tryz.pinned.checked.prog.funcNamed "ostler/ostlerlaw12.JoinSplit" = some f) (hfn : Tryz.pinned.checked.prog.funcs[f]? = some fn) :
  true=Tryz.pinned.checked.prog.looks []∧ ∀(j:Nat) t,fn.params[j]? =some t→Tryz.pinned.checked.prog.wantsStandIn t=false:=by
 obtain rfl : f = 5 := Option.some.inj ((show Tryz.prog.funcNamed "ostler/ostlerlaw12.JoinSplit" = some 5 by kernel_rfl).symm.trans hf) |>.symm
 obtain rfl:fn=Tryz.f5:=(UU (Tryz.func5.symm.trans hfn)).symm;refine⟨by as_aux_lemma=>kernel_rfl,fun j t ht=>?_⟩;have hm:t∈([22,22,23]:List TypeId):=pars▸(Array.mem_toList_iff.2 (Array.mem_of_getElem? ht));exact QA.1 (show([22,22,23]:List TypeId).all (fun t=>Tryz.prog.wantsStandIn t==false)=true by kernel_rfl) t hm|>eq_of_beq
theorem card:Rows.JoinSplitUptoCardSaid:=
 Claim7.holds_tied_plain_at .later [] _ _ _ _ said (fun _ h=>by cases h) (by as_aux_lemma=>kernel_rfl) (fun _ h=>by cases h) joinSplitUpto_row_tie rfl ⟨rfl,rfl⟩ (by as_aux_lemma=>kernel_rfl) rfl plain (by as_aux_lemma=>kernel_rfl)
end Go.Proofs.YtmdeagmbfhbbnaaGreatDoorR.joinSplit
