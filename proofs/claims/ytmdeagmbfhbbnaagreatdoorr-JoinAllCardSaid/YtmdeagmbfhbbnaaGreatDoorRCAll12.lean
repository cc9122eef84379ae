/- JoinAll: the law returns true for all arguments. -/
import Derived.Test.YtmdeagmbfhbbnaaGreatDoorRM10
import Derived.Test.YtmdeagmbfhbbnaaGreatDoorRM11
set_option linter.all false
set_option maxRecDepth 100000
namespace Go.Proofs.YtmdeagmbfhbbnaaGreatDoorR.joinAll
open Go.Abs Go.ChangeShapes Go.WideShapes Go.ChangeAt Go.RowKit
theorem pars:Tryz.f3.params.toList=[22,23]:=by kernel_rfl
theorem ress:Tryz.f3.resultTypes= #[4]:=by kernel_rfl
theorem fits:∀cs,Zk9 tt [22,23] cs→ZR Tryz.prog 3 (wraps tt [22,23] cs) (.bool true)
 |[c0,c1],⟨h0,h1,_⟩=>by
  obtain⟨x0,e0,p0⟩:=Zrg h0;obtain⟨x1,e1,p1⟩:=Zq8 h1;simp only[wraps,e0,e1];exact e3 x0 x1 (ZtE p0 p1 ⟨sm,sm⟩)
def wit:Array Value:=#[.slice none 0 0,.slice none 0 0]
theorem reads(os:Os){H:Type}(enc:TypeId×Value→H):∃ds places,DataW.whole enc Tryz.prog ((laidWorld os).forCall (fun _ _=>0) ⟨#[],wit,[]⟩).memory
  Tryz.f3.params.toList Rows.joinAllSpec.vars false wit.toList 8=some (ds,[],places):=
 ⟨[.nil,.nil],[],by kernel_rfl⟩
theorem lifted(os:Os)(started:os.Started)(H:Type)(enc:TypeId×Value→H)(F:Stop.Interp):
  ReturnsInHanded {} Tryz.checked os 3 .any ((OpenSpec.ofChange Rows.joinAllSpec).preRow enc Tryz.prog Tryz.f3 Rows.joinAllRow.domain false Rows.joinAllRow.laid) (((OpenSpec.ofChange Rows.joinAllSpec).at F).post enc Tryz.prog Tryz.f3 false true false false):=by
 obtain⟨ds,places,hx⟩:=reads os enc;refine returnsInHanded_of_row (C:=Tryz.checked) (s:=OpenSpec.ofChange Rows.joinAllSpec) own started (by kernel_rfl) Tryz.func3
  (witness_row_at (enc:=enc) (C:=Tryz.checked) false (laidWorld os) wit rfl (by kernel_rfl) (by kernel_rfl) (by kernel_rfl)
   (OpenSpec.preRow_of_cond 8 hx (by kernel_rfl) (fun k hk=>by cases hk) (by kernel_rfl) (laid_met os _))) ?_
 intro W base args ds gs before hval hW _ _ hwt hL hsh _;have hg:gs=[]:=by
  obtain⟨_,_,_,hV,_⟩:=hW;exact(trodVars_none hV).1
 subst hg;exact Zq1 3 Tryz.f3 Rows.joinAllSpec [22,23] pars ress rfl (fun ds h=>by
  match ds,h with
  |[d0,d1],_=>rfl) dc fits W base args ds [] before hval hW (Zly (pars▸hwt)) hsh (Zr0 hL)
theorem fact3:mapsRowed Tryz.pinned.checked.prog=true:=by kernel_rfl
theorem fact10:(Rows.joinAllRow.inPlace==Tryz.pinned.checked.prog.inPlace 3)=true:=by kernel_rfl
theorem fact11:(Rows.joinAllRow.unfollowed==Tryz.pinned.checked.prog.unfollowed 3)=true:=by kernel_rfl
theorem fact12:(Rows.joinAllRow.recurses==Tryz.pinned.checked.prog.recurses 3)=true:=by kernel_rfl
theorem fact13:(Rows.joinAllRow.named==Tryz.pinned.checked.prog.varsNamed 3)=true:=by kernel_rfl
theorem fact25:Tryz.pinned.checked.prog.stopsHeard=true:=by kernel_rfl
theorem fact26:Tryz.pinned.checked.prog.mayEnter=true:=by kernel_rfl
theorem fact27:(Rows.joinAllRow.lifted==Tryz.pinned.checked.prog.liftsFinal)=true:=by kernel_rfl
theorem fact28:(Tryz.pinned.checked.prog.make==some Rows.joinAllRow.make)=true:=by kernel_rfl
theorem closed:joinedFacts Tryz.pinned.checked.prog 3 Tryz.f3 (OpenSpec.ofChange Rows.joinAllSpec).bare Rows.joinAllRow=true:=by
 unfold joinedFacts;simp only[Qd];repeat' apply Qa5
 ·kernel_rfl
 ·exact laidOut
 ·exact fact3
 ·kernel_rfl
 ·kernel_rfl
 ·kernel_rfl
 ·kernel_rfl
 ·kernel_rfl
 ·kernel_rfl
 ·exact fact10
 ·exact fact11
 ·exact fact12
 ·exact fact13
 ·kernel_rfl
 ·kernel_rfl
 ·kernel_rfl
 ·kernel_rfl
 ·kernel_rfl
 ·kernel_rfl
 ·kernel_rfl
 ·kernel_rfl
 ·kernel_rfl
 ·kernel_rfl
 ·kernel_rfl
 ·exact fact25
 ·exact fact26
 ·exact fact27
 ·exact fact28
 ·kernel_rfl
 ·kernel_rfl
 ·kernel_rfl
 ·kernel_rfl
theorem said:Rows.JoinAllSaid:=
 OpenClaim.holds_of_cond 3 Tryz.f3 rfl rfl rfl rfl rfl rfl rfl ⟨rfl,rfl,rfl,rfl,rfl⟩ rfl rfl rfl rfl rfl (by kernel_rfl) Tryz.func3 closed
  (of_decide_eq_true (by as_aux_lemma=>kernel_rfl)) (by unfold Func.isWrapper;first|(rw[if_pos (by decide+kernel)];kernel_rfl)|(rw[if_neg (by decide+kernel)];exact⟨rfl,rfl⟩))
  (fun os started H enc _ F=>by rw[OpenClaim.pre_eq_preRow];exact lifted os started H enc F)
theorem plain (f : FuncId) (fn : Func) (hf : Tryz.pinned.checked.prog.funcNamed "ostler/ostlerlaw12.JoinAll" = some f) (hfn : Tryz.pinned.checked.prog.funcs[f]? = some fn) :
  true=Tryz.pinned.checked.prog.looks []∧ ∀(j:Nat) t,fn.params[j]? =some t→Tryz.pinned.checked.prog.wantsStandIn t=false:=by
 obtain rfl : f = 3 := Option.some.inj ((show Tryz.prog.funcNamed "ostler/ostlerlaw12.JoinAll" = some 3 by kernel_rfl).symm.trans hf) |>.symm
 obtain rfl:fn=Tryz.f3:=(U7 (Tryz.func3.symm.trans hfn)).symm;refine⟨by as_aux_lemma=>kernel_rfl,fun j t ht=>?_⟩;have hm:t∈([22,23]:List TypeId):=pars▸(Array.mem_toList_iff.2 (Array.mem_of_getElem? ht));exact Qy.1 (show([22,23]:List TypeId).all (fun t=>Tryz.prog.wantsStandIn t==false)=true by kernel_rfl) t hm|>eq_of_beq
theorem card:Rows.JoinAllCardSaid:=
 Claim7.holds_tied_plain_at .later [] _ _ _ _ said (fun _ h=>by cases h) (by as_aux_lemma=>kernel_rfl) (fun _ h=>by cases h) joinAll_row_tie rfl ⟨rfl,rfl⟩ (by as_aux_lemma=>kernel_rfl) rfl plain (by as_aux_lemma=>kernel_rfl)
end Go.Proofs.YtmdeagmbfhbbnaaGreatDoorR.joinAll
