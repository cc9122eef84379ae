/- InstanceSame: the law returns true for all arguments. -/
import Derived.Test.YthajllbimoodjaaGreatDoorM06
set_option linter.all false
set_option maxRecDepth 100000
namespace Go.Proofs.YthajllbimoodjaaGreatDoor.instanceSame
open Go.Abs Go.ChangeShapes Go.WideShapes Go.ChangeAt Go.RowKit
theorem pars:Tryz.f4.params.toList=[51,51]:=by kernel_rfl
theorem ress:Tryz.f4.resultTypes= #[4]:=by kernel_rfl
theorem fits:∀cs,ZjI tt [51,51] cs→ ∀H,Tabs H→PC Tryz.prog 1 4 (wraps tt [51,51] cs) H (.bool true)
 |[c0,c1],⟨h0,h1,_⟩=>by
  obtain⟨x0,e0,p0⟩:=Zm6 h0;obtain⟨x1,e1,p1⟩:=Zm6 h1;simp only[wraps,e0,e1];exact fun H hT=>e4 x0 x1 p0 p1 H hT
def wit:Array Value:=#[.agg #[.int .u8 0,.slice none 0 0,.int .i64 0,.int .i64 0,.slice none 0 0,.int .i64 0,.int .i64 0,.slice none 0 0],.agg #[.int .u8 0,.slice none 0 0,.int .i64 0,.int .i64 0,.slice none 0 0,.int .i64 0,.int .i64 0,.slice none 0 0]]
theorem reads(os:Os){H:Type}(enc:TypeId×Value→H):∃ds places,DataW.whole enc Tryz.prog ((laidWorld os).forCall (fun _ _=>0) ⟨#[],wit,[]⟩).memory
  Tryz.f4.params.toList Rows.instanceSameSpec.vars false wit.toList 8=some (ds,[],places):=
 ⟨[.agg [.lit (.int .u8 0),.nil,.lit (.int .i64 0),.lit (.int .i64 0),.nil,.lit (.int .i64 0),.lit (.int .i64 0),.nil],.agg [.lit (.int .u8 0),.nil,.lit (.int .i64 0),.lit (.int .i64 0),.nil,.lit (.int .i64 0),.lit (.int .i64 0),.nil]],[],by kernel_rfl⟩
theorem lifted(os:Os)(started:os.Started)(H:Type)(enc:TypeId×Value→H)(F:Stop.Interp):
  ReturnsInHanded {} Tryz.checked os 4 .any ((OpenSpec.ofChange Rows.instanceSameSpec).preRow enc Tryz.prog Tryz.f4 Rows.instanceSameRow.domain false Rows.instanceSameRow.laid) (((OpenSpec.ofChange Rows.instanceSameSpec).at F).post enc Tryz.prog Tryz.f4 false true false false):=by
 obtain⟨ds,places,hx⟩:=reads os enc;refine returnsInHanded_of_row (C:=Tryz.checked) (s:=OpenSpec.ofChange Rows.instanceSameSpec) own started (by kernel_rfl) Tryz.func4
  (witness_row_at (enc:=enc) (C:=Tryz.checked) false (laidWorld os) wit rfl (by kernel_rfl) (by kernel_rfl) (by kernel_rfl)
   (OpenSpec.preRow_of_cond 8 hx (by kernel_rfl) (fun k hk=>by cases hk) (by kernel_rfl) (laid_met os _))) ?_
 intro W base args ds gs before hval hW _ _ hwt hL hsh _;have hg:gs=[]:=by
  obtain⟨_,_,_,hV,_⟩:=hW;exact(trodVars_none hV).1
 subst hg;exact Zqb 4 Tryz.f4 Rows.instanceSameSpec [51,51] pars ress rfl (fun ds h=>by
  match ds,h with
  |[d0,d1],_=>rfl) dc fits W base args ds [] before hval hW (ZmV (pars▸hwt)) hsh (Zse hL)
theorem fact3:mapsRowed Tryz.pinned.checked.prog=true:=by kernel_rfl
theorem fact10:(Rows.instanceSameRow.inPlace==Tryz.pinned.checked.prog.inPlace 4)=true:=by kernel_rfl
theorem fact11:(Rows.instanceSameRow.unfollowed==Tryz.pinned.checked.prog.unfollowed 4)=true:=by kernel_rfl
theorem fact12:(Rows.instanceSameRow.recurses==Tryz.pinned.checked.prog.recurses 4)=true:=by kernel_rfl
theorem fact13:(Rows.instanceSameRow.named==Tryz.pinned.checked.prog.varsNamed 4)=true:=by kernel_rfl
theorem fact25:Tryz.pinned.checked.prog.stopsHeard=true:=by kernel_rfl
theorem fact26:Tryz.pinned.checked.prog.mayEnter=true:=by kernel_rfl
theorem fact27:(Rows.instanceSameRow.lifted==Tryz.pinned.checked.prog.liftsFinal)=true:=by kernel_rfl
theorem fact28:(Tryz.pinned.checked.prog.make==some Rows.instanceSameRow.make)=true:=by kernel_rfl
theorem closed:joinedFacts Tryz.pinned.checked.prog 4 Tryz.f4 (OpenSpec.ofChange Rows.instanceSameSpec).bare Rows.instanceSameRow=true:=by
 unfold joinedFacts;simp only[Qb];repeat' apply Qa2
 ·kernel_rfl
 ·exact laidOut
 ·exact fact3
 ·kernel_rfl
 ·kernel_rfl
 ·kernel_rfl
 ·kernel_rfl
 ·kernel_rfl
 ·kernel_rfl
 ·exact fact10
 ·exact fact11
 ·exact fact12
 ·exact fact13
 ·kernel_rfl
 ·kernel_rfl
 ·kernel_rfl
 ·kernel_rfl
 ·kernel_rfl
 ·kernel_rfl
 ·kernel_rfl
 ·kernel_rfl
 ·kernel_rfl
 ·kernel_rfl
 ·kernel_rfl
 ·exact fact25
 ·exact fact26
 ·exact fact27
 ·exact fact28
 ·kernel_rfl
 ·kernel_rfl
 ·kernel_rfl
 ·kernel_rfl
theorem said:Rows.InstanceSameSaid:=
 OpenClaim.holds_of_cond 4 Tryz.f4 rfl rfl rfl rfl rfl rfl rfl ⟨rfl,rfl,rfl,rfl,rfl⟩ rfl rfl rfl rfl rfl (by kernel_rfl) Tryz.func4 closed
  (of_decide_eq_true (by as_aux_lemma=>kernel_rfl)) (by unfold Func.isWrapper;first|(rw[if_pos (by decide+kernel)];kernel_rfl)|(rw[if_neg (by decide+kernel)];exact⟨rfl,rfl⟩))
  (fun os started H enc _ F=>by rw[OpenClaim.pre_eq_preRow];exact lifted os started H enc F)
theorem plain (f : FuncId) (fn : Func) (hf : Tryz.pinned.checked.prog.funcNamed "ostler/ostlerlaw14.InstanceSame" = some f) (hfn : Tryz.pinned.checked.prog.funcs[f]? = some fn) :
  true=Tryz.pinned.checked.prog.looks []∧ ∀(j:Nat) t,fn.params[j]? =some t→Tryz.pinned.checked.prog.wantsStandIn t=false:=by
 obtain rfl : f = 4 := Option.some.inj ((show Tryz.prog.funcNamed "ostler/ostlerlaw14.InstanceSame" = some 4 by kernel_rfl).symm.trans hf) |>.symm
 obtain rfl:fn=Tryz.f4:=(Uu (Tryz.func4.symm.trans hfn)).symm;refine⟨by as_aux_lemma=>kernel_rfl,fun j t ht=>?_⟩;have hm:t∈([51,51]:List TypeId):=pars▸(Array.mem_toList_iff.2 (Array.mem_of_getElem? ht));exact Qw.1 (show([51,51]:List TypeId).all (fun t=>Tryz.prog.wantsStandIn t==false)=true by kernel_rfl) t hm|>eq_of_beq
theorem noGo:Tryz.pinned.checked.prog.funcs.toList.all (fun fn=>!fn.goes)=true:=by kernel_rfl
theorem card:Rows.InstanceSameCardSaid:=
 Claim7.holds_tied_plain_at .later [] _ _ _ _ said (fun _ h=>by cases h) (by as_aux_lemma=>kernel_rfl) (fun _ h=>by cases h) instanceSame_row_tie rfl ⟨rfl,rfl⟩ (by as_aux_lemma=>kernel_rfl) rfl plain (ZoF noGo rfl)
end Go.Proofs.YthajllbimoodjaaGreatDoor.instanceSame
