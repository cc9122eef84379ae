/- LowerAlone: the walk. -/
import Derived.Test.YthgbkalgmicniaaGreatDoorM21
import Derived.Test.YthgbkalgmicniaaGreatDoorM08
import Derived.Test.YthgbkalgmicniaaGreatDoorTie
import Derived.Test.YthgbkalgmicniaaGreatDoorCards
import Derived.LaidSub
import Derived.Shelf.Vars
import Derived.Deep.DeepHandedRow
import Derived.WalkKit
import Derived.ProofKit
import Derived.Stop.Joined
set_option linter.all false
namespace Go.Proofs.YthgbkalgmicniaaGreatDoor
open Go.Abs
set_option maxRecDepth 100000
def al0 (n:Nat) (I:List Ins) (H:AHeap) (i:Nat):AState :=
 ⟨[(4,.int .i64 i),(3,.sl 8 ((plains (I.take i)).map Ins.enc) (.buf n 200)),(0,insV I)],[(200,.buf 31 8 (plains (I.take i)).length)],H⟩
def xC (x:Ins) (v:AV):List AV:=[.int .u8 x.kind,.sl 2 (x.heads.map Am.enc) .any,.int .i64 (-1),.int .i64 (-1),v,.int .i64 x.weight,.int .i64 x.level,.sl 4 (x.tuple.map Tm.enc) .any]
def al1 (n:Nat) (I:List Ins) (H:AHeap) (i:Nat) (p:List Ins) (x:Ins) (k:Nat):AState :=
 ⟨[(6,.int .i64 k),(5,.ptr n 5 0),(4,.int .i64 i),(3,.sl 8 (p.map Ins.enc) (.buf n 200)),(0,insV I)],
  [(200,.buf 31 8 p.length),(5,.box (xC x (.msl 9 n 201 (plainB (x.body.take k)).length))),(201,.mbuf 52 9 (fl GB.cs (plainB (x.body.take k))) (plainB (x.body.take k)).length)],H⟩
theorem gb_in {n:Nat} (l:List GB):∀ c ∈ fl GB.cs l,Below n c:=fun c hc=>by
 simp only [fl,List.mem_flatMap] at hc
 obtain ⟨b,_,hb⟩:=hc; exact b.bcs.mem c hb
theorem insGB {n e k:Nat} {q:Nat → Prop} (l:List GB):ABlk.Inside n q (.mbuf e 9 (fl GB.cs l) k):=ABlk.inside_mbuf fun c hc=>(gb_in l c hc).inside
theorem low_plain (n:Nat) (H:AHeap) (hn:0 < n) (hT:Tabs H) (sh:AV) (hsh:Below n sh) (I:List Ins) (hn0:∀ x ∈ I,InNm x) (hl:I.length ≤ 30) (hs:totF (I.flatMap itI) ≤ 400) :
  ∃ g e,PC Tryz.prog n 28 [.sl 8 ((plains I).map Ins.enc) .any,sh,.bool false] H (.tup [GP.enc g,.int .i64 e]) ∧
   (e = 2 ∨ e = 3 ∨ (e = 0 ∧ g.n = g.shows.length ∧ g.rules = (plains I).map (ruleI (namesI (plains I))) ∧ g.min = [])):=by
 have hpt:=plains_tot I
 have hpl:=plains_len I
 have hg:∀ y ∈ plains I,y.Good:=fun y hy=>(sm_i (plain_nm hn0 y hy) (k:=400) (by omega) (by have:=totF_flat (f:=itI) hy; omega)).1
 have hal:=atIs_le (plains I)
 by_cases hv:(plains I).any (fun x=>!validI x) = true
 ·exact ⟨gp0,2,b28v n H (plains I) hg (by omega) hn hT sh hv,.inl rfl⟩
 have hv':∀ y ∈ plains I,validI y = true:=fun y hy=>by
  have h:=hv
  rw [Bool.not_eq_true,List.any_eq_false] at h
  simpa using h y hy
 by_cases hnm:∃ a,a ∈ sortedI (plains I) ∧ 200 < (nameA a).length
 ·obtain ⟨a,h1,h2⟩:=hnm
  exact ⟨gp0,3,b28l n H (plains I) hg hv' (by omega) (by omega) hn hT sh hsh a h1 h2,.inr (.inl rfl)⟩
 ·have hok:=plain_ok hn0 hs hl hv'
  have hpl2:∀ y ∈ plains I,Pln y:=fun y hy=>plain_pln hy (hv' y hy)
  have hrun:runN n (plains I) (plains I).length = ⟨(sortedI (plains I)).length,(plains I).map (ruleI (namesI (plains I))),0⟩:=by
   unfold runN
   rw [List.take_length,runI_pln _ _ _ _ hpl2]
   simp [st0]
  have hsl:=sorted_le (plains I)
  refine ⟨gpL n (plains I) none,0,b28 n H (plains I) hok hn hT (names_sm hok.al) none sh hsh (fun a ha=>Nat.le_of_not_lt fun h=>hnm ⟨a,ha,h⟩) (fun i h=>?_) (fun _=>rfl) (fun p hp=>by cases hp) (by rw [hrun]) (by rw [hrun]; simp only; omega) (by rw [hrun]; simp only [List.length_map]; omega),.inr (.inr ⟨rfl,?_,?_,rfl⟩)⟩
  ·rw [(inst_pln _ _ _ (hpl2 _ (List.getElem_mem h))).2]; split <;> rfl
  ·unfold gpL; rw [hrun]; simp [shw]
  ·unfold gpL; rw [hrun]
def al2 (n:Nat) (J:List Ins) (g:GP) (H:AHeap) (i:Nat):AState:=⟨[(9,.int .i64 i),(7,.ptr n 7 0),(3,.sl 8 (J.map Ins.enc) .any)],[(7,.box [.int .i64 g.shows.length,.sl 1 (g.names.map .str) .any,sInts g.shows,.sl 6 (g.rules.map GR.enc) .any,.sl 3 (g.min.map GM.enc) .any])],H⟩
theorem rule_facts (M:List (List UInt8 × Int)) (x:Ins):(ruleI M x).sum = false ∧ (ruleI M x).choice = (x.kind == 2) ∧ (ruleI M x).head.length ≤ x.heads.length ∧ (((ruleI M x).head.length:Int) == 0) = ((x.heads.length:Int) == 0) ∧ (ruleI M x).body.length ≤ x.body.length:=by
 have h1:=ordL_len (headI M x)
 have h2:=ordL_len (x.heads.map (numOf M))
 have h3:=ordL_len (ordL (litsB M x.body))
 have h4:=ordL_len (litsB M x.body)
 refine ⟨rfl,?_,?_,?_,?_⟩
 ·simp only [ruleI]; rw [Bool.eq_iff_iff]; simp
 ·simp only [ruleI,headI,List.length_map] at *; omega
 ·rw [Bool.eq_iff_iff]
  simp only [beq_iff_eq,Int.natCast_eq_zero,List.length_eq_zero_iff,ruleI,headI]
  rw [ordL_nil,ordL_nil,List.map_eq_nil_iff]
 ·simp only [ruleI,litsB,List.length_map] at *; omega
theorem b6b (n B:Nat) (H:AHeap) (hn:0 < n) (hT:Tabs H) (I:List Ins) (hn0:∀ x ∈ I,InNm x) (hl:I.length ≤ 30) (hs:totF (I.flatMap itI) ≤ 400) :
  AKc ⟨Tryz.prog,tt,⟨none,B⟩,n,Tryz.f6.ntmps⟩ [.code (bodyOf Tryz.f6).snd.snd.snd.snd.snd]
   (PostF Tryz.prog tt n Tryz.f6.results.toList fun r' H'=>r' = .bool true ∧ H' = H) ⟨[(3,.sl 8 ((plains I).map Ins.enc) .any)],[],H⟩:=by
 obtain ⟨g,e,h28,hge⟩:=low_plain (n + 1) (full n [] H) (Nat.succ_pos n) (hT.full hn) (.sl 2 [] .full) (below_sl (fun _ h=>by cases h) (fun _ _ e=>by cases e)) I hn0 hl hs
 repeat refine kn rfl ?_
 refine k_region tok rfl (by kernel_rfl) ?_
 simp only [go_sem,simprocAttr]
 refine callH (fun_of Tryz.func28 rfl rfl) h28 (by simp only [go_sem,simprocAttr]) ?_
 simp only [go_sem,simprocAttr]
 repeat refine kn rfl ?_
 refine k_region tok rfl (by kernel_rfl) ?_
 simp only [go_sem,simprocAttr]
 rcases hge with rfl | rfl | ⟨rfl,g1,g2,g3⟩
 ·repeat refine kn rfl ?_
  refine k_cond_t rfl (by simp only [go_sem,simprocAttr]) ?_
  repeat refine kn rfl ?_
  refine k_region tok rfl (by kernel_rfl) ?_
  simp only [go_sem,simprocAttr]
  repeat refine kn rfl ?_
  refine k_ret rfl ?_
  exact post_one (.refl _) (.bool _) rfl
 ·repeat refine kn rfl ?_
  refine k_cond_t rfl (by simp only [go_sem,simprocAttr]) ?_
  repeat refine kn rfl ?_
  refine k_region tok rfl (by kernel_rfl) ?_
  simp only [go_sem,simprocAttr]
  repeat refine kn rfl ?_
  refine k_ret rfl ?_
  exact post_one (.refl _) (.bool _) rfl
 ·repeat refine kn rfl ?_
  refine k_cond_f rfl (by simp only [go_sem,simprocAttr]) ?_
  refine k_skip rfl ?_
  have hpl:=plains_len I
  have hrl:g.rules.length = (plains I).length:=by rw [g2,List.length_map]
  have hml:g.min.length = 0:=by rw [g3]; rfl
  repeat refine kn rfl ?_
  refine k_region tok rfl (by kernel_rfl) ?_
  simp only [go_sem,simprocAttr,g1,hrl,hml,bne_self_eq_false]
  repeat refine kn rfl ?_
  refine k_cond_f rfl (by simp only [go_sem,simprocAttr]) ?_
  refine k_skip rfl ?_
  repeat refine kn rfl ?_
  refine k_region tok rfl (by kernel_rfl) ?_
  simp only [go_sem,simprocAttr]
  refine k_cut ⟨[],[],H⟩ ?_ ?_
  ·repeat refine kn rfl ?_
   refine k_loop_ix (al2 n (plains I) g H) (plains I).length rfl ?_ ?_
   ·unfold al2
    refine AWk_kept ?_ ?_ ?_ ?_ <;> repeat' first | exact trivial | refine q0 ?_ | exact qb | exact q1 | exact q2 | exact q3 | exact rfl | refine And.intro ?_ ?_ | exact q4 | exact q5 | exact q6 | exact q7 | exact Inside.ptr _ _ _ (.inr ⟨rfl,rfl⟩) | exact q8 | exact q9 | exact qd | exact Tm.ins _ | exact Tm.inss _ _ | exact Am.ins _ | exact Am.inss _ _ | refine ins_buf_str ?_ | refine Tm.ins_buf ?_ | refine Am.ins_buf ?_ | exact qf
    all_goals first | exact (below_inss _).inside | exact (below_strs _).inside | exact (below_sInts _).inside | exact (below_grs _).inside | exact (below_gms _).inside | skip
   intro i hi
   refine k_st rfl ?_
   unfold al2
   rcases Nat.lt_or_ge i (plains I).length with h | h
   ·have hrg:∀ d,(g.rules.map GR.enc).getD i d = (ruleI (namesI (plains I)) (plains I)[i]).enc:=fun d=>by
     rw [g2]; simp [List.getD_eq_getElem?_getD,h]
    have hgd:∀ d,((plains I).map Ins.enc).getD i d = (plains I)[i].enc:=fun d=>getD_map Ins.enc _ _ h d
    have hrl2:i < g.rules.length:=by omega
    obtain ⟨f1,f2,f3,f4,f5⟩:=rule_facts (namesI (plains I)) (plains I)[i]
    generalize ruleI (namesI (plains I)) (plains I)[i] = r at *
    generalize (plains I)[i] = x at *
    have f3':¬ ((x.heads.length:Int) < r.head.length):=by omega
    have f5':¬ ((x.body.length:Int) < r.body.length):=by omega
    repeat refine kn rfl ?_
    refine k_region tok rfl (by kernel_rfl) ?_
    simp only [go_sem,simprocAttr,h]
    repeat refine kn rfl ?_
    refine k_cond_t rfl (by simp only [go_sem,simprocAttr]) ?_
    repeat refine kn rfl ?_
    refine k_region tok rfl (by kernel_rfl) ?_
    simp only [go_sem,simprocAttr,hrg,hrl2,h]
    repeat refine kn rfl ?_
    refine k_draw tok mixed drawO rfl rfl (by kernel_rfl) (by kernel_rfl) ?_
    simp -implicitDefEqProofs only [go_sem,simprocAttr,hgd,h,f1,f2,f3',f4,f5',bne_self_eq_false]
    repeat refine kn rfl ?_
    refine k_cond_f rfl (by simp only [go_sem,simprocAttr]) ?_
    refine k_skip rfl ?_
    repeat refine kn rfl ?_
    refine k_region tok rfl (by kernel_rfl) ?_
    simp only [go_sem,simprocAttr]
    repeat refine kn rfl ?_
    refine k_nil ?_
    refine AWk_kept ?_ ?_ ?_ ?_ <;> repeat' first | exact trivial | refine q0 ?_ | exact qb | exact q1 | exact q2 | exact q3 | exact rfl | refine And.intro ?_ ?_ | exact q4 | exact q5 | exact q6 | exact q7 | exact Inside.ptr _ _ _ (.inr ⟨rfl,rfl⟩) | exact q8 | exact q9 | exact qd | exact Tm.ins _ | exact Tm.inss _ _ | exact Am.ins _ | exact Am.inss _ _ | refine ins_buf_str ?_ | refine Tm.ins_buf ?_ | refine Am.ins_buf ?_ | exact qf
    ·simp only [go_sem,simprocAttr]
     rw [IntWalk.i64_in _ (by omega)]; exact .refl _
    all_goals first | exact (below_inss _).inside | exact (below_strs _).inside | exact (below_sInts _).inside | exact (below_grs _).inside | exact (below_gms _).inside | skip
   ·repeat refine kn rfl ?_
    refine k_region tok rfl (by kernel_rfl) ?_
    simp only [go_sem,simprocAttr,Nat.not_lt.2 h]
    repeat refine kn rfl ?_
    refine k_cond_f rfl (by simp only [go_sem,simprocAttr]) ?_
    repeat refine kn rfl ?_
    refine k_exit_round rfl rfl rfl ?_
    repeat refine kn rfl ?_
    refine k_nil ?_
    refine ⟨rfl,?_⟩
    refine AWk_kept ?_ ?_ ?_ ?_ <;> repeat' first | exact trivial | refine q0 ?_ | exact qb | exact q1 | exact q2 | exact q3 | exact rfl | refine And.intro ?_ ?_ | exact q4 | exact q5 | exact q6 | exact q7 | exact Inside.ptr _ _ _ (.inr ⟨rfl,rfl⟩) | exact q8 | exact q9 | exact qd | exact Tm.ins _ | exact Tm.inss _ _ | exact Am.ins _ | exact Am.inss _ _ | refine ins_buf_str ?_ | refine Tm.ins_buf ?_ | refine Am.ins_buf ?_ | exact qf
  ·repeat refine kn rfl ?_
   refine k_region tok rfl (by kernel_rfl) ?_
   simp only [go_sem,simprocAttr]
   repeat refine kn rfl ?_
   refine k_ret rfl ?_
   exact post_one (.refl _) (.bool _) rfl
def op6:Opt:=⟨true,false,fun d=>if d = 73 then .heap else .auto,[]⟩
theorem b6 (I:List Ins) (hn0:∀ x ∈ I,InNm x):PureT Tryz.prog 6 [insV I] (.bool true):=by
 intro n H hn hT
 refine a_fun tok (fun_of Tryz.func6 rfl rfl) (by simp) fun B=>?_
 repeat refine kn rfl ?_
 refine k_region tok rfl (by kernel_rfl) ?_
 simp only [go_sem,simprocAttr]
 repeat refine kn rfl ?_
 refine k_region tok rfl (by kernel_rfl) ?_
 simp only [go_sem,simprocAttr]
 refine callT (fun_of Tryz.func11 rfl rfl) (u11) hn hT (by simp only [go_sem,simprocAttr]) ?_
 simp only [go_sem,simprocAttr]
 repeat refine kn rfl ?_
 refine k_cond_f rfl (by simp only [go_sem,simprocAttr]) ?_
 refine k_skip rfl ?_
 repeat refine kn rfl ?_
 refine k_region tok rfl (by kernel_rfl) ?_
 simp only [go_sem,simprocAttr]
 refine callP (fun_of Tryz.func10 rfl rfl) (z10 I) (by simp only [go_sem,simprocAttr]) ?_
 simp only [go_sem,simprocAttr]
 cases hg:greatI I with
 | true =>
  repeat refine kn rfl ?_
  refine k_cond_t rfl (by simp only [go_sem,simprocAttr,hg]) ?_
  repeat refine kn rfl ?_
  refine k_region tok rfl (by kernel_rfl) ?_
  simp only [go_sem,simprocAttr]
  repeat refine kn rfl ?_
  refine k_ret rfl ?_
  exact post_one (.refl _) (.bool _) rfl
 | false =>
  have hgr:I.length ≤ 30 ∧ totF (I.flatMap itI) ≤ 400:=by
   unfold greatI at hg
   simp only [Bool.or_eq_false_iff,decide_eq_false_iff_not] at hg
   omega
  repeat refine kn rfl ?_
  refine k_cond_f rfl (by simp only [go_sem,simprocAttr,hg]) ?_
  refine k_skip rfl ?_
  repeat refine kn rfl ?_
  refine k_region tok rfl (by kernel_rfl) ?_
  simp only [go_sem,simprocAttr]
  repeat refine kn rfl ?_
  refine k_region tok rfl (by kernel_rfl) ?_
  simp only [go_sem,simprocAttr]
  refine k_cut ⟨[(3,.sl 8 ((plains I).map Ins.enc) .any)],[],H⟩ ?_ ?_
  ·repeat refine kn rfl ?_
   refine k_adopt 3 200 31 8 rfl rfl ?_
   refine k_loop_ix (al0 n I H) I.length rfl ?_ ?_
   ·unfold al0
    refine AWk_kept ?_ ?_ ?_ ?_ <;> repeat' first | exact trivial | refine q0 ?_ | exact qb | exact q1 | exact q2 | exact q3 | exact rfl | refine And.intro ?_ ?_ | exact q4 | exact q5 | exact q6 | exact q7 | exact Inside.ptr _ _ _ (.inr ⟨rfl,rfl⟩) | exact q8 | exact q9 | exact qd | exact Tm.ins _ | exact Tm.inss _ _ | exact Am.ins _ | exact Am.inss _ _ | refine ins_buf_str ?_ | refine Tm.ins_buf ?_ | refine Am.ins_buf ?_ | exact qf
    all_goals first | exact (below_inss _).inside | exact ins_buf (fun _ h=>by cases h) rfl | skip
   intro i hi
   refine k_st rfl ?_
   unfold al0
   rcases Nat.lt_or_ge i I.length with h | h
   ·have hgd:∀ d,(I.map Ins.enc).getD i d = I[i].enc:=fun d=>getD_map Ins.enc _ _ h d
    repeat refine kn rfl ?_
    refine k_region tok rfl (by kernel_rfl) ?_
    simp only [go_sem,simprocAttr,h]
    repeat refine kn rfl ?_
    refine k_cond_t rfl (by simp only [go_sem,simprocAttr]) ?_
    repeat refine kn rfl ?_
    refine k_region tok rfl (by kernel_rfl) ?_
    simp only [go_sem,simprocAttr,hgd,h]
    obtain ⟨x,hx⟩:∃ x,x = I[i]:=⟨_,rfl⟩
    have hsn:plains (I.take (i + 1)) = if skipI x = true then plains (I.take i) else plains (I.take i) ++ [plainX x]:=by rw [List.take_succ_eq_append_getElem h,plains_snoc,← hx]
    have hpl:(plains (I.take i)).length ≤ 30:=by have:=plains_len (I.take i); rw [List.length_take_of_le hi] at this; omega
    have hxt:totF (itI x) ≤ 400:=by have:=totF_flat (f:=itI) (List.getElem_mem h); rw [← hx] at this; omega
    have hbl:x.body.length ≤ 400:=by
     have:=len_flat itB_pos x.body
     unfold itI at hxt; rw [totF_cons,totF_append] at hxt; omega
    rw [← hx,hsn]
    generalize plains (I.take i) = p at *
    refine k_seq rfl ?_
    refine k_seq rfl ?_
    refine k_cut ⟨[(38,.bool (skipI x)),(5,.ptr n 5 0),(4,.int .i64 i),(3,.sl 8 (p.map Ins.enc) (.buf n 200)),(0,insV I)],[(200,.buf 31 8 p.length),(5,.box x.cs)],H⟩ ?_ ?_
    ·have hin:∀ q,q 200 → Inside n q (.sl 8 (p.map Ins.enc) (.buf n 200)):=fun q hq=>ins_buf (fun y hy=>by obtain ⟨u,_,rfl⟩:=List.mem_map.1 hy; exact u.blw n) hq
     by_cases h3:x.kind = 3
     ·have e1:skipI x = true:=by unfold skipI; rw [h3]; rfl
      repeat refine kn rfl ?_
      refine k_region tok rfl (by kernel_rfl) ?_
      simp only [go_sem,simprocAttr,h3]
      repeat refine kn rfl ?_
      refine k_nil ?_
      refine ⟨rfl,?_⟩
      rw [e1]
      refine AWk_kept ?_ ?_ ?_ ?_ <;> repeat' first | exact trivial | refine q0 ?_ | exact qb | exact q1 | exact q2 | exact q3 | exact rfl | refine And.intro ?_ ?_ | exact q4 | exact q5 | exact q6 | exact q7 | exact Inside.ptr _ _ _ (.inr ⟨rfl,rfl⟩) | exact q8 | exact q9 | exact qd | exact Tm.ins _ | exact Tm.inss _ _ | exact Am.ins _ | exact Am.inss _ _ | refine ins_buf_str ?_ | refine Tm.ins_buf ?_ | refine Am.ins_buf ?_ | exact qf
      all_goals first | exact (below_inss _).inside | exact hin _ rfl | exact (below_ams _).inside | exact (below_gbs _).inside | exact (below_tms _).inside | skip
     have e3:(x.kind == 3) = false:=by simpa using h3
     by_cases h2:x.kind = 2
     ·have e0:((x.heads.length:Int) == 0) = (x.heads.length == 0):=by rw [Bool.eq_iff_iff]; simp
      have e1:skipI x = (x.heads.length == 0):=by unfold skipI; rw [e3,h2]; simp
      repeat refine kn rfl ?_
      refine k_region tok rfl (by kernel_rfl) ?_
      simp only [go_sem,simprocAttr,h2]
      repeat refine kn rfl ?_
      refine k_nil ?_
      refine ⟨rfl,?_⟩
      refine AWk_kept ?_ ?_ ?_ ?_ <;> repeat' first | exact trivial | refine q0 ?_ | exact qb | exact q1 | exact q2 | exact q3 | exact rfl | refine And.intro ?_ ?_ | exact q4 | exact q5 | exact q6 | exact q7 | exact Inside.ptr _ _ _ (.inr ⟨rfl,rfl⟩) | exact q8 | exact q9 | exact qd | exact Tm.ins _ | exact Tm.inss _ _ | exact Am.ins _ | exact Am.inss _ _ | refine ins_buf_str ?_ | refine Tm.ins_buf ?_ | refine Am.ins_buf ?_ | exact qf
      all_goals first | exact (below_inss _).inside | exact hin _ rfl | exact (below_ams _).inside | exact (below_gbs _).inside | exact (below_tms _).inside | skip
      ·simp only [go_sem,simprocAttr,e1,e0]
       exact .refl _
     ·have e2:(x.kind == 2) = false:=by simpa using h2
      have e1:skipI x = false:=by unfold skipI; rw [e3,e2]; simp
      repeat refine kn rfl ?_
      refine k_region tok rfl (by kernel_rfl) ?_
      simp only [go_sem,simprocAttr,e3,e2]
      repeat refine kn rfl ?_
      refine k_nil ?_
      refine ⟨rfl,?_⟩
      refine AWk_kept ?_ ?_ ?_ ?_ <;> repeat' first | exact trivial | refine q0 ?_ | exact qb | exact q1 | exact q2 | exact q3 | exact rfl | refine And.intro ?_ ?_ | exact q4 | exact q5 | exact q6 | exact q7 | exact Inside.ptr _ _ _ (.inr ⟨rfl,rfl⟩) | exact q8 | exact q9 | exact qd | exact Tm.ins _ | exact Tm.inss _ _ | exact Am.ins _ | exact Am.inss _ _ | refine ins_buf_str ?_ | refine Tm.ins_buf ?_ | refine Am.ins_buf ?_ | exact qf
      all_goals first | exact (below_inss _).inside | exact hin _ rfl | exact (below_ams _).inside | exact (below_gbs _).inside | exact (below_tms _).inside | skip
      ·simp only [go_sem,simprocAttr,e1]
       exact .refl _
    have hin:∀ q,q 200 → Inside n q (.sl 8 (p.map Ins.enc) (.buf n 200)):=fun q hq=>ins_buf (fun y hy=>by obtain ⟨u,_,rfl⟩:=List.mem_map.1 hy; exact u.blw n) hq
    cases hsk:skipI x with
    | true =>
     repeat refine kn rfl ?_
     refine k_cond_t rfl (by simp only [go_sem,simprocAttr,hsk]) ?_
     repeat refine kn rfl ?_
     refine k_exit rfl rfl ?_
     repeat refine kn rfl ?_
     refine k_region tok rfl (by kernel_rfl) ?_
     simp only [go_sem,simprocAttr]
     repeat refine kn rfl ?_
     refine k_nil ?_
     refine AWk_kept ?_ ?_ ?_ ?_ <;> repeat' first | exact trivial | refine q0 ?_ | exact qb | exact q1 | exact q2 | exact q3 | exact rfl | refine And.intro ?_ ?_ | exact q4 | exact q5 | exact q6 | exact q7 | exact Inside.ptr _ _ _ (.inr ⟨rfl,rfl⟩) | exact q8 | exact q9 | exact qd | exact Tm.ins _ | exact Tm.inss _ _ | exact Am.ins _ | exact Am.inss _ _ | refine ins_buf_str ?_ | refine Tm.ins_buf ?_ | refine Am.ins_buf ?_ | exact qf
     ·simp only [go_sem,simprocAttr]
      rw [IntWalk.i64_in _ (by omega)]; exact .refl _
     all_goals first | exact (below_inss _).inside | exact hin _ rfl | exact (below_ams _).inside | exact (below_gbs _).inside | exact (below_tms _).inside | exact sw_nil | exact insMs (.inr ⟨rfl,rfl⟩) | exact insGB _ | exact allP_of (fun c hc=>(gb_in _ c hc).inside) | skip
    | false =>
     rw [if_neg (by simp)]
     repeat refine kn rfl ?_
     refine k_cond_f rfl (by simp only [go_sem,simprocAttr,hsk]) ?_
     refine k_skip rfl ?_
     repeat refine kn rfl ?_
     refine k_region tok rfl (by kernel_rfl) ?_
     simp only [go_sem,simprocAttr]
     repeat refine kn rfl ?_
     refine k_region tok rfl (by kernel_rfl) ?_
     simp only [go_sem,simprocAttr]
     refine k_adopt_cell 5 201 4 52 9 rfl rfl rfl ?_
     simp only [go_sem,simprocAttr,List.set_cons_succ,List.set_cons_zero]
     refine k_cut ⟨[(5,.ptr n 5 0),(4,.int .i64 i),(3,.sl 8 (p.map Ins.enc) (.buf n 200)),(0,insV I)],[(200,.buf 31 8 p.length),(5,.box (xC x (.msl 9 n 201 (plainB x.body).length))),(201,.mbuf 52 9 (fl GB.cs (plainB x.body)) (plainB x.body).length)],H⟩ ?_ ?_
     ·repeat refine kn rfl ?_
      refine k_loop_ix (al1 n I H i p x) x.body.length rfl ?_ ?_
      ·unfold al1 xC
       refine AWk_kept ?_ ?_ ?_ ?_ <;> repeat' first | exact trivial | refine q0 ?_ | exact qb | exact q1 | exact q2 | exact q3 | exact rfl | refine And.intro ?_ ?_ | exact q4 | exact q5 | exact q6 | exact q7 | exact Inside.ptr _ _ _ (.inr ⟨rfl,rfl⟩) | exact q8 | exact q9 | exact qd | exact Tm.ins _ | exact Tm.inss _ _ | exact Am.ins _ | exact Am.inss _ _ | refine ins_buf_str ?_ | refine Tm.ins_buf ?_ | refine Am.ins_buf ?_ | exact qf
       all_goals first | exact (below_inss _).inside | exact hin _ rfl | exact (below_ams _).inside | exact (below_gbs _).inside | exact (below_tms _).inside | exact sw_nil | exact insMs (.inr ⟨rfl,rfl⟩) | exact insGB _ | exact allP_of (fun c hc=>(gb_in _ c hc).inside) | skip
      intro k hk
      refine k_st rfl ?_
      unfold al1 xC
      have hpb:=plainB_len (x.body.take k)
      rw [List.length_take_of_le hk] at hpb
      rcases Nat.lt_or_ge k x.body.length with h2 | h2
      ·have hsb:plainB (x.body.take (k + 1)) = if x.body[k].kind = 3 then plainB (x.body.take k) else plainB (x.body.take k) ++ [x.body[k]]:=by rw [List.take_succ_eq_append_getElem h2,plainB_snoc]
       have hgb:∀ d,(x.body.map GB.enc).getD k d = x.body[k].enc:=fun d=>getD_map GB.enc _ _ h2 d
       rw [hsb]
       obtain ⟨b,hb⟩:∃ b,b = x.body[k]:=⟨_,rfl⟩
       rw [← hb] at hgb ⊢
       generalize plainB (x.body.take k) = q at *
       rw [← hx] at hgd
       repeat refine kn rfl ?_
       refine k_region tok rfl (by kernel_rfl) ?_
       simp only [go_sem,simprocAttr,hgd,h,h2]
       repeat refine kn rfl ?_
       refine k_cond_t rfl (by simp only [go_sem,simprocAttr]) ?_
       repeat refine kn rfl ?_
       refine k_region tok rfl (by kernel_rfl) ?_
       simp only [go_sem,simprocAttr,hgd,h,h2,hgb]
       by_cases hb3:b.kind = 3
       ·have e3:(b.kind != 3) = false:=by simp [hb3]
        repeat refine kn rfl ?_
        refine k_cond_f rfl (by simp only [go_sem,simprocAttr,e3]) ?_
        refine k_skip rfl ?_
        repeat refine kn rfl ?_
        refine k_region tok rfl (by kernel_rfl) ?_
        simp only [go_sem,simprocAttr]
        repeat refine kn rfl ?_
        refine k_nil ?_
        rw [if_pos hb3]
        refine AWk_kept ?_ ?_ ?_ ?_ <;> repeat' first | exact trivial | refine q0 ?_ | exact qb | exact q1 | exact q2 | exact q3 | exact rfl | refine And.intro ?_ ?_ | exact q4 | exact q5 | exact q6 | exact q7 | exact Inside.ptr _ _ _ (.inr ⟨rfl,rfl⟩) | exact q8 | exact q9 | exact qd | exact Tm.ins _ | exact Tm.inss _ _ | exact Am.ins _ | exact Am.inss _ _ | refine ins_buf_str ?_ | refine Tm.ins_buf ?_ | refine Am.ins_buf ?_ | exact qf
        ·simp only [go_sem,simprocAttr]
         rw [IntWalk.i64_in _ (by omega)]; exact .refl _
        all_goals first | exact (below_inss _).inside | exact hin _ rfl | exact (below_ams _).inside | exact (below_gbs _).inside | exact (below_tms _).inside | exact sw_nil | exact insMs (.inr ⟨rfl,rfl⟩) | exact insGB _ | exact allP_of (fun c hc=>(gb_in _ c hc).inside) | skip
       ·have e3:(b.kind != 3) = true:=by simpa using hb3
        repeat refine kn rfl ?_
        refine k_cond_t rfl (by simp only [go_sem,simprocAttr,e3]) ?_
        repeat refine kn rfl ?_
        refine k_draw tok mixed op6 rfl rfl (by kernel_rfl) (by kernel_rfl) ?_
        simp only [go_sem,simprocAttr,op6,hgd,h,h2,hgb]
        refine ⟨rfl,⟨le_maxLen (by omega),by omega⟩,?_⟩
        have e1:fl GB.cs q ++ flat [b.enc] = fl GB.cs (q ++ [b]):=by rw [fl_append]; rfl
        have e2:q.length + 1 = (q ++ [b]).length:=by simp
        rw [e1,e2,if_neg hb3]
        repeat refine kn rfl ?_
        refine k_region tok rfl (by kernel_rfl) ?_
        simp only [go_sem,simprocAttr]
        repeat refine kn rfl ?_
        refine k_nil ?_
        refine AWk_kept ?_ ?_ ?_ ?_ <;> repeat' first | exact trivial | refine q0 ?_ | exact qb | exact q1 | exact q2 | exact q3 | exact rfl | refine And.intro ?_ ?_ | exact q4 | exact q5 | exact q6 | exact q7 | exact Inside.ptr _ _ _ (.inr ⟨rfl,rfl⟩) | exact q8 | exact q9 | exact qd | exact Tm.ins _ | exact Tm.inss _ _ | exact Am.ins _ | exact Am.inss _ _ | refine ins_buf_str ?_ | refine Tm.ins_buf ?_ | refine Am.ins_buf ?_ | exact qf
        ·simp only [go_sem,simprocAttr]
         rw [IntWalk.i64_in _ (by omega)]; exact .refl _
        all_goals first | exact (below_inss _).inside | exact hin _ rfl | exact (below_ams _).inside | exact (below_gbs _).inside | exact (below_tms _).inside | exact sw_nil | exact insMs (.inr ⟨rfl,rfl⟩) | exact insGB _ | exact allP_of (fun c hc=>(gb_in _ c hc).inside) | skip
      ·have hk':k = x.body.length:=by omega
       subst hk'
       rw [← hx] at hgd
       repeat refine kn rfl ?_
       refine k_region tok rfl (by kernel_rfl) ?_
       simp only [go_sem,simprocAttr,hgd,h,Nat.not_lt.2 h2]
       repeat refine kn rfl ?_
       refine k_cond_f rfl (by simp only [go_sem,simprocAttr]) ?_
       repeat refine kn rfl ?_
       refine k_exit_round rfl rfl rfl ?_
       repeat refine kn rfl ?_
       refine k_nil ?_
       refine ⟨rfl,?_⟩
       rw [List.take_length]
       refine AWk_kept ?_ ?_ ?_ ?_ <;> repeat' first | exact trivial | refine q0 ?_ | exact qb | exact q1 | exact q2 | exact q3 | exact rfl | refine And.intro ?_ ?_ | exact q4 | exact q5 | exact q6 | exact q7 | exact Inside.ptr _ _ _ (.inr ⟨rfl,rfl⟩) | exact q8 | exact q9 | exact qd | exact Tm.ins _ | exact Tm.inss _ _ | exact Am.ins _ | exact Am.inss _ _ | refine ins_buf_str ?_ | refine Tm.ins_buf ?_ | refine Am.ins_buf ?_ | exact qf
       all_goals first | exact (below_inss _).inside | exact hin _ rfl | exact (below_ams _).inside | exact (below_gbs _).inside | exact (below_tms _).inside | exact sw_nil | exact insMs (.inr ⟨rfl,rfl⟩) | exact insGB _ | exact allP_of (fun c hc=>(gb_in _ c hc).inside) | skip
     unfold xC
     have hpb:=plainB_len x.body
     refine k_weak (AWk_freeze_cell (tm':=[(5,.ptr n 5 0),(4,.int .i64 i),(3,.sl 8 (p.map Ins.enc) (.buf n 200)),(0,insV I)]) (j0:=5) (i:=4) (j:=201) 14 (show 14 < 174 by decide) ((plainB x.body).map GB.enc) (by decide) rfl rfl rfl (fl_flat GB.cs GB.enc (fun _=>rfl) _) (by simp) (fun y hy=>?_) (fun c hc=>(gb_in _ c hc).inside) (fun y hy=>?_) (fun y hy=>?_)) ?_
     ·obtain ⟨u,_,rfl⟩:=List.mem_map.1 hy; rfl
     ·exact (show AllP (fun y:Nat × AV=>y.1 ≠ 14 ∧ Wk (lkv [(5,.ptr n 5 0),(4,.int .i64 i),(3,.sl 8 (p.map Ins.enc) (.buf n 200)),(0,insV I)] y.1) y.2 ∧ Inside n (fun k=>k ≠ 201) (lkv [(5,.ptr n 5 0),(4,.int .i64 i),(3,.sl 8 (p.map Ins.enc) (.buf n 200)),(0,insV I)] y.1)) [(5,.ptr n 5 0),(4,.int .i64 i),(3,.sl 8 (p.map Ins.enc) (.buf n 200)),(0,insV I)] from
       ⟨⟨by simp,.refl _,.ptr _ _ _ (.inr ⟨rfl,by decide⟩)⟩,⟨by simp,.refl _,.int _ _⟩,⟨by simp,.refl _,hin _ (by decide)⟩,⟨by simp,.refl _,(below_inss _).inside⟩,trivial⟩).mem y hy
     ·exact AllP.mem (p:=fun q:Nat × ABlk=>q.2.Inside n (fun k=>k ≠ 201)) (l:=[(200,.buf 31 8 p.length),(5,.box [.int .u8 x.kind,.sl 2 (x.heads.map Am.enc) .any,.int .i64 (-1),.int .i64 (-1),.dead,.int .i64 x.weight,.int .i64 x.level,.sl 4 (x.tuple.map Tm.enc) .any])])
       ⟨⟨by simp [ABlk.avs],by simp [ABlk.at_]⟩,ABlk.inside_box ⟨.int _ _,(below_ams _).inside,.int _ _,.int _ _,.dead,.int _ _,.int _ _,(below_tms _).inside,trivial⟩,trivial⟩ y hy
     simp only [go_sem,simprocAttr,setb,delb,List.set_cons_zero,List.set_cons_succ]
     have hpx:AV.agg [.int .u8 x.kind,.sl 2 (x.heads.map Am.enc) .any,.int .i64 (-1),.int .i64 (-1),.sl 9 ((plainB x.body).map GB.enc) .any,.int .i64 x.weight,.int .i64 x.level,.sl 4 (x.tuple.map Tm.enc) .any] = (plainX x).enc:=rfl
     repeat refine kn rfl ?_
     refine k_region tok rfl (by kernel_rfl) ?_
     simp only [go_sem,simprocAttr]
     refine ⟨rfl,⟨le_maxLen (by omega),by omega⟩,?_⟩
     rw [hpx]
     have e1:p.map Ins.enc ++ [(plainX x).enc] = (p ++ [plainX x]).map Ins.enc:=by simp
     have e2:p.length + 1 = (p ++ [plainX x]).length:=by simp
     rw [e1,e2]
     have hin2:∀ q,q 200 → Inside n q (.sl 8 ((p ++ [plainX x]).map Ins.enc) (.buf n 200)):=fun q hq=>ins_buf (fun y hy=>by obtain ⟨u,_,rfl⟩:=List.mem_map.1 hy; exact u.blw n) hq
     repeat refine kn rfl ?_
     refine k_region tok rfl (by kernel_rfl) ?_
     simp only [go_sem,simprocAttr]
     repeat refine kn rfl ?_
     refine k_nil ?_
     refine AWk_kept ?_ ?_ ?_ ?_ <;> repeat' first | exact trivial | refine q0 ?_ | exact qb | exact q1 | exact q2 | exact q3 | exact rfl | refine And.intro ?_ ?_ | exact q4 | exact q5 | exact q6 | exact q7 | exact Inside.ptr _ _ _ (.inr ⟨rfl,rfl⟩) | exact q8 | exact q9 | exact qd | exact Tm.ins _ | exact Tm.inss _ _ | exact Am.ins _ | exact Am.inss _ _ | refine ins_buf_str ?_ | refine Tm.ins_buf ?_ | refine Am.ins_buf ?_ | exact qf
     ·simp only [go_sem,simprocAttr]
      rw [IntWalk.i64_in _ (by omega)]; exact .refl _
     all_goals first | exact (below_inss _).inside | exact hin2 _ rfl | skip
   ·have hi':i = I.length:=by omega
    subst hi'
    repeat refine kn rfl ?_
    refine k_region tok rfl (by kernel_rfl) ?_
    simp only [go_sem,simprocAttr,Nat.not_lt.2 h]
    repeat refine kn rfl ?_
    refine k_cond_f rfl (by simp only [go_sem,simprocAttr]) ?_
    repeat refine kn rfl ?_
    refine k_exit_round rfl rfl rfl ?_
    repeat refine kn rfl ?_
    refine k_nil ?_
    refine ⟨rfl,?_⟩
    rw [List.take_length]
    refine AWk_kept ?_ ?_ ?_ ?_ <;> repeat' first | exact trivial | refine q0 ?_ | exact qb | exact q1 | exact q2 | exact q3 | exact rfl | refine And.intro ?_ ?_ | exact q4 | exact q5 | exact q6 | exact q7 | exact Inside.ptr _ _ _ (.inr ⟨rfl,rfl⟩) | exact q8 | exact q9 | exact qd | exact Tm.ins _ | exact Tm.inss _ _ | exact Am.ins _ | exact Am.inss _ _ | refine ins_buf_str ?_ | refine Tm.ins_buf ?_ | refine Am.ins_buf ?_ | exact qf
    all_goals first | exact (below_inss _).inside | exact .any _ _ _ | skip
  ·exact b6b n B H hn hT I hn0 hgr.1 hgr.2
end Go.Proofs.YthgbkalgmicniaaGreatDoor

/- The laws' rows: what they read, as data; the variables that they list; the end of a call. -/
namespace Go.Proofs.YthgbkalgmicniaaGreatDoor
open Go.Abs Go.ChangeShapes Go.WideShapes Go.ChangeAt Go.RowKit
set_option maxRecDepth 100000
def rdS:List TypeId:=[3,4,5,9,22,27,28,29,31,33,39,41,44,47,50,52]
theorem rdOk:readsB tt rdS = true:=by kernel_rfl
theorem wf_i64 {n:Int} (h:(Lit.int .i64 n).wf = true):-9223372036854775808 ≤ n ∧ n ≤ 9223372036854775807:=by
 simp [Lit.wf,IntKind.min,IntKind.max,IntKind.signed,IntKind.bits] at h; omega
theorem wf_u8 {n:Int} (h:(Lit.int .u8 n).wf = true):0 ≤ n ∧ n ≤ 255:=by
 simp [Lit.wf,IntKind.min,IntKind.max,IntKind.signed,IntKind.bits] at h; omega
theorem reach_le {n:Nat} (h:n ≤ reachBytes):n ≤ 140737488355328:=Nat.le_trans h (by decide)
theorem r3:tt 3 = some ⟨.int .i64,1,8,[.int .i64 0]⟩:=rfl
theorem r4:tt 4 = some ⟨.bool,1,1,[.bool false]⟩:=rfl
theorem r5:tt 5 = some ⟨.int .u8,1,1,[.int .u8 0]⟩:=rfl
theorem r9:tt 9 = some ⟨.str,1,16,[.str []]⟩:=rfl
theorem r22:tt 22 = some ⟨.slice 31,1,24,[.sl 8 [] .full]⟩:=rfl
theorem r27:tt 27 = some ⟨.slice 33,1,24,[.sl 2 [] .full]⟩:=rfl
theorem r28:tt 28 = some ⟨.slice 52,1,24,[.sl 9 [] .full]⟩:=rfl
theorem r29:tt 29 = some ⟨.slice 47,1,24,[.sl 4 [] .full]⟩:=rfl
theorem r31:tt 31 = some ⟨.struct [(0,5),(1,27),(2,3),(3,3),(4,28),(5,3),(6,3),(7,29)],8,112,[.int .u8 0,.sl 2 [] .full,.int .i64 0,.int .i64 0,.sl 9 [] .full,.int .i64 0,.int .i64 0,.sl 4 [] .full]⟩:=rfl
theorem r33:tt 33 = some ⟨.struct [(0,9),(1,29)],2,40,[.str [],.sl 4 [] .full]⟩:=rfl
theorem r39:tt 39 = some ⟨.slice 44,1,24,[.sl 3 [] .full]⟩:=rfl
theorem r41:tt 41 = some ⟨.struct [(0,29),(1,39)],2,48,[.sl 4 [] .full,.sl 3 [] .full]⟩:=rfl
theorem r44:tt 44 = some ⟨.struct [(0,4),(1,33)],3,48,[.bool false,.str [],.sl 4 [] .full]⟩:=rfl
theorem r47:tt 47 = some ⟨.struct [(0,5),(1,3),(2,9),(3,29)],4,56,[.int .u8 0,.int .i64 0,.str [],.sl 4 [] .full]⟩:=rfl
theorem r50:tt 50 = some ⟨.slice 41,1,24,[.sl 2 [] .full]⟩:=rfl
theorem r52:tt 52 = some ⟨.struct [(0,5),(1,44),(4,4),(5,5),(6,50),(7,5),(8,3)],9,104,[.int .u8 0,.bool false,.str [],.sl 4 [] .full,.bool false,.int .u8 0,.sl 2 [] .full,.int .u8 0,.int .i64 0]⟩:=rfl
theorem map_of {α:Type} {p:α → Prop} {enc:α → List AV}:∀ {xs:List (List AV)},(∀ x ∈ xs,∃ a,x = enc a ∧ p a) → ∃ l:List α,xs = l.map enc ∧ ∀ a ∈ l,p a
 | [],_=>⟨[],rfl,by simp⟩
 | x :: xs,h=>by
  obtain ⟨a,h1,h2⟩:=h x (by simp)
  obtain ⟨l,h3,h4⟩:=map_of (xs:=xs) (fun y hy=>h y (by simp [hy]))
  exact ⟨a :: l,by rw [h1,h3]; rfl,fun b hb=>by rcases List.mem_cons.1 hb with rfl | hb; exact h2; exact h4 b hb⟩
theorem fit_tm {t:TypeId} {cs:List AV} (h:FitV tt t cs):(t = 47 → ∃ u:Tm,cs = u.cs ∧ u.Nm) ∧ (t = 29 → ∃ l:List Tm,cs = [.sl 4 (l.map Tm.enc) .any] ∧ ∀ u ∈ l,u.Nm):=by
 induction h with
 | int h hd hw=>exact ⟨fun e=>(by subst e; rw [r47] at h; cases h; cases hd),fun e=>(by subst e; rw [r29] at h; cases h; cases hd)⟩
 | bool h hd=>exact ⟨fun e=>(by subst e; rw [r47] at h; cases h; cases hd),fun e=>(by subst e; rw [r29] at h; cases h; cases hd)⟩
 | str h hd hl=>exact ⟨fun e=>(by subst e; rw [r47] at h; cases h; cases hd),fun e=>(by subst e; rw [r29] at h; cases h; cases hd)⟩
 | slice xs h hd he hx hl ih =>
  refine ⟨fun e=>(by subst e; rw [r47] at h; cases h; cases hd),fun e=>?_⟩
  subst e
  rw [r29] at h; cases h; cases hd
  rw [r47] at he; cases he
  obtain ⟨l,h1,h2⟩:=map_of (enc:=Tm.cs) (p:=Tm.Nm) (fun x hx=>(ih x hx).1 rfl)
  refine ⟨l,?_,h2⟩
  rw [h1,List.map_map]
  congr 2
  exact List.map_congr_left fun u _=>by simp [wrapA,TRow.isAgg,Tm.enc_cs]
 | struct h hd ps hl hf ih =>
  refine ⟨fun e=>?_,fun e=>(by subst e; rw [r29] at h; cases h; cases hd)⟩
  subst e
  rw [r47] at h; cases h; cases hd
  match ps,hl with
  | [p0,p1,p2,p3],_ =>
   obtain ⟨k,rfl,hk⟩:=(hf 0 (by simp) (by simp)).int_inv r5 rfl
   obtain ⟨n,rfl,hn⟩:=(hf 1 (by simp) (by simp)).int_inv r3 rfl
   obtain ⟨s,rfl,hs⟩:=(hf 2 (by simp) (by simp)).str_inv r9 rfl
   obtain ⟨l,rfl,hl⟩:=(ih 3 (by simp) (by simp)).2 rfl
   exact ⟨.mk k n s l,rfl,.mk k n s l (reach_le hs) (wf_u8 hk) (wf_i64 hn) hl⟩
theorem fit_am {cs:List AV} (h:FitV tt 33 cs):∃ a:Am,cs = a.cs ∧ AmNm a:=by
 obtain ⟨ps,rfl,hl,hf⟩:=h.struct_inv r33 rfl
 match ps,hl with
 | [p0,p1],_ =>
  obtain ⟨s,rfl,hs⟩:=(hf 0 (by simp) (by simp)).str_inv r9 rfl
  obtain ⟨l,rfl,hl⟩:=(fit_tm (hf 1 (by simp) (by simp))).2 rfl
  exact ⟨⟨s,l⟩,rfl,reach_le hs,hl⟩
theorem fit_gl {cs:List AV} (h:FitV tt 44 cs):∃ a:GL,cs = a.cs ∧ AmNm a.a:=by
 obtain ⟨ps,rfl,hl,hf⟩:=h.struct_inv r44 rfl
 match ps,hl with
 | [p0,p1],_ =>
  obtain ⟨b,rfl⟩:=(hf 0 (by simp) (by simp)).bool_inv r4 rfl
  obtain ⟨a,rfl,ha⟩:=fit_am (hf 1 (by simp) (by simp))
  exact ⟨⟨b,a⟩,rfl,ha⟩
theorem fit_list {α:Type} {e t k:Nat} {r re:TRow} {cs:List AV} {enc:α → AV} {acs:α → List AV} {p:α → Prop} (h:FitV tt t cs) (hr:tt t = some r) (hd:r.td = .slice e) (he:tt e = some re) (hk:re.size = k) (ha:re.isAgg = true)
  (hc:∀ x,enc x = .agg (acs x)) (hf:∀ cs,FitV tt e cs → ∃ a:α,cs = acs a ∧ p a):∃ l:List α,cs = [.sl k (l.map enc) .any] ∧ ∀ a ∈ l,p a:=by
 obtain ⟨xs,rfl,hx,_⟩:=h.slice_inv hr hd he
 obtain ⟨l,rfl,h2⟩:=map_of (enc:=acs) (p:=p) (fun x hx'=>hf x (hx x hx'))
 refine ⟨l,?_,h2⟩
 rw [List.map_map,hk]
 congr 2
 exact List.map_congr_left fun u _=>by simp only [Function.comp,wrapA,ha,if_true,hc]
theorem fit_ams {cs:List AV} (h:FitV tt 27 cs):∃ l:List Am,cs = [.sl 2 (l.map Am.enc) .any] ∧ ∀ a ∈ l,AmNm a:=fit_list h r27 rfl r33 rfl rfl (fun _=>rfl) fun _ h=>fit_am h
theorem fit_gls {cs:List AV} (h:FitV tt 39 cs):∃ l:List GL,cs = [.sl 3 (l.map GL.enc) .any] ∧ ∀ a ∈ l,AmNm a.a:=fit_list h r39 rfl r44 rfl rfl (fun _=>rfl) fun _ h=>fit_gl h
theorem fit_ge {cs:List AV} (h:FitV tt 41 cs):∃ e:GE,cs = e.cs ∧ ((∀ t ∈ e.tuple,t.Nm) ∧ ∀ g ∈ e.cond,AmNm g.a):=by
 obtain ⟨ps,rfl,hl,hf⟩:=h.struct_inv r41 rfl
 match ps,hl with
 | [p0,p1],_ =>
  obtain ⟨l,rfl,hl⟩:=(fit_tm (hf 0 (by simp) (by simp))).2 rfl
  obtain ⟨c,rfl,hc⟩:=fit_gls (hf 1 (by simp) (by simp))
  exact ⟨⟨l,c⟩,rfl,hl,hc⟩
theorem fit_ges {cs:List AV} (h:FitV tt 50 cs):∃ l:List GE,cs = [.sl 2 (l.map GE.enc) .any] ∧ ∀ e ∈ l,(∀ t ∈ e.tuple,t.Nm) ∧ ∀ g ∈ e.cond,AmNm g.a:=fit_list h r50 rfl r41 rfl rfl (fun _=>rfl) fun _ h=>fit_ge h
theorem fit_gb {cs:List AV} (h:FitV tt 52 cs):∃ b:GB,cs = b.cs ∧ (AmNm b.lit.a ∧ ∀ e ∈ b.elems,(∀ t ∈ e.tuple,t.Nm) ∧ ∀ g ∈ e.cond,AmNm g.a):=by
 obtain ⟨ps,rfl,hl,hf⟩:=h.struct_inv r52 rfl
 match ps,hl with
 | [p0,p1,p2,p3,p4,p5,p6],_ =>
  obtain ⟨k,rfl,_⟩:=(hf 0 (by simp) (by simp)).int_inv r5 rfl
  obtain ⟨g,rfl,hg⟩:=fit_gl (hf 1 (by simp) (by simp))
  obtain ⟨no,rfl⟩:=(hf 2 (by simp) (by simp)).bool_inv r4 rfl
  obtain ⟨f,rfl,_⟩:=(hf 3 (by simp) (by simp)).int_inv r5 rfl
  obtain ⟨es,rfl,he⟩:=fit_ges (hf 4 (by simp) (by simp))
  obtain ⟨o,rfl,_⟩:=(hf 5 (by simp) (by simp)).int_inv r5 rfl
  obtain ⟨b,rfl,_⟩:=(hf 6 (by simp) (by simp)).int_inv r3 rfl
  exact ⟨⟨k,g,no,f,es,o,b⟩,rfl,hg,he⟩
theorem fit_gbs {cs:List AV} (h:FitV tt 28 cs):∃ l:List GB,cs = [.sl 9 (l.map GB.enc) .any] ∧ ∀ b ∈ l,AmNm b.lit.a ∧ ∀ e ∈ b.elems,(∀ t ∈ e.tuple,t.Nm) ∧ ∀ g ∈ e.cond,AmNm g.a:=fit_list h r28 rfl r52 rfl rfl (fun _=>rfl) fun _ h=>fit_gb h
theorem fit_ins {cs:List AV} (h:FitV tt 31 cs):∃ x:Ins,cs = x.cs ∧ InNm x:=by
 obtain ⟨ps,rfl,hl,hf⟩:=h.struct_inv r31 rfl
 match ps,hl with
 | [p0,p1,p2,p3,p4,p5,p6,p7],_ =>
  obtain ⟨k,rfl,_⟩:=(hf 0 (by simp) (by simp)).int_inv r5 rfl
  obtain ⟨hs,rfl,hh⟩:=fit_ams (hf 1 (by simp) (by simp))
  obtain ⟨lo,rfl,_⟩:=(hf 2 (by simp) (by simp)).int_inv r3 rfl
  obtain ⟨up,rfl,_⟩:=(hf 3 (by simp) (by simp)).int_inv r3 rfl
  obtain ⟨b,rfl,hb⟩:=fit_gbs (hf 4 (by simp) (by simp))
  obtain ⟨w,rfl,_⟩:=(hf 5 (by simp) (by simp)).int_inv r3 rfl
  obtain ⟨lv,rfl,_⟩:=(hf 6 (by simp) (by simp)).int_inv r3 rfl
  obtain ⟨l,rfl,hl⟩:=(fit_tm (hf 7 (by simp) (by simp))).2 rfl
  exact ⟨⟨k,hs,lo,up,b,w,lv,l⟩,rfl,hh,hb,hl⟩
theorem fit_inss {cs:List AV} (h:FitV tt 22 cs):∃ l:List Ins,cs = [.sl 8 (l.map Ins.enc) .any] ∧ ∀ x ∈ l,InNm x:=fit_list h r22 rfl r31 rfl rfl (fun _=>rfl) fun _ h=>fit_ins h
theorem arg_inss {cs:List AV} (h:FitV tt 22 cs):∃ l:List Ins,wrapT tt 22 cs = .sl 8 (l.map Ins.enc) .any ∧ ∀ x ∈ l,InNm x:=by
 obtain ⟨a,rfl,h2⟩:=fit_inss h; exact ⟨a,rfl,h2⟩
/-! The variables of Go's library. -/
theorem own:ownKnob Tryz.prog.godebug = none:=by kernel_rfl
theorem gPow : Tryz.prog.globalNamed "internal/strconv.uint64pow10" = some 1 := by kernel_rfl
theorem gPowT:(Tryz.prog.globals[1]?).map (·.type) = some 384:=by kernel_rfl
theorem cells384:Tryz.prog.cellsOf 384 = 20:=by kernel_rfl
theorem cells310:Tryz.prog.cellsOf 310 = 1:=by kernel_rfl
theorem pow_tab {W : World} (h : laidMetH Tryz.prog Rows.lowerTellsRow.laid W) : Lib.TabIs Tryz.prog W "internal/strconv.uint64pow10" .u64 Lib.pow10Tab := by
 have h1 := laidMetH.filter (fun x => x.1 == "internal/strconv.uint64pow10") h
 exact Lib.tabIs_of_head (rest:=[]) gPow gPowT Tryz.underlying384 Tryz.underlying310 cells310 cells384 h1
def env0 (W:World):Env where
 F:=fun b o=>if b = 0 ∨ b = 1 then none else W.cell? ⟨b,o,none⟩
 m:=fun l k=>if l = 0 ∧ k = 0 then some 0 else if l = 0 ∧ k = 1 then some 1 else none
 hist:=fun _ _ _=>none
 g:=fun _ _=>none
 qd:=false
def heap0 (m:Int):AHeap:=fun l k=>if l = 0 ∧ k = 0 then some (.var 0 3 [.int .i64 m]) else if l = 0 ∧ k = 1 then some (.var 1 384 (Lib.pow10Tab.map (.int .u64))) else none
theorem tabs0 (m:Int):Tabs (heap0 m):=⟨m,3,384,rfl,rfl⟩
theorem blocks0 {W : World} (hsh : W.ShapedOpen Tryz.prog) (hL : Lib.TabIs Tryz.prog W "internal/strconv.uint64pow10" .u64 Lib.pow10Tab) :
  ∃ m,W.heap[0]? = some (.cells #[.int .i64 m] 3 (0,0)) ∧ W.heap[1]? = some (.cells (Lib.pow10Tab.map fun z=>Value.int .u64 z).toArray 384 (0,0)):=by
 obtain ⟨m,hm⟩:=cell_of_shapedOpen_int (P:=Tryz.prog) (g:=0) (t:=3) (zero:=#[.int .i64 0]) hsh (of_decide_eq_true (by kernel_rfl)) (by kernel_rfl) rfl (by kernel_rfl) (by kernel_rfl) Tryz.underlying3
 obtain ⟨cs,h1,h2,_⟩:=hsh.1 0 #[.int .i64 0] 3 (of_decide_eq_true (by kernel_rfl)) (by kernel_rfl)
 obtain ⟨cs3,h3,h4,_⟩:=hsh.1 1 (Array.replicate 20 (.int .u64 0)) 384 (of_decide_eq_true (by kernel_rfl)) (by kernel_rfl)
 refine ⟨m,?_,?_⟩
 ·have hs:cs.size = 1:=h2
  simp only [World.cell?,h1] at hm
  rw [h1]
  have:cs = #[.int .i64 m]:=by
   apply Array.ext_getElem?
   intro i
   cases i with
   | zero=>simpa using hm
   | succ i=>rw [Array.getElem?_eq_none (by omega),Array.getElem?_eq_none (by simp)]
  rw [this]
 ·unfold Lib.TabIs World.var? at hL
  rw [gPow] at hL
  simp only [Option.bind_some,h3] at hL
  rw [h3,Option.some.inj hL]
theorem hrel0 {W:World} {m:Int} (h0:W.heap[0]? = some (.cells #[.int .i64 m] 3 (0,0))) (h3:W.heap[1]? = some (.cells (Lib.pow10Tab.map fun z=>Value.int .u64 z).toArray 384 (0,0))):HRel 1 (heap0 m) (env0 W) W:=by
 have hm:∀ l k b,(env0 W).m l k = some b → (l = 0 ∧ k = 0 ∧ b = 0) ∨ (l = 0 ∧ k = 1 ∧ b = 1):=fun l k b h=>by
  simp only [env0] at h
  split at h
  ·rename_i e; cases h; exact .inl ⟨e.1,e.2,rfl⟩
  ·split at h
   ·rename_i e; cases h; exact .inr ⟨e.1,e.2,rfl⟩
   ·cases h
 refine { norm:=⟨fun l k hl=>?_,fun _ _ _=>rfl,fun _ _ _ _=>rfl⟩,F:=fun b o v h=>?_,blk:=fun l k b hl h=>?_,dom:=fun l k hl h=>?_,nobuf:=fun l k h=>absurd rfl h,inj:=fun l k l' k' b h h'=>?_,injg:=fun _ _ _ _ _ h=>(by cases h),mg:=fun _ _ _ _ _ _ h=>(by cases h),mF:=fun l k b o h=>?_,lt:=fun b h=>?_ }
 ·simp only [env0]; rw [if_neg (by omega),if_neg (by omega)]
 ·simp only [env0] at h; split at h
  ·cases h
  ·exact h
 ·simp only [heap0] at h
  split at h
  ·rename_i e; obtain ⟨rfl,rfl⟩:=e; cases h
   exact ⟨rfl,rfl,_,h0,VRs.cons (.int _ _) (VRs.nil _)⟩
  ·split at h
   ·rename_i e; obtain ⟨rfl,rfl⟩:=e; cases h
    exact ⟨rfl,rfl,_,h3,by simp,fun i h1 h2=>by simp only [List.getElem_map,List.toList_toArray]; exact .int _ _⟩
   ·cases h
 ·simp only [heap0] at h
  split at h
  ·cases h
  ·rename_i c1
   split at h
   ·cases h
   ·rename_i c2
    simp only [env0]
    rw [if_neg c1,if_neg c2]; simp
 ·rcases hm _ _ _ h with ⟨rfl,rfl,rfl⟩ | ⟨rfl,rfl,rfl⟩ <;> rcases hm _ _ _ h' with ⟨rfl,rfl,e⟩ | ⟨rfl,rfl,e⟩ <;> first | (cases e; done) | exact ⟨trivial,trivial⟩ | exact ⟨rfl,rfl⟩ | simp
 ·rcases hm _ _ _ h with ⟨_,_,rfl⟩ | ⟨_,_,rfl⟩ <;> simp [env0]
 ·rcases h with ⟨l,k,h⟩ | ⟨l,k,h⟩
  ·rcases hm _ _ _ h with ⟨_,_,rfl⟩ | ⟨_,_,rfl⟩
   ·exact (Array.getElem?_eq_some_iff.1 h0).1
   ·exact (Array.getElem?_eq_some_iff.1 h3).1
  ·cases h
theorem below0 {W W':World} {m:Int} {E':Env} (h0:W.heap[0]? = some (.cells #[.int .i64 m] 3 (0,0))) (h3:W.heap[1]? = some (.cells (Lib.pow10Tab.map fun z=>Value.int .u64 z).toArray 384 (0,0)))
  (hh:HRel 1 (heap0 m) E' W') (hx:Ext 1 (env0 W) W E' W'):Go.RowKit.Below W.heap.size W W':=by
 refine ⟨hx.os,hx.tape,hx.output,hx.size,fun k hk=>?_⟩
 by_cases e0:k = 0
 ·subst e0
  obtain ⟨_,_,c,h1,h2⟩:=hh.blk 0 0 (.var 0 3 [.int .i64 m]) (by omega) rfl
  obtain ⟨x,r,hr,hv,hn⟩:=h2.uncons
  cases hv
  rw [h1,h0,show c = #[.int .i64 m] from Array.toList_inj.1 (by rw [hr,hn.of_nil])]
 ·by_cases e3:k = 1
  ·subst e3
   obtain ⟨_,_,c,h1,h2⟩:=hh.blk 0 1 (.var 1 384 (Lib.pow10Tab.map (.int .u64))) (by omega) rfl
   rw [h1,h3,show c = _ from Array.toList_inj.1 (VRs.u64s h2)]
  ·refine hx.block k hk ?_
   rintro (⟨l,j,h⟩ | ⟨l,j,h⟩)
   ·simp only [env0] at h
    split at h
    ·cases h; exact e0 rfl
    ·split at h
     ·cases h; exact e3 rfl
     ·cases h
   ·cases h
theorem law_walk {H:Type} {enc:TypeId × Value → H} (f:Nat) (ts:List TypeId) (hts:∀ t ∈ ts,t ∈ rdS) (h:∀ cs,FitVs tt ts cs → PureT Tryz.prog f (wraps tt ts cs) (.bool true))
  (W:World) (base:Nat) (args:Array Value) (ds:List (DataW H)) (ps:List MemPlace) (hA:DataW.TrodAll enc Tryz.prog W 0 (fun _=>true) true ts args.toList ds ps)
  (hok:∀ (j:Nat) t v,ts[j]? = some t → args.toList[j]? = some v → Value.okWide Tryz.prog W .any base t v) (hw:∀ n ∈ DataW.weightsEach Tryz.prog ts ds,n ≤ reachBytes)
  (hsh : W.ShapedOpen Tryz.prog) (hL : Lib.TabIs Tryz.prog W "internal/strconv.uint64pow10" .u64 Lib.pow10Tab) :
  Calls Tryz.prog f args W fun e W'=>e = .returned (.bool true) ∧ Go.RowKit.Below W.heap.size W W':=by
 obtain ⟨m,h0,h3⟩:=blocks0 hsh hL
 obtain ⟨cs,hf,hv⟩:=args_of (E:=env0 W) (X:=fun b=>b = 0 ∨ b = 1) tok rdS rdOk (fun b o v hX hc=>by simp only [env0]; rw [if_neg hX]; exact hc)
  (fun b o v hX hc=>by
   rcases hX with rfl | rfl
   ·simp only [World.cell?,h0] at hc
    cases o with
    | zero=>simp at hc; exact .inl ⟨m,hc.symm⟩
    | succ o=>simp at hc
   ·simp only [World.cell?,h3] at hc
    simp only [Option.isSome_none,Bool.false_eq_true,if_false,List.getElem?_toArray,List.getElem?_map,Option.map_eq_some_iff] at hc
    obtain ⟨z,_,rfl⟩:=hc
    exact .inr ⟨z,rfl⟩) ts args.toList ds ps hA hts hok hw
 have hc:=h cs hf 1 (heap0 m) Nat.one_pos (tabs0 m) (env0 W) W args.toList (hrel0 h0 h3) hv
 refine Calls.mono hc ?_
 rintro e W' ⟨r,v,H',E',rfl,⟨rfl,rfl⟩,h1,h2,h4⟩
 cases h1
 exact ⟨rfl,below0 h0 h3 h2 h4⟩
end Go.Proofs.YthgbkalgmicniaaGreatDoor

/- The laws' rows: from a walk that ends with true to the row's statement. -/
namespace Go.Proofs.YthgbkalgmicniaaGreatDoor
open Go.Abs Go.ChangeShapes Go.WideShapes Go.ChangeAt Go.RowKit
set_option maxRecDepth 100000

theorem laidOut : laidOutB Tryz.prog = true := by kernel_rfl
theorem rdRead : rdS.all (fun t => Tryz.prog.readableRec t && decide (t < Tryz.prog.types.size)) = true := by kernel_rfl
theorem rd_of {t : TypeId} (h : t ∈ rdS) : Tryz.prog.readableRec t = true ∧ t < Tryz.prog.types.size := by
  have := List.all_eq_true.1 rdRead t h
  simpa using this

theorem trod_len {H : Type} {enc : TypeId × Value → H} {P : Program} {W : World} {b : Nat} {sp : Nat → Bool} {hd : Bool} : ∀ {ts : List TypeId} {vs : List Value} {ds : List (DataW H)} {ps : List MemPlace}, DataW.TrodAll enc P W b sp hd ts vs ds ps → ds.length = ts.length
  | [], [], [], _, _ => rfl
  | t :: ts, v :: vs, d :: ds, ps, h => by
    obtain ⟨p, q, _, h2, _⟩ := h
    simp only [List.length_cons, trod_len h2]
  | [], _ :: _, _, _, h => h.elim
  | [], [], _ :: _, _, h => h.elim
  | _ :: _, [], _, _, h => h.elim
  | _ :: _, _ :: _, [], _, h => h.elim

theorem trod_stay {H : Type} {enc : TypeId × Value → H} {W W' : World} (hb : Go.RowKit.Below W.heap.size W W') : ∀ {ts : List TypeId} {vs : List Value} {ds : List (DataW H)} {ps : List MemPlace}, (∀ t ∈ ts, t ∈ rdS) →
    DataW.TrodAll enc Tryz.prog W 0 (fun _ => true) true ts vs ds ps → (∀ x ∈ ps, x.block < W.heap.size) → DataW.TrodAll enc Tryz.prog W' 0 (fun b => decide (b < W.heap.size)) true ts vs ds ps
  | [], [], [], _, _, h, _ => h
  | t :: ts, v :: vs, d :: ds, ps, hts, h, hlt => by
    obtain ⟨p, q, h1, h2, rfl⟩ := h
    have hr := rd_of (hts t (List.mem_cons_self ..))
    exact ⟨p, q, Go.RowKit.Below.trod laidOut hr.1 hr.2 h1 hb (fun x hx => hlt x (List.mem_append_left _ hx)), trod_stay hb (fun t h => hts t (List.mem_cons_of_mem _ h)) h2 (fun x hx => hlt x (List.mem_append_right _ hx)), rfl⟩
  | [], _ :: _, _, _, _, h, _ => h.elim
  | [], [], _ :: _, _, _, h, _ => h.elim
  | _ :: _, [], _, _, _, h, _ => h.elim
  | _ :: _, _ :: _, [], _, _, h, _ => h.elim

theorem und4 : Tryz.prog.underlying 4 = some .bool := by kernel_rfl

/-- A law's post, from its walk. -/
theorem law_post {H : Type} {enc : TypeId × Value → H} (f : Nat) (fn : Func) (s : ChangeSpec) (ts : List TypeId) (hp : fn.params.toList = ts) (hr : fn.resultTypes = #[4]) (hs : s.vars = [])
    (hfn : ∀ ds : List (DataW H), ds.length = ts.length → s.fn H ds = { results := [.lit (.bool true)], args := ds })
    (hts : ∀ t ∈ ts, t ∈ rdS) (h : ∀ cs, FitVs tt ts cs → PureT Tryz.prog f (wraps tt ts cs) (.bool true))
    (W : World) (base : Nat) (args : Array Value) (ds gs : List (DataW H)) (before : List MemPlace)
    (hval : ∀ (j : Nat) t v, fn.params[j]? = some t → args[j]? = some v → Value.okWide Tryz.prog W .any base t v)
    (hW : DataW.Whole enc Tryz.prog fn.params.toList s.vars false W args.toList ds gs before)
    (hw : ∀ n ∈ DataW.weightsEach Tryz.prog ts ds, n ≤ reachBytes)
    (hsh : W.ShapedOpen Tryz.prog) (hL : Lib.TabIs Tryz.prog W "internal/strconv.uint64pow10" .u64 Lib.pow10Tab) :
    Calls Tryz.prog f args W fun e W' => ∃ v, e = .returned v ∧ s.post enc Tryz.prog fn false true false false W args v W' := by
  have hlt := hW.lt
  have hW' := hW
  obtain ⟨p, q, hA, hV, rfl, hfz, hnd⟩ := hW
  rw [hs] at hV
  obtain ⟨rfl, rfl⟩ := trodVars_none hV
  rw [hp] at hA
  simp only [List.append_nil] at hlt hW'
  have hval' : ∀ (j : Nat) t v, ts[j]? = some t → args.toList[j]? = some v → Value.okWide Tryz.prog W .any base t v := fun j t v h1 h2 =>
    hval j t v (by rw [← hp] at h1; simpa using h1) (by simpa using h2)
  have w := law_walk f ts hts h W base args ds p hA hval' hw hsh hL
  refine w.mono fun e W' ⟨he, hg⟩ => ?_
  subst he
  refine ⟨_, rfl, ds, [], p, [], p, [], hW', ?_, ?_, ?_, hg.frame _, fun h => by cases h⟩
  · rw [List.append_nil, hfn ds (trod_len hA), hr]
    exact trodAll_mk1 (shut_bool und4 true)
  · rw [List.append_nil, hfn ds (trod_len hA), hp]
    exact trod_stay hg hts hA hlt
  · rw [List.append_nil, hfn ds (trod_len hA), hs]
    exact rfl

theorem weights_of {H : Type} {ts : List TypeId} {ds : List (DataW H)} (h : (DataW.weightsEach Tryz.prog (ts ++ []) (ds ++ [])).all (· ≤ reachBytes) = true) : ∀ n ∈ DataW.weightsEach Tryz.prog ts ds, n ≤ reachBytes := by
  intro n hn
  rw [List.append_nil, List.append_nil] at h
  simpa using List.all_eq_true.1 h n hn

def lits1 : DataW Unit → List Value
  | .lit (.int k n) => [.int k n]
  | _ => []
def lits2 : DataW Unit → List Value
  | .agg l => l.flatMap lits1
  | d => lits1 d
def lits3 : DataW Unit → List Value
  | .agg l => l.flatMap lits2
  | d => lits2 d
def lay (d : DataW Unit) : Obj → Obj
  | .cells _ t frozen => .cells (lits3 d).toArray t frozen
  | o => o
/-- A world for the witness: the settled one, Go's own tables holding what their initialisers lay. -/
noncomputable def laidWorld (os : Os) : World :=
  { World.holding Tryz.prog os ⟨#[], #[], []⟩ with heap := (((((World.holding Tryz.prog os ⟨#[], #[], []⟩).heap.modify 4 (lay Rows.laid_math_bits_deBruijn32tab)).modify 5 (lay Rows.laid_math_bits_deBruijn64tab)).modify 1
      (lay Rows.laid_internal_strconv_uint64pow10)).modify 3 (lay Rows.laid_unicode_utf8_acceptRanges)).modify 2 (lay Rows.laid_unicode_utf8_first) }
theorem laid_met (os : Os) (args : Array Value) : laidMet Tryz.prog Rows.lowerTellsRow.laid ((laidWorld os).forCall (fun _ _ => 0) ⟨#[], args, []⟩).memory :=
  laidMet_of_run' 8 (by kernel_rfl) (by kernel_rfl)
end Go.Proofs.YthgbkalgmicniaaGreatDoor
