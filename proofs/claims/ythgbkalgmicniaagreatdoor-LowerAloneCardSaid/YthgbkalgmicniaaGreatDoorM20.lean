/- Lower: the walk, for instances that bring at most one penalty. -/
import Derived.Test.YthgbkalgmicniaaGreatDoorM19
set_option linter.all false
namespace Go.Abs
theorem full_cons {n:Nat} (L:List (Nat × ABlk)) (H:AHeap) (k:Nat) (x:ABlk):full n ((k,x) :: L) H = (full n L H).upd n k x:=by
 funext l' k'
 simp only [full,AHeap.upd,lkb]
 by_cases h:l' = n
 ·subst h
  by_cases h2:k = k'
  ·subst h2; simp
  ·simp [h2,Ne.symm h2]
 ·simp [h]
end Go.Abs
namespace Go.Proofs.YthgbkalgmicniaaGreatDoor
open Go.Abs
set_option maxRecDepth 100000
structure LOk (I:List Ins):Prop where
 i:∀ x ∈ I,InsOk x
 al:(atIs I).length ≤ 100000
 il:I.length ≤ 10000
 c:costs I + (sortedI I).length ≤ 100000
def shw (k:Nat):List Int:=(List.range k).map fun i:Nat=>(i:Int) + 1
theorem shw_succ (k:Nat):shw (k + 1) = shw k ++ [(k:Int) + 1]:=by simp [shw,List.range_succ]
def st0 (I:List Ins):St:=⟨(sortedI I).length,[],0⟩
def Fr0 (n:Nat) (I:List Ins):Fr:=⟨.sl 2 ((sortedI I).map Am.enc) .any,.map n 24,.msl 1 n 23 0,.map n 19⟩
def z65:ABlk:=.box [.int .i64 0,.sl 1 [] .full,.sl 1 [] .full,.sl 6 [] .full,.sl 3 [] .full]
def nms (I:List Ins):List (List UInt8):=(sortedI I).map nameA
def rest28 (n:Nat) (I:List Ins) (k:Nat):List (Nat × ABlk) :=
 [(6,z65),(24,.map (encN (namesI I))),(200,.buf 9 1 (sortedI I).length),(9,.box [.int .i64 0,.sl 1 ((nms I).map .str) (.buf n 200),.msl 1 n 201 k,.sl 6 [] .full,.sl 3 [] .full]),(201,.mbuf 3 1 ((shw k).map (AV.int .i64)) k)]
def L28 (n:Nat) (I:List Ins) (s:St) (k:Nat):List (Nat × ABlk):=(21,.box (bxC n 21 (Fr0 n I) s)) :: (22,bxR s) :: (19,.map []) :: (23,.mbuf 173 1 [] 0) :: rest28 n I k
def tm28 (n:Nat) (I:List Ins):List (Nat × AV):=[(0,.sl 8 (I.map Ins.enc) .any),(2,.bool false),(6,.ptr n 6 0),(8,.ptr n 21 0),(9,.ptr n 9 0)]
def s28a (n:Nat) (I:List Ins) (H:AHeap) (k:Nat):AState :=
 ⟨(48,.int .i64 k) :: (47,.int .i64 (sortedI I).length) :: (46,.sl 2 ((sortedI I).map Am.enc) .any) :: tm28 n I,L28 n I (st0 I) k,H⟩
def LP (n:Nat) (I:List Ins) (s:St) (p:Pen) (k:Nat):List (Nat × ABlk) :=
 (21,.box (bxC n 21 ((Fr0 n I).one n 21) s)) :: (22,bxR s) :: (23,.mbuf 173 1 [.ptr n 31 0] 1) :: (19,.map [(.str p.key,.ptr n 31 0)]) :: (31,.box p.cs) :: rest28 n I k
def LO (n:Nat) (I:List Ins) (s:St) (k:Nat):Option Pen → List (Nat × ABlk)
 | none=>L28 n I s k
 | some p=>LP n I s p k
def runN (n:Nat) (I:List Ins) (i:Nat):St:=runI (namesI I) (n + 1) (st0 I) (I.take i)
def s28b (n:Nat) (I:List Ins) (o:Option Pen) (H:AHeap) (i:Nat):AState :=
 ⟨(71,.int .i64 i) :: (70,.int .i64 I.length) :: (69,.sl 8 (I.map Ins.enc) .any) :: tm28 n I,LO n I (runN n I i) (sortedI I).length (if i = I.length then o else none),H⟩
theorem sw_bx1 {n:Nat} {q:Nat → Prop} {I:List Ins} {s:St} (h19:q 19) (h22:q 22) (h23:q 23) (h24:q 24):ABlk.Inside n q (.box (bxC n 21 ((Fr0 n I).one n 21) s)) :=
 ABlk.inside_box ⟨(below_ams _).inside,.map _ _ (.inr ⟨rfl,h24⟩),.int _ _,insMs (.inr ⟨rfl,h22⟩),insMs (.inr ⟨rfl,h23⟩),.map _ _ (.inr ⟨rfl,h19⟩),.int _ _,trivial⟩
theorem sw_bx {n:Nat} {q:Nat → Prop} {I:List Ins} {s:St} (h19:q 19) (h22:q 22) (h23:q 23) (h24:q 24):ABlk.Inside n q (.box (bxC n 21 (Fr0 n I) s)) :=
 ABlk.inside_box ⟨(below_ams _).inside,.map _ _ (.inr ⟨rfl,h24⟩),.int _ _,insMs (.inr ⟨rfl,h22⟩),insMs (.inr ⟨rfl,h23⟩),.map _ _ (.inr ⟨rfl,h19⟩),.int _ _,trivial⟩
theorem sw_nm {n:Nat} {q:Nat → Prop} (l:List (List UInt8)) (h:q 200):Inside n q (.sl 1 (l.map .str) (.buf n 200)):=ins_buf (fun x hx=>by obtain ⟨u,_,rfl⟩:=List.mem_map.1 hx; exact .str _) h
theorem sw_sh {n:Nat} {q:Nat → Prop} (l:List Int) (k:Nat):ABlk.Inside n q (.mbuf 3 1 (l.map (AV.int .i64)) k):=ABlk.inside_mbuf fun c hc=>by obtain ⟨u,_,rfl⟩:=List.mem_map.1 hc; exact .int _ _
theorem sw_nil {n k:Nat} {q:Nat → Prop}:Inside n q (.sl k [] .full):=(below_sl (n:=n) (fun _ h=>by cases h) (fun _ _ e=>by cases e)).inside
theorem sw_R {n:Nat} {q:Nat → Prop} (s:St):ABlk.Inside n q (bxR s):=ABlk.inside_mbuf fun c hc=>(below_raws s.rules c hc).inside
theorem sw_map {n:Nat} {q:Nat → Prop} (M:List (List UInt8 × Int)):ABlk.Inside n q (.map (encN M)):=⟨fun a ha=>((below_encN (n:=n) M).1 a ha).inside,by simp [ABlk.at_]⟩
theorem sw_rest {n:Nat} {q:Nat → Prop} {I:List Ins} {k:Nat} (h200:q 200) (h201:q 201):AllP (fun p:Nat × ABlk=>p.2.Inside n q) (rest28 n I k) :=
 ⟨ABlk.inside_box ⟨.int _ _,sw_nil,sw_nil,sw_nil,sw_nil,trivial⟩,sw_map _,⟨by simp [ABlk.avs],by simp [ABlk.at_]⟩,ABlk.inside_box ⟨.int _ _,sw_nm _ h200,insMs (.inr ⟨rfl,h201⟩),sw_nil,sw_nil,trivial⟩,sw_sh _ _,trivial⟩
theorem in28 {n:Nat} {q:Nat → Prop} {I:List Ins} {s:St} {k:Nat} (h19:q 19) (h22:q 22) (h23:q 23) (h24:q 24) (h200:q 200) (h201:q 201):AllP (fun p:Nat × ABlk=>p.2.Inside n q) (L28 n I s k) :=
 ⟨sw_bx h19 h22 h23 h24,sw_R _,⟨by simp [ABlk.avs],by simp [ABlk.at_]⟩,⟨by simp [ABlk.avs],by simp [ABlk.at_]⟩,sw_rest h200 h201⟩
theorem sw_kn {n:Nat} {q:Nat → Prop} {k:List UInt8} (h31:q 31):ABlk.Inside n q (.map [(.str k,.ptr n 31 0)]):=⟨fun a ha=>by
   simp only [ABlk.avs,List.map_cons,List.map_nil,List.cons_append,List.nil_append,List.mem_cons,List.not_mem_nil,or_false] at ha
   rcases ha with rfl | rfl
   ·exact .str _
   ·exact .ptr _ _ _ (.inr ⟨rfl,h31⟩),by simp [ABlk.at_]⟩
theorem inP {n:Nat} {q:Nat → Prop} {I:List Ins} {s:St} {k:Nat} {p:Pen} (h19:q 19) (h22:q 22) (h23:q 23) (h24:q 24) (h31:q 31) (h200:q 200) (h201:q 201):AllP (fun p:Nat × ABlk=>p.2.Inside n q) (LP n I s p k) :=
 ⟨sw_bx1 h19 h22 h23 h24,sw_R _,⟨fun a ha=>by simp only [ABlk.avs,List.mem_singleton] at ha; subst ha; exact .ptr _ _ _ (.inr ⟨rfl,h31⟩),by simp [ABlk.at_]⟩,
  ⟨fun a ha=>by
   simp only [ABlk.avs,List.map_cons,List.map_nil,List.cons_append,List.nil_append,List.mem_cons,List.not_mem_nil,or_false] at ha
   rcases ha with rfl | rfl
   ·exact .str _
   ·exact .ptr _ _ _ (.inr ⟨rfl,h31⟩),by simp [ABlk.at_]⟩,(ABlk.below_box p.bcs).inside,sw_rest h200 h201⟩
theorem inO {n:Nat} {I:List Ins} {s:St} {k:Nat}:∀ o:Option Pen,AllP (fun p:Nat × ABlk=>p.2.Inside n fun j=>(lkb (LO n I s k o) j).isSome = true) (LO n I s k o)
 | none=>in28 rfl rfl rfl rfl rfl rfl
 | some _=>inP rfl rfl rfl rfl rfl rfl rfl
theorem inT {n:Nat} {q:Nat → Prop} {I:List Ins} (h6:q 6) (h9:q 9) (h21:q 21):AllP (fun p:Nat × AV=>Inside n q p.2) (tm28 n I) :=
 ⟨(below_inss _).inside,.bool _,.ptr _ _ _ (.inr ⟨rfl,h6⟩),.ptr _ _ _ (.inr ⟨rfl,h21⟩),.ptr _ _ _ (.inr ⟨rfl,h9⟩),trivial⟩
theorem inTO {n:Nat} {I:List Ins} {s:St} {k:Nat}:∀ o:Option Pen,AllP (fun p:Nat × AV=>Inside n (fun j=>(lkb (LO n I s k o) j).isSome = true) p.2) (tm28 n I)
 | none=>inT rfl rfl rfl
 | some _=>inT rfl rfl rfl
def minO:Option Pen → List GM
 | none=>[]
 | some p=>[⟨p.level,p.body,[p.weight]⟩]
def gpL (n:Nat) (I:List Ins) (o:Option Pen):GP :=
 ⟨(runN n I I.length).n,nms I ++ List.replicate ((runN n I I.length).n - (sortedI I).length).toNat [],shw (sortedI I).length,(runN n I I.length).rules,minO o⟩
def resL (n:Nat) (I:List Ins) (o:Option Pen):AV:=.tup [(gpL n I o).enc,.int .i64 0]
theorem runN_fit {n:Nat} {I:List Ins} (hI:LOk I) (hsm:SmN (namesI I)) (i:Nat):(runN n I i).Fit 100000:=by
 have hc:costs (I.take i) ≤ costs I:=by
  conv=>rhs; rw [← List.take_append_drop i I]
  unfold costs; rw [List.map_append,List.sum_append]; omega
 have:=hI.c
 exact (runI_fit (l:=I.take i) hsm (s:=st0 I) (k:=(sortedI I).length) ⟨⟨by simp [st0],by simp [st0]⟩,by simp [st0]⟩ (fun x hx=>(hI.i x (List.mem_of_mem_take hx)).b) (by omega)).mono (by omega)
def pb28 (n:Nat) (I:List Ins) (s:St) (ow:Own) (l:List GM):ABlk:=.box [.int .i64 s.n,.sl 1 ((nms I).map .str) (.buf n 200),.msl 1 n 201 (sortedI I).length,.msl 6 n 22 s.rules.length,.sl 3 (l.map GM.enc) ow]
def minV:Option Pen → AV
 | none=>.sl 3 [] .full
 | some p=>.sl 3 ((minO (some p)).map GM.enc) .any
theorem flat_ints:∀ l:List Int,flat (l.map (AV.int .i64)) = l.map (AV.int .i64)
 | []=>rfl
 | a :: l=>by rw [List.map_cons,flat_cons,flat_ints l]; rfl
theorem wk_own (k:Nat) (xs:List AV) (o:Own):WkS (.sl k xs o) (.sl k xs .any):=.sl k xs xs o rfl fun _ _ _=>.refl _
theorem wk_raw (x:GR):WkS x.rawE x.enc:=WkS.aggL ⟨.refl _,.refl _,.refl _,.refl _,.refl _,wk_own _ _ _,trivial⟩
theorem wk_raws (l:List GR):WkS (.sl 6 (l.map GR.rawE) .any) (.sl 6 (l.map GR.enc) .any):=.sl _ _ _ _ (by simp) fun i h h'=>by simp only [List.getElem_map]; exact wk_raw _
theorem post_cellT {P:Program} {T:TT} {n:Nat} {t ty u:Nat} {v y r':AV} {H:AHeap} {s:AState} (r:TRow) (l k off:Nat) (cs:List AV) (h1:lkv s.tmps t = .ptr l k off) (h2:full n s.L s.H l k = some (.box cs)) (h3:T ty = some r)
  (h4:off + r.size ≤ cs.length) (h5:r.isAgg = false → off < cs.length) (hv:Wk (if r.isAgg then .agg ((cs.drop off).take r.size) else (cs.drop off).getD 0 .dead) v) (hy:Wk (lkv s.tmps u) y) (hb:Below n v) (hc:Below n y) (hr:r' = .tup [v,y]) (hH:s.H = H) :
  PostF P T n [.cell t ty,.tmp u] (fun r H'=>r = r' ∧ H' = H) .ret s:=by
 subst hr
 refine ⟨?_,[v,y],⟨?_,hy,trivial⟩,by simp [hb,hc],rfl,hH⟩
 ·intro x hx
  simp only [List.mem_cons,List.not_mem_nil,or_false] at hx
  rcases hx with rfl | rfl
  ·simp only [okRes]; exact ⟨l,k,off,cs,r,h1,h2,h3,h4,h5⟩
  ·simp [okRes]
 ·simp only [resA,h1,h2,h3]
  rw [if_pos ⟨h4,h5⟩]; exact hv
theorem b28e (n:Nat) (H:AHeap) (I:List Ins) (hls:(sortedI I).length ≤ 100000) (s:St) (m:List GM) (mv:AV) (hmv:Below n mv) (hmo:mv.one = true) (hmw:WkS mv (.sl 3 (m.map GM.enc) .any)) (hn1:((sortedI I).length:Int) ≤ s.n ∧ s.n ≤ 4000) (B:Nat) :
  AKc ⟨Tryz.prog,tt,⟨none,B⟩,n,Tryz.f28.ntmps⟩ [.code (bodyOf Tryz.f28).snd.snd.snd.snd.snd.snd.snd.snd.snd.snd.snd]
   (PostF Tryz.prog tt n Tryz.f28.results.toList fun r H'=>r = .tup [(⟨s.n,nms I ++ List.replicate (s.n - (sortedI I).length).toNat [],shw (sortedI I).length,s.rules,m⟩:GP).enc,.int .i64 0] ∧ H' = H)
   ⟨[(6,.ptr n 6 0),(9,.ptr n 9 0)],[(6,z65),(9,.box [.int .i64 s.n,.sl 1 ((nms I).map .str) (.buf n 200),.msl 1 n 201 (sortedI I).length,.sl 6 (s.rules.map GR.rawE) .any,mv]),(200,.buf 9 1 (sortedI I).length),(201,.mbuf 3 1 ((shw (sortedI I).length).map (AV.int .i64)) (sortedI I).length)],H⟩:=by
 have hsl:(shw (sortedI I).length).length = (sortedI I).length:=by simp [shw]
 have hnl:(nms I).length = (sortedI I).length:=by simp [nms]
 have hrw:∀ q,Inside n q (.sl 6 (s.rules.map GR.rawE) .any):=fun q=>(below_sla fun x hx=>by obtain ⟨u,_,rfl⟩:=List.mem_map.1 hx; exact below_agg u.braw).inside
 repeat refine kn rfl ?_
 refine k_weak (AWk_freeze_cell (tm':=[(6,.ptr n 6 0),(9,.ptr n 9 0)]) (j0:=9) (i:=2) (j:=201) 14 (show 14 < 135 by decide) ((shw (sortedI I).length).map (AV.int .i64)) (by decide) rfl rfl rfl (flat_ints _) (by rw [List.length_map,hsl]) (fun x hx=>?_) (fun c hc=>by obtain ⟨u,_,rfl⟩:=List.mem_map.1 hc; exact .int _ _) (fun q hq=>?_) (fun q hq=>?_)) ?_
 ·obtain ⟨u,_,rfl⟩:=List.mem_map.1 hx; rfl
 ·simp only [List.mem_cons,List.not_mem_nil,or_false] at hq
  rcases hq with rfl | rfl
  ·exact ⟨by simp,.refl _,.ptr _ _ _ (.inr ⟨rfl,by decide⟩)⟩
  ·exact ⟨by simp,.refl _,.ptr _ _ _ (.inr ⟨rfl,by decide⟩)⟩
 ·exact AllP.mem (p:=fun q:Nat × ABlk=>q.2.Inside n (fun k=>k ≠ 201)) (l:=[(6,z65),(9,.box [.int .i64 s.n,.sl 1 ((nms I).map .str) (.buf n 200),.dead,.sl 6 (s.rules.map GR.rawE) .any,mv]),(200,.buf 9 1 (sortedI I).length)])
   ⟨ABlk.inside_box ⟨.int _ _,sw_nil,sw_nil,sw_nil,sw_nil,trivial⟩,ABlk.inside_box ⟨.int _ _,sw_nm _ (by decide),.dead,hrw _,hmv.inside,trivial⟩,⟨by simp [ABlk.avs],by simp [ABlk.at_]⟩,trivial⟩ q hq
 simp only [go_sem,simprocAttr,setb,delb,List.set_cons_zero,List.set_cons_succ]
 have hwz:IntKind.i64.wrap (s.n - ((sortedI I).length:Int)) = s.n - ((sortedI I).length:Int):=by rw [IntWalk.i64_in _ (by omega)]
 unfold z65
 repeat refine kn rfl ?_
 refine k_region tok rfl (by kernel_rfl) ?_
 simp only [go_sem,simprocAttr,hnl,hwz]
 refine ⟨⟨by omega,rfl,le_maxLen (by omega),by omega⟩,?_⟩
 have hzz:∀ k,(nms I).map AV.str ++ List.replicate k (zeroV { td:=TD.str,size:=1,bytes:=16,zero:=[AV.str []] }) = (nms I ++ List.replicate k []).map AV.str:=fun k=>by rw [List.map_append,List.map_replicate]; rfl
 rw [hzz]
 repeat refine kn rfl ?_
 refine k_region tok rfl (by kernel_rfl) ?_
 simp only [go_sem,simprocAttr]
 refine ⟨hmo,?_⟩
 repeat refine kn rfl ?_
 refine k_ret rfl ?_
 refine post_cellT _ n 6 0 [.int .i64 s.n,.sl 1 ((nms I ++ List.replicate (s.n - (sortedI I).length).toNat []).map .str) (.buf n 200),.sl 1 ((shw (sortedI I).length).map (AV.int .i64)) .any,.sl 6 (s.rules.map GR.rawE) .any,mv] (by simp only [go_sem,simprocAttr]) (by simp only [go_sem,simprocAttr,full]) rfl (Nat.le_refl _) (by simp only [go_sem,simprocAttr]) ?_ ?_ (GP.blw n _) (.int _ _) rfl rfl
 ·simp only [go_sem,simprocAttr]
  exact .deep (WkS.aggL ⟨.refl _,wk_own _ _ _,.refl _,wk_raws _,hmw,trivial⟩)
 ·simp only [go_sem,simprocAttr]
  exact .refl _
def op28:Opt:=⟨true,false,fun d=>if d = 117 then .pure else if d = 121 then .pure else .auto,[]⟩
theorem b28t (n:Nat) (H:AHeap) (I:List Ins) (hI:LOk I) (hn:0 < n) (hT:Tabs H) (hsm:SmN (namesI I)) (o:Option Pen)
  (hz:∀ p,o = some p → ∃ z,SmI z ∧ p.body = [z] ∧ 0 ≤ p.weight ∧ p.weight ≤ 1048576) (he:(runN n I I.length).err = 0) (hn1:((sortedI I).length:Int) ≤ (runN n I I.length).n ∧ (runN n I I.length).n ≤ 4000) (hr1:((runN n I I.length).rules.length:Int) ≤ 40000) (B:Nat) :
  AKc ⟨Tryz.prog,tt,⟨none,B⟩,n,Tryz.f28.ntmps⟩ [.code (bodyOf Tryz.f28).snd.snd.snd.snd.snd.snd.snd.snd]
   (PostF Tryz.prog tt n Tryz.f28.results.toList fun r H'=>r = resL n I o ∧ H' = H)
   ⟨tm28 n I,LO n I (runN n I I.length) (sortedI I).length o,H⟩:=by
 have hfit:=runN_fit (n:=n) hI hsm I.length
 have hF0:(Fr0 n I).bel (n + 1):=⟨below_ams _,.map _ _ (Nat.lt_succ_self n),.msl _ _ _ _ (Nat.lt_succ_self n),.map _ _ (Nat.lt_succ_self n),trivial⟩
 have hTn:∀ L,Tabs (full n L H):=fun L=>hT.full hn
 have h71:PC Tryz.prog (n + 1) 71 [.ptr n 21 0] (full n (LO n I (runN n I I.length) (sortedI I).length o) H) (minV o):=by
  cases o with
  | none =>
   show PC Tryz.prog (n + 1) 71 [.ptr n 21 0] (full n (L28 n I (runN n I I.length) (sortedI I).length) H) (.sl 3 [] .full)
   unfold L28
   rw [full_cons,full_cons]
   exact b71n (n + 1) _ n 21 19 (Fr0 n I) _ (Nat.lt_succ_self n) hF0 ⟨rfl,rfl,by simp only [go_sem,simprocAttr,full],by simp only [go_sem,simprocAttr,full],by simp only [go_sem,simprocAttr,full,rest28],by decide⟩
  | some p =>
   obtain ⟨z,z1,z2,z3⟩:=hz p rfl
   show PC Tryz.prog (n + 1) 71 [.ptr n 21 0] (full n (LP n I (runN n I I.length) p (sortedI I).length) H) (.sl 3 ((minO (some p)).map GM.enc) .any)
   unfold LP
   rw [full_cons,full_cons,full_cons,full_cons,full_cons]
   have h:=b71p (n + 1) (full n (rest28 n I (sortedI I).length) H) n 21 19 (Fr0 n I) (runN n I I.length) (Nat.lt_succ_self n) (by decide) hn hF0 (hfit.mono (by omega)) (hTn _) p z z1 z2 z3
   rw [← z2] at h
   exact h
 unfold resL gpL
 have hil:=hI.c
 have hls:(sortedI I).length ≤ 100000:=by omega
 generalize hs:runN n I I.length = s at *
 cases o with
 | none =>
  unfold LO tm28 L28 rest28 z65 at *
  repeat refine kn rfl ?_
  refine k_region tok rfl (by kernel_rfl) ?_
  simp only [go_sem,simprocAttr]
  refine callH (fun_of Tryz.func71 rfl rfl) h71 (by simp only [go_sem,simprocAttr]) ?_
  simp only [go_sem,simprocAttr,minV]
  have hb0:bxC n 21 (Fr0 n I) s = [.sl 2 ((sortedI I).map Am.enc) .any,.map n 24,.int .i64 s.n,.msl 6 n 22 s.rules.length,.msl 1 n 23 0,.map n 19,.int .i64 0]:=by rw [← he]; rfl
  rw [hb0]
  have hn4:¬ (4000 < s.n):=by omega
  have hr4:¬ ((40000:Int) < s.rules.length):=by omega
  repeat refine kn rfl ?_
  refine k_region tok rfl (by kernel_rfl) ?_
  simp only [go_sem,simprocAttr]
  repeat refine kn rfl ?_
  refine k_cond_f rfl (by simp only [go_sem,simprocAttr]) ?_
  repeat refine kn rfl ?_
  refine k_region tok rfl (by kernel_rfl) ?_
  simp only [go_sem,simprocAttr,hn4,hr4]
  repeat refine kn rfl ?_
  refine k_cond_f rfl (by simp only [go_sem,simprocAttr,hn4,hr4]) ?_
  refine k_skip rfl ?_
  repeat refine kn rfl ?_
  refine k_freeze 21 [.sl 2 ((sortedI I).map Am.enc) .any,.map n 24,.int .i64 s.n,.msl 6 n 22 s.rules.length,.msl 1 n 23 0,.map n 19,.int .i64 0] [(6,.ptr n 6 0),(8,.iptr [.sl 2 ((sortedI I).map Am.enc) .any,.map n 24,.int .i64 s.n,.msl 6 n 22 s.rules.length,.msl 1 n 23 0,.map n 19,.int .i64 0]),(9,.ptr n 9 0)] rfl
   ⟨(below_ams _).inside,.map _ _ (.inr ⟨rfl,by decide⟩),.int _ _,insMs (.inr ⟨rfl,by decide⟩),insMs (.inr ⟨rfl,by decide⟩),.map _ _ (.inr ⟨rfl,by decide⟩),.int _ _,trivial⟩
   ⟨.inl ⟨.refl _,.ptr _ _ _ (.inr ⟨rfl,by decide⟩)⟩,.inr ⟨0,rfl,rfl⟩,.inl ⟨.refl _,.ptr _ _ _ (.inr ⟨rfl,by decide⟩)⟩,trivial⟩
   ⟨sw_R _,⟨by simp [ABlk.avs],by simp [ABlk.at_]⟩,⟨by simp [ABlk.avs],by simp [ABlk.at_]⟩,ABlk.inside_box ⟨.int _ _,sw_nil,sw_nil,sw_nil,sw_nil,trivial⟩,sw_map _,⟨by simp [ABlk.avs],by simp [ABlk.at_]⟩,ABlk.inside_box ⟨.int _ _,sw_nm _ (by decide),insMs (.inr ⟨rfl,by decide⟩),sw_nil,sw_nil,trivial⟩,sw_sh _ _,trivial⟩ ?_
  simp only [go_sem,simprocAttr,delb]
  repeat refine kn rfl ?_
  refine k_draw tok mixed op28 rfl rfl (by kernel_rfl) (by kernel_rfl) ?_
  simp only [go_sem,simprocAttr,op28]
  refine k_weak (s':=⟨[(6,.ptr n 6 0),(9,.ptr n 9 0)],[(6,z65),(9,pb28 n I s .full []),(22,bxR s),(200,.buf 9 1 (sortedI I).length),(201,.mbuf 3 1 ((shw (sortedI I).length).map (AV.int .i64)) (sortedI I).length)],H⟩) ?_ ?_
  ·unfold z65 pb28
   refine AWk_kept ⟨.refl _,.refl _,trivial⟩ ⟨rfl,rfl,rfl,rfl,rfl,trivial⟩ ⟨.ptr _ _ _ (.inr ⟨rfl,rfl⟩),.ptr _ _ _ (.inr ⟨rfl,rfl⟩),trivial⟩
    ⟨ABlk.inside_box ⟨.int _ _,sw_nil,sw_nil,sw_nil,sw_nil,trivial⟩,ABlk.inside_box ⟨.int _ _,sw_nm _ rfl,insMs (.inr ⟨rfl,rfl⟩),insMs (.inr ⟨rfl,rfl⟩),sw_nil,trivial⟩,sw_R _,⟨by simp [ABlk.avs],by simp [ABlk.at_]⟩,sw_sh _ _,trivial⟩
  refine k_weak (AWk_freeze_cell (tm':=[(6,.ptr n 6 0),(9,.ptr n 9 0)]) (j0:=9) (i:=3) (j:=22) 14 (show 14 < 135 by decide) (s.rules.map GR.rawE) (by decide) rfl rfl rfl (fl_flat GR.raw GR.rawE (fun _=>rfl) s.rules) (by simp) (fun x hx=>?_) (fun c hc=>(below_raws s.rules c hc).inside) (fun q hq=>?_) (fun q hq=>?_)) ?_
  ·obtain ⟨u,_,rfl⟩:=List.mem_map.1 hx; rfl
  ·simp only [List.mem_cons,List.not_mem_nil,or_false] at hq
   rcases hq with rfl | rfl
   ·exact ⟨by simp,.refl _,.ptr _ _ _ (.inr ⟨rfl,by decide⟩)⟩
   ·exact ⟨by simp,.refl _,.ptr _ _ _ (.inr ⟨rfl,by decide⟩)⟩
  ·exact AllP.mem (p:=fun q:Nat × ABlk=>q.2.Inside n (fun k=>k ≠ 22)) (l:=[(6,z65),(9,.box [.int .i64 s.n,.sl 1 ((nms I).map .str) (.buf n 200),.msl 1 n 201 (sortedI I).length,.dead,.sl 3 [] .full]),(200,.buf 9 1 (sortedI I).length),(201,.mbuf 3 1 ((shw (sortedI I).length).map (AV.int .i64)) (sortedI I).length)])
    ⟨ABlk.inside_box ⟨.int _ _,sw_nil,sw_nil,sw_nil,sw_nil,trivial⟩,ABlk.inside_box ⟨.int _ _,sw_nm _ (by decide),insMs (.inr ⟨rfl,by decide⟩),.dead,sw_nil,trivial⟩,⟨by simp [ABlk.avs],by simp [ABlk.at_]⟩,sw_sh _ _,trivial⟩ q hq
  simp only [go_sem,simprocAttr,setb,delb,List.set_cons_zero,List.set_cons_succ]
  exact b28e n H I hls s [] (.sl 3 [] .full) (below_sl (fun _ h=>by cases h) (fun _ _ e=>by cases e)) rfl (WkS.nil 3 3 .full) hn1 B
 | some p =>
  unfold LO tm28 LP rest28 z65 at *
  repeat refine kn rfl ?_
  refine k_region tok rfl (by kernel_rfl) ?_
  simp only [go_sem,simprocAttr]
  refine callH (fun_of Tryz.func71 rfl rfl) h71 (by simp only [go_sem,simprocAttr]) ?_
  simp only [go_sem,simprocAttr,minV]
  generalize hm:minO (some p) = m at *
  have hml:m.length = 1:=by rw [← hm]; rfl
  have hb0:bxC n 21 ((Fr0 n I).one n 21) s = [.sl 2 ((sortedI I).map Am.enc) .any,.map n 24,.int .i64 s.n,.msl 6 n 22 s.rules.length,.msl 1 n 23 1,.map n 19,.int .i64 0]:=by rw [← he]; rfl
  rw [hb0]
  have hn4:¬ (4000 < s.n):=by omega
  have hr4:¬ ((40000:Int) < s.rules.length):=by omega
  repeat refine kn rfl ?_
  refine k_region tok rfl (by kernel_rfl) ?_
  simp only [go_sem,simprocAttr]
  repeat refine kn rfl ?_
  refine k_cond_f rfl (by simp only [go_sem,simprocAttr]) ?_
  repeat refine kn rfl ?_
  refine k_region tok rfl (by kernel_rfl) ?_
  simp only [go_sem,simprocAttr,hn4,hr4,hml]
  repeat refine kn rfl ?_
  refine k_cond_f rfl (by simp only [go_sem,simprocAttr,hn4,hr4]) ?_
  refine k_skip rfl ?_
  repeat refine kn rfl ?_
  refine k_freeze 21 [.sl 2 ((sortedI I).map Am.enc) .any,.map n 24,.int .i64 s.n,.msl 6 n 22 s.rules.length,.msl 1 n 23 1,.map n 19,.int .i64 0] [(6,.ptr n 6 0),(8,.iptr [.sl 2 ((sortedI I).map Am.enc) .any,.map n 24,.int .i64 s.n,.msl 6 n 22 s.rules.length,.msl 1 n 23 1,.map n 19,.int .i64 0]),(9,.ptr n 9 0)] rfl
   ⟨(below_ams _).inside,.map _ _ (.inr ⟨rfl,by decide⟩),.int _ _,insMs (.inr ⟨rfl,by decide⟩),insMs (.inr ⟨rfl,by decide⟩),.map _ _ (.inr ⟨rfl,by decide⟩),.int _ _,trivial⟩
   ⟨.inl ⟨.refl _,.ptr _ _ _ (.inr ⟨rfl,by decide⟩)⟩,.inr ⟨0,rfl,rfl⟩,.inl ⟨.refl _,.ptr _ _ _ (.inr ⟨rfl,by decide⟩)⟩,trivial⟩
   ⟨sw_R _,⟨fun a ha=>by simp only [ABlk.avs,List.mem_singleton] at ha; subst ha; exact .ptr _ _ _ (.inr ⟨rfl,by decide⟩),by simp [ABlk.at_]⟩,sw_kn (by decide),(ABlk.below_box p.bcs).inside,ABlk.inside_box ⟨.int _ _,sw_nil,sw_nil,sw_nil,sw_nil,trivial⟩,sw_map _,⟨by simp [ABlk.avs],by simp [ABlk.at_]⟩,ABlk.inside_box ⟨.int _ _,sw_nm _ (by decide),insMs (.inr ⟨rfl,by decide⟩),sw_nil,(below_gms m).inside,trivial⟩,sw_sh _ _,trivial⟩ ?_
  simp only [go_sem,simprocAttr,delb]
  repeat refine kn rfl ?_
  refine k_draw tok mixed op28 rfl rfl (by kernel_rfl) (by kernel_rfl) ?_
  simp only [go_sem,simprocAttr,op28]
  refine k_weak (s':=⟨[(6,.ptr n 6 0),(9,.ptr n 9 0)],[(6,z65),(9,pb28 n I s .any m),(22,bxR s),(200,.buf 9 1 (sortedI I).length),(201,.mbuf 3 1 ((shw (sortedI I).length).map (AV.int .i64)) (sortedI I).length)],H⟩) ?_ ?_
  ·unfold z65 pb28
   refine AWk_kept ⟨.refl _,.refl _,trivial⟩ ⟨rfl,rfl,rfl,rfl,rfl,trivial⟩ ⟨.ptr _ _ _ (.inr ⟨rfl,rfl⟩),.ptr _ _ _ (.inr ⟨rfl,rfl⟩),trivial⟩
    ⟨ABlk.inside_box ⟨.int _ _,sw_nil,sw_nil,sw_nil,sw_nil,trivial⟩,ABlk.inside_box ⟨.int _ _,sw_nm _ rfl,insMs (.inr ⟨rfl,rfl⟩),insMs (.inr ⟨rfl,rfl⟩),(below_gms m).inside,trivial⟩,sw_R _,⟨by simp [ABlk.avs],by simp [ABlk.at_]⟩,sw_sh _ _,trivial⟩
  refine k_weak (AWk_freeze_cell (tm':=[(6,.ptr n 6 0),(9,.ptr n 9 0)]) (j0:=9) (i:=3) (j:=22) 14 (show 14 < 135 by decide) (s.rules.map GR.rawE) (by decide) rfl rfl rfl (fl_flat GR.raw GR.rawE (fun _=>rfl) s.rules) (by simp) (fun x hx=>?_) (fun c hc=>(below_raws s.rules c hc).inside) (fun q hq=>?_) (fun q hq=>?_)) ?_
  ·obtain ⟨u,_,rfl⟩:=List.mem_map.1 hx; rfl
  ·simp only [List.mem_cons,List.not_mem_nil,or_false] at hq
   rcases hq with rfl | rfl
   ·exact ⟨by simp,.refl _,.ptr _ _ _ (.inr ⟨rfl,by decide⟩)⟩
   ·exact ⟨by simp,.refl _,.ptr _ _ _ (.inr ⟨rfl,by decide⟩)⟩
  ·exact AllP.mem (p:=fun q:Nat × ABlk=>q.2.Inside n (fun k=>k ≠ 22)) (l:=[(6,z65),(9,.box [.int .i64 s.n,.sl 1 ((nms I).map .str) (.buf n 200),.msl 1 n 201 (sortedI I).length,.dead,.sl 3 (m.map GM.enc) .any]),(200,.buf 9 1 (sortedI I).length),(201,.mbuf 3 1 ((shw (sortedI I).length).map (AV.int .i64)) (sortedI I).length)])
    ⟨ABlk.inside_box ⟨.int _ _,sw_nil,sw_nil,sw_nil,sw_nil,trivial⟩,ABlk.inside_box ⟨.int _ _,sw_nm _ (by decide),insMs (.inr ⟨rfl,by decide⟩),.dead,(below_gms m).inside,trivial⟩,⟨by simp [ABlk.avs],by simp [ABlk.at_]⟩,sw_sh _ _,trivial⟩ q hq
  simp only [go_sem,simprocAttr,setb,delb,List.set_cons_zero,List.set_cons_succ]
  exact b28e n H I hls s m (.sl 3 (m.map GM.enc) .any) (below_gms m) rfl (.refl _) hn1 B
theorem b28i (n:Nat) (H:AHeap) (I:List Ins) (hI:LOk I) (hn:0 < n) (hT:Tabs H) (hsm:SmN (namesI I)) (o:Option Pen)
  (hp:∀ i (h:i < I.length),instP (namesI I) (n + 1) (runN n I i) I[i] = if i + 1 = I.length then o else none) (ho:I = [] → o = none)
  (hz:∀ p,o = some p → ∃ z,SmI z ∧ p.body = [z] ∧ 0 ≤ p.weight ∧ p.weight ≤ 1048576) (he:(runN n I I.length).err = 0) (hn1:((sortedI I).length:Int) ≤ (runN n I I.length).n ∧ (runN n I I.length).n ≤ 4000) (hr1:((runN n I I.length).rules.length:Int) ≤ 40000) (B:Nat) :
  AKc ⟨Tryz.prog,tt,⟨none,B⟩,n,Tryz.f28.ntmps⟩ [.code (bodyOf Tryz.f28).snd.snd.snd.snd.snd.snd.snd]
   (PostF Tryz.prog tt n Tryz.f28.results.toList fun r H'=>r = resL n I o ∧ H' = H)
   (s28a n I H (sortedI I).length):=by
 unfold s28a tm28
 have hil:=hI.il
 repeat refine kn rfl ?_
 refine k_region tok rfl (by kernel_rfl) ?_
 simp only [go_sem,simprocAttr]
 have hfit:=runN_fit (n:=n) hI hsm
 refine k_cut ⟨tm28 n I,LO n I (runN n I I.length) (sortedI I).length o,H⟩ ?_ ?_
 ·repeat refine kn rfl ?_
  refine k_loop_ix (s28b n I o H) I.length rfl ?_ ?_
  ·have e0:(if 0 = I.length then o else none) = none:=by
    split
    ·rename_i e; exact ho (List.eq_nil_of_length_eq_zero e.symm)
    ·rfl
   have e1:runN n I 0 = st0 I:=by simp [runN,runI]
   unfold s28b
   rw [e0,e1]
   exact AWk_kept ⟨.refl _,.refl _,.refl _,.refl _,.refl _,.refl _,.refl _,.refl _,trivial⟩ ⟨rfl,rfl,rfl,rfl,rfl,rfl,rfl,rfl,rfl,trivial⟩ ⟨.int _ _,.int _ _,(below_inss _).inside,inTO none⟩ (inO none)
  intro i hi
  refine k_st rfl ?_
  rcases Nat.lt_or_ge i I.length with h | h
  ·rw [if_neg (by omega)]
   unfold LO tm28 L28 rest28 z65
   repeat refine kn rfl ?_
   refine k_region tok rfl (by kernel_rfl) ?_
   simp only [go_sem,simprocAttr,h]
   repeat refine kn rfl ?_
   refine k_cond_t rfl (by simp only [go_sem,simprocAttr]) ?_
   repeat refine kn rfl ?_
   refine k_region tok rfl (by kernel_rfl) ?_
   simp only [go_sem,simprocAttr,getD_map Ins.enc _ _ h,h]
   repeat refine kn rfl ?_
   refine k_region tok rfl (by kernel_rfl) ?_
   simp only [go_sem,simprocAttr]
   have hF0:(Fr0 n I).bel (n + 1):=⟨below_ams _,.map _ _ (Nat.lt_succ_self n),.msl _ _ _ _ (Nat.lt_succ_self n),.map _ _ (Nat.lt_succ_self n),trivial⟩
   have hnx:runN n I (i + 1) = instS (namesI I) (n + 1) (runN n I i) I[i]:=runI_take _ _ _ _ _ h
   refine callR (caps:=[]) (avs:=[.ptr n 21 0,I[i].enc]) rfl (fun_of Tryz.func70 rfl rfl) (by rw [List.append_nil,full_cons,full_cons]; exact b70 (n + 1) _ n 21 19 (Fr0 n I) (runN n I i) (Nat.lt_succ_self n) hn hF0 (hfit i) n 24 (namesI I) rfl (Nat.lt_succ_self n) (by omega) (by omega) (by simp only [go_sem,simprocAttr,full]) hsm (hT.full hn) I[i] (hI.i _ (List.getElem_mem h)) (fun _ _=>⟨rfl,rfl,by simp only [go_sem,simprocAttr,full],by simp only [go_sem,simprocAttr,full],by simp only [go_sem,simprocAttr,full],by decide⟩)) (by simp only [go_sem,simprocAttr]) ?_
   rintro r H1 ⟨rfl,h1⟩
   rw [hp i h,← hnx] at h1
   have e0:∀ (R:List (Nat × ABlk)) (F:Fr) (s:St),bxH (full n R H) n 21 F s = full n ((21,.box (bxC n 21 F s)) :: (22,bxR s) :: R) H:=fun R F s=>by rw [full_cons,full_cons]; rfl
   have e1:∀ (R:List (Nat × ABlk)) (F:Fr) (s:St) (p:Pen),bxH (penH (full n R H) n 21 19 p) n 21 F s = full n ((21,.box (bxC n 21 F s)) :: (22,bxR s) :: (23,.mbuf 173 1 [.ptr n 31 0] 1) :: (19,.map [(.str p.key,.ptr n 31 0)]) :: (31,.box p.cs) :: R) H:=fun R F s p=>by
    rw [full_cons,full_cons,full_cons,full_cons,full_cons]; rfl
   have hwi:IntKind.i64.wrap ((i:Int) + 1) = (i:Int) + 1:=by rw [IntWalk.i64_in _ (by omega)]
   by_cases hl:i + 1 = I.length
   ·rw [if_pos hl] at h1
    cases o with
    | none =>
     simp only at h1
     rw [e0] at h1
     refine ⟨_,H,h1,.refl _ _,?_⟩
     simp only [go_sem,simprocAttr]
     repeat refine kn rfl ?_
     refine k_region tok rfl (by kernel_rfl) ?_
     simp only [go_sem,simprocAttr,hwi]
     repeat refine kn rfl ?_
     refine k_nil ?_
     unfold s28b
     rw [if_pos hl]
     exact AWk_kept ⟨.refl _,.refl _,.refl _,.refl _,.refl _,.refl _,.refl _,.refl _,trivial⟩ ⟨rfl,rfl,rfl,rfl,rfl,rfl,rfl,rfl,rfl,trivial⟩ ⟨.int _ _,.int _ _,(below_inss _).inside,inTO none⟩ (inO none)
    | some p =>
     simp only at h1
     rw [e1] at h1
     refine ⟨_,H,h1,.refl _ _,?_⟩
     simp only [go_sem,simprocAttr]
     repeat refine kn rfl ?_
     refine k_region tok rfl (by kernel_rfl) ?_
     simp only [go_sem,simprocAttr,hwi]
     repeat refine kn rfl ?_
     refine k_nil ?_
     unfold s28b
     rw [if_pos hl]
     exact AWk_kept ⟨.refl _,.refl _,.refl _,.refl _,.refl _,.refl _,.refl _,.refl _,trivial⟩ ⟨rfl,rfl,rfl,rfl,rfl,rfl,rfl,rfl,rfl,rfl,trivial⟩ ⟨.int _ _,.int _ _,(below_inss _).inside,inTO (some p)⟩ (inO (some p))
   ·rw [if_neg hl] at h1
    simp only at h1
    rw [e0] at h1
    refine ⟨_,H,h1,.refl _ _,?_⟩
    simp only [go_sem,simprocAttr]
    repeat refine kn rfl ?_
    refine k_region tok rfl (by kernel_rfl) ?_
    simp only [go_sem,simprocAttr,hwi]
    repeat refine kn rfl ?_
    refine k_nil ?_
    unfold s28b
    rw [if_neg hl]
    exact AWk_kept ⟨.refl _,.refl _,.refl _,.refl _,.refl _,.refl _,.refl _,.refl _,trivial⟩ ⟨rfl,rfl,rfl,rfl,rfl,rfl,rfl,rfl,rfl,trivial⟩ ⟨.int _ _,.int _ _,(below_inss _).inside,inTO none⟩ (inO none)
  ·repeat refine kn rfl ?_
   refine k_region tok rfl (by kernel_rfl) ?_
   simp only [go_sem,simprocAttr,Nat.not_lt.2 h]
   repeat refine kn rfl ?_
   refine k_cond_f rfl (by simp only [go_sem,simprocAttr]) ?_
   repeat refine kn rfl ?_
   refine k_exit_round rfl rfl rfl ?_
   have hi':i = I.length:=by omega
   subst hi'
   rw [if_pos rfl]
   repeat refine kn rfl ?_
   refine k_nil ?_
   refine ⟨rfl,?_⟩
   refine AWk_kept ⟨.refl _,.refl _,.refl _,.refl _,.refl _,trivial⟩ ?_ (inTO o) (inO o)
   cases o with
   | none=>exact ⟨rfl,rfl,rfl,rfl,rfl,rfl,rfl,rfl,rfl,trivial⟩
   | some p=>exact ⟨rfl,rfl,rfl,rfl,rfl,rfl,rfl,rfl,rfl,rfl,trivial⟩
 ·exact b28t n H I hI hn hT hsm o hz he hn1 hr1 B
theorem b28 (n:Nat) (H:AHeap) (I:List Ins) (hI:LOk I) (hn:0 < n) (hT:Tabs H) (hsm:SmN (namesI I)) (o:Option Pen) (sh:AV) (hsh:Below n sh) (hnm:∀ a ∈ sortedI I,(nameA a).length ≤ 200)
  (hp:∀ i (h:i < I.length),instP (namesI I) (n + 1) (runN n I i) I[i] = if i + 1 = I.length then o else none) (ho:I = [] → o = none)
  (hz:∀ p,o = some p → ∃ z,SmI z ∧ p.body = [z] ∧ 0 ≤ p.weight ∧ p.weight ≤ 1048576) (he:(runN n I I.length).err = 0) (hn1:((sortedI I).length:Int) ≤ (runN n I I.length).n ∧ (runN n I I.length).n ≤ 4000) (hr1:((runN n I I.length).rules.length:Int) ≤ 40000) :
  PC Tryz.prog n 28 [.sl 8 (I.map Ins.enc) .any,sh,.bool false] H (resL n I o):=by
 have hg:∀ x ∈ I,x.Good:=fun x hx=>(hI.i x hx).g
 have hv:I.any (fun x=>!validI x) = false:=by
  rw [List.any_eq_false]; intro x hx; simp [(hI.i x hx).v]
 have hil:=hI.il
 refine a_fun tok (fun_of Tryz.func28 rfl rfl) (by simp) fun B=>?_
 repeat refine kn rfl ?_
 refine k_region tok rfl (by kernel_rfl) ?_
 simp only [go_sem,simprocAttr]
 repeat refine kn rfl ?_
 refine k_region tok rfl (by kernel_rfl) ?_
 simp only [go_sem,simprocAttr]
 refine callT (fun_of Tryz.func62 rfl rfl) (c62 I (by omega) 63 [] (fun x=>!validI x) ⟨⟨_,_,fun_of Tryz.func63 rfl rfl⟩,fun x hx=>a63' x (hg x hx),fun _=>trivial⟩) hn hT (by simp only [go_sem,simprocAttr]) ?_
 simp only [go_sem,simprocAttr]
 rw [hv]
 repeat refine kn rfl ?_
 refine k_cond_f rfl (by simp only [go_sem,simprocAttr]) ?_
 refine k_skip rfl ?_
 repeat refine kn rfl ?_
 refine k_region tok rfl (by kernel_rfl) ?_
 simp only [go_sem,simprocAttr]
 refine callR (caps:=[]) (avs:=[.sl 8 (I.map Ins.enc) .any]) rfl (fun_of Tryz.func64 rfl rfl) (by rw [List.append_nil]; exact b64 (n + 1) _ I hg (Nat.succ_pos n) (hT.full hn) hI.al (by omega) n 24 (Nat.lt_succ_self n) (by simp only [go_sem,simprocAttr,full])) (by simp only [go_sem,simprocAttr]) ?_
 rintro r H1 ⟨rfl,rfl⟩
 refine ⟨_,H,(full_setb n _ H 24 _).symm,.refl _ _,?_⟩
 simp only [go_sem,simprocAttr,setb]
 have hls:(sortedI I).length ≤ 100000:=by have:=hI.c; omega
 have hgS:∀ a ∈ sortedI I,a.Good:=fun a ha=>adds_good (P:=Am.Good) (atIs I) tb0 (by simp [tb0]) (atIs_good hg) a ((sortB_perm ltA _).mem_iff.1 ha)
 repeat refine kn rfl ?_
 refine k_region tok rfl (by kernel_rfl) ?_
 simp only [go_sem,simprocAttr]
 repeat refine kn rfl ?_
 refine k_adopt_cell 21 22 3 70 6 rfl rfl rfl ?_
 refine k_adopt_cell 21 23 4 173 1 rfl rfl rfl ?_
 simp only [go_sem,simprocAttr,List.set_cons_succ,List.set_cons_zero]
 repeat refine kn rfl ?_
 refine k_region tok rfl (by kernel_rfl) ?_
 simp only [go_sem,simprocAttr]
 refine callR (caps:=[]) (avs:=[.sl 2 ((sortedI I).map Am.enc) .any,.fn (.func 17) []]) rfl (fun_of Tryz.func65 rfl rfl) (by rw [List.append_nil]; exact b65 (n + 1) _ (sortedI I) (by omega) hgS (hT.full hn) n 200 (Nat.lt_succ_self n) hn (by simp only [go_sem,simprocAttr,full,setb])) (by simp only [go_sem,simprocAttr]) ?_
 rintro r H1 ⟨rfl,rfl⟩
 refine ⟨_,H,(full_setb n _ H 200 _).symm,.refl _ _,?_⟩
 simp only [go_sem,simprocAttr,setb]
 have hnl:((sortedI I).map nameA).any (fun s:List UInt8=>decide (200 < (s.length:Int))) = false:=by
  rw [List.any_eq_false]; intro s hs
  obtain ⟨a,ha,rfl⟩:=List.mem_map.1 hs
  have:=hnm a ha
  simp; omega
 repeat refine kn rfl ?_
 refine k_region tok rfl (by kernel_rfl) ?_
 simp only [go_sem,simprocAttr]
 refine callT (fun_of Tryz.func66 rfl rfl) ((c66 ((sortedI I).map nameA) (by rw [List.length_map]; omega) 67 [] (fun s:List UInt8=>decide (200 < (s.length:Int))) ⟨⟨_,_,fun_of Tryz.func67 rfl rfl⟩,fun s _=>Abs.Pure.tabs (a67' s),fun _=>trivial⟩).args (args':=[.sl 1 (((sortedI I).map nameA).map .str) (.buf n 200),.fn (.func 67) []]) ⟨.any _ _ _,.refl _,trivial⟩) hn hT (by simp only [go_sem,simprocAttr]) ?_
 simp only [go_sem,simprocAttr]
 rw [hnl]
 repeat refine kn rfl ?_
 refine k_cond_f rfl (by simp only [go_sem,simprocAttr]) ?_
 refine k_skip rfl ?_
 repeat refine kn rfl ?_
 refine k_region tok rfl (by kernel_rfl) ?_
 simp only [go_sem,simprocAttr]
 refine k_adopt_cell 9 201 2 3 1 rfl rfl rfl ?_
 simp only [go_sem,simprocAttr,List.set_cons_succ,List.set_cons_zero]
 refine k_cut (s28a n I H (sortedI I).length) ?_ ?_
 ·repeat refine kn rfl ?_
  refine k_loop_ix (s28a n I H) (sortedI I).length rfl ?_ ?_
  ·unfold s28a tm28 L28 rest28 z65
   refine AWk_kept ?_ ?_ ?_ ?_ <;> repeat' first | exact trivial | refine q0 ?_ | exact qb | exact q1 | exact q2 | exact q3 | exact rfl | refine And.intro ?_ ?_ | exact q4 | exact q5 | exact q6 | exact q7 | exact Inside.ptr _ _ _ (.inr ⟨rfl,rfl⟩) | exact q8 | exact q9 | exact qd | exact Tm.ins _ | exact Tm.inss _ _ | exact Am.ins _ | exact Am.inss _ _ | refine ins_buf_str ?_ | refine Tm.ins_buf ?_ | refine Am.ins_buf ?_ | exact qf
   all_goals first | exact rfl | exact sw_bx rfl rfl rfl rfl | exact sw_R _ | exact sw_nil | exact sw_sh _ _ | exact sw_nm _ rfl | exact (below_inss _).inside | exact (below_ams _).inside | exact insMs (.inr ⟨rfl,rfl⟩) | exact Inside.map _ _ (.inr ⟨rfl,rfl⟩) | exact Inside.ptr _ _ _ (.inr ⟨rfl,rfl⟩) | exact ⟨fun a ha=>((below_encN (n:=n) _).1 a ha).inside,by simp [ABlk.at_]⟩ | exact allP_of (fun c hc=>by obtain ⟨u,_,rfl⟩:=List.mem_map.1 hc; exact .int _ _) | exact allP_of fun c hc=>((below_encN (n:=n) _).1 c hc).inside | skip
  intro k hk
  refine k_st rfl ?_
  rcases Nat.lt_or_ge k (sortedI I).length with h | h
  ·unfold tm28 L28 rest28 z65
   repeat refine kn rfl ?_
   refine k_region tok rfl (by kernel_rfl) ?_
   simp only [go_sem,simprocAttr,h]
   repeat refine kn rfl ?_
   refine k_cond_t rfl (by simp only [go_sem,simprocAttr]) ?_
   repeat refine kn rfl ?_
   refine k_region tok rfl (by kernel_rfl) ?_
   simp only [go_sem,simprocAttr,getD_map Am.enc _ _ h,h]
   repeat refine kn rfl ?_
   refine k_region tok rfl (by kernel_rfl) ?_
   simp only [go_sem,simprocAttr]
   repeat refine kn rfl ?_
   refine k_cond_t rfl (by simp only [go_sem,simprocAttr]) ?_
   have hw:IntKind.i64.wrap ((k:Int) + 1) = (k:Int) + 1:=by rw [IntWalk.i64_in _ (by omega)]
   have hsu:(shw k).map (AV.int .i64) ++ flat [AV.int .i64 ((k:Int) + 1)] = (shw (k + 1)).map (AV.int .i64):=by rw [shw_succ,List.map_append]; rfl
   repeat refine kn rfl ?_
   refine k_region tok rfl (by kernel_rfl) ?_
   simp only [go_sem,simprocAttr,hw]
   refine ⟨rfl,⟨le_maxLen (by omega),by omega⟩,?_⟩
   rw [hsu]
   repeat refine kn rfl ?_
   refine k_region tok rfl (by kernel_rfl) ?_
   simp only [go_sem,simprocAttr,hw]
   repeat refine kn rfl ?_
   refine k_nil ?_
   unfold s28a tm28 L28 rest28 z65
   refine AWk_kept ?_ ?_ ?_ ?_ <;> repeat' first | exact trivial | refine q0 ?_ | exact qb | exact q1 | exact q2 | exact q3 | exact rfl | refine And.intro ?_ ?_ | exact q4 | exact q5 | exact q6 | exact q7 | exact Inside.ptr _ _ _ (.inr ⟨rfl,rfl⟩) | exact q8 | exact q9 | exact qd | exact Tm.ins _ | exact Tm.inss _ _ | exact Am.ins _ | exact Am.inss _ _ | refine ins_buf_str ?_ | refine Tm.ins_buf ?_ | refine Am.ins_buf ?_ | exact qf
   all_goals first | exact rfl | exact sw_bx rfl rfl rfl rfl | exact sw_R _ | exact sw_nil | exact sw_sh _ _ | exact sw_nm _ rfl | exact (below_inss _).inside | exact (below_ams _).inside | exact insMs (.inr ⟨rfl,rfl⟩) | exact Inside.map _ _ (.inr ⟨rfl,rfl⟩) | exact Inside.ptr _ _ _ (.inr ⟨rfl,rfl⟩) | exact ⟨fun a ha=>((below_encN (n:=n) _).1 a ha).inside,by simp [ABlk.at_]⟩ | exact allP_of (fun c hc=>by obtain ⟨u,_,rfl⟩:=List.mem_map.1 hc; exact .int _ _) | exact allP_of fun c hc=>((below_encN (n:=n) _).1 c hc).inside | skip
  ·repeat refine kn rfl ?_
   refine k_region tok rfl (by kernel_rfl) ?_
   simp only [go_sem,simprocAttr,Nat.not_lt.2 h]
   repeat refine kn rfl ?_
   refine k_cond_f rfl (by simp only [go_sem,simprocAttr]) ?_
   repeat refine kn rfl ?_
   refine k_exit_round rfl rfl rfl ?_
   have hk':k = (sortedI I).length:=by omega
   subst hk'
   repeat refine kn rfl ?_
   refine k_nil ?_
   refine ⟨rfl,?_⟩
   unfold s28a tm28 L28 rest28 z65
   refine AWk_kept ?_ ?_ ?_ ?_ <;> repeat' first | exact trivial | refine q0 ?_ | exact qb | exact q1 | exact q2 | exact q3 | exact rfl | refine And.intro ?_ ?_ | exact q4 | exact q5 | exact q6 | exact q7 | exact Inside.ptr _ _ _ (.inr ⟨rfl,rfl⟩) | exact q8 | exact q9 | exact qd | exact Tm.ins _ | exact Tm.inss _ _ | exact Am.ins _ | exact Am.inss _ _ | refine ins_buf_str ?_ | refine Tm.ins_buf ?_ | refine Am.ins_buf ?_ | exact qf
   all_goals first | exact rfl | exact sw_bx rfl rfl rfl rfl | exact sw_R _ | exact sw_nil | exact sw_sh _ _ | exact sw_nm _ rfl | exact (below_inss _).inside | exact (below_ams _).inside | exact insMs (.inr ⟨rfl,rfl⟩) | exact Inside.map _ _ (.inr ⟨rfl,rfl⟩) | exact Inside.ptr _ _ _ (.inr ⟨rfl,rfl⟩) | exact ⟨fun a ha=>((below_encN (n:=n) _).1 a ha).inside,by simp [ABlk.at_]⟩ | exact allP_of (fun c hc=>by obtain ⟨u,_,rfl⟩:=List.mem_map.1 hc; exact .int _ _) | exact allP_of fun c hc=>((below_encN (n:=n) _).1 c hc).inside | skip
 exact b28i n H I hI hn hT hsm o hp ho hz he hn1 hr1 _
end Go.Proofs.YthgbkalgmicniaaGreatDoor

/- Lower: the errors of its arguments. -/
namespace Go.Proofs.YthgbkalgmicniaaGreatDoor
open Go.Abs
set_option maxRecDepth 100000
def gp0:GP:=⟨0,[],[],[],[]⟩
theorem wk_gp0:WkS (.agg [.int .i64 0,.sl 1 [] .full,.sl 1 [] .full,.sl 6 [] .full,.sl 3 [] .full]) gp0.enc:=WkS.aggL ⟨.refl _,.nil 1 1 .full,.nil 1 1 .full,.nil 6 6 .full,.nil 3 3 .full,trivial⟩
theorem b28v (n:Nat) (H:AHeap) (I:List Ins) (hg:∀ x ∈ I,x.Good) (hil:I.length ≤ 1000000) (hn:0 < n) (hT:Tabs H) (sh:AV) (hv:I.any (fun x=>!validI x) = true) :
  PC Tryz.prog n 28 [.sl 8 (I.map Ins.enc) .any,sh,.bool false] H (.tup [gp0.enc,.int .i64 2]):=by
 refine a_fun tok (fun_of Tryz.func28 rfl rfl) (by simp) fun B=>?_
 repeat refine kn rfl ?_
 refine k_region tok rfl (by kernel_rfl) ?_
 simp only [go_sem,simprocAttr]
 repeat refine kn rfl ?_
 refine k_region tok rfl (by kernel_rfl) ?_
 simp only [go_sem,simprocAttr]
 refine callT (fun_of Tryz.func62 rfl rfl) (c62 I (by omega) 63 [] (fun x=>!validI x) ⟨⟨_,_,fun_of Tryz.func63 rfl rfl⟩,fun x hx=>a63' x (hg x hx),fun _=>trivial⟩) hn hT (by simp only [go_sem,simprocAttr]) ?_
 simp only [go_sem,simprocAttr]
 rw [hv]
 repeat refine kn rfl ?_
 refine k_cond_t rfl (by simp only [go_sem,simprocAttr]) ?_
 repeat refine kn rfl ?_
 refine k_region tok rfl (by kernel_rfl) ?_
 simp only [go_sem,simprocAttr]
 repeat refine kn rfl ?_
 refine k_ret rfl ?_
 exact post_cellT _ n 6 0 [.int .i64 0,.sl 1 [] .full,.sl 1 [] .full,.sl 6 [] .full,.sl 3 [] .full] (by simp only [go_sem,simprocAttr]) (by simp only [go_sem,simprocAttr,full,setb]) rfl (Nat.le_refl _) (by simp only [go_sem,simprocAttr]) (.deep wk_gp0) (.refl _) (GP.blw n _) (.int _ _) rfl rfl
theorem b28l (n:Nat) (H:AHeap) (I:List Ins) (hg:∀ x ∈ I,x.Good) (hv0:∀ x ∈ I,validI x = true) (hal:(atIs I).length ≤ 100000) (hil:I.length ≤ 100000) (hn:0 < n) (hT:Tabs H) (sh:AV) (hsh:Below n sh) (a0:Am) (ha0:a0 ∈ sortedI I) (hnm:200 < (nameA a0).length) :
  PC Tryz.prog n 28 [.sl 8 (I.map Ins.enc) .any,sh,.bool false] H (.tup [gp0.enc,.int .i64 3]):=by
 have hv:I.any (fun x=>!validI x) = false:=by
  rw [List.any_eq_false]; intro x hx; simp [hv0 x hx]
 refine a_fun tok (fun_of Tryz.func28 rfl rfl) (by simp) fun B=>?_
 repeat refine kn rfl ?_
 refine k_region tok rfl (by kernel_rfl) ?_
 simp only [go_sem,simprocAttr]
 repeat refine kn rfl ?_
 refine k_region tok rfl (by kernel_rfl) ?_
 simp only [go_sem,simprocAttr]
 refine callT (fun_of Tryz.func62 rfl rfl) (c62 I (by omega) 63 [] (fun x=>!validI x) ⟨⟨_,_,fun_of Tryz.func63 rfl rfl⟩,fun x hx=>a63' x (hg x hx),fun _=>trivial⟩) hn hT (by simp only [go_sem,simprocAttr]) ?_
 simp only [go_sem,simprocAttr]
 rw [hv]
 repeat refine kn rfl ?_
 refine k_cond_f rfl (by simp only [go_sem,simprocAttr]) ?_
 refine k_skip rfl ?_
 repeat refine kn rfl ?_
 refine k_region tok rfl (by kernel_rfl) ?_
 simp only [go_sem,simprocAttr]
 refine callR (caps:=[]) (avs:=[.sl 8 (I.map Ins.enc) .any]) rfl (fun_of Tryz.func64 rfl rfl) (by rw [List.append_nil]; exact b64 (n + 1) _ I hg (Nat.succ_pos n) (hT.full hn) hal (by omega) n 24 (Nat.lt_succ_self n) (by simp only [go_sem,simprocAttr,full])) (by simp only [go_sem,simprocAttr]) ?_
 rintro r H1 ⟨rfl,rfl⟩
 refine ⟨_,H,(full_setb n _ H 24 _).symm,.refl _ _,?_⟩
 simp only [go_sem,simprocAttr,setb]
 have hls:(sortedI I).length ≤ 100000:=by have h1:=(sortB_perm ltA (tb0.adds (atIs I)).A).length_eq; have h2:=tb0_len (atIs I); unfold sortedI; omega
 have hgS:∀ a ∈ sortedI I,a.Good:=fun a ha=>adds_good (P:=Am.Good) (atIs I) tb0 (by simp [tb0]) (atIs_good hg) a ((sortB_perm ltA _).mem_iff.1 ha)
 repeat refine kn rfl ?_
 refine k_region tok rfl (by kernel_rfl) ?_
 simp only [go_sem,simprocAttr]
 repeat refine kn rfl ?_
 refine k_adopt_cell 21 22 3 70 6 rfl rfl rfl ?_
 refine k_adopt_cell 21 23 4 173 1 rfl rfl rfl ?_
 simp only [go_sem,simprocAttr,List.set_cons_succ,List.set_cons_zero]
 repeat refine kn rfl ?_
 refine k_region tok rfl (by kernel_rfl) ?_
 simp only [go_sem,simprocAttr]
 refine callR (caps:=[]) (avs:=[.sl 2 ((sortedI I).map Am.enc) .any,.fn (.func 17) []]) rfl (fun_of Tryz.func65 rfl rfl) (by rw [List.append_nil]; exact b65 (n + 1) _ (sortedI I) (by omega) hgS (hT.full hn) n 200 (Nat.lt_succ_self n) hn (by simp only [go_sem,simprocAttr,full,setb])) (by simp only [go_sem,simprocAttr]) ?_
 rintro r H1 ⟨rfl,rfl⟩
 refine ⟨_,H,(full_setb n _ H 200 _).symm,.refl _ _,?_⟩
 simp only [go_sem,simprocAttr,setb]
 have hnl:((sortedI I).map nameA).any (fun s:List UInt8=>decide (200 < (s.length:Int))) = true:=by
  rw [List.any_eq_true]; exact ⟨nameA a0,List.mem_map.2 ⟨a0,ha0,rfl⟩,by simp; omega⟩
 repeat refine kn rfl ?_
 refine k_region tok rfl (by kernel_rfl) ?_
 simp only [go_sem,simprocAttr]
 refine callT (fun_of Tryz.func66 rfl rfl) ((c66 ((sortedI I).map nameA) (by rw [List.length_map]; omega) 67 [] (fun s:List UInt8=>decide (200 < (s.length:Int))) ⟨⟨_,_,fun_of Tryz.func67 rfl rfl⟩,fun s _=>Abs.Pure.tabs (a67' s),fun _=>trivial⟩).args (args':=[.sl 1 (((sortedI I).map nameA).map .str) (.buf n 200),.fn (.func 67) []]) ⟨.any _ _ _,.refl _,trivial⟩) hn hT (by simp only [go_sem,simprocAttr]) ?_
 simp only [go_sem,simprocAttr]
 rw [hnl]
 repeat refine kn rfl ?_
 refine k_cond_t rfl (by simp only [go_sem,simprocAttr]) ?_
 repeat refine kn rfl ?_
 refine k_region tok rfl (by kernel_rfl) ?_
 simp only [go_sem,simprocAttr]
 repeat refine kn rfl ?_
 refine k_ret rfl ?_
 exact post_cellT _ n 6 0 [.int .i64 0,.sl 1 [] .full,.sl 1 [] .full,.sl 6 [] .full,.sl 3 [] .full] (by simp only [go_sem,simprocAttr]) (by simp only [go_sem,simprocAttr,full,setb]) rfl (Nat.le_refl _) (by simp only [go_sem,simprocAttr]) (.deep wk_gp0) (.refl _) (GP.blw n _) (.int _ _) rfl rfl
end Go.Proofs.YthgbkalgmicniaaGreatDoor

/- The laws' small constructors. -/
namespace Go.Proofs.YthgbkalgmicniaaGreatDoor
open Go.Abs
set_option maxRecDepth 100000
theorem u27 (p:List UInt8) (l:List Tm):Pure Tryz.prog 27 [.str p,.sl 4 (l.map Tm.enc) .any] (Am.mk p l).enc:=by
 intro n H
 refine a_fun tok (fun_of Tryz.func27 rfl rfl) (by simp) fun B=>?_
 repeat refine kn rfl ?_
 refine k_region tok rfl (by kernel_rfl) ?_
 simp only [go_sem,simprocAttr]
 repeat refine kn rfl ?_
 refine k_region tok rfl (by kernel_rfl) ?_
 simp only [go_sem,simprocAttr]
 repeat refine kn rfl ?_
 refine k_ret rfl ?_
 refine post_cell (.inl rfl) _ n 4 0 (Am.mk p l).cs (by simp only [go_sem,simprocAttr]) (by simp only [go_sem,simprocAttr,full]) rfl (Nat.le_refl _) (by simp only [go_sem,simprocAttr]) ?_ (Am.blw _ _) rfl
 simp only [go_sem,simprocAttr]
 exact .refl _
theorem u27n (p:List UInt8) (k:Nat) (o:Own):Pure Tryz.prog 27 [.str p,.sl k [] o] (Am.mk p []).enc:=Pure.wk (u27 p []) ⟨.refl _,.nil _ _ _,trivial⟩
theorem u21 (m:Int):Pure Tryz.prog 21 [.int .i64 m] (tNum m).enc:=by
 intro n H
 refine a_fun tok (fun_of Tryz.func21 rfl rfl) (by simp) fun B=>?_
 repeat refine kn rfl ?_
 refine k_region tok rfl (by kernel_rfl) ?_
 simp only [go_sem,simprocAttr]
 repeat refine kn rfl ?_
 refine k_region tok rfl (by kernel_rfl) ?_
 simp only [go_sem,simprocAttr]
 repeat refine kn rfl ?_
 refine k_ret rfl ?_
 refine post_cell (.inl rfl) _ n 2 0 [.int .u8 1,.int .i64 m,.str [],.sl 4 [] .full] (by simp only [go_sem,simprocAttr]) (by simp only [go_sem,simprocAttr,full]) rfl (Nat.le_refl _) (by simp only [go_sem,simprocAttr]) ?_ (Tm.blw _ _) rfl
 rw [tNum,Tm.enc_eq]
 exact .deep (.aggL ⟨.refl _,.refl _,.refl _,.nil _ _ _,trivial⟩)
theorem u23 (m:List UInt8):Pure Tryz.prog 23 [.str m] (tName m).enc:=by
 intro n H
 refine a_fun tok (fun_of Tryz.func23 rfl rfl) (by simp) fun B=>?_
 repeat refine kn rfl ?_
 refine k_region tok rfl (by kernel_rfl) ?_
 simp only [go_sem,simprocAttr]
 repeat refine kn rfl ?_
 refine k_region tok rfl (by kernel_rfl) ?_
 simp only [go_sem,simprocAttr]
 repeat refine kn rfl ?_
 refine k_ret rfl ?_
 refine post_cell (.inl rfl) _ n 2 0 [.int .u8 2,.int .i64 0,.str m,.sl 4 [] .full] (by simp only [go_sem,simprocAttr]) (by simp only [go_sem,simprocAttr,full]) rfl (Nat.le_refl _) (by simp only [go_sem,simprocAttr]) ?_ (Tm.blw _ _) rfl
 rw [tName,Tm.enc_eq]
 exact .deep (.aggL ⟨.refl _,.refl _,.refl _,.nil _ _ _,trivial⟩)
theorem u20 (p:List UInt8):Pure Tryz.prog 20 [.str p] (glOf ⟨p,[]⟩).enc:=by
 intro n H
 refine a_fun tok (fun_of Tryz.func20 rfl rfl) (by simp) fun B=>?_
 repeat refine kn rfl ?_
 refine k_region tok rfl (by kernel_rfl) ?_
 simp only [go_sem,simprocAttr]
 repeat refine kn rfl ?_
 refine k_region tok rfl (by kernel_rfl) ?_
 simp only [go_sem,simprocAttr]
 refine callP (fun_of Tryz.func27 rfl rfl) (u27n p 4 .full) (by simp only [go_sem,simprocAttr]) ?_
 simp only [go_sem,simprocAttr]
 repeat refine kn rfl ?_
 refine k_ret rfl ?_
 refine post_cell (.inl rfl) _ n 2 0 (glOf ⟨p,[]⟩).cs (by simp only [go_sem,simprocAttr]) (by simp only [go_sem,simprocAttr,full]; rfl) rfl (Nat.le_refl _) (by simp only [go_sem,simprocAttr]) ?_ (GL.blw _ _) rfl
 simp only [go_sem,simprocAttr]
 exact .refl _
theorem u22 (p:List UInt8):Pure Tryz.prog 22 [.str p] (glNo ⟨p,[]⟩).enc:=by
 intro n H
 refine a_fun tok (fun_of Tryz.func22 rfl rfl) (by simp) fun B=>?_
 repeat refine kn rfl ?_
 refine k_region tok rfl (by kernel_rfl) ?_
 simp only [go_sem,simprocAttr]
 repeat refine kn rfl ?_
 refine k_region tok rfl (by kernel_rfl) ?_
 simp only [go_sem,simprocAttr]
 refine callP (fun_of Tryz.func27 rfl rfl) (u27n p 4 .full) (by simp only [go_sem,simprocAttr]) ?_
 simp only [go_sem,simprocAttr]
 repeat refine kn rfl ?_
 refine k_ret rfl ?_
 refine post_cell (.inl rfl) _ n 2 0 (glNo ⟨p,[]⟩).cs (by simp only [go_sem,simprocAttr]) (by simp only [go_sem,simprocAttr,full]; rfl) rfl (Nat.le_refl _) (by simp only [go_sem,simprocAttr]) ?_ (GL.blw _ _) rfl
 simp only [go_sem,simprocAttr]
 exact .refl _
theorem u19 (g:GL) (l:List Tm):Pure Tryz.prog 19 [g.enc,.sl 4 (l.map Tm.enc) .any] (GE.mk l [g]).enc:=by
 intro n H
 refine a_fun tok (fun_of Tryz.func19 rfl rfl) (by simp) fun B=>?_
 repeat refine kn rfl ?_
 refine k_region tok rfl (by kernel_rfl) ?_
 simp only [go_sem,simprocAttr]
 repeat refine kn rfl ?_
 refine k_region tok rfl (by kernel_rfl) ?_
 simp only [go_sem,simprocAttr]
 refine ⟨rfl,?_⟩
 repeat refine kn rfl ?_
 refine k_ret rfl ?_
 refine post_cell (.inl rfl) _ n 4 0 [.sl 4 (l.map Tm.enc) .any,.sl 3 [g.enc] .full] (by simp only [go_sem,simprocAttr]) (by simp only [go_sem,simprocAttr,full]) rfl (Nat.le_refl _) (by simp only [go_sem,simprocAttr]) ?_ (GE.blw _ _) rfl
 simp only [go_sem,simprocAttr]
 exact .deep (.aggL ⟨.refl _,wk_own _ _ _,trivial⟩)
theorem u24 (f op b:Int) (es:List GE):Pure Tryz.prog 24 [.int .u8 f,.int .u8 op,.int .i64 b,.sl 2 (es.map GE.enc) .any] (GB.mk 3 ⟨false,am0⟩ false f es op b).enc:=by
 intro n H
 refine a_fun tok (fun_of Tryz.func24 rfl rfl) (by simp) fun B=>?_
 repeat refine kn rfl ?_
 refine k_region tok rfl (by kernel_rfl) ?_
 simp only [go_sem,simprocAttr]
 repeat refine kn rfl ?_
 refine k_region tok rfl (by kernel_rfl) ?_
 simp only [go_sem,simprocAttr]
 repeat refine kn rfl ?_
 refine k_ret rfl ?_
 refine post_cell (.inl rfl) _ n 8 0 [.int .u8 3,.bool false,.str [],.sl 4 [] .full,.bool false,.int .u8 f,.sl 2 (es.map GE.enc) .any,.int .u8 op,.int .i64 b] (by simp only [go_sem,simprocAttr]) (by simp only [go_sem,simprocAttr,full]; try rfl) rfl (Nat.le_refl _) (by simp only [go_sem,simprocAttr]) ?_ (GB.blw _ _) rfl
 simp only [go_sem,simprocAttr]
 exact .deep (.aggL ⟨.refl _,.refl _,.refl _,.nil _ _ _,.refl _,.refl _,.refl _,.refl _,.refl _,trivial⟩)
theorem u25 (g:GL):Pure Tryz.prog 25 [g.enc] (oneB g).enc:=by
 intro n H
 refine a_fun tok (fun_of Tryz.func25 rfl rfl) (by simp) fun B=>?_
 repeat refine kn rfl ?_
 refine k_region tok rfl (by kernel_rfl) ?_
 simp only [go_sem,simprocAttr]
 repeat refine kn rfl ?_
 refine k_region tok rfl (by kernel_rfl) ?_
 simp only [go_sem,simprocAttr]
 repeat refine kn rfl ?_
 refine k_ret rfl ?_
 refine post_cell (.inl rfl) _ n 2 0 [.int .u8 1,.bool g.no,.str g.a.pred,.sl 4 (g.a.args.map Tm.enc) .any,.bool false,.int .u8 0,.sl 2 [] .full,.int .u8 0,.int .i64 0] (by simp only [go_sem,simprocAttr]) (by simp only [go_sem,simprocAttr,full]; try rfl) rfl (Nat.le_refl _) (by simp only [go_sem,simprocAttr]) ?_ (GB.blw _ _) rfl
 simp only [go_sem,simprocAttr]
 exact .deep (.aggL ⟨.refl _,.refl _,.refl _,.refl _,.refl _,.refl _,.nil _ _ _,.refl _,.refl _,trivial⟩)
theorem u26 (hs:List Am) (b:List GB):Pure Tryz.prog 26 [.sl 2 (hs.map Am.enc) .any,.sl 9 (b.map GB.enc) .any] (Ins.mk 1 hs (-1) (-1) b 0 0 []).enc:=by
 intro n H
 refine a_fun tok (fun_of Tryz.func26 rfl rfl) (by simp) fun B=>?_
 repeat refine kn rfl ?_
 refine k_region tok rfl (by kernel_rfl) ?_
 simp only [go_sem,simprocAttr]
 repeat refine kn rfl ?_
 refine k_region tok rfl (by kernel_rfl) ?_
 simp only [go_sem,simprocAttr]
 repeat refine kn rfl ?_
 refine k_ret rfl ?_
 refine post_cell (.inl rfl) _ n 4 0 [.int .u8 1,.sl 2 (hs.map Am.enc) .any,.int .i64 (-1),.int .i64 (-1),.sl 9 (b.map GB.enc) .any,.int .i64 0,.int .i64 0,.sl 4 [] .full] (by simp only [go_sem,simprocAttr]) (by simp only [go_sem,simprocAttr,full]; try rfl) rfl (Nat.le_refl _) (by simp only [go_sem,simprocAttr]) ?_ (Ins.blw _ _) rfl
 simp only [go_sem,simprocAttr]
 exact .deep (.aggL ⟨.refl _,.refl _,.refl _,.refl _,.refl _,.refl _,.refl _,.nil _ _ _,trivial⟩)
end Go.Proofs.YthgbkalgmicniaaGreatDoor

/- The kit's comparisons of ground programs, at equal ones. -/
namespace Go.Proofs.YthgbkalgmicniaaGreatDoor
open Go.Abs
set_option maxRecDepth 100000
def ss32 (p:List (Int)) (H:AHeap) (i:Nat):AState:=⟨[(5,.int .i64 i),(0,.sl 1 (p.map eInt) .any),(1,.sl 1 (p.map eInt) .any)],[],H⟩
theorem s32 (p:List (Int)) (hl:p.length ≤ 1000000):Pure Tryz.prog 32 [.sl 1 (p.map eInt) .any,.sl 1 (p.map eInt) .any] (.bool true):=by
 intro n H
 have hin:∀ q,Inside n q (.sl 1 (p.map eInt) .any):=fun q=>(below_sla fun x hx=>by obtain ⟨u,_,rfl⟩:=List.mem_map.1 hx; first | exact .int _ _ | exact .str _).inside
 refine a_fun tok (fun_of Tryz.func32 rfl rfl) (by simp) fun B=>?_
 repeat refine kn rfl ?_
 refine k_region tok rfl (by kernel_rfl) ?_
 simp only [go_sem,simprocAttr]
 repeat refine kn rfl ?_
 refine k_region tok rfl (by kernel_rfl) ?_
 simp only [go_sem,simprocAttr]
 repeat refine kn rfl ?_
 refine k_cond_f rfl (by simp only [go_sem,simprocAttr,bne_self_eq_false]) ?_
 refine k_skip rfl ?_
 repeat refine kn rfl ?_
 refine k_region tok rfl (by kernel_rfl) ?_
 simp only [go_sem,simprocAttr]
 repeat refine kn rfl ?_
 refine k_loop_ix (ss32 p H) p.length rfl ?_ ?_
 ·unfold ss32
  refine AWk_kept ?_ ?_ ?_ ?_ <;> repeat' first | exact trivial | refine q0 ?_ | exact qb | exact q1 | exact q2 | exact q3 | exact rfl | refine And.intro ?_ ?_ | exact q4 | exact q5 | exact q6 | exact q7 | exact Inside.ptr _ _ _ (.inr ⟨rfl,rfl⟩) | exact q8 | exact q9 | exact qd | exact Tm.ins _ | exact Tm.inss _ _ | exact Am.ins _ | exact Am.inss _ _ | refine ins_buf_str ?_ | refine Tm.ins_buf ?_ | refine Am.ins_buf ?_ | exact qf
  all_goals first | exact hin _ | skip
 intro i hi
 refine k_st rfl ?_
 rcases Nat.lt_or_ge i p.length with h | h
 ·unfold ss32
  repeat refine kn rfl ?_
  refine k_region tok rfl (by kernel_rfl) ?_
  simp only [go_sem,simprocAttr,h]
  repeat refine kn rfl ?_
  refine k_cond_t rfl (by simp only [go_sem,simprocAttr]) ?_
  repeat refine kn rfl ?_
  refine k_draw tok mixed drawO rfl rfl (by kernel_rfl) (by kernel_rfl) ?_
  simp only [go_sem,simprocAttr,getD_map eInt _ _ h,h]
  repeat refine kn rfl ?_
  refine k_cond_f rfl (by simp only [go_sem,simprocAttr,bne_self_eq_false]) ?_
  refine k_skip rfl ?_
  repeat refine kn rfl ?_
  refine k_region tok rfl (by kernel_rfl) ?_
  simp only [go_sem,simprocAttr]
  repeat refine kn rfl ?_
  refine k_nil ?_
  refine AWk_kept ?_ ?_ ?_ ?_ <;> repeat' first | exact trivial | refine q0 ?_ | exact qb | exact q1 | exact q2 | exact q3 | exact rfl | refine And.intro ?_ ?_ | exact q4 | exact q5 | exact q6 | exact q7 | exact Inside.ptr _ _ _ (.inr ⟨rfl,rfl⟩) | exact q8 | exact q9 | exact qd | exact Tm.ins _ | exact Tm.inss _ _ | exact Am.ins _ | exact Am.inss _ _ | refine ins_buf_str ?_ | refine Tm.ins_buf ?_ | refine Am.ins_buf ?_ | exact qf
  ·simp only [go_sem,simprocAttr]
   rw [IntWalk.i64_in _ (by omega)]; exact .refl _
  all_goals first | exact hin _ | skip
 ·unfold ss32
  repeat refine kn rfl ?_
  refine k_region tok rfl (by kernel_rfl) ?_
  simp only [go_sem,simprocAttr,Nat.not_lt.2 h]
  repeat refine kn rfl ?_
  refine k_cond_f rfl (by simp only [go_sem,simprocAttr]) ?_
  repeat refine kn rfl ?_
  refine k_exit_round rfl rfl rfl ?_
  repeat refine kn rfl ?_
  refine k_region tok rfl (by kernel_rfl) ?_
  simp only [go_sem,simprocAttr]
  repeat refine kn rfl ?_
  refine k_ret rfl ?_
  exact post_one (.refl _) (.bool _) rfl
def ss72 (p:List (Str)) (H:AHeap) (i:Nat):AState:=⟨[(5,.int .i64 i),(0,.sl 1 (p.map eStr) .any),(1,.sl 1 (p.map eStr) .any)],[],H⟩
theorem s72 (p:List (Str)) (hl:p.length ≤ 1000000):Pure Tryz.prog 72 [.sl 1 (p.map eStr) .any,.sl 1 (p.map eStr) .any] (.bool true):=by
 intro n H
 have hin:∀ q,Inside n q (.sl 1 (p.map eStr) .any):=fun q=>(below_sla fun x hx=>by obtain ⟨u,_,rfl⟩:=List.mem_map.1 hx; first | exact .int _ _ | exact .str _).inside
 refine a_fun tok (fun_of Tryz.func72 rfl rfl) (by simp) fun B=>?_
 repeat refine kn rfl ?_
 refine k_region tok rfl (by kernel_rfl) ?_
 simp only [go_sem,simprocAttr]
 repeat refine kn rfl ?_
 refine k_region tok rfl (by kernel_rfl) ?_
 simp only [go_sem,simprocAttr]
 repeat refine kn rfl ?_
 refine k_cond_f rfl (by simp only [go_sem,simprocAttr,bne_self_eq_false]) ?_
 refine k_skip rfl ?_
 repeat refine kn rfl ?_
 refine k_region tok rfl (by kernel_rfl) ?_
 simp only [go_sem,simprocAttr]
 repeat refine kn rfl ?_
 refine k_loop_ix (ss72 p H) p.length rfl ?_ ?_
 ·unfold ss72
  refine AWk_kept ?_ ?_ ?_ ?_ <;> repeat' first | exact trivial | refine q0 ?_ | exact qb | exact q1 | exact q2 | exact q3 | exact rfl | refine And.intro ?_ ?_ | exact q4 | exact q5 | exact q6 | exact q7 | exact Inside.ptr _ _ _ (.inr ⟨rfl,rfl⟩) | exact q8 | exact q9 | exact qd | exact Tm.ins _ | exact Tm.inss _ _ | exact Am.ins _ | exact Am.inss _ _ | refine ins_buf_str ?_ | refine Tm.ins_buf ?_ | refine Am.ins_buf ?_ | exact qf
  all_goals first | exact hin _ | skip
 intro i hi
 refine k_st rfl ?_
 rcases Nat.lt_or_ge i p.length with h | h
 ·unfold ss72
  repeat refine kn rfl ?_
  refine k_region tok rfl (by kernel_rfl) ?_
  simp only [go_sem,simprocAttr,h]
  repeat refine kn rfl ?_
  refine k_cond_t rfl (by simp only [go_sem,simprocAttr]) ?_
  repeat refine kn rfl ?_
  refine k_draw tok mixed drawO rfl rfl (by kernel_rfl) (by kernel_rfl) ?_
  simp only [go_sem,simprocAttr,getD_map eStr _ _ h,h]
  repeat refine kn rfl ?_
  refine k_cond_f rfl (by simp only [go_sem,simprocAttr,bne_self_eq_false]) ?_
  refine k_skip rfl ?_
  repeat refine kn rfl ?_
  refine k_region tok rfl (by kernel_rfl) ?_
  simp only [go_sem,simprocAttr]
  repeat refine kn rfl ?_
  refine k_nil ?_
  refine AWk_kept ?_ ?_ ?_ ?_ <;> repeat' first | exact trivial | refine q0 ?_ | exact qb | exact q1 | exact q2 | exact q3 | exact rfl | refine And.intro ?_ ?_ | exact q4 | exact q5 | exact q6 | exact q7 | exact Inside.ptr _ _ _ (.inr ⟨rfl,rfl⟩) | exact q8 | exact q9 | exact qd | exact Tm.ins _ | exact Tm.inss _ _ | exact Am.ins _ | exact Am.inss _ _ | refine ins_buf_str ?_ | refine Tm.ins_buf ?_ | refine Am.ins_buf ?_ | exact qf
  ·simp only [go_sem,simprocAttr]
   rw [IntWalk.i64_in _ (by omega)]; exact .refl _
  all_goals first | exact hin _ | skip
 ·unfold ss72
  repeat refine kn rfl ?_
  refine k_region tok rfl (by kernel_rfl) ?_
  simp only [go_sem,simprocAttr,Nat.not_lt.2 h]
  repeat refine kn rfl ?_
  refine k_cond_f rfl (by simp only [go_sem,simprocAttr]) ?_
  repeat refine kn rfl ?_
  refine k_exit_round rfl rfl rfl ?_
  repeat refine kn rfl ?_
  refine k_region tok rfl (by kernel_rfl) ?_
  simp only [go_sem,simprocAttr]
  repeat refine kn rfl ?_
  refine k_ret rfl ?_
  exact post_one (.refl _) (.bool _) rfl
theorem s139 (x:GR) (h1:x.head.length ≤ 1000000) (h2:x.body.length ≤ 1000000) (h3:x.w.length ≤ 1000000):Pure Tryz.prog 139 [x.enc,x.enc] (.bool true):=by
 intro n H
 refine a_fun tok (fun_of Tryz.func139 rfl rfl) (by simp) fun B=>?_
 repeat refine kn rfl ?_
 refine k_region tok rfl (by kernel_rfl) ?_
 simp only [go_sem,simprocAttr]
 repeat refine kn rfl ?_
 refine k_region tok rfl (by kernel_rfl) ?_
 simp only [go_sem,simprocAttr]
 refine callP (fun_of Tryz.func32 rfl rfl) (s32 x.head h1) (by simp only [go_sem,simprocAttr]) ?_
 simp only [go_sem,simprocAttr]
 refine callP (fun_of Tryz.func32 rfl rfl) (s32 x.body h2) (by simp only [go_sem,simprocAttr]) ?_
 simp only [go_sem,simprocAttr]
 refine callP (fun_of Tryz.func32 rfl rfl) (s32 x.w h3) (by simp only [go_sem,simprocAttr]) ?_
 simp only [go_sem,simprocAttr]
 repeat refine kn rfl ?_
 refine k_ret rfl ?_
 exact post_one (.refl _) (.bool _) rfl
theorem s140 (x:GM) (h1:x.lits.length ≤ 1000000) (h2:x.w.length ≤ 1000000):Pure Tryz.prog 140 [x.enc,x.enc] (.bool true):=by
 intro n H
 refine a_fun tok (fun_of Tryz.func140 rfl rfl) (by simp) fun B=>?_
 repeat refine kn rfl ?_
 refine k_region tok rfl (by kernel_rfl) ?_
 simp only [go_sem,simprocAttr]
 repeat refine kn rfl ?_
 refine k_region tok rfl (by kernel_rfl) ?_
 simp only [go_sem,simprocAttr]
 refine callP (fun_of Tryz.func32 rfl rfl) (s32 x.lits h1) (by simp only [go_sem,simprocAttr]) ?_
 simp only [go_sem,simprocAttr]
 refine callP (fun_of Tryz.func32 rfl rfl) (s32 x.w h2) (by simp only [go_sem,simprocAttr]) ?_
 simp only [go_sem,simprocAttr]
 repeat refine kn rfl ?_
 refine k_ret rfl ?_
 exact post_one (.refl _) (.bool _) rfl
def ss73 (p:List GR) (H:AHeap) (i:Nat):AState:=⟨[(5,.int .i64 i),(0,.sl 6 (p.map GR.enc) .any),(1,.sl 6 (p.map GR.enc) .any)],[],H⟩
theorem s73 (p:List GR) (hl:p.length ≤ 1000000) (hc:∀ x ∈ p,Pure Tryz.prog 139 [x.enc,x.enc] (.bool true)):Pure Tryz.prog 73 [.sl 6 (p.map GR.enc) .any,.sl 6 (p.map GR.enc) .any] (.bool true):=by
 intro n H
 have hin:∀ q,Inside n q (.sl 6 (p.map GR.enc) .any):=fun q=>(below_grs p).inside
 refine a_fun tok (fun_of Tryz.func73 rfl rfl) (by simp) fun B=>?_
 repeat refine kn rfl ?_
 refine k_region tok rfl (by kernel_rfl) ?_
 simp only [go_sem,simprocAttr]
 repeat refine kn rfl ?_
 refine k_region tok rfl (by kernel_rfl) ?_
 simp only [go_sem,simprocAttr]
 repeat refine kn rfl ?_
 refine k_cond_f rfl (by simp only [go_sem,simprocAttr,bne_self_eq_false]) ?_
 refine k_skip rfl ?_
 repeat refine kn rfl ?_
 refine k_region tok rfl (by kernel_rfl) ?_
 simp only [go_sem,simprocAttr]
 repeat refine kn rfl ?_
 refine k_loop_ix (ss73 p H) p.length rfl ?_ ?_
 ·unfold ss73
  refine AWk_kept ?_ ?_ ?_ ?_ <;> repeat' first | exact trivial | refine q0 ?_ | exact qb | exact q1 | exact q2 | exact q3 | exact rfl | refine And.intro ?_ ?_ | exact q4 | exact q5 | exact q6 | exact q7 | exact Inside.ptr _ _ _ (.inr ⟨rfl,rfl⟩) | exact q8 | exact q9 | exact qd | exact Tm.ins _ | exact Tm.inss _ _ | exact Am.ins _ | exact Am.inss _ _ | refine ins_buf_str ?_ | refine Tm.ins_buf ?_ | refine Am.ins_buf ?_ | exact qf
  all_goals first | exact hin _ | skip
 intro i hi
 refine k_st rfl ?_
 rcases Nat.lt_or_ge i p.length with h | h
 ·unfold ss73
  repeat refine kn rfl ?_
  refine k_region tok rfl (by kernel_rfl) ?_
  simp only [go_sem,simprocAttr,h]
  repeat refine kn rfl ?_
  refine k_cond_t rfl (by simp only [go_sem,simprocAttr]) ?_
  repeat refine kn rfl ?_
  refine k_draw tok mixed drawO rfl rfl (by kernel_rfl) (by kernel_rfl) ?_
  simp only [go_sem,simprocAttr,getD_map GR.enc _ _ h,h]
  refine callP (fun_of Tryz.func139 rfl rfl) (hc p[i] (List.getElem_mem h)) (by simp only [go_sem,simprocAttr]) ?_
  simp only [go_sem,simprocAttr]
  repeat refine kn rfl ?_
  refine k_cond_f rfl (by simp only [go_sem,simprocAttr]) ?_
  refine k_skip rfl ?_
  repeat refine kn rfl ?_
  refine k_region tok rfl (by kernel_rfl) ?_
  simp only [go_sem,simprocAttr]
  repeat refine kn rfl ?_
  refine k_nil ?_
  refine AWk_kept ?_ ?_ ?_ ?_ <;> repeat' first | exact trivial | refine q0 ?_ | exact qb | exact q1 | exact q2 | exact q3 | exact rfl | refine And.intro ?_ ?_ | exact q4 | exact q5 | exact q6 | exact q7 | exact Inside.ptr _ _ _ (.inr ⟨rfl,rfl⟩) | exact q8 | exact q9 | exact qd | exact Tm.ins _ | exact Tm.inss _ _ | exact Am.ins _ | exact Am.inss _ _ | refine ins_buf_str ?_ | refine Tm.ins_buf ?_ | refine Am.ins_buf ?_ | exact qf
  ·simp only [go_sem,simprocAttr]
   rw [IntWalk.i64_in _ (by omega)]; exact .refl _
  all_goals first | exact hin _ | skip
 ·unfold ss73
  repeat refine kn rfl ?_
  refine k_region tok rfl (by kernel_rfl) ?_
  simp only [go_sem,simprocAttr,Nat.not_lt.2 h]
  repeat refine kn rfl ?_
  refine k_cond_f rfl (by simp only [go_sem,simprocAttr]) ?_
  repeat refine kn rfl ?_
  refine k_exit_round rfl rfl rfl ?_
  repeat refine kn rfl ?_
  refine k_region tok rfl (by kernel_rfl) ?_
  simp only [go_sem,simprocAttr]
  repeat refine kn rfl ?_
  refine k_ret rfl ?_
  exact post_one (.refl _) (.bool _) rfl
def ss74 (p:List GM) (H:AHeap) (i:Nat):AState:=⟨[(5,.int .i64 i),(0,.sl 3 (p.map GM.enc) .any),(1,.sl 3 (p.map GM.enc) .any)],[],H⟩
theorem s74 (p:List GM) (hl:p.length ≤ 1000000) (hc:∀ x ∈ p,Pure Tryz.prog 140 [x.enc,x.enc] (.bool true)):Pure Tryz.prog 74 [.sl 3 (p.map GM.enc) .any,.sl 3 (p.map GM.enc) .any] (.bool true):=by
 intro n H
 have hin:∀ q,Inside n q (.sl 3 (p.map GM.enc) .any):=fun q=>(below_gms p).inside
 refine a_fun tok (fun_of Tryz.func74 rfl rfl) (by simp) fun B=>?_
 repeat refine kn rfl ?_
 refine k_region tok rfl (by kernel_rfl) ?_
 simp only [go_sem,simprocAttr]
 repeat refine kn rfl ?_
 refine k_region tok rfl (by kernel_rfl) ?_
 simp only [go_sem,simprocAttr]
 repeat refine kn rfl ?_
 refine k_cond_f rfl (by simp only [go_sem,simprocAttr,bne_self_eq_false]) ?_
 refine k_skip rfl ?_
 repeat refine kn rfl ?_
 refine k_region tok rfl (by kernel_rfl) ?_
 simp only [go_sem,simprocAttr]
 repeat refine kn rfl ?_
 refine k_loop_ix (ss74 p H) p.length rfl ?_ ?_
 ·unfold ss74
  refine AWk_kept ?_ ?_ ?_ ?_ <;> repeat' first | exact trivial | refine q0 ?_ | exact qb | exact q1 | exact q2 | exact q3 | exact rfl | refine And.intro ?_ ?_ | exact q4 | exact q5 | exact q6 | exact q7 | exact Inside.ptr _ _ _ (.inr ⟨rfl,rfl⟩) | exact q8 | exact q9 | exact qd | exact Tm.ins _ | exact Tm.inss _ _ | exact Am.ins _ | exact Am.inss _ _ | refine ins_buf_str ?_ | refine Tm.ins_buf ?_ | refine Am.ins_buf ?_ | exact qf
  all_goals first | exact hin _ | skip
 intro i hi
 refine k_st rfl ?_
 rcases Nat.lt_or_ge i p.length with h | h
 ·unfold ss74
  repeat refine kn rfl ?_
  refine k_region tok rfl (by kernel_rfl) ?_
  simp only [go_sem,simprocAttr,h]
  repeat refine kn rfl ?_
  refine k_cond_t rfl (by simp only [go_sem,simprocAttr]) ?_
  repeat refine kn rfl ?_
  refine k_draw tok mixed drawO rfl rfl (by kernel_rfl) (by kernel_rfl) ?_
  simp only [go_sem,simprocAttr,getD_map GM.enc _ _ h,h]
  refine callP (fun_of Tryz.func140 rfl rfl) (hc p[i] (List.getElem_mem h)) (by simp only [go_sem,simprocAttr]) ?_
  simp only [go_sem,simprocAttr]
  repeat refine kn rfl ?_
  refine k_cond_f rfl (by simp only [go_sem,simprocAttr]) ?_
  refine k_skip rfl ?_
  repeat refine kn rfl ?_
  refine k_region tok rfl (by kernel_rfl) ?_
  simp only [go_sem,simprocAttr]
  repeat refine kn rfl ?_
  refine k_nil ?_
  refine AWk_kept ?_ ?_ ?_ ?_ <;> repeat' first | exact trivial | refine q0 ?_ | exact qb | exact q1 | exact q2 | exact q3 | exact rfl | refine And.intro ?_ ?_ | exact q4 | exact q5 | exact q6 | exact q7 | exact Inside.ptr _ _ _ (.inr ⟨rfl,rfl⟩) | exact q8 | exact q9 | exact qd | exact Tm.ins _ | exact Tm.inss _ _ | exact Am.ins _ | exact Am.inss _ _ | refine ins_buf_str ?_ | refine Tm.ins_buf ?_ | refine Am.ins_buf ?_ | exact qf
  ·simp only [go_sem,simprocAttr]
   rw [IntWalk.i64_in _ (by omega)]; exact .refl _
  all_goals first | exact hin _ | skip
 ·unfold ss74
  repeat refine kn rfl ?_
  refine k_region tok rfl (by kernel_rfl) ?_
  simp only [go_sem,simprocAttr,Nat.not_lt.2 h]
  repeat refine kn rfl ?_
  refine k_cond_f rfl (by simp only [go_sem,simprocAttr]) ?_
  repeat refine kn rfl ?_
  refine k_exit_round rfl rfl rfl ?_
  repeat refine kn rfl ?_
  refine k_region tok rfl (by kernel_rfl) ?_
  simp only [go_sem,simprocAttr]
  repeat refine kn rfl ?_
  refine k_ret rfl ?_
  exact post_one (.refl _) (.bool _) rfl
structure _root_.Go.Abs.GP.Ok (x:GP):Prop where
 a:x.names.length ≤ 1000000
 b:x.shows.length ≤ 1000000
 c:x.rules.length ≤ 1000000
 d:x.min.length ≤ 1000000
 r:∀ y ∈ x.rules,y.head.length ≤ 1000000 ∧ y.body.length ≤ 1000000 ∧ y.w.length ≤ 1000000
 m:∀ y ∈ x.min,y.lits.length ≤ 1000000 ∧ y.w.length ≤ 1000000
theorem s29 (x:GP) (h:x.Ok):Pure Tryz.prog 29 [x.enc,x.enc] (.bool true):=by
 intro n H
 refine a_fun tok (fun_of Tryz.func29 rfl rfl) (by simp) fun B=>?_
 repeat refine kn rfl ?_
 refine k_region tok rfl (by kernel_rfl) ?_
 simp only [go_sem,simprocAttr]
 repeat refine kn rfl ?_
 refine k_region tok rfl (by kernel_rfl) ?_
 simp only [go_sem,simprocAttr]
 refine callP (fun_of Tryz.func72 rfl rfl) (s72 x.names h.a) (by simp only [go_sem,simprocAttr]) ?_
 simp only [go_sem,simprocAttr]
 refine callP (fun_of Tryz.func32 rfl rfl) (s32 x.shows h.b) (by simp only [go_sem,simprocAttr]) ?_
 simp only [go_sem,simprocAttr]
 refine callP (fun_of Tryz.func73 rfl rfl) (s73 x.rules h.c (fun y hy=>s139 y (h.r y hy).1 (h.r y hy).2.1 (h.r y hy).2.2)) (by simp only [go_sem,simprocAttr]) ?_
 simp only [go_sem,simprocAttr]
 refine callP (fun_of Tryz.func74 rfl rfl) (s74 x.min h.d (fun y hy=>s140 y (h.m y hy).1 (h.m y hy).2)) (by simp only [go_sem,simprocAttr]) ?_
 simp only [go_sem,simprocAttr]
 repeat refine kn rfl ?_
 refine k_ret rfl ?_
 exact post_one (.refl _) (.bool _) rfl
end Go.Proofs.YthgbkalgmicniaaGreatDoor

/- The example of the chapter: the walk. -/
namespace Go.Proofs.YthgbkalgmicniaaGreatDoor
open Go.Abs
set_option maxRecDepth 100000
theorem u26w (hs:List Am) (b:List GB) (k:Nat) (o o':Own) (hb:b = [] ∨ k = 9):Pure Tryz.prog 26 [.sl 2 (hs.map Am.enc) o,.sl k (b.map GB.enc) o'] (Ins.mk 1 hs (-1) (-1) b 0 0 []).enc:=Pure.wk (u26 hs b) ⟨.any _ _ _,by
 rcases hb with rfl | rfl
 ·exact .nil _ _ _
 ·exact .any _ _ _,trivial⟩
theorem u19w (g:GL) (l:List Tm) (o:Own):Pure Tryz.prog 19 [g.enc,.sl 4 (l.map Tm.enc) o] (GE.mk l [g]).enc:=Pure.wk (u19 g l) ⟨.refl _,.any _ _ _,trivial⟩
theorem u24w (f op b:Int) (es:List GE) (o:Own):Pure Tryz.prog 24 [.int .u8 f,.int .u8 op,.int .i64 b,.sl 2 (es.map GE.enc) o] (GB.mk 3 ⟨false,am0⟩ false f es op b).enc:=Pure.wk (u24 f op b es) ⟨.refl _,.refl _,.refl _,.any _ _ _,trivial⟩
theorem u37:Pure Tryz.prog 37 [] (.sl 8 (exI.map Ins.enc) .any):=by
 intro n H
 refine a_fun tok (fun_of Tryz.func37 rfl rfl) (by simp) fun B=>?_
 repeat refine kn rfl ?_
 refine k_region tok rfl (by kernel_rfl) ?_
 simp only [go_sem,simprocAttr]
 repeat refine kn rfl ?_
 refine k_region tok rfl (by kernel_rfl) ?_
 simp only [go_sem,simprocAttr]
 refine callP (fun_of Tryz.func27 rfl rfl) (u27n [97] 4 .full) (by simp only [go_sem,simprocAttr]) ?_
 simp only [go_sem,simprocAttr]
 refine ⟨rfl,?_⟩
 refine callP (fun_of Tryz.func26 rfl rfl) (u26w [exA] [] 9 .full .full (.inl rfl)) (by simp only [go_sem,simprocAttr,exA,exB,exC,exD,exE1,exE2,exE3,exG]) ?_
 simp only [go_sem,simprocAttr,exA,exB,exC,exD,exE1,exE2,exE3,exG]
 refine callP (fun_of Tryz.func27 rfl rfl) (u27n [98] 4 .full) (by simp only [go_sem,simprocAttr]) ?_
 simp only [go_sem,simprocAttr]
 refine callP (fun_of Tryz.func27 rfl rfl) (u27n [99] 4 .full) (by simp only [go_sem,simprocAttr]) ?_
 simp only [go_sem,simprocAttr]
 refine ⟨rfl,?_⟩
 refine callP (fun_of Tryz.func20 rfl rfl) (u20 [97]) (by simp only [go_sem,simprocAttr]) ?_
 simp only [go_sem,simprocAttr]
 refine callP (fun_of Tryz.func25 rfl rfl) (u25 (glOf exA)) (by simp only [go_sem,simprocAttr,exA,exB,exC,exD,exE1,exE2,exE3,exG]) ?_
 simp only [go_sem,simprocAttr,exA,exB,exC,exD,exE1,exE2,exE3,exG]
 refine ⟨rfl,?_⟩
 refine callP (fun_of Tryz.func27 rfl rfl) (u27n [100] 4 .full) (by simp only [go_sem,simprocAttr]) ?_
 simp only [go_sem,simprocAttr]
 refine ⟨rfl,?_⟩
 refine callP (fun_of Tryz.func20 rfl rfl) (u20 [98]) (by simp only [go_sem,simprocAttr]) ?_
 simp only [go_sem,simprocAttr]
 refine callP (fun_of Tryz.func21 rfl rfl) (u21 2) (by simp only [go_sem,simprocAttr]) ?_
 simp only [go_sem,simprocAttr]
 refine callP (fun_of Tryz.func23 rfl rfl) (u23 [120]) (by simp only [go_sem,simprocAttr]) ?_
 simp only [go_sem,simprocAttr]
 refine ⟨rfl,?_⟩
 refine callP (fun_of Tryz.func19 rfl rfl) (u19w (glOf exB) [tNum 2,tName [120]] .full) (by simp only [go_sem,simprocAttr,exA,exB,exC,exD,exE1,exE2,exE3,exG]) ?_
 simp only [go_sem,simprocAttr,exA,exB,exC,exD,exE1,exE2,exE3,exG]
 refine callP (fun_of Tryz.func20 rfl rfl) (u20 [99]) (by simp only [go_sem,simprocAttr]) ?_
 simp only [go_sem,simprocAttr]
 refine callP (fun_of Tryz.func21 rfl rfl) (u21 3) (by simp only [go_sem,simprocAttr]) ?_
 simp only [go_sem,simprocAttr]
 refine callP (fun_of Tryz.func23 rfl rfl) (u23 [121]) (by simp only [go_sem,simprocAttr]) ?_
 simp only [go_sem,simprocAttr]
 refine ⟨rfl,?_⟩
 refine callP (fun_of Tryz.func19 rfl rfl) (u19w (glOf exC) [tNum 3,tName [121]] .full) (by simp only [go_sem,simprocAttr,exA,exB,exC,exD,exE1,exE2,exE3,exG]) ?_
 simp only [go_sem,simprocAttr,exA,exB,exC,exD,exE1,exE2,exE3,exG]
 refine callP (fun_of Tryz.func22 rfl rfl) (u22 [97]) (by simp only [go_sem,simprocAttr]) ?_
 simp only [go_sem,simprocAttr]
 refine callP (fun_of Tryz.func21 rfl rfl) (u21 3) (by simp only [go_sem,simprocAttr]) ?_
 simp only [go_sem,simprocAttr]
 refine callP (fun_of Tryz.func23 rfl rfl) (u23 [121]) (by simp only [go_sem,simprocAttr]) ?_
 simp only [go_sem,simprocAttr]
 refine ⟨rfl,?_⟩
 refine callP (fun_of Tryz.func19 rfl rfl) (u19w (glNo exA) [tNum 3,tName [121]] .full) (by simp only [go_sem,simprocAttr,exA,exB,exC,exD,exE1,exE2,exE3,exG]) ?_
 simp only [go_sem,simprocAttr,exA,exB,exC,exD,exE1,exE2,exE3,exG]
 refine ⟨rfl,?_⟩
 refine callP (fun_of Tryz.func24 rfl rfl) (u24w 2 6 3 [exE1,exE2,exE3] .full) (by simp only [go_sem,simprocAttr,exA,exB,exC,exD,exE1,exE2,exE3,exG]) ?_
 simp only [go_sem,simprocAttr,exA,exB,exC,exD,exE1,exE2,exE3,exG]
 refine ⟨rfl,?_⟩
 refine callP (fun_of Tryz.func26 rfl rfl) (u26w [exD] [exG] 9 .full .full (.inr rfl)) (by simp only [go_sem,simprocAttr,exA,exB,exC,exD,exE1,exE2,exE3,exG]) ?_
 simp only [go_sem,simprocAttr,exA,exB,exC,exD,exE1,exE2,exE3,exG]
 refine callP (fun_of Tryz.func23 rfl rfl) (u23 [116]) (by simp only [go_sem,simprocAttr]) ?_
 simp only [go_sem,simprocAttr]
 refine ⟨rfl,?_⟩
 refine callP (fun_of Tryz.func20 rfl rfl) (u20 [98]) (by simp only [go_sem,simprocAttr]) ?_
 simp only [go_sem,simprocAttr]
 refine callP (fun_of Tryz.func25 rfl rfl) (u25 (glOf exB)) (by simp only [go_sem,simprocAttr,exA,exB,exC,exD,exE1,exE2,exE3,exG]) ?_
 simp only [go_sem,simprocAttr,exA,exB,exC,exD,exE1,exE2,exE3,exG]
 refine ⟨rfl,?_⟩
 refine ⟨rfl,?_⟩
 repeat refine kn rfl ?_
 refine k_ret rfl ?_
 refine post_one (.deep (WkS.slL ⟨.refl _,WkS.aggL ⟨.refl _,wk_own _ _ _,.refl _,.refl _,wk_own _ _ _,.refl _,.refl _,.nil _ _ _,trivial⟩,.refl _,WkS.aggL ⟨.refl _,.nil _ _ _,.refl _,.refl _,wk_own _ _ _,.refl _,.refl _,wk_own _ _ _,trivial⟩,trivial⟩)) (below_inss exI) rfl
end Go.Proofs.YthgbkalgmicniaaGreatDoor
