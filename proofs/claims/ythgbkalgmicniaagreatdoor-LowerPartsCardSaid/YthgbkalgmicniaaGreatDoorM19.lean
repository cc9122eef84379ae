/- Lower: the walk, for instances that bring at most one penalty. -/
import Derived.Test.YthgbkalgmicniaaGreatDoorM18
import Derived.Test.YthgbkalgmicniaaGreatDoorM13
import Derived.Test.YthgbkalgmicniaaGreatDoorM11
set_option linter.all false
namespace Go.Abs
theorem Yu {n:Nat} (L:List (Nat × Zk)) (H:Zf) (k:Nat) (x:Zk):full n ((k,x) :: L) H = (full n L H).upd n k x:=by
 funext l' k'
 simp only [full,Zf.upd,lkb]
 by_cases h:l' = n
 ·subst h
  by_cases h2:k = k'
  ·subst h2; simp
  ·simp [h2,Ne.symm h2]
 ·simp [h]
end Go.Abs
namespace Go.Proofs.YthgbkalgmicniaaGreatDoor
open Go.Abs
set_option maxRecDepth 100000
structure LOk (I:List Ins):Prop where
 i:∀ x ∈ I,ZiE x
 al:(Vr I).length ≤ 100000
 il:I.length ≤ 10000
 c:costs I + (Zo I).length ≤ 100000
def shw (k:Nat):List Int:=(List.range k).map fun i:Nat=>(i:Int) + 1
theorem Zis (k:Nat):shw (k + 1) = shw k ++ [(k:Int) + 1]:=by simp [shw,List.range_succ]
def st0 (I:List Ins):St:=⟨(Zo I).length,[],0⟩
def Fr0 (n:Nat) (I:List Ins):Fr:=⟨.sl 2 ((Zo I).map Am.enc) .any,.map n 24,.msl 1 n 23 0,.map n 19⟩
def z65:Zk:=.box [.int .i64 0,.sl 1 [] .full,.sl 1 [] .full,.sl 6 [] .full,.sl 3 [] .full]
def nms (I:List Ins):List (List UInt8):=(Zo I).map Y1
def Vg (n:Nat) (I:List Ins) (k:Nat):List (Nat × Zk) :=
 [(6,z65),(24,.map (Vl (Xo I))),(200,.buf 9 1 (Zo I).length),(9,.box [.int .i64 0,.sl 1 ((nms I).map .str) (.buf n 200),.msl 1 n 201 k,.sl 6 [] .full,.sl 3 [] .full]),(201,.ZN 3 1 ((shw k).map (AV.int .i64)) k)]
def L28 (n:Nat) (I:List Ins) (s:St) (k:Nat):List (Nat × Zk):=(21,.box (bxC n 21 (Fr0 n I) s)) :: (22,bxR s) :: (19,.map []) :: (23,.ZN 173 1 [] 0) :: Vg n I k
def ZbJ (n:Nat) (I:List Ins):List (Nat × AV):=[(0,.sl 8 (I.map Ins.enc) .any),(2,.bool false),(6,.ptr n 6 0),(8,.ptr n 21 0),(9,.ptr n 9 0)]
def Zgw (n:Nat) (I:List Ins) (H:Zf) (k:Nat):Zh :=
 ⟨(48,.int .i64 k) :: (47,.int .i64 (Zo I).length) :: (46,.sl 2 ((Zo I).map Am.enc) .any) :: ZbJ n I,L28 n I (st0 I) k,H⟩
def LP (n:Nat) (I:List Ins) (s:St) (p:Pen) (k:Nat):List (Nat × Zk) :=
 (21,.box (bxC n 21 ((Fr0 n I).one n 21) s)) :: (22,bxR s) :: (23,.ZN 173 1 [.ptr n 31 0] 1) :: (19,.map [(.str p.key,.ptr n 31 0)]) :: (31,.box p.cs) :: Vg n I k
def LO (n:Nat) (I:List Ins) (s:St) (k:Nat):Option Pen → List (Nat × Zk)
 | none=>L28 n I s k
 | some p=>LP n I s p k
def runN (n:Nat) (I:List Ins) (i:Nat):St:=Zdz (Xo I) (n + 1) (st0 I) (I.take i)
def Zit (n:Nat) (I:List Ins) (o:Option Pen) (H:Zf) (i:Nat):Zh :=
 ⟨(71,.int .i64 i) :: (70,.int .i64 I.length) :: (69,.sl 8 (I.map Ins.enc) .any) :: ZbJ n I,LO n I (runN n I i) (Zo I).length (if i = I.length then o else none),H⟩
theorem ZlE {n:Nat} {q:Nat → Prop} {I:List Ins} {s:St} (h19:q 19) (h22:q 22) (h23:q 23) (h24:q 24):Zk.Inside n q (.box (bxC n 21 ((Fr0 n I).one n 21) s)) :=
 Zk.ZG ⟨(ZO _).inside,.map _ _ (.inr ⟨rfl,h24⟩),.int _ _,YE (.inr ⟨rfl,h22⟩),YE (.inr ⟨rfl,h23⟩),.map _ _ (.inr ⟨rfl,h19⟩),.int _ _,trivial⟩
theorem ZgZ {n:Nat} {q:Nat → Prop} {I:List Ins} {s:St} (h19:q 19) (h22:q 22) (h23:q 23) (h24:q 24):Zk.Inside n q (.box (bxC n 21 (Fr0 n I) s)) :=
 Zk.ZG ⟨(ZO _).inside,.map _ _ (.inr ⟨rfl,h24⟩),.int _ _,YE (.inr ⟨rfl,h22⟩),YE (.inr ⟨rfl,h23⟩),.map _ _ (.inr ⟨rfl,h19⟩),.int _ _,trivial⟩
theorem Zai {n:Nat} {q:Nat → Prop} (l:List (List UInt8)) (h:q 200):Inside n q (.sl 1 (l.map .str) (.buf n 200)):=Zc (fun x hx=>by obtain ⟨u,_,rfl⟩:=List.mem_map.1 hx; exact .str _) h
theorem ZaO {n:Nat} {q:Nat → Prop} (l:List Int) (k:Nat):Zk.Inside n q (.ZN 3 1 (l.map (AV.int .i64)) k):=Zk.Zcj fun c hc=>by obtain ⟨u,_,rfl⟩:=List.mem_map.1 hc; exact .int _ _
theorem ZY {n k:Nat} {q:Nat → Prop}:Inside n q (.sl k [] .full):=(ZV (n:=n) (fun _ h=>by cases h) (fun _ _ e=>by cases e)).inside
theorem Ze7 {n:Nat} {q:Nat → Prop} (s:St):Zk.Inside n q (bxR s):=Zk.Zcj fun c hc=>(Js s.rules c hc).inside
theorem Zgb {n:Nat} {q:Nat → Prop} (M:List (List UInt8 × Int)):Zk.Inside n q (.map (Vl M)):=⟨fun a ha=>((Z8 (n:=n) M).1 a ha).inside,by simp [Zk.at_]⟩
theorem Zhp {n:Nat} {q:Nat → Prop} {I:List Ins} {k:Nat} (h200:q 200) (h201:q 201):Yj (fun p:Nat × Zk=>p.2.Inside n q) (Vg n I k) :=
 ⟨Zk.ZG ⟨.int _ _,ZY,ZY,ZY,ZY,trivial⟩,Zgb _,⟨by simp [Zk.avs],by simp [Zk.at_]⟩,Zk.ZG ⟨.int _ _,Zai _ h200,YE (.inr ⟨rfl,h201⟩),ZY,ZY,trivial⟩,ZaO _ _,trivial⟩
theorem Zn5 {n:Nat} {q:Nat → Prop} {I:List Ins} {s:St} {k:Nat} (h19:q 19) (h22:q 22) (h23:q 23) (h24:q 24) (h200:q 200) (h201:q 201):Yj (fun p:Nat × Zk=>p.2.Inside n q) (L28 n I s k) :=
 ⟨ZgZ h19 h22 h23 h24,Ze7 _,⟨by simp [Zk.avs],by simp [Zk.at_]⟩,⟨by simp [Zk.avs],by simp [Zk.at_]⟩,Zhp h200 h201⟩
theorem ZmC {n:Nat} {q:Nat → Prop} {k:List UInt8} (h31:q 31):Zk.Inside n q (.map [(.str k,.ptr n 31 0)]):=⟨fun a ha=>by
   simp only [Zk.avs,List.map_cons,List.map_nil,List.cons_append,List.nil_append,List.mem_cons,List.not_mem_nil,or_false] at ha
   rcases ha with rfl | rfl
   ·exact .str _
   ·exact .ptr _ _ _ (.inr ⟨rfl,h31⟩),by simp [Zk.at_]⟩
theorem inP {n:Nat} {q:Nat → Prop} {I:List Ins} {s:St} {k:Nat} {p:Pen} (h19:q 19) (h22:q 22) (h23:q 23) (h24:q 24) (h31:q 31) (h200:q 200) (h201:q 201):Yj (fun p:Nat × Zk=>p.2.Inside n q) (LP n I s p k) :=
 ⟨ZlE h19 h22 h23 h24,Ze7 _,⟨fun a ha=>by simp only [Zk.avs,List.mem_singleton] at ha; subst ha; exact .ptr _ _ _ (.inr ⟨rfl,h31⟩),by simp [Zk.at_]⟩,
  ⟨fun a ha=>by
   simp only [Zk.avs,List.map_cons,List.map_nil,List.cons_append,List.nil_append,List.mem_cons,List.not_mem_nil,or_false] at ha
   rcases ha with rfl | rfl
   ·exact .str _
   ·exact .ptr _ _ _ (.inr ⟨rfl,h31⟩),by simp [Zk.at_]⟩,(Zk.YV p.bcs).inside,Zhp h200 h201⟩
theorem inO {n:Nat} {I:List Ins} {s:St} {k:Nat}:∀ o:Option Pen,Yj (fun p:Nat × Zk=>p.2.Inside n fun j=>(lkb (LO n I s k o) j).isSome = true) (LO n I s k o)
 | none=>Zn5 rfl rfl rfl rfl rfl rfl
 | some _=>inP rfl rfl rfl rfl rfl rfl rfl
theorem inT {n:Nat} {q:Nat → Prop} {I:List Ins} (h6:q 6) (h9:q 9) (h21:q 21):Yj (fun p:Nat × AV=>Inside n q p.2) (ZbJ n I) :=
 ⟨(Zu _).inside,.bool _,.ptr _ _ _ (.inr ⟨rfl,h6⟩),.ptr _ _ _ (.inr ⟨rfl,h21⟩),.ptr _ _ _ (.inr ⟨rfl,h9⟩),trivial⟩
theorem Zjd {n:Nat} {I:List Ins} {s:St} {k:Nat}:∀ o:Option Pen,Yj (fun p:Nat × AV=>Inside n (fun j=>(lkb (LO n I s k o) j).isSome = true) p.2) (ZbJ n I)
 | none=>inT rfl rfl rfl
 | some _=>inT rfl rfl rfl
def minO:Option Pen → List GM
 | none=>[]
 | some p=>[⟨p.level,p.body,[p.weight]⟩]
def gpL (n:Nat) (I:List Ins) (o:Option Pen):GP :=
 ⟨(runN n I I.length).n,nms I ++ List.replicate ((runN n I I.length).n - (Zo I).length).toNat [],shw (Zo I).length,(runN n I I.length).rules,minO o⟩
def Zhw (n:Nat) (I:List Ins) (o:Option Pen):AV:=.tup [(gpL n I o).enc,.int .i64 0]
theorem Zfo {n:Nat} {I:List Ins} (hI:LOk I) (hsm:SmN (Xo I)) (i:Nat):(runN n I i).Fit 100000:=by
 have hc:costs (I.take i) ≤ costs I:=by
  conv=>rhs; rw [← List.take_append_drop i I]
  unfold costs; rw [List.map_append,List.sum_append]; omega
 have:=hI.c
 exact (Zjo (l:=I.take i) hsm (s:=st0 I) (k:=(Zo I).length) ⟨⟨by simp [st0],by simp [st0]⟩,by simp [st0]⟩ (fun x hx=>(hI.i x (List.mem_of_mem_take hx)).b) (by omega)).mono (by omega)
def Zkr (n:Nat) (I:List Ins) (s:St) (ow:Own) (l:List GM):Zk:=.box [.int .i64 s.n,.sl 1 ((nms I).map .str) (.buf n 200),.msl 1 n 201 (Zo I).length,.msl 6 n 22 s.rules.length,.sl 3 (l.map GM.enc) ow]
def minV:Option Pen → AV
 | none=>.sl 3 [] .full
 | some p=>.sl 3 ((minO (some p)).map GM.enc) .any
theorem flat_ints:∀ l:List Int,flat (l.map (AV.int .i64)) = l.map (AV.int .i64)
 | []=>rfl
 | a :: l=>by rw [List.map_cons,Xq,flat_ints l]; rfl
theorem Wp (k:Nat) (xs:List AV) (o:Own):WkS (.sl k xs o) (.sl k xs .any):=.sl k xs xs o rfl fun _ _ _=>.refl _
theorem Zlo (x:GR):WkS x.ZdE x.enc:=WkS.ZbX ⟨.refl _,.refl _,.refl _,.refl _,.refl _,Wp _ _ _,trivial⟩
theorem ZjO (l:List GR):WkS (.sl 6 (l.map GR.ZdE) .any) (.sl 6 (l.map GR.enc) .any):=.sl _ _ _ _ (by simp) fun i h h'=>by simp only [List.getElem_map]; exact Zlo _
theorem Zf6 {P:Program} {T:TT} {n:Nat} {t ty u:Nat} {v y r':AV} {H:Zf} {s:Zh} (r:ZE) (l k off:Nat) (cs:List AV) (h1:lkv s.tmps t = .ptr l k off) (h2:full n s.L s.H l k = some (.box cs)) (h3:T ty = some r)
  (h4:off + r.size ≤ cs.length) (h5:r.isAgg = false → off < cs.length) (hv:Wk (if r.isAgg then .agg ((cs.drop off).take r.size) else (cs.drop off).getD 0 .dead) v) (hy:Wk (lkv s.tmps u) y) (hb:Below n v) (hc:Below n y) (hr:r' = .tup [v,y]) (hH:s.H = H) :
  PostF P T n [.cell t ty,.tmp u] (fun r H'=>r = r' ∧ H' = H) .ret s:=by
 subst hr
 refine ⟨?_,[v,y],⟨?_,hy,trivial⟩,by simp [hb,hc],rfl,hH⟩
 ·intro x hx
  simp only [List.mem_cons,List.not_mem_nil,or_false] at hx
  rcases hx with rfl | rfl
  ·simp only [YH]; exact ⟨l,k,off,cs,r,h1,h2,h3,h4,h5⟩
  ·simp [YH]
 ·simp only [Zf0,h1,h2,h3]
  rw [if_pos ⟨h4,h5⟩]; exact hv
theorem ZmO (n:Nat) (H:Zf) (I:List Ins) (hls:(Zo I).length ≤ 100000) (s:St) (m:List GM) (mv:AV) (hmv:Below n mv) (hmo:mv.one = true) (hmw:WkS mv (.sl 3 (m.map GM.enc) .any)) (hn1:((Zo I).length:Int) ≤ s.n ∧ s.n ≤ 4000) (B:Nat) :
  AKc ⟨Tryz.prog,tt,⟨none,B⟩,n,Tryz.f28.ntmps⟩ [.code (Y9 Tryz.f28).snd.snd.snd.snd.snd.snd.snd.snd.snd.snd.snd]
   (PostF Tryz.prog tt n Tryz.f28.results.toList fun r H'=>r = .tup [(⟨s.n,nms I ++ List.replicate (s.n - (Zo I).length).toNat [],shw (Zo I).length,s.rules,m⟩:GP).enc,.int .i64 0] ∧ H' = H)
   ⟨[(6,.ptr n 6 0),(9,.ptr n 9 0)],[(6,z65),(9,.box [.int .i64 s.n,.sl 1 ((nms I).map .str) (.buf n 200),.msl 1 n 201 (Zo I).length,.sl 6 (s.rules.map GR.ZdE) .any,mv]),(200,.buf 9 1 (Zo I).length),(201,.ZN 3 1 ((shw (Zo I).length).map (AV.int .i64)) (Zo I).length)],H⟩:=by
 have hsl:(shw (Zo I).length).length = (Zo I).length:=by simp [shw]
 have hnl:(nms I).length = (Zo I).length:=by simp [nms]
 have hrw:∀ q,Inside n q (.sl 6 (s.rules.map GR.ZdE) .any):=fun q=>(ZK fun x hx=>by obtain ⟨u,_,rfl⟩:=List.mem_map.1 hx; exact YL u.Zml).inside
 repeat refine kn rfl ?_
 refine Yx (X5 (tm':=[(6,.ptr n 6 0),(9,.ptr n 9 0)]) (j0:=9) (i:=2) (j:=201) 14 (show 14 < 135 by decide) ((shw (Zo I).length).map (AV.int .i64)) (by decide) rfl rfl rfl (flat_ints _) (by rw [List.length_map,hsl]) (fun x hx=>?_) (fun c hc=>by obtain ⟨u,_,rfl⟩:=List.mem_map.1 hc; exact .int _ _) (fun q hq=>?_) (fun q hq=>?_)) ?_
 ·obtain ⟨u,_,rfl⟩:=List.mem_map.1 hx; rfl
 ·simp only [List.mem_cons,List.not_mem_nil,or_false] at hq
  rcases hq with rfl | rfl
  ·exact ⟨by simp,.refl _,.ptr _ _ _ (.inr ⟨rfl,by decide⟩)⟩
  ·exact ⟨by simp,.refl _,.ptr _ _ _ (.inr ⟨rfl,by decide⟩)⟩
 ·exact Yj.mem (p:=fun q:Nat × Zk=>q.2.Inside n (fun k=>k ≠ 201)) (l:=[(6,z65),(9,.box [.int .i64 s.n,.sl 1 ((nms I).map .str) (.buf n 200),.dead,.sl 6 (s.rules.map GR.ZdE) .any,mv]),(200,.buf 9 1 (Zo I).length)])
   ⟨Zk.ZG ⟨.int _ _,ZY,ZY,ZY,ZY,trivial⟩,Zk.ZG ⟨.int _ _,Zai _ (by decide),.dead,hrw _,hmv.inside,trivial⟩,⟨by simp [Zk.avs],by simp [Zk.at_]⟩,trivial⟩ q hq
 simp only [go_sem,simprocAttr,setb,delb,List.set_cons_zero,List.set_cons_succ]
 have hwz:IntKind.i64.wrap (s.n - ((Zo I).length:Int)) = s.n - ((Zo I).length:Int):=by rw [IntWalk.i64_in _ (by omega)]
 unfold z65
 refine Za tok rfl rfl ?_
 simp only [go_sem,simprocAttr,hnl,hwz]
 refine ⟨⟨by omega,rfl,ZQ (by omega),by omega⟩,?_⟩
 have hzz:∀ k,(nms I).map AV.str ++ List.replicate k (zeroV { td:=TD.str,size:=1,bytes:=16,zero:=[AV.str []] }) = (nms I ++ List.replicate k []).map AV.str:=fun k=>by rw [List.map_append,List.map_replicate]; rfl
 rw [hzz]
 refine Za tok rfl rfl ?_
 simp only [go_sem,simprocAttr]
 refine ⟨hmo,?_⟩
 refine Zi rfl rfl ?_
 refine Zf6 _ n 6 0 [.int .i64 s.n,.sl 1 ((nms I ++ List.replicate (s.n - (Zo I).length).toNat []).map .str) (.buf n 200),.sl 1 ((shw (Zo I).length).map (AV.int .i64)) .any,.sl 6 (s.rules.map GR.ZdE) .any,mv] (by simp only [go_sem,simprocAttr]) (by simp only [go_sem,simprocAttr,full]) rfl (Nat.le_refl _) (by simp only [go_sem,simprocAttr]) ?_ ?_ (GP.blw n _) (.int _ _) rfl rfl
 ·simp only [go_sem,simprocAttr]
  exact .deep (WkS.ZbX ⟨.refl _,Wp _ _ _,.refl _,ZjO _,hmw,trivial⟩)
 ·simp only [go_sem,simprocAttr]
  exact .refl _
def op28:Opt:=⟨true,false,fun d=>if d = 117 then .pure else if d = 121 then .pure else .auto,[]⟩
theorem Zm8 (n:Nat) (H:Zf) (I:List Ins) (hI:LOk I) (hn:0 < n) (hT:Tabs H) (hsm:SmN (Xo I)) (o:Option Pen)
  (hz:∀ p,o = some p → ∃ z,SmI z ∧ p.body = [z] ∧ 0 ≤ p.weight ∧ p.weight ≤ 1048576) (he:(runN n I I.length).err = 0) (hn1:((Zo I).length:Int) ≤ (runN n I I.length).n ∧ (runN n I I.length).n ≤ 4000) (hr1:((runN n I I.length).rules.length:Int) ≤ 40000) (B:Nat) :
  AKc ⟨Tryz.prog,tt,⟨none,B⟩,n,Tryz.f28.ntmps⟩ [.code (Y9 Tryz.f28).snd.snd.snd.snd.snd.snd.snd.snd]
   (PostF Tryz.prog tt n Tryz.f28.results.toList fun r H'=>r = Zhw n I o ∧ H' = H)
   ⟨ZbJ n I,LO n I (runN n I I.length) (Zo I).length o,H⟩:=by
 have hfit:=Zfo (n:=n) hI hsm I.length
 have hF0:(Fr0 n I).bel (n + 1):=⟨ZO _,.map _ _ (Nat.lt_succ_self n),.msl _ _ _ _ (Nat.lt_succ_self n),.map _ _ (Nat.lt_succ_self n),trivial⟩
 have hTn:∀ L,Tabs (full n L H):=fun L=>hT.full hn
 have h71:PC Tryz.prog (n + 1) 71 [.ptr n 21 0] (full n (LO n I (runN n I I.length) (Zo I).length o) H) (minV o):=by
  cases o with
  | none =>
   show PC Tryz.prog (n + 1) 71 [.ptr n 21 0] (full n (L28 n I (runN n I I.length) (Zo I).length) H) (.sl 3 [] .full)
   unfold L28
   rw [Yu,Yu]
   exact ZnS (n + 1) _ n 21 19 (Fr0 n I) _ (Nat.lt_succ_self n) hF0 ⟨rfl,rfl,by simp only [go_sem,simprocAttr,full],by simp only [go_sem,simprocAttr,full],by simp only [go_sem,simprocAttr,full,Vg],by decide⟩
  | some p =>
   obtain ⟨z,z1,z2,z3⟩:=hz p rfl
   show PC Tryz.prog (n + 1) 71 [.ptr n 21 0] (full n (LP n I (runN n I I.length) p (Zo I).length) H) (.sl 3 ((minO (some p)).map GM.enc) .any)
   unfold LP
   rw [Yu,Yu,Yu,Yu,Yu]
   have h:=Znv (n + 1) (full n (Vg n I (Zo I).length) H) n 21 19 (Fr0 n I) (runN n I I.length) (Nat.lt_succ_self n) (by decide) hn hF0 (hfit.mono (by omega)) (hTn _) p z z1 z2 z3
   rw [← z2] at h
   exact h
 unfold Zhw gpL
 have hil:=hI.c
 have hls:(Zo I).length ≤ 100000:=by omega
 generalize hs:runN n I I.length = s at *
 cases o with
 | none =>
  unfold LO ZbJ L28 Vg z65 at *
  refine Za tok rfl rfl ?_
  simp only [go_sem,simprocAttr]
  refine XZ (Zb Tryz.func71 rfl rfl) h71 (by simp only [go_sem,simprocAttr]) ?_
  simp only [go_sem,simprocAttr,minV]
  have hb0:bxC n 21 (Fr0 n I) s = [.sl 2 ((Zo I).map Am.enc) .any,.map n 24,.int .i64 s.n,.msl 6 n 22 s.rules.length,.msl 1 n 23 0,.map n 19,.int .i64 0]:=by rw [← he]; rfl
  rw [hb0]
  have hn4:¬ (4000 < s.n):=by omega
  have hr4:¬ ((40000:Int) < s.rules.length):=by omega
  refine Za tok rfl rfl ?_
  simp only [go_sem,simprocAttr]
  refine Zn rfl rfl rfl ?_
  refine Za tok rfl rfl ?_
  simp only [go_sem,simprocAttr,hn4,hr4]
  refine Zn rfl rfl (by simp only [go_sem,simprocAttr,hn4,hr4]) ?_
  refine ZM rfl ?_
  repeat refine kn rfl ?_
  refine Ym 21 [.sl 2 ((Zo I).map Am.enc) .any,.map n 24,.int .i64 s.n,.msl 6 n 22 s.rules.length,.msl 1 n 23 0,.map n 19,.int .i64 0] [(6,.ptr n 6 0),(8,.ZA [.sl 2 ((Zo I).map Am.enc) .any,.map n 24,.int .i64 s.n,.msl 6 n 22 s.rules.length,.msl 1 n 23 0,.map n 19,.int .i64 0]),(9,.ptr n 9 0)] rfl
   ⟨(ZO _).inside,.map _ _ (.inr ⟨rfl,by decide⟩),.int _ _,YE (.inr ⟨rfl,by decide⟩),YE (.inr ⟨rfl,by decide⟩),.map _ _ (.inr ⟨rfl,by decide⟩),.int _ _,trivial⟩
   ⟨.inl ⟨.refl _,.ptr _ _ _ (.inr ⟨rfl,by decide⟩)⟩,.inr ⟨0,rfl,rfl⟩,.inl ⟨.refl _,.ptr _ _ _ (.inr ⟨rfl,by decide⟩)⟩,trivial⟩
   ⟨Ze7 _,⟨by simp [Zk.avs],by simp [Zk.at_]⟩,⟨by simp [Zk.avs],by simp [Zk.at_]⟩,Zk.ZG ⟨.int _ _,ZY,ZY,ZY,ZY,trivial⟩,Zgb _,⟨by simp [Zk.avs],by simp [Zk.at_]⟩,Zk.ZG ⟨.int _ _,Zai _ (by decide),YE (.inr ⟨rfl,by decide⟩),ZY,ZY,trivial⟩,ZaO _ _,trivial⟩ ?_
  simp only [go_sem,simprocAttr,delb]
  repeat refine kn rfl ?_
  refine WH tok mixed op28 rfl rfl (by kernel_rfl) (by kernel_rfl) ?_
  simp only [go_sem,simprocAttr,op28]
  refine Yx (s':=⟨[(6,.ptr n 6 0),(9,.ptr n 9 0)],[(6,z65),(9,Zkr n I s .full []),(22,bxR s),(200,.buf 9 1 (Zo I).length),(201,.ZN 3 1 ((shw (Zo I).length).map (AV.int .i64)) (Zo I).length)],H⟩) ?_ ?_
  ·unfold z65 Zkr
   refine Zg ⟨.refl _,.refl _,trivial⟩ ⟨rfl,rfl,rfl,rfl,rfl,trivial⟩ ⟨.ptr _ _ _ (.inr ⟨rfl,rfl⟩),.ptr _ _ _ (.inr ⟨rfl,rfl⟩),trivial⟩
    ⟨Zk.ZG ⟨.int _ _,ZY,ZY,ZY,ZY,trivial⟩,Zk.ZG ⟨.int _ _,Zai _ rfl,YE (.inr ⟨rfl,rfl⟩),YE (.inr ⟨rfl,rfl⟩),ZY,trivial⟩,Ze7 _,⟨by simp [Zk.avs],by simp [Zk.at_]⟩,ZaO _ _,trivial⟩
  refine Yx (X5 (tm':=[(6,.ptr n 6 0),(9,.ptr n 9 0)]) (j0:=9) (i:=3) (j:=22) 14 (show 14 < 135 by decide) (s.rules.map GR.ZdE) (by decide) rfl rfl rfl (Ze5 GR.raw GR.ZdE (fun _=>rfl) s.rules) (by simp) (fun x hx=>?_) (fun c hc=>(Js s.rules c hc).inside) (fun q hq=>?_) (fun q hq=>?_)) ?_
  ·obtain ⟨u,_,rfl⟩:=List.mem_map.1 hx; rfl
  ·simp only [List.mem_cons,List.not_mem_nil,or_false] at hq
   rcases hq with rfl | rfl
   ·exact ⟨by simp,.refl _,.ptr _ _ _ (.inr ⟨rfl,by decide⟩)⟩
   ·exact ⟨by simp,.refl _,.ptr _ _ _ (.inr ⟨rfl,by decide⟩)⟩
  ·exact Yj.mem (p:=fun q:Nat × Zk=>q.2.Inside n (fun k=>k ≠ 22)) (l:=[(6,z65),(9,.box [.int .i64 s.n,.sl 1 ((nms I).map .str) (.buf n 200),.msl 1 n 201 (Zo I).length,.dead,.sl 3 [] .full]),(200,.buf 9 1 (Zo I).length),(201,.ZN 3 1 ((shw (Zo I).length).map (AV.int .i64)) (Zo I).length)])
    ⟨Zk.ZG ⟨.int _ _,ZY,ZY,ZY,ZY,trivial⟩,Zk.ZG ⟨.int _ _,Zai _ (by decide),YE (.inr ⟨rfl,by decide⟩),.dead,ZY,trivial⟩,⟨by simp [Zk.avs],by simp [Zk.at_]⟩,ZaO _ _,trivial⟩ q hq
  simp only [go_sem,simprocAttr,setb,delb,List.set_cons_zero,List.set_cons_succ]
  exact ZmO n H I hls s [] (.sl 3 [] .full) (ZV (fun _ h=>by cases h) (fun _ _ e=>by cases e)) rfl (WkS.nil 3 3 .full) hn1 B
 | some p =>
  unfold LO ZbJ LP Vg z65 at *
  refine Za tok rfl rfl ?_
  simp only [go_sem,simprocAttr]
  refine XZ (Zb Tryz.func71 rfl rfl) h71 (by simp only [go_sem,simprocAttr]) ?_
  simp only [go_sem,simprocAttr,minV]
  generalize hm:minO (some p) = m at *
  have hml:m.length = 1:=by rw [← hm]; rfl
  have hb0:bxC n 21 ((Fr0 n I).one n 21) s = [.sl 2 ((Zo I).map Am.enc) .any,.map n 24,.int .i64 s.n,.msl 6 n 22 s.rules.length,.msl 1 n 23 1,.map n 19,.int .i64 0]:=by rw [← he]; rfl
  rw [hb0]
  have hn4:¬ (4000 < s.n):=by omega
  have hr4:¬ ((40000:Int) < s.rules.length):=by omega
  refine Za tok rfl rfl ?_
  simp only [go_sem,simprocAttr]
  refine Zn rfl rfl rfl ?_
  refine Za tok rfl rfl ?_
  simp only [go_sem,simprocAttr,hn4,hr4,hml]
  refine Zn rfl rfl (by simp only [go_sem,simprocAttr,hn4,hr4]) ?_
  refine ZM rfl ?_
  repeat refine kn rfl ?_
  refine Ym 21 [.sl 2 ((Zo I).map Am.enc) .any,.map n 24,.int .i64 s.n,.msl 6 n 22 s.rules.length,.msl 1 n 23 1,.map n 19,.int .i64 0] [(6,.ptr n 6 0),(8,.ZA [.sl 2 ((Zo I).map Am.enc) .any,.map n 24,.int .i64 s.n,.msl 6 n 22 s.rules.length,.msl 1 n 23 1,.map n 19,.int .i64 0]),(9,.ptr n 9 0)] rfl
   ⟨(ZO _).inside,.map _ _ (.inr ⟨rfl,by decide⟩),.int _ _,YE (.inr ⟨rfl,by decide⟩),YE (.inr ⟨rfl,by decide⟩),.map _ _ (.inr ⟨rfl,by decide⟩),.int _ _,trivial⟩
   ⟨.inl ⟨.refl _,.ptr _ _ _ (.inr ⟨rfl,by decide⟩)⟩,.inr ⟨0,rfl,rfl⟩,.inl ⟨.refl _,.ptr _ _ _ (.inr ⟨rfl,by decide⟩)⟩,trivial⟩
   ⟨Ze7 _,⟨fun a ha=>by simp only [Zk.avs,List.mem_singleton] at ha; subst ha; exact .ptr _ _ _ (.inr ⟨rfl,by decide⟩),by simp [Zk.at_]⟩,ZmC (by decide),(Zk.YV p.bcs).inside,Zk.ZG ⟨.int _ _,ZY,ZY,ZY,ZY,trivial⟩,Zgb _,⟨by simp [Zk.avs],by simp [Zk.at_]⟩,Zk.ZG ⟨.int _ _,Zai _ (by decide),YE (.inr ⟨rfl,by decide⟩),ZY,(WE m).inside,trivial⟩,ZaO _ _,trivial⟩ ?_
  simp only [go_sem,simprocAttr,delb]
  repeat refine kn rfl ?_
  refine WH tok mixed op28 rfl rfl (by kernel_rfl) (by kernel_rfl) ?_
  simp only [go_sem,simprocAttr,op28]
  refine Yx (s':=⟨[(6,.ptr n 6 0),(9,.ptr n 9 0)],[(6,z65),(9,Zkr n I s .any m),(22,bxR s),(200,.buf 9 1 (Zo I).length),(201,.ZN 3 1 ((shw (Zo I).length).map (AV.int .i64)) (Zo I).length)],H⟩) ?_ ?_
  ·unfold z65 Zkr
   refine Zg ⟨.refl _,.refl _,trivial⟩ ⟨rfl,rfl,rfl,rfl,rfl,trivial⟩ ⟨.ptr _ _ _ (.inr ⟨rfl,rfl⟩),.ptr _ _ _ (.inr ⟨rfl,rfl⟩),trivial⟩
    ⟨Zk.ZG ⟨.int _ _,ZY,ZY,ZY,ZY,trivial⟩,Zk.ZG ⟨.int _ _,Zai _ rfl,YE (.inr ⟨rfl,rfl⟩),YE (.inr ⟨rfl,rfl⟩),(WE m).inside,trivial⟩,Ze7 _,⟨by simp [Zk.avs],by simp [Zk.at_]⟩,ZaO _ _,trivial⟩
  refine Yx (X5 (tm':=[(6,.ptr n 6 0),(9,.ptr n 9 0)]) (j0:=9) (i:=3) (j:=22) 14 (show 14 < 135 by decide) (s.rules.map GR.ZdE) (by decide) rfl rfl rfl (Ze5 GR.raw GR.ZdE (fun _=>rfl) s.rules) (by simp) (fun x hx=>?_) (fun c hc=>(Js s.rules c hc).inside) (fun q hq=>?_) (fun q hq=>?_)) ?_
  ·obtain ⟨u,_,rfl⟩:=List.mem_map.1 hx; rfl
  ·simp only [List.mem_cons,List.not_mem_nil,or_false] at hq
   rcases hq with rfl | rfl
   ·exact ⟨by simp,.refl _,.ptr _ _ _ (.inr ⟨rfl,by decide⟩)⟩
   ·exact ⟨by simp,.refl _,.ptr _ _ _ (.inr ⟨rfl,by decide⟩)⟩
  ·exact Yj.mem (p:=fun q:Nat × Zk=>q.2.Inside n (fun k=>k ≠ 22)) (l:=[(6,z65),(9,.box [.int .i64 s.n,.sl 1 ((nms I).map .str) (.buf n 200),.msl 1 n 201 (Zo I).length,.dead,.sl 3 (m.map GM.enc) .any]),(200,.buf 9 1 (Zo I).length),(201,.ZN 3 1 ((shw (Zo I).length).map (AV.int .i64)) (Zo I).length)])
    ⟨Zk.ZG ⟨.int _ _,ZY,ZY,ZY,ZY,trivial⟩,Zk.ZG ⟨.int _ _,Zai _ (by decide),YE (.inr ⟨rfl,by decide⟩),.dead,(WE m).inside,trivial⟩,⟨by simp [Zk.avs],by simp [Zk.at_]⟩,ZaO _ _,trivial⟩ q hq
  simp only [go_sem,simprocAttr,setb,delb,List.set_cons_zero,List.set_cons_succ]
  exact ZmO n H I hls s m (.sl 3 (m.map GM.enc) .any) (WE m) rfl (.refl _) hn1 B
theorem Zm9 (n:Nat) (H:Zf) (I:List Ins) (hI:LOk I) (hn:0 < n) (hT:Tabs H) (hsm:SmN (Xo I)) (o:Option Pen)
  (hp:∀ i (h:i < I.length),ZaK (Xo I) (n + 1) (runN n I i) I[i] = if i + 1 = I.length then o else none) (ho:I = [] → o = none)
  (hz:∀ p,o = some p → ∃ z,SmI z ∧ p.body = [z] ∧ 0 ≤ p.weight ∧ p.weight ≤ 1048576) (he:(runN n I I.length).err = 0) (hn1:((Zo I).length:Int) ≤ (runN n I I.length).n ∧ (runN n I I.length).n ≤ 4000) (hr1:((runN n I I.length).rules.length:Int) ≤ 40000) (B:Nat) :
  AKc ⟨Tryz.prog,tt,⟨none,B⟩,n,Tryz.f28.ntmps⟩ [.code (Y9 Tryz.f28).snd.snd.snd.snd.snd.snd.snd]
   (PostF Tryz.prog tt n Tryz.f28.results.toList fun r H'=>r = Zhw n I o ∧ H' = H)
   (Zgw n I H (Zo I).length):=by
 unfold Zgw ZbJ
 have hil:=hI.il
 refine Za tok rfl rfl ?_
 simp only [go_sem,simprocAttr]
 have hfit:=Zfo (n:=n) hI hsm
 refine XF ⟨ZbJ n I,LO n I (runN n I I.length) (Zo I).length o,H⟩ ?_ ?_
 ·repeat refine kn rfl ?_
  refine Zy (Zit n I o H) I.length rfl ?_ ?_
  ·have e0:(if 0 = I.length then o else none) = none:=by
    split
    ·rename_i e; exact ho (List.eq_nil_of_length_eq_zero e.symm)
    ·rfl
   have e1:runN n I 0 = st0 I:=by simp [runN,Zdz]
   unfold Zit
   rw [e0,e1]
   exact Zg ⟨.refl _,.refl _,.refl _,.refl _,.refl _,.refl _,.refl _,.refl _,trivial⟩ ⟨rfl,rfl,rfl,rfl,rfl,rfl,rfl,rfl,rfl,trivial⟩ ⟨.int _ _,.int _ _,(Zu _).inside,Zjd none⟩ (inO none)
  intro i hi
  refine Yi rfl ?_
  rcases Nat.lt_or_ge i I.length with h | h
  ·rw [if_neg (by omega)]
   unfold LO ZbJ L28 Vg z65
   refine Za tok rfl rfl ?_
   simp only [go_sem,simprocAttr,h]
   refine Zp rfl rfl rfl ?_
   refine Za tok rfl rfl ?_
   simp only [go_sem,simprocAttr,getD_map Ins.enc _ _ h,h]
   refine Za tok rfl rfl ?_
   simp only [go_sem,simprocAttr]
   have hF0:(Fr0 n I).bel (n + 1):=⟨ZO _,.map _ _ (Nat.lt_succ_self n),.msl _ _ _ _ (Nat.lt_succ_self n),.map _ _ (Nat.lt_succ_self n),trivial⟩
   have hnx:runN n I (i + 1) = Zba (Xo I) (n + 1) (runN n I i) I[i]:=Zii _ _ _ _ _ h
   refine Xk (caps:=[]) (avs:=[.ptr n 21 0,I[i].enc]) rfl (Zb Tryz.func70 rfl rfl) (by rw [List.append_nil,Yu,Yu]; exact b70 (n + 1) _ n 21 19 (Fr0 n I) (runN n I i) (Nat.lt_succ_self n) hn hF0 (hfit i) n 24 (Xo I) rfl (Nat.lt_succ_self n) (by omega) (by omega) (by simp only [go_sem,simprocAttr,full]) hsm (hT.full hn) I[i] (hI.i _ (List.getElem_mem h)) (fun _ _=>⟨rfl,rfl,by simp only [go_sem,simprocAttr,full],by simp only [go_sem,simprocAttr,full],by simp only [go_sem,simprocAttr,full],by decide⟩)) (by simp only [go_sem,simprocAttr]) ?_
   rintro r H1 ⟨rfl,h1⟩
   rw [hp i h,← hnx] at h1
   have e0:∀ (R:List (Nat × Zk)) (F:Fr) (s:St),bxH (full n R H) n 21 F s = full n ((21,.box (bxC n 21 F s)) :: (22,bxR s) :: R) H:=fun R F s=>by rw [Yu,Yu]; rfl
   have e1:∀ (R:List (Nat × Zk)) (F:Fr) (s:St) (p:Pen),bxH (V9 (full n R H) n 21 19 p) n 21 F s = full n ((21,.box (bxC n 21 F s)) :: (22,bxR s) :: (23,.ZN 173 1 [.ptr n 31 0] 1) :: (19,.map [(.str p.key,.ptr n 31 0)]) :: (31,.box p.cs) :: R) H:=fun R F s p=>by
    rw [Yu,Yu,Yu,Yu,Yu]; rfl
   have hwi:IntKind.i64.wrap ((i:Int) + 1) = (i:Int) + 1:=by rw [IntWalk.i64_in _ (by omega)]
   by_cases hl:i + 1 = I.length
   ·rw [if_pos hl] at h1
    cases o with
    | none =>
     simp only at h1
     rw [e0] at h1
     refine ⟨_,H,h1,.refl _ _,?_⟩
     simp only [go_sem,simprocAttr]
     refine Za tok rfl rfl ?_
     simp only [go_sem,simprocAttr,hwi]
     refine Zt rfl ?_
     unfold Zit
     rw [if_pos hl]
     exact Zg ⟨.refl _,.refl _,.refl _,.refl _,.refl _,.refl _,.refl _,.refl _,trivial⟩ ⟨rfl,rfl,rfl,rfl,rfl,rfl,rfl,rfl,rfl,trivial⟩ ⟨.int _ _,.int _ _,(Zu _).inside,Zjd none⟩ (inO none)
    | some p =>
     simp only at h1
     rw [e1] at h1
     refine ⟨_,H,h1,.refl _ _,?_⟩
     simp only [go_sem,simprocAttr]
     refine Za tok rfl rfl ?_
     simp only [go_sem,simprocAttr,hwi]
     refine Zt rfl ?_
     unfold Zit
     rw [if_pos hl]
     exact Zg ⟨.refl _,.refl _,.refl _,.refl _,.refl _,.refl _,.refl _,.refl _,trivial⟩ ⟨rfl,rfl,rfl,rfl,rfl,rfl,rfl,rfl,rfl,rfl,trivial⟩ ⟨.int _ _,.int _ _,(Zu _).inside,Zjd (some p)⟩ (inO (some p))
   ·rw [if_neg hl] at h1
    simp only at h1
    rw [e0] at h1
    refine ⟨_,H,h1,.refl _ _,?_⟩
    simp only [go_sem,simprocAttr]
    refine Za tok rfl rfl ?_
    simp only [go_sem,simprocAttr,hwi]
    refine Zt rfl ?_
    unfold Zit
    rw [if_neg hl]
    exact Zg ⟨.refl _,.refl _,.refl _,.refl _,.refl _,.refl _,.refl _,.refl _,trivial⟩ ⟨rfl,rfl,rfl,rfl,rfl,rfl,rfl,rfl,rfl,trivial⟩ ⟨.int _ _,.int _ _,(Zu _).inside,Zjd none⟩ (inO none)
  ·refine Za tok rfl rfl ?_
   simp only [go_sem,simprocAttr,Nat.not_lt.2 h]
   refine Zn rfl rfl rfl ?_
   refine Yh rfl rfl rfl rfl ?_
   have hi':i = I.length:=by omega
   subst hi'
   rw [if_pos rfl]
   refine Zt rfl ?_
   refine ⟨rfl,?_⟩
   refine Zg ⟨.refl _,.refl _,.refl _,.refl _,.refl _,trivial⟩ ?_ (Zjd o) (inO o)
   cases o with
   | none=>exact ⟨rfl,rfl,rfl,rfl,rfl,rfl,rfl,rfl,rfl,trivial⟩
   | some p=>exact ⟨rfl,rfl,rfl,rfl,rfl,rfl,rfl,rfl,rfl,rfl,trivial⟩
 ·exact Zm8 n H I hI hn hT hsm o hz he hn1 hr1 B
theorem b28 (n:Nat) (H:Zf) (I:List Ins) (hI:LOk I) (hn:0 < n) (hT:Tabs H) (hsm:SmN (Xo I)) (o:Option Pen) (sh:AV) (hsh:Below n sh) (hnm:∀ a ∈ Zo I,(Y1 a).length ≤ 200)
  (hp:∀ i (h:i < I.length),ZaK (Xo I) (n + 1) (runN n I i) I[i] = if i + 1 = I.length then o else none) (ho:I = [] → o = none)
  (hz:∀ p,o = some p → ∃ z,SmI z ∧ p.body = [z] ∧ 0 ≤ p.weight ∧ p.weight ≤ 1048576) (he:(runN n I I.length).err = 0) (hn1:((Zo I).length:Int) ≤ (runN n I I.length).n ∧ (runN n I I.length).n ≤ 4000) (hr1:((runN n I I.length).rules.length:Int) ≤ 40000) :
  PC Tryz.prog n 28 [.sl 8 (I.map Ins.enc) .any,sh,.bool false] H (Zhw n I o):=by
 have hg:∀ x ∈ I,x.Good:=fun x hx=>(hI.i x hx).g
 have hv:I.any (fun x=>!Ya x) = false:=by
  rw [List.any_eq_false]; intro x hx; simp [(hI.i x hx).v]
 have hil:=hI.il
 refine Zm tok (Zb Tryz.func28 rfl rfl) (by simp) fun B=>?_
 refine Za tok rfl rfl ?_
 simp only [go_sem,simprocAttr]
 refine Za tok rfl rfl ?_
 simp only [go_sem,simprocAttr]
 refine ZH (Zb Tryz.func62 rfl rfl) (c62 I (by omega) 63 [] (fun x=>!Ya x) ⟨⟨_,_,Zb Tryz.func63 rfl rfl⟩,fun x hx=>Znf x (hg x hx),fun _=>trivial⟩) hn hT rfl ?_
 simp only [go_sem,simprocAttr]
 rw [hv]
 refine Zn rfl rfl rfl ?_
 refine ZM rfl ?_
 refine Za tok rfl rfl ?_
 simp only [go_sem,simprocAttr]
 refine Xk (caps:=[]) (avs:=[.sl 8 (I.map Ins.enc) .any]) rfl (Zb Tryz.func64 rfl rfl) (by rw [List.append_nil]; exact b64 (n + 1) _ I hg (Nat.succ_pos n) (hT.full hn) hI.al (by omega) n 24 (Nat.lt_succ_self n) (by simp only [go_sem,simprocAttr,full])) (by simp only [go_sem,simprocAttr]) ?_
 rintro r H1 ⟨rfl,rfl⟩
 refine ⟨_,H,(ZU n _ H 24 _).symm,.refl _ _,?_⟩
 simp only [go_sem,simprocAttr,setb]
 have hls:(Zo I).length ≤ 100000:=by have:=hI.c; omega
 have hgS:∀ a ∈ Zo I,a.Good:=fun a ha=>ZbY (P:=Am.Good) (Vr I) tb0 (by simp [tb0]) (Zeb hg) a ((WQ ltA _).mem_iff.1 ha)
 refine Za tok rfl rfl ?_
 simp only [go_sem,simprocAttr]
 repeat refine kn rfl ?_
 refine Wl 21 22 3 70 6 rfl rfl rfl ?_
 refine Wl 21 23 4 173 1 rfl rfl rfl ?_
 simp only [go_sem,simprocAttr,List.set_cons_succ,List.set_cons_zero]
 refine Za tok rfl rfl ?_
 simp only [go_sem,simprocAttr]
 refine Xk (caps:=[]) (avs:=[.sl 2 ((Zo I).map Am.enc) .any,.fn (.func 17) []]) rfl (Zb Tryz.func65 rfl rfl) (by rw [List.append_nil]; exact b65 (n + 1) _ (Zo I) (by omega) hgS (hT.full hn) n 200 (Nat.lt_succ_self n) hn (by simp only [go_sem,simprocAttr,full,setb])) (by simp only [go_sem,simprocAttr]) ?_
 rintro r H1 ⟨rfl,rfl⟩
 refine ⟨_,H,(ZU n _ H 200 _).symm,.refl _ _,?_⟩
 simp only [go_sem,simprocAttr,setb]
 have hnl:((Zo I).map Y1).any (fun s:List UInt8=>decide (200 < (s.length:Int))) = false:=by
  rw [List.any_eq_false]; intro s hs
  obtain ⟨a,ha,rfl⟩:=List.mem_map.1 hs
  have:=hnm a ha
  simp; omega
 refine Za tok rfl rfl ?_
 simp only [go_sem,simprocAttr]
 refine ZH (Zb Tryz.func66 rfl rfl) ((c66 ((Zo I).map Y1) (by rw [List.length_map]; omega) 67 [] (fun s:List UInt8=>decide (200 < (s.length:Int))) ⟨⟨_,_,Zb Tryz.func67 rfl rfl⟩,fun s _=>Abs.Pure.tabs (ZnZ s),fun _=>trivial⟩).args (args':=[.sl 1 (((Zo I).map Y1).map .str) (.buf n 200),.fn (.func 67) []]) ⟨.any _ _ _,.refl _,trivial⟩) hn hT rfl ?_
 simp only [go_sem,simprocAttr]
 rw [hnl]
 refine Zn rfl rfl rfl ?_
 refine ZM rfl ?_
 refine Za tok rfl rfl ?_
 simp only [go_sem,simprocAttr]
 refine Wl 9 201 2 3 1 rfl rfl rfl ?_
 simp only [go_sem,simprocAttr,List.set_cons_succ,List.set_cons_zero]
 refine XF (Zgw n I H (Zo I).length) ?_ ?_
 ·repeat refine kn rfl ?_
  refine Zy (Zgw n I H) (Zo I).length rfl ?_ ?_
  ·unfold Zgw ZbJ L28 Vg z65
   refine Zg ?_ ?_ ?_ ?_ <;> repeat' first|exact trivial|refine q0 ?_|exact qb|exact q1|exact q2|exact q3|exact rfl|refine And.intro ?_ ?_|exact qA rfl|exact Inside.ptr _ _ _ (.inr ⟨rfl,rfl⟩)|exact Tm.ins _|exact Tm.Zj _ _|exact Am.ins _|exact Am.Zj _ _|refine Zd ?_|refine Tm.Zc ?_|refine Am.Zc ?_
   all_goals first | exact rfl | exact ZgZ rfl rfl rfl rfl | exact Ze7 _ | exact ZY | exact ZaO _ _ | exact Zai _ rfl | exact (Zu _).inside | exact (ZO _).inside | exact YE (.inr ⟨rfl,rfl⟩) | exact Inside.map _ _ (.inr ⟨rfl,rfl⟩) | exact Inside.ptr _ _ _ (.inr ⟨rfl,rfl⟩) | exact ⟨fun a ha=>((Z8 (n:=n) _).1 a ha).inside,by simp [Zk.at_]⟩ | exact ZC (fun c hc=>by obtain ⟨u,_,rfl⟩:=List.mem_map.1 hc; exact .int _ _) | exact ZC fun c hc=>((Z8 (n:=n) _).1 c hc).inside | skip
  intro k hk
  refine Yi rfl ?_
  rcases Nat.lt_or_ge k (Zo I).length with h | h
  ·unfold ZbJ L28 Vg z65
   refine Za tok rfl rfl ?_
   simp only [go_sem,simprocAttr,h]
   refine Zp rfl rfl rfl ?_
   refine Za tok rfl rfl ?_
   simp only [go_sem,simprocAttr,getD_map Am.enc _ _ h,h]
   refine Za tok rfl rfl ?_
   simp only [go_sem,simprocAttr]
   refine Zp rfl rfl rfl ?_
   have hw:IntKind.i64.wrap ((k:Int) + 1) = (k:Int) + 1:=by rw [IntWalk.i64_in _ (by omega)]
   have hsu:(shw k).map (AV.int .i64) ++ flat [AV.int .i64 ((k:Int) + 1)] = (shw (k + 1)).map (AV.int .i64):=by rw [Zis,List.map_append]; rfl
   refine Za tok rfl rfl ?_
   simp only [go_sem,simprocAttr,hw]
   refine ⟨rfl,⟨ZQ (by omega),by omega⟩,?_⟩
   rw [hsu]
   refine Za tok rfl rfl ?_
   simp only [go_sem,simprocAttr,hw]
   refine Zt rfl ?_
   unfold Zgw ZbJ L28 Vg z65
   refine Zg ?_ ?_ ?_ ?_ <;> repeat' first|exact trivial|refine q0 ?_|exact qb|exact q1|exact q2|exact q3|exact rfl|refine And.intro ?_ ?_|exact qA rfl|exact Inside.ptr _ _ _ (.inr ⟨rfl,rfl⟩)|exact Tm.ins _|exact Tm.Zj _ _|exact Am.ins _|exact Am.Zj _ _|refine Zd ?_|refine Tm.Zc ?_|refine Am.Zc ?_
   all_goals first | exact rfl | exact ZgZ rfl rfl rfl rfl | exact Ze7 _ | exact ZY | exact ZaO _ _ | exact Zai _ rfl | exact (Zu _).inside | exact (ZO _).inside | exact YE (.inr ⟨rfl,rfl⟩) | exact Inside.map _ _ (.inr ⟨rfl,rfl⟩) | exact Inside.ptr _ _ _ (.inr ⟨rfl,rfl⟩) | exact ⟨fun a ha=>((Z8 (n:=n) _).1 a ha).inside,by simp [Zk.at_]⟩ | exact ZC (fun c hc=>by obtain ⟨u,_,rfl⟩:=List.mem_map.1 hc; exact .int _ _) | exact ZC fun c hc=>((Z8 (n:=n) _).1 c hc).inside | skip
  ·refine Za tok rfl rfl ?_
   simp only [go_sem,simprocAttr,Nat.not_lt.2 h]
   refine Zn rfl rfl rfl ?_
   refine Yh rfl rfl rfl rfl ?_
   have hk':k = (Zo I).length:=by omega
   subst hk'
   refine Zt rfl ?_
   refine ⟨rfl,?_⟩
   unfold Zgw ZbJ L28 Vg z65
   refine Zg ?_ ?_ ?_ ?_ <;> repeat' first|exact trivial|refine q0 ?_|exact qb|exact q1|exact q2|exact q3|exact rfl|refine And.intro ?_ ?_|exact qA rfl|exact Inside.ptr _ _ _ (.inr ⟨rfl,rfl⟩)|exact Tm.ins _|exact Tm.Zj _ _|exact Am.ins _|exact Am.Zj _ _|refine Zd ?_|refine Tm.Zc ?_|refine Am.Zc ?_
   all_goals first | exact rfl | exact ZgZ rfl rfl rfl rfl | exact Ze7 _ | exact ZY | exact ZaO _ _ | exact Zai _ rfl | exact (Zu _).inside | exact (ZO _).inside | exact YE (.inr ⟨rfl,rfl⟩) | exact Inside.map _ _ (.inr ⟨rfl,rfl⟩) | exact Inside.ptr _ _ _ (.inr ⟨rfl,rfl⟩) | exact ⟨fun a ha=>((Z8 (n:=n) _).1 a ha).inside,by simp [Zk.at_]⟩ | exact ZC (fun c hc=>by obtain ⟨u,_,rfl⟩:=List.mem_map.1 hc; exact .int _ _) | exact ZC fun c hc=>((Z8 (n:=n) _).1 c hc).inside | skip
 exact Zm9 n H I hI hn hT hsm o hp ho hz he hn1 hr1 _
end Go.Proofs.YthgbkalgmicniaaGreatDoor

/- Lower: the errors of its arguments. -/
namespace Go.Proofs.YthgbkalgmicniaaGreatDoor
open Go.Abs
set_option maxRecDepth 100000
end Go.Proofs.YthgbkalgmicniaaGreatDoor

/- The laws' small constructors. -/
namespace Go.Proofs.YthgbkalgmicniaaGreatDoor
open Go.Abs
set_option maxRecDepth 100000
theorem u27 (p:List UInt8) (l:List Tm):Pure Tryz.prog 27 [.str p,.sl 4 (l.map Tm.enc) .any] (Am.mk p l).enc:=by
 intro n H
 refine Zm tok (Zb Tryz.func27 rfl rfl) (by simp) fun B=>?_
 refine Za tok rfl rfl ?_
 simp only [go_sem,simprocAttr]
 refine Za tok rfl rfl ?_
 simp only [go_sem,simprocAttr]
 refine Zi rfl rfl ?_
 refine Xa (.inl rfl) _ n 4 0 (Am.mk p l).cs (by simp only [go_sem,simprocAttr]) (by simp only [go_sem,simprocAttr,full]) rfl (Nat.le_refl _) (by simp only [go_sem,simprocAttr]) ?_ (Am.blw _ _) rfl
 simp only [go_sem,simprocAttr]
 exact .refl _
theorem Zig (p:List UInt8) (k:Nat) (o:Own):Pure Tryz.prog 27 [.str p,.sl k [] o] (Am.mk p []).enc:=Pure.wk (u27 p []) ⟨.refl _,.nil _ _ _,trivial⟩
theorem u21 (m:Int):Pure Tryz.prog 21 [.int .i64 m] (ZcZ m).enc:=by
 intro n H
 refine Zm tok (Zb Tryz.func21 rfl rfl) (by simp) fun B=>?_
 refine Za tok rfl rfl ?_
 simp only [go_sem,simprocAttr]
 refine Za tok rfl rfl ?_
 simp only [go_sem,simprocAttr]
 refine Zi rfl rfl ?_
 refine Xa (.inl rfl) _ n 2 0 [.int .u8 1,.int .i64 m,.str [],.sl 4 [] .full] (by simp only [go_sem,simprocAttr]) (by simp only [go_sem,simprocAttr,full]) rfl (Nat.le_refl _) (by simp only [go_sem,simprocAttr]) ?_ (Tm.blw _ _) rfl
 rw [ZcZ,Tm.Zb7]
 exact .deep (.ZbX ⟨.refl _,.refl _,.refl _,.nil _ _ _,trivial⟩)
theorem u23 (m:List UInt8):Pure Tryz.prog 23 [.str m] (JO m).enc:=by
 intro n H
 refine Zm tok (Zb Tryz.func23 rfl rfl) (by simp) fun B=>?_
 refine Za tok rfl rfl ?_
 simp only [go_sem,simprocAttr]
 refine Za tok rfl rfl ?_
 simp only [go_sem,simprocAttr]
 refine Zi rfl rfl ?_
 refine Xa (.inl rfl) _ n 2 0 [.int .u8 2,.int .i64 0,.str m,.sl 4 [] .full] (by simp only [go_sem,simprocAttr]) (by simp only [go_sem,simprocAttr,full]) rfl (Nat.le_refl _) (by simp only [go_sem,simprocAttr]) ?_ (Tm.blw _ _) rfl
 rw [JO,Tm.Zb7]
 exact .deep (.ZbX ⟨.refl _,.refl _,.refl _,.nil _ _ _,trivial⟩)
theorem u20 (p:List UInt8):Pure Tryz.prog 20 [.str p] (ZdL ⟨p,[]⟩).enc:=by
 intro n H
 refine Zm tok (Zb Tryz.func20 rfl rfl) (by simp) fun B=>?_
 refine Za tok rfl rfl ?_
 simp only [go_sem,simprocAttr]
 refine Za tok rfl rfl ?_
 simp only [go_sem,simprocAttr]
 refine Zq (Zb Tryz.func27 rfl rfl) (Zig p 4 .full) rfl ?_
 simp only [go_sem,simprocAttr]
 refine Zi rfl rfl ?_
 refine Xa (.inl rfl) _ n 2 0 (ZdL ⟨p,[]⟩).cs (by simp only [go_sem,simprocAttr]) (by simp only [go_sem,simprocAttr,full]; rfl) rfl (Nat.le_refl _) (by simp only [go_sem,simprocAttr]) ?_ (GL.blw _ _) rfl
 simp only [go_sem,simprocAttr]
 exact .refl _
theorem u22 (p:List UInt8):Pure Tryz.prog 22 [.str p] (ZjP ⟨p,[]⟩).enc:=by
 intro n H
 refine Zm tok (Zb Tryz.func22 rfl rfl) (by simp) fun B=>?_
 refine Za tok rfl rfl ?_
 simp only [go_sem,simprocAttr]
 refine Za tok rfl rfl ?_
 simp only [go_sem,simprocAttr]
 refine Zq (Zb Tryz.func27 rfl rfl) (Zig p 4 .full) rfl ?_
 simp only [go_sem,simprocAttr]
 refine Zi rfl rfl ?_
 refine Xa (.inl rfl) _ n 2 0 (ZjP ⟨p,[]⟩).cs (by simp only [go_sem,simprocAttr]) (by simp only [go_sem,simprocAttr,full]; rfl) rfl (Nat.le_refl _) (by simp only [go_sem,simprocAttr]) ?_ (GL.blw _ _) rfl
 simp only [go_sem,simprocAttr]
 exact .refl _
theorem u19 (g:GL) (l:List Tm):Pure Tryz.prog 19 [g.enc,.sl 4 (l.map Tm.enc) .any] (GE.mk l [g]).enc:=by
 intro n H
 refine Zm tok (Zb Tryz.func19 rfl rfl) (by simp) fun B=>?_
 refine Za tok rfl rfl ?_
 simp only [go_sem,simprocAttr]
 refine Za tok rfl rfl ?_
 simp only [go_sem,simprocAttr]
 refine ⟨rfl,?_⟩
 refine Zi rfl rfl ?_
 refine Xa (.inl rfl) _ n 4 0 [.sl 4 (l.map Tm.enc) .any,.sl 3 [g.enc] .full] (by simp only [go_sem,simprocAttr]) (by simp only [go_sem,simprocAttr,full]) rfl (Nat.le_refl _) (by simp only [go_sem,simprocAttr]) ?_ (GE.blw _ _) rfl
 simp only [go_sem,simprocAttr]
 exact .deep (.ZbX ⟨.refl _,Wp _ _ _,trivial⟩)
theorem u24 (f op b:Int) (es:List GE):Pure Tryz.prog 24 [.int .u8 f,.int .u8 op,.int .i64 b,.sl 2 (es.map GE.enc) .any] (GB.mk 3 ⟨false,am0⟩ false f es op b).enc:=by
 intro n H
 refine Zm tok (Zb Tryz.func24 rfl rfl) (by simp) fun B=>?_
 refine Za tok rfl rfl ?_
 simp only [go_sem,simprocAttr]
 refine Za tok rfl rfl ?_
 simp only [go_sem,simprocAttr]
 refine Zi rfl rfl ?_
 refine Xa (.inl rfl) _ n 8 0 [.int .u8 3,.bool false,.str [],.sl 4 [] .full,.bool false,.int .u8 f,.sl 2 (es.map GE.enc) .any,.int .u8 op,.int .i64 b] (by simp only [go_sem,simprocAttr]) (by simp only [go_sem,simprocAttr,full]; try rfl) rfl (Nat.le_refl _) (by simp only [go_sem,simprocAttr]) ?_ (GB.blw _ _) rfl
 simp only [go_sem,simprocAttr]
 exact .deep (.ZbX ⟨.refl _,.refl _,.refl _,.nil _ _ _,.refl _,.refl _,.refl _,.refl _,.refl _,trivial⟩)
theorem u25 (g:GL):Pure Tryz.prog 25 [g.enc] (Zik g).enc:=by
 intro n H
 refine Zm tok (Zb Tryz.func25 rfl rfl) (by simp) fun B=>?_
 refine Za tok rfl rfl ?_
 simp only [go_sem,simprocAttr]
 refine Za tok rfl rfl ?_
 simp only [go_sem,simprocAttr]
 refine Zi rfl rfl ?_
 refine Xa (.inl rfl) _ n 2 0 [.int .u8 1,.bool g.no,.str g.a.pred,.sl 4 (g.a.args.map Tm.enc) .any,.bool false,.int .u8 0,.sl 2 [] .full,.int .u8 0,.int .i64 0] (by simp only [go_sem,simprocAttr]) (by simp only [go_sem,simprocAttr,full]; try rfl) rfl (Nat.le_refl _) (by simp only [go_sem,simprocAttr]) ?_ (GB.blw _ _) rfl
 simp only [go_sem,simprocAttr]
 exact .deep (.ZbX ⟨.refl _,.refl _,.refl _,.refl _,.refl _,.refl _,.nil _ _ _,.refl _,.refl _,trivial⟩)
theorem u26 (hs:List Am) (b:List GB):Pure Tryz.prog 26 [.sl 2 (hs.map Am.enc) .any,.sl 9 (b.map GB.enc) .any] (Ins.mk 1 hs (-1) (-1) b 0 0 []).enc:=by
 intro n H
 refine Zm tok (Zb Tryz.func26 rfl rfl) (by simp) fun B=>?_
 refine Za tok rfl rfl ?_
 simp only [go_sem,simprocAttr]
 refine Za tok rfl rfl ?_
 simp only [go_sem,simprocAttr]
 refine Zi rfl rfl ?_
 refine Xa (.inl rfl) _ n 4 0 [.int .u8 1,.sl 2 (hs.map Am.enc) .any,.int .i64 (-1),.int .i64 (-1),.sl 9 (b.map GB.enc) .any,.int .i64 0,.int .i64 0,.sl 4 [] .full] (by simp only [go_sem,simprocAttr]) (by simp only [go_sem,simprocAttr,full]; try rfl) rfl (Nat.le_refl _) (by simp only [go_sem,simprocAttr]) ?_ (Ins.blw _ _) rfl
 simp only [go_sem,simprocAttr]
 exact .deep (.ZbX ⟨.refl _,.refl _,.refl _,.refl _,.refl _,.refl _,.refl _,.nil _ _ _,trivial⟩)
end Go.Proofs.YthgbkalgmicniaaGreatDoor

/- The kit's comparisons of ground programs, at equal ones. -/
namespace Go.Proofs.YthgbkalgmicniaaGreatDoor
open Go.Abs
set_option maxRecDepth 100000
def Zj3 (p:List (Int)) (H:Zf) (i:Nat):Zh:=⟨[(5,.int .i64 i),(0,.sl 1 (p.map eInt) .any),(1,.sl 1 (p.map eInt) .any)],[],H⟩
theorem s32 (p:List (Int)) (hl:p.length ≤ 1000000):Pure Tryz.prog 32 [.sl 1 (p.map eInt) .any,.sl 1 (p.map eInt) .any] (.bool true):=by
 intro n H
 have hin:∀ q,Inside n q (.sl 1 (p.map eInt) .any):=fun q=>(ZK fun x hx=>by obtain ⟨u,_,rfl⟩:=List.mem_map.1 hx; first | exact .int _ _ | exact .str _).inside
 refine Zm tok (Zb Tryz.func32 rfl rfl) (by simp) fun B=>?_
 refine Za tok rfl rfl ?_
 simp only [go_sem,simprocAttr]
 refine Za tok rfl rfl ?_
 simp only [go_sem,simprocAttr]
 refine Zn rfl rfl (by simp only [go_sem,simprocAttr,bne_self_eq_false]) ?_
 refine ZM rfl ?_
 refine Za tok rfl rfl ?_
 simp only [go_sem,simprocAttr]
 repeat refine kn rfl ?_
 refine Zy (Zj3 p H) p.length rfl ?_ ?_
 ·unfold Zj3
  refine Zg ?_ ?_ ?_ ?_ <;> repeat' first|exact trivial|refine q0 ?_|exact qb|exact q1|exact q2|exact q3|exact rfl|refine And.intro ?_ ?_|exact qA rfl|exact Inside.ptr _ _ _ (.inr ⟨rfl,rfl⟩)|exact Tm.ins _|exact Tm.Zj _ _|exact Am.ins _|exact Am.Zj _ _|refine Zd ?_|refine Tm.Zc ?_|refine Am.Zc ?_
  all_goals first | exact hin _ | skip
 intro i hi
 refine Yi rfl ?_
 rcases Nat.lt_or_ge i p.length with h | h
 ·unfold Zj3
  refine Za tok rfl rfl ?_
  simp only [go_sem,simprocAttr,h]
  refine Zp rfl rfl rfl ?_
  refine YX tok mixed drawO rfl rfl rfl ?_
  simp only [go_sem,simprocAttr,getD_map eInt _ _ h,h]
  refine Zn rfl rfl (by simp only [go_sem,simprocAttr,bne_self_eq_false]) ?_
  refine ZM rfl ?_
  refine Za tok rfl rfl ?_
  simp only [go_sem,simprocAttr]
  refine Zt rfl ?_
  refine Zg ?_ ?_ ?_ ?_ <;> repeat' first|exact trivial|refine q0 ?_|exact qb|exact q1|exact q2|exact q3|exact rfl|refine And.intro ?_ ?_|exact qA rfl|exact Inside.ptr _ _ _ (.inr ⟨rfl,rfl⟩)|exact Tm.ins _|exact Tm.Zj _ _|exact Am.ins _|exact Am.Zj _ _|refine Zd ?_|refine Tm.Zc ?_|refine Am.Zc ?_
  ·simp only [go_sem,simprocAttr]
   rw [IntWalk.i64_in _ (by omega)]; exact .refl _
  all_goals first | exact hin _ | skip
 ·unfold Zj3
  refine Za tok rfl rfl ?_
  simp only [go_sem,simprocAttr,Nat.not_lt.2 h]
  refine Zn rfl rfl rfl ?_
  refine Yh rfl rfl rfl rfl ?_
  refine Za tok rfl rfl ?_
  simp only [go_sem,simprocAttr]
  refine Zi rfl rfl ?_
  exact Ze (.refl _) (.bool _) rfl
def ZjR (p:List (Str)) (H:Zf) (i:Nat):Zh:=⟨[(5,.int .i64 i),(0,.sl 1 (p.map eStr) .any),(1,.sl 1 (p.map eStr) .any)],[],H⟩
theorem s72 (p:List (Str)) (hl:p.length ≤ 1000000):Pure Tryz.prog 72 [.sl 1 (p.map eStr) .any,.sl 1 (p.map eStr) .any] (.bool true):=by
 intro n H
 have hin:∀ q,Inside n q (.sl 1 (p.map eStr) .any):=fun q=>(ZK fun x hx=>by obtain ⟨u,_,rfl⟩:=List.mem_map.1 hx; first | exact .int _ _ | exact .str _).inside
 refine Zm tok (Zb Tryz.func72 rfl rfl) (by simp) fun B=>?_
 refine Za tok rfl rfl ?_
 simp only [go_sem,simprocAttr]
 refine Za tok rfl rfl ?_
 simp only [go_sem,simprocAttr]
 refine Zn rfl rfl (by simp only [go_sem,simprocAttr,bne_self_eq_false]) ?_
 refine ZM rfl ?_
 refine Za tok rfl rfl ?_
 simp only [go_sem,simprocAttr]
 repeat refine kn rfl ?_
 refine Zy (ZjR p H) p.length rfl ?_ ?_
 ·unfold ZjR
  refine Zg ?_ ?_ ?_ ?_ <;> repeat' first|exact trivial|refine q0 ?_|exact qb|exact q1|exact q2|exact q3|exact rfl|refine And.intro ?_ ?_|exact qA rfl|exact Inside.ptr _ _ _ (.inr ⟨rfl,rfl⟩)|exact Tm.ins _|exact Tm.Zj _ _|exact Am.ins _|exact Am.Zj _ _|refine Zd ?_|refine Tm.Zc ?_|refine Am.Zc ?_
  all_goals first | exact hin _ | skip
 intro i hi
 refine Yi rfl ?_
 rcases Nat.lt_or_ge i p.length with h | h
 ·unfold ZjR
  refine Za tok rfl rfl ?_
  simp only [go_sem,simprocAttr,h]
  refine Zp rfl rfl rfl ?_
  refine YX tok mixed drawO rfl rfl rfl ?_
  simp only [go_sem,simprocAttr,getD_map eStr _ _ h,h]
  refine Zn rfl rfl (by simp only [go_sem,simprocAttr,bne_self_eq_false]) ?_
  refine ZM rfl ?_
  refine Za tok rfl rfl ?_
  simp only [go_sem,simprocAttr]
  refine Zt rfl ?_
  refine Zg ?_ ?_ ?_ ?_ <;> repeat' first|exact trivial|refine q0 ?_|exact qb|exact q1|exact q2|exact q3|exact rfl|refine And.intro ?_ ?_|exact qA rfl|exact Inside.ptr _ _ _ (.inr ⟨rfl,rfl⟩)|exact Tm.ins _|exact Tm.Zj _ _|exact Am.ins _|exact Am.Zj _ _|refine Zd ?_|refine Tm.Zc ?_|refine Am.Zc ?_
  ·simp only [go_sem,simprocAttr]
   rw [IntWalk.i64_in _ (by omega)]; exact .refl _
  all_goals first | exact hin _ | skip
 ·unfold ZjR
  refine Za tok rfl rfl ?_
  simp only [go_sem,simprocAttr,Nat.not_lt.2 h]
  refine Zn rfl rfl rfl ?_
  refine Yh rfl rfl rfl rfl ?_
  refine Za tok rfl rfl ?_
  simp only [go_sem,simprocAttr]
  refine Zi rfl rfl ?_
  exact Ze (.refl _) (.bool _) rfl
theorem Znm (x:GR) (h1:x.head.length ≤ 1000000) (h2:x.body.length ≤ 1000000) (h3:x.w.length ≤ 1000000):Pure Tryz.prog 139 [x.enc,x.enc] (.bool true):=by
 intro n H
 refine Zm tok (Zb Tryz.func139 rfl rfl) (by simp) fun B=>?_
 refine Za tok rfl rfl ?_
 simp only [go_sem,simprocAttr]
 refine Za tok rfl rfl ?_
 simp only [go_sem,simprocAttr]
 refine Zq (Zb Tryz.func32 rfl rfl) (s32 x.head h1) rfl ?_
 simp only [go_sem,simprocAttr]
 refine Zq (Zb Tryz.func32 rfl rfl) (s32 x.body h2) rfl ?_
 simp only [go_sem,simprocAttr]
 refine Zq (Zb Tryz.func32 rfl rfl) (s32 x.w h3) rfl ?_
 simp only [go_sem,simprocAttr]
 refine Zi rfl rfl ?_
 exact Ze (.refl _) (.bool _) rfl
theorem Znb (x:GM) (h1:x.lits.length ≤ 1000000) (h2:x.w.length ≤ 1000000):Pure Tryz.prog 140 [x.enc,x.enc] (.bool true):=by
 intro n H
 refine Zm tok (Zb Tryz.func140 rfl rfl) (by simp) fun B=>?_
 refine Za tok rfl rfl ?_
 simp only [go_sem,simprocAttr]
 refine Za tok rfl rfl ?_
 simp only [go_sem,simprocAttr]
 refine Zq (Zb Tryz.func32 rfl rfl) (s32 x.lits h1) rfl ?_
 simp only [go_sem,simprocAttr]
 refine Zq (Zb Tryz.func32 rfl rfl) (s32 x.w h2) rfl ?_
 simp only [go_sem,simprocAttr]
 refine Zi rfl rfl ?_
 exact Ze (.refl _) (.bool _) rfl
def ZjW (p:List GR) (H:Zf) (i:Nat):Zh:=⟨[(5,.int .i64 i),(0,.sl 6 (p.map GR.enc) .any),(1,.sl 6 (p.map GR.enc) .any)],[],H⟩
theorem s73 (p:List GR) (hl:p.length ≤ 1000000) (hc:∀ x ∈ p,Pure Tryz.prog 139 [x.enc,x.enc] (.bool true)):Pure Tryz.prog 73 [.sl 6 (p.map GR.enc) .any,.sl 6 (p.map GR.enc) .any] (.bool true):=by
 intro n H
 have hin:∀ q,Inside n q (.sl 6 (p.map GR.enc) .any):=fun q=>(Zef p).inside
 refine Zm tok (Zb Tryz.func73 rfl rfl) (by simp) fun B=>?_
 refine Za tok rfl rfl ?_
 simp only [go_sem,simprocAttr]
 refine Za tok rfl rfl ?_
 simp only [go_sem,simprocAttr]
 refine Zn rfl rfl (by simp only [go_sem,simprocAttr,bne_self_eq_false]) ?_
 refine ZM rfl ?_
 refine Za tok rfl rfl ?_
 simp only [go_sem,simprocAttr]
 repeat refine kn rfl ?_
 refine Zy (ZjW p H) p.length rfl ?_ ?_
 ·unfold ZjW
  refine Zg ?_ ?_ ?_ ?_ <;> repeat' first|exact trivial|refine q0 ?_|exact qb|exact q1|exact q2|exact q3|exact rfl|refine And.intro ?_ ?_|exact qA rfl|exact Inside.ptr _ _ _ (.inr ⟨rfl,rfl⟩)|exact Tm.ins _|exact Tm.Zj _ _|exact Am.ins _|exact Am.Zj _ _|refine Zd ?_|refine Tm.Zc ?_|refine Am.Zc ?_
  all_goals first | exact hin _ | skip
 intro i hi
 refine Yi rfl ?_
 rcases Nat.lt_or_ge i p.length with h | h
 ·unfold ZjW
  refine Za tok rfl rfl ?_
  simp only [go_sem,simprocAttr,h]
  refine Zp rfl rfl rfl ?_
  refine YX tok mixed drawO rfl rfl rfl ?_
  simp only [go_sem,simprocAttr,getD_map GR.enc _ _ h,h]
  refine Zq (Zb Tryz.func139 rfl rfl) (hc p[i] (List.getElem_mem h)) rfl ?_
  simp only [go_sem,simprocAttr]
  refine Zn rfl rfl rfl ?_
  refine ZM rfl ?_
  refine Za tok rfl rfl ?_
  simp only [go_sem,simprocAttr]
  refine Zt rfl ?_
  refine Zg ?_ ?_ ?_ ?_ <;> repeat' first|exact trivial|refine q0 ?_|exact qb|exact q1|exact q2|exact q3|exact rfl|refine And.intro ?_ ?_|exact qA rfl|exact Inside.ptr _ _ _ (.inr ⟨rfl,rfl⟩)|exact Tm.ins _|exact Tm.Zj _ _|exact Am.ins _|exact Am.Zj _ _|refine Zd ?_|refine Tm.Zc ?_|refine Am.Zc ?_
  ·simp only [go_sem,simprocAttr]
   rw [IntWalk.i64_in _ (by omega)]; exact .refl _
  all_goals first | exact hin _ | skip
 ·unfold ZjW
  refine Za tok rfl rfl ?_
  simp only [go_sem,simprocAttr,Nat.not_lt.2 h]
  refine Zn rfl rfl rfl ?_
  refine Yh rfl rfl rfl rfl ?_
  refine Za tok rfl rfl ?_
  simp only [go_sem,simprocAttr]
  refine Zi rfl rfl ?_
  exact Ze (.refl _) (.bool _) rfl
def Zj9 (p:List GM) (H:Zf) (i:Nat):Zh:=⟨[(5,.int .i64 i),(0,.sl 3 (p.map GM.enc) .any),(1,.sl 3 (p.map GM.enc) .any)],[],H⟩
theorem s74 (p:List GM) (hl:p.length ≤ 1000000) (hc:∀ x ∈ p,Pure Tryz.prog 140 [x.enc,x.enc] (.bool true)):Pure Tryz.prog 74 [.sl 3 (p.map GM.enc) .any,.sl 3 (p.map GM.enc) .any] (.bool true):=by
 intro n H
 have hin:∀ q,Inside n q (.sl 3 (p.map GM.enc) .any):=fun q=>(WE p).inside
 refine Zm tok (Zb Tryz.func74 rfl rfl) (by simp) fun B=>?_
 refine Za tok rfl rfl ?_
 simp only [go_sem,simprocAttr]
 refine Za tok rfl rfl ?_
 simp only [go_sem,simprocAttr]
 refine Zn rfl rfl (by simp only [go_sem,simprocAttr,bne_self_eq_false]) ?_
 refine ZM rfl ?_
 refine Za tok rfl rfl ?_
 simp only [go_sem,simprocAttr]
 repeat refine kn rfl ?_
 refine Zy (Zj9 p H) p.length rfl ?_ ?_
 ·unfold Zj9
  refine Zg ?_ ?_ ?_ ?_ <;> repeat' first|exact trivial|refine q0 ?_|exact qb|exact q1|exact q2|exact q3|exact rfl|refine And.intro ?_ ?_|exact qA rfl|exact Inside.ptr _ _ _ (.inr ⟨rfl,rfl⟩)|exact Tm.ins _|exact Tm.Zj _ _|exact Am.ins _|exact Am.Zj _ _|refine Zd ?_|refine Tm.Zc ?_|refine Am.Zc ?_
  all_goals first | exact hin _ | skip
 intro i hi
 refine Yi rfl ?_
 rcases Nat.lt_or_ge i p.length with h | h
 ·unfold Zj9
  refine Za tok rfl rfl ?_
  simp only [go_sem,simprocAttr,h]
  refine Zp rfl rfl rfl ?_
  refine YX tok mixed drawO rfl rfl rfl ?_
  simp only [go_sem,simprocAttr,getD_map GM.enc _ _ h,h]
  refine Zq (Zb Tryz.func140 rfl rfl) (hc p[i] (List.getElem_mem h)) rfl ?_
  simp only [go_sem,simprocAttr]
  refine Zn rfl rfl rfl ?_
  refine ZM rfl ?_
  refine Za tok rfl rfl ?_
  simp only [go_sem,simprocAttr]
  refine Zt rfl ?_
  refine Zg ?_ ?_ ?_ ?_ <;> repeat' first|exact trivial|refine q0 ?_|exact qb|exact q1|exact q2|exact q3|exact rfl|refine And.intro ?_ ?_|exact qA rfl|exact Inside.ptr _ _ _ (.inr ⟨rfl,rfl⟩)|exact Tm.ins _|exact Tm.Zj _ _|exact Am.ins _|exact Am.Zj _ _|refine Zd ?_|refine Tm.Zc ?_|refine Am.Zc ?_
  ·simp only [go_sem,simprocAttr]
   rw [IntWalk.i64_in _ (by omega)]; exact .refl _
  all_goals first | exact hin _ | skip
 ·unfold Zj9
  refine Za tok rfl rfl ?_
  simp only [go_sem,simprocAttr,Nat.not_lt.2 h]
  refine Zn rfl rfl rfl ?_
  refine Yh rfl rfl rfl rfl ?_
  refine Za tok rfl rfl ?_
  simp only [go_sem,simprocAttr]
  refine Zi rfl rfl ?_
  exact Ze (.refl _) (.bool _) rfl
structure _root_.Go.Abs.GP.Ok (x:GP):Prop where
 a:x.names.length ≤ 1000000
 b:x.shows.length ≤ 1000000
 c:x.rules.length ≤ 1000000
 d:x.min.length ≤ 1000000
 r:∀ y ∈ x.rules,y.head.length ≤ 1000000 ∧ y.body.length ≤ 1000000 ∧ y.w.length ≤ 1000000
 m:∀ y ∈ x.min,y.lits.length ≤ 1000000 ∧ y.w.length ≤ 1000000
theorem s29 (x:GP) (h:x.Ok):Pure Tryz.prog 29 [x.enc,x.enc] (.bool true):=by
 intro n H
 refine Zm tok (Zb Tryz.func29 rfl rfl) (by simp) fun B=>?_
 refine Za tok rfl rfl ?_
 simp only [go_sem,simprocAttr]
 refine Za tok rfl rfl ?_
 simp only [go_sem,simprocAttr]
 refine Zq (Zb Tryz.func72 rfl rfl) (s72 x.names h.a) rfl ?_
 simp only [go_sem,simprocAttr]
 refine Zq (Zb Tryz.func32 rfl rfl) (s32 x.shows h.b) rfl ?_
 simp only [go_sem,simprocAttr]
 refine Zq (Zb Tryz.func73 rfl rfl) (s73 x.rules h.c (fun y hy=>Znm y (h.r y hy).1 (h.r y hy).2.1 (h.r y hy).2.2)) rfl ?_
 simp only [go_sem,simprocAttr]
 refine Zq (Zb Tryz.func74 rfl rfl) (s74 x.min h.d (fun y hy=>Znb y (h.m y hy).1 (h.m y hy).2)) rfl ?_
 simp only [go_sem,simprocAttr]
 refine Zi rfl rfl ?_
 exact Ze (.refl _) (.bool _) rfl
end Go.Proofs.YthgbkalgmicniaaGreatDoor

/- The example of the chapter: the walk. -/
namespace Go.Proofs.YthgbkalgmicniaaGreatDoor
open Go.Abs
set_option maxRecDepth 100000
theorem ZmS (hs:List Am) (b:List GB) (k:Nat) (o o':Own) (hb:b = [] ∨ k = 9):Pure Tryz.prog 26 [.sl 2 (hs.map Am.enc) o,.sl k (b.map GB.enc) o'] (Ins.mk 1 hs (-1) (-1) b 0 0 []).enc:=Pure.wk (u26 hs b) ⟨.any _ _ _,by
 rcases hb with rfl | rfl
 ·exact .nil _ _ _
 ·exact .any _ _ _,trivial⟩
theorem ZkQ (g:GL) (l:List Tm) (o:Own):Pure Tryz.prog 19 [g.enc,.sl 4 (l.map Tm.enc) o] (GE.mk l [g]).enc:=Pure.wk (u19 g l) ⟨.refl _,.any _ _ _,trivial⟩
theorem ZmZ (f op b:Int) (es:List GE) (o:Own):Pure Tryz.prog 24 [.int .u8 f,.int .u8 op,.int .i64 b,.sl 2 (es.map GE.enc) o] (GB.mk 3 ⟨false,am0⟩ false f es op b).enc:=Pure.wk (u24 f op b es) ⟨.refl _,.refl _,.refl _,.any _ _ _,trivial⟩
theorem u37:Pure Tryz.prog 37 [] (.sl 8 (exI.map Ins.enc) .any):=by
 intro n H
 refine Zm tok (Zb Tryz.func37 rfl rfl) (by simp) fun B=>?_
 refine Za tok rfl rfl ?_
 simp only [go_sem,simprocAttr]
 refine Za tok rfl rfl ?_
 simp only [go_sem,simprocAttr]
 refine Zq (Zb Tryz.func27 rfl rfl) (Zig [97] 4 .full) rfl ?_
 simp only [go_sem,simprocAttr]
 refine ⟨rfl,?_⟩
 refine Zq (Zb Tryz.func26 rfl rfl) (ZmS [exA] [] 9 .full .full (.inl rfl)) (by simp only [go_sem,simprocAttr,exA,exB,exC,exD,exE1,exE2,exE3,exG]) ?_
 simp only [go_sem,simprocAttr,exA,exB,exC,exD,exE1,exE2,exE3,exG]
 refine Zq (Zb Tryz.func27 rfl rfl) (Zig [98] 4 .full) rfl ?_
 simp only [go_sem,simprocAttr]
 refine Zq (Zb Tryz.func27 rfl rfl) (Zig [99] 4 .full) rfl ?_
 simp only [go_sem,simprocAttr]
 refine ⟨rfl,?_⟩
 refine Zq (Zb Tryz.func20 rfl rfl) (u20 [97]) rfl ?_
 simp only [go_sem,simprocAttr]
 refine Zq (Zb Tryz.func25 rfl rfl) (u25 (ZdL exA)) (by simp only [go_sem,simprocAttr,exA,exB,exC,exD,exE1,exE2,exE3,exG]) ?_
 simp only [go_sem,simprocAttr,exA,exB,exC,exD,exE1,exE2,exE3,exG]
 refine ⟨rfl,?_⟩
 refine Zq (Zb Tryz.func27 rfl rfl) (Zig [100] 4 .full) rfl ?_
 simp only [go_sem,simprocAttr]
 refine ⟨rfl,?_⟩
 refine Zq (Zb Tryz.func20 rfl rfl) (u20 [98]) rfl ?_
 simp only [go_sem,simprocAttr]
 refine Zq (Zb Tryz.func21 rfl rfl) (u21 2) rfl ?_
 simp only [go_sem,simprocAttr]
 refine Zq (Zb Tryz.func23 rfl rfl) (u23 [120]) rfl ?_
 simp only [go_sem,simprocAttr]
 refine ⟨rfl,?_⟩
 refine Zq (Zb Tryz.func19 rfl rfl) (ZkQ (ZdL exB) [ZcZ 2,JO [120]] .full) (by simp only [go_sem,simprocAttr,exA,exB,exC,exD,exE1,exE2,exE3,exG]) ?_
 simp only [go_sem,simprocAttr,exA,exB,exC,exD,exE1,exE2,exE3,exG]
 refine Zq (Zb Tryz.func20 rfl rfl) (u20 [99]) rfl ?_
 simp only [go_sem,simprocAttr]
 refine Zq (Zb Tryz.func21 rfl rfl) (u21 3) rfl ?_
 simp only [go_sem,simprocAttr]
 refine Zq (Zb Tryz.func23 rfl rfl) (u23 [121]) rfl ?_
 simp only [go_sem,simprocAttr]
 refine ⟨rfl,?_⟩
 refine Zq (Zb Tryz.func19 rfl rfl) (ZkQ (ZdL exC) [ZcZ 3,JO [121]] .full) (by simp only [go_sem,simprocAttr,exA,exB,exC,exD,exE1,exE2,exE3,exG]) ?_
 simp only [go_sem,simprocAttr,exA,exB,exC,exD,exE1,exE2,exE3,exG]
 refine Zq (Zb Tryz.func22 rfl rfl) (u22 [97]) rfl ?_
 simp only [go_sem,simprocAttr]
 refine Zq (Zb Tryz.func21 rfl rfl) (u21 3) rfl ?_
 simp only [go_sem,simprocAttr]
 refine Zq (Zb Tryz.func23 rfl rfl) (u23 [121]) rfl ?_
 simp only [go_sem,simprocAttr]
 refine ⟨rfl,?_⟩
 refine Zq (Zb Tryz.func19 rfl rfl) (ZkQ (ZjP exA) [ZcZ 3,JO [121]] .full) (by simp only [go_sem,simprocAttr,exA,exB,exC,exD,exE1,exE2,exE3,exG]) ?_
 simp only [go_sem,simprocAttr,exA,exB,exC,exD,exE1,exE2,exE3,exG]
 refine ⟨rfl,?_⟩
 refine Zq (Zb Tryz.func24 rfl rfl) (ZmZ 2 6 3 [exE1,exE2,exE3] .full) (by simp only [go_sem,simprocAttr,exA,exB,exC,exD,exE1,exE2,exE3,exG]) ?_
 simp only [go_sem,simprocAttr,exA,exB,exC,exD,exE1,exE2,exE3,exG]
 refine ⟨rfl,?_⟩
 refine Zq (Zb Tryz.func26 rfl rfl) (ZmS [exD] [exG] 9 .full .full (.inr rfl)) (by simp only [go_sem,simprocAttr,exA,exB,exC,exD,exE1,exE2,exE3,exG]) ?_
 simp only [go_sem,simprocAttr,exA,exB,exC,exD,exE1,exE2,exE3,exG]
 refine Zq (Zb Tryz.func23 rfl rfl) (u23 [116]) rfl ?_
 simp only [go_sem,simprocAttr]
 refine ⟨rfl,?_⟩
 refine Zq (Zb Tryz.func20 rfl rfl) (u20 [98]) rfl ?_
 simp only [go_sem,simprocAttr]
 refine Zq (Zb Tryz.func25 rfl rfl) (u25 (ZdL exB)) (by simp only [go_sem,simprocAttr,exA,exB,exC,exD,exE1,exE2,exE3,exG]) ?_
 simp only [go_sem,simprocAttr,exA,exB,exC,exD,exE1,exE2,exE3,exG]
 refine ⟨rfl,?_⟩
 refine ⟨rfl,?_⟩
 refine Zi rfl rfl ?_
 refine Ze (.deep (WkS.slL ⟨.refl _,WkS.ZbX ⟨.refl _,Wp _ _ _,.refl _,.refl _,Wp _ _ _,.refl _,.refl _,.nil _ _ _,trivial⟩,.refl _,WkS.ZbX ⟨.refl _,.nil _ _ _,.refl _,.refl _,Wp _ _ _,.refl _,.refl _,Wp _ _ _,trivial⟩,trivial⟩)) (Zu exI) rfl
end Go.Proofs.YthgbkalgmicniaaGreatDoor

/- The reference's comparisons. -/
namespace Go.Proofs.YthgbkalgmicniaaGreatDoor
open Go.Abs
set_option maxRecDepth 100000
def k1 (a b:Tm):List Int:=[YO (rank a.kind + 1) (rank b.kind + 1),if a.kind = 1 then YO a.num b.num else 0,YO a.args.length b.args.length,Lib.compareBytes a.name b.name]
end Go.Proofs.YthgbkalgmicniaaGreatDoor

/- Equal terms and atoms; the reference's comparison of atoms. -/
namespace Go.Proofs.YthgbkalgmicniaaGreatDoor
open Go.Abs
set_option maxRecDepth 100000
end Go.Proofs.YthgbkalgmicniaaGreatDoor

/- Sizes of terms and atoms of any size. -/
namespace Go.Proofs.YthgbkalgmicniaaGreatDoor
open Go.Abs
set_option maxRecDepth 100000
def Yw (n:Nat) (m:Int):Int:=if (n:Int) ≤ m then n else m + 1
theorem Zjk (l:List Tm) (i:Nat) (h:i < l.length):Tm.sz.szs (l.take (i + 1)) = Tm.sz.szs (l.take i) + l[i].sz:=by
 have:∀ p q:List Tm,Tm.sz.szs (p ++ q) = Tm.sz.szs p + Tm.sz.szs q:=by
  intro p q
  induction p with
  | nil=>simp [Tm.sz.szs]
  | cons x p ih=>simp only [List.cons_append,Tm.sz.szs,ih]; omega
 rw [List.take_succ_eq_append_getElem h,this]
 simp [Tm.sz.szs]
theorem Zfr (l:List Tm) (i:Nat):Tm.sz.szs (l.take i) ≤ Tm.sz.szs l:=by
 have:∀ p q:List Tm,Tm.sz.szs (p ++ q) = Tm.sz.szs p + Tm.sz.szs q:=by
  intro p q
  induction p with
  | nil=>simp [Tm.sz.szs]
  | cons x p ih=>simp only [List.cons_append,Tm.sz.szs,ih]; omega
 have h:=this (l.take i) (l.drop i)
 rw [List.take_append_drop] at h
 omega
def Zno (l:List Tm) (m:Int) (H:Zf) (i:Nat):Zh :=
 ⟨[(6,.int .i64 i),(5,.int .i64 (Yw (Tm.sz.szs (l.take i)) m)),(0,.sl 4 (l.map Tm.enc) .any),(1,.int .i64 m)],[],H⟩
theorem z43 (l:List Tm) (m:Int) (h0:-1 ≤ m) (h1:m ≤ 1000000) (hc:∀ t ∈ l,∀ m:Int,0 ≤ m → m ≤ 1000000 → Pure Tryz.prog 94 [t.enc,.int .i64 m] (.int .i64 (Yw t.sz m))):Pure Tryz.prog 43 [.sl 4 (l.map Tm.enc) .any,.int .i64 m] (.int .i64 (Yw (Tm.sz.szs l) m)):=by
 intro n H
 refine Zm tok (Zb Tryz.func43 rfl rfl) (by simp) fun B=>?_
 refine Za tok rfl rfl ?_
 simp only [go_sem,simprocAttr]
 refine Za tok rfl rfl ?_
 simp only [go_sem,simprocAttr]
 refine Za tok rfl rfl ?_
 simp only [go_sem,simprocAttr]
 repeat refine kn rfl ?_
 refine Zy (Zno l m H) l.length rfl ?_ ?_
 ·refine Zg ?_ ?_ ?_ ?_ <;> repeat' first|exact trivial|refine q0 ?_|exact qb|exact q1|exact q2|exact q3|exact rfl|refine And.intro ?_ ?_|exact qA rfl|exact Inside.ptr _ _ _ (.inr ⟨rfl,rfl⟩)|exact Tm.ins _|exact Tm.Zj _ _|exact Am.ins _|exact Am.Zj _ _|refine Zd ?_|refine Tm.Zc ?_|refine Am.Zc ?_
  simp only [List.take_zero,Tm.sz.szs,Yw,lkv]
  simp only [go_sem,simprocAttr]
  split
  ·exact .refl _
  ·rw [(by omega:m + 1 = 0)]; exact .refl _
 intro i hi
 refine Yi rfl ?_
 rcases Nat.lt_or_ge i l.length with h | h
 ·rcases Int.lt_or_le m (Tm.sz.szs (l.take i)) with h2 | h2
  ·have e:Yw (Tm.sz.szs (l.take i)) m = m + 1:=by rw [Yw,if_neg (by omega)]
   have hle:decide (m + 1 ≤ m) = false:=by rw [decide_eq_false_iff_not]; omega
   refine Za tok rfl rfl ?_
   simp only [go_sem,simprocAttr,h,e,hle]
   refine Zn rfl rfl rfl ?_
   refine Yh rfl rfl rfl rfl ?_
   refine Za tok rfl rfl ?_
   simp only [go_sem,simprocAttr]
   refine Zi rfl rfl ?_
   refine Ze ?_ (.int _ _) rfl
   have:=Zfr l i
   rw [Yw,if_neg (by omega)]
   simp only [go_sem,simprocAttr,e]
   exact .refl _
  ·have e:Yw (Tm.sz.szs (l.take i)) m = (Tm.sz.szs (l.take i):Int):=by rw [Yw,if_pos h2]
   have hlen:=Tm.sz_len (l.take i)
   rw [List.length_take_of_le hi] at hlen
   have hw:IntKind.i64.wrap (m - (Tm.sz.szs (l.take i):Int)) = m - (Tm.sz.szs (l.take i):Int):=IntWalk.i64_in _ (by omega)
   refine Za tok rfl rfl ?_
   simp only [go_sem,simprocAttr,h,e,h2]
   refine Zp rfl rfl rfl ?_
   refine Za tok rfl rfl ?_
   simp only [go_sem,simprocAttr,Tm.YI _ _ h,h,e,hw]
   refine Zq (Zb Tryz.func94 rfl rfl) (hc l[i] (List.getElem_mem h) (m - (Tm.sz.szs (l.take i):Int)) (by omega) (by omega)) (by simp only [go_sem,simprocAttr,hw]) ?_
   simp only [go_sem,simprocAttr,hw]
   refine Za tok rfl rfl ?_
   simp only [go_sem,simprocAttr]
   refine Zt rfl ?_
   have hn:(Tm.sz.szs (l.take i):Int) + Yw l[i].sz (m - (Tm.sz.szs (l.take i):Int)) = Yw (Tm.sz.szs (l.take (i + 1))) m:=by
    rw [Zjk l i h]
    unfold Yw
    split <;> split <;> omega
   have hb:Yw (Tm.sz.szs (l.take (i + 1))) m ≤ m + 1 ∧ 0 ≤ Yw (Tm.sz.szs (l.take (i + 1))) m:=by unfold Yw; split <;> omega
   refine Zg ?_ ?_ ?_ ?_ <;> repeat' first|exact trivial|refine q0 ?_|exact qb|exact q1|exact q2|exact q3|exact rfl|refine And.intro ?_ ?_|exact qA rfl|exact Inside.ptr _ _ _ (.inr ⟨rfl,rfl⟩)|exact Tm.ins _|exact Tm.Zj _ _|exact Am.ins _|exact Am.Zj _ _|refine Zd ?_|refine Tm.Zc ?_|refine Am.Zc ?_
   ·simp only [go_sem,simprocAttr]
    rw [IntWalk.i64_in _ (by omega)]; exact .refl _
   ·simp only [go_sem,simprocAttr]
    rw [hn,IntWalk.i64_in _ (by omega)]; exact .refl _
 ·refine Za tok rfl rfl ?_
  simp only [go_sem,simprocAttr,Nat.not_lt.2 h]
  refine Zn rfl rfl rfl ?_
  refine Yh rfl rfl rfl rfl ?_
  have hi':i = l.length:=by omega
  subst hi'
  refine Za tok rfl rfl ?_
  simp only [go_sem,simprocAttr,List.take_length]
  refine Zi rfl rfl ?_
  exact Ze (.refl _) (.int _ _) rfl
theorem z94 (t:Tm) (m:Int) (h0:0 ≤ m) (h1:m ≤ 1000000):Pure Tryz.prog 94 [t.enc,.int .i64 m] (.int .i64 (Yw t.sz m)):=by
 intro n H
 have hw:IntKind.i64.wrap (m - 1) = m - 1:=IntWalk.i64_in _ (by omega)
 have hc:Yw t.sz m = 1 + Yw (Tm.sz.szs t.args) (m - 1):=by rw [Tm.Zim]; unfold Yw; split <;> split <;> omega
 have hb:Yw (Tm.sz.szs t.args) (m - 1) ≤ m ∧ 0 ≤ Yw (Tm.sz.szs t.args) (m - 1):=by unfold Yw; split <;> omega
 refine Zm tok (Zb Tryz.func94 rfl rfl) (by simp) fun B=>?_
 refine Za tok rfl rfl ?_
 simp only [go_sem,simprocAttr]
 refine Za tok rfl rfl ?_
 simp only [go_sem,simprocAttr,hw]
 refine Zq (Zb Tryz.func43 rfl rfl) (z43 t.args (m - 1) (by omega) (by omega) (fun u hu m' h0' h1'=>z94 u m' h0' h1')) (by simp only [go_sem,simprocAttr,hw]) ?_
 simp only [go_sem,simprocAttr,hw]
 refine Zi rfl rfl ?_
 refine Ze ?_ (.int _ _) rfl
 simp only [go_sem,simprocAttr]
 rw [hc,IntWalk.i64_in _ (by omega)]
 exact .refl _
termination_by SizeOf.sizeOf t
decreasing_by exact Tm.Vm hu
theorem z14 (t:Am) (m:Int) (h0:0 ≤ m) (h1:m ≤ 1000000):Pure Tryz.prog 14 [t.enc,.int .i64 m] (.int .i64 (Yw t.sz m)):=by
 intro n H
 have hw:IntKind.i64.wrap (m - 1) = m - 1:=IntWalk.i64_in _ (by omega)
 have hc:Yw t.sz m = 1 + Yw (Tm.sz.szs t.args) (m - 1):=by unfold Am.sz Yw; split <;> split <;> omega
 have hb:Yw (Tm.sz.szs t.args) (m - 1) ≤ m ∧ 0 ≤ Yw (Tm.sz.szs t.args) (m - 1):=by unfold Yw; split <;> omega
 refine Zm tok (Zb Tryz.func14 rfl rfl) (by simp) fun B=>?_
 refine Za tok rfl rfl ?_
 simp only [go_sem,simprocAttr]
 refine Za tok rfl rfl ?_
 simp only [go_sem,simprocAttr,hw]
 refine Zq (Zb Tryz.func43 rfl rfl) (z43 t.args (m - 1) (by omega) (by omega) (fun u hu m' h0' h1'=>z94 u m' h0' h1')) (by simp only [go_sem,simprocAttr,hw]) ?_
 simp only [go_sem,simprocAttr,hw]
 refine Zi rfl rfl ?_
 refine Ze ?_ (.int _ _) rfl
 simp only [go_sem,simprocAttr]
 rw [hc,IntWalk.i64_in _ (by omega)]
 exact .refl _
def stp (n:Int) (p:Nat × Nat):Int:=if n ≤ 400 then n + ((p.1:Int) + Yw p.2 (400 - n)) else n
def Yn (n:Int) (l:List (Nat × Nat)):Int:=l.foldl stp n
def itE (e:GE):List (Nat × Nat):=(1,Tm.sz.szs e.tuple) :: e.cond.map fun g=>(0,g.a.sz)
def itB (b:GB):List (Nat × Nat):=(1,b.lit.a.sz) :: b.elems.flatMap itE
def itI (x:Ins):List (Nat × Nat):=(1,Tm.sz.szs x.tuple) :: (x.heads.map (fun a=>(0,a.sz)) ++ x.body.flatMap itB)
theorem XH (n:Int) (p q:List (Nat × Nat)):Yn n (p ++ q) = Yn (Yn n p) q:=by simp [Yn]
theorem ZfP (n:Int) (p:Nat × Nat):Yn n [p] = stp n p:=rfl
theorem Vy (n:Int) (p:Nat × Nat) (q:List (Nat × Nat)):Yn n (p :: q) = Yn (stp n p) q:=rfl
theorem Jf {n:Int} (h:400 < n):∀ l,Yn n l = n
 | []=>rfl
 | p :: l=>by
  have e:stp n p = n:=by unfold stp; rw [if_neg (by omega)]
  rw [Vy,e,Jf h l]
theorem JB (s:Nat) {m:Int} (h:0 ≤ m):0 ≤ Yw s m ∧ Yw s m ≤ m + 1:=by unfold Yw; split <;> omega
theorem stpF_bd:∀ (l:List (Nat × Nat)) {n:Int},(∀ p ∈ l,p.1 ≤ 1) → 0 ≤ n → n ≤ 402 → 0 ≤ Yn n l ∧ Yn n l ≤ 402
 | [],n,_,h1,h2=>⟨h1,h2⟩
 | p :: l,n,hp,h1,h2=>by
  rw [Vy]
  have hq:=hp p (by simp)
  refine stpF_bd l (fun q hq=>hp q (by simp [hq])) ?_ ?_ <;> unfold stp <;> split
  ·have:=JB p.2 (m:=400 - n) (by omega); omega
  ·exact h1
  ·have:=JB p.2 (m:=400 - n) (by omega); omega
  ·exact h2
def Y6 (l:List (Nat × Nat)):Nat:=(l.map fun p=>p.1 + p.2).sum
theorem stpF_tot:∀ (l:List (Nat × Nat)) {n:Int},(∀ p ∈ l,p.1 ≤ 1) → 0 ≤ n → n ≤ 400 → (Yn n l ≤ 400 ↔ n + Y6 l ≤ 400) ∧ (n + Y6 l ≤ 400 → Yn n l = n + Y6 l)
 | [],n,_,h1,h2=>by simp [Yn,Y6]
 | p :: l,n,hp,h1,h2=>by
  have hq:=hp p (by simp)
  rw [Vy]
  have et:Y6 (p :: l) = p.1 + p.2 + Y6 l:=rfl
  have es:stp n p = n + ((p.1:Int) + Yw p.2 (400 - n)):=by unfold stp; rw [if_pos h2]
  by_cases h:n + (p.1 + p.2:Nat) ≤ 400
  ·have ec:Yw p.2 (400 - n) = p.2:=by unfold Yw; rw [if_pos (by omega)]
   rw [es,ec,et]
   have ih:=stpF_tot l (n:=n + (p.1 + p.2:Nat)) (fun q hq=>hp q (by simp [hq])) (by omega) h
   have e2:n + ((p.1:Int) + p.2) = n + (p.1 + p.2:Nat):=by omega
   rw [e2]
   refine ⟨?_,fun h3=>?_⟩
   ·rw [ih.1]; constructor <;> intro <;> omega
   ·rw [ih.2 (by omega)]; omega
  ·have hb:400 < stp n p:=by
    rw [es]; unfold Yw; split <;> omega
   rw [Jf hb,et]
   exact ⟨by constructor <;> intro <;> omega,fun h3=>by omega⟩
theorem stpF_len:∀ (l:List (Nat × Nat)) {n:Int},(∀ p ∈ l,p.1 ≤ 1 ∧ 1 ≤ p.1 + p.2) → 0 ≤ n → n ≤ 400 → Yn n l ≤ 400 → n + (l.length:Int) ≤ Yn n l:=by
 intro l n hp h1 h2 h3
 have ht:=stpF_tot l (fun p hq=>(hp p hq).1) h1 h2
 rw [ht.2 (ht.1.1 h3)]
 have:l.length ≤ Y6 l:=by
  clear ht h3
  induction l with
  | nil=>simp [Y6]
  | cons p l ih =>
   have:=(hp p (by simp)).2
   have e:Y6 (p :: l) = p.1 + p.2 + Y6 l:=rfl
   rw [e,List.length_cons]
   have:=ih (fun q hq=>hp q (by simp [hq]))
   omega
 omega
end Go.Proofs.YthgbkalgmicniaaGreatDoor
