/- The table's numbers. -/
import Derived.Test.YthgbkalgmicniaaGreatDoorM12
import Derived.Test.YthgbkalgmicniaaGreatDoorM14
import Derived.Test.YthgbkalgmicniaaGreatDoorM13
set_option linter.all false
namespace Go.Abs
def numOf (M:List (List UInt8 × Int)) (a:Am):Int:=(getM (Go.Proofs.YthgbkalgmicniaaGreatDoor.Y1 a) M).getD 0
def YT (M:List (List UInt8 × Int)) (x:GL):Int:=if x.no then -numOf M x.a else numOf M x.a
abbrev Vl (M:List (List UInt8 × Int)):List (AV × AV):=Y0 AV.str (AV.int .i64) M
def SmN (M:List (List UInt8 × Int)):Prop:=∀ p ∈ M,0 ≤ p.2 ∧ p.2 ≤ 1000000
theorem Zbw {κ β:Type} [DecidableEq κ] {k:κ} {v:β}:∀ {es:List (κ × β)},getM k es = some v → (k,v) ∈ es
 | [],h=>by cases h
 | p :: r,h=>by
  simp only [getM] at h
  split at h
  ·rename_i e; cases h; subst e; exact List.mem_cons_self
  ·exact List.mem_cons_of_mem _ (Zbw h)
theorem Zdj {M:List (List UInt8 × Int)} (h:SmN M) (a:Am):0 ≤ numOf M a ∧ numOf M a ≤ 1000000:=by
 unfold numOf
 cases hg:getM (Go.Proofs.YthgbkalgmicniaaGreatDoor.Y1 a) M with
 | none=>simp
 | some v=>exact h _ (Zbw hg)
theorem Zal {M:List (List UInt8 × Int)} (h:SmN M) (x:GL):SmI (YT M x):=by
 have:=Zdj h x.a
 unfold YT SmI; split <;> omega
end Go.Abs
namespace Go.Proofs.YthgbkalgmicniaaGreatDoor
open Go.Abs
set_option maxRecDepth 100000
theorem Zj0 (n:Nat) (H:Zf) (l b:Nat) (c0:AV) (rest:List AV) (lm km:Nat) (M:List (List UInt8 × Int)) (hl:l < n) (hlm:lm < n) (hb:H l b = some (.box (c0 :: .map lm km :: rest))) (hM:H lm km = some (.map (Vl M))) (hn:0 < n) (hT:Tabs H) (a:Am) (ha:a.Good) :
  PC Tryz.prog n 124 [.ptr l b 0,a.enc] H (.int .i64 (numOf M a)):=by
 have hne:¬ l = n:=by omega
 have hne2:¬ lm = n:=by omega
 have hlk:=fun re=>JH kinj_str (AV.int .i64) re (Y1 a) M
 have hkk:∀ p ∈ Vl M,Yv tt 9 p.1 = true:=fun p hp=>by
  obtain ⟨q,_,rfl⟩:=List.mem_map.1 hp; exact Jv _
 refine Zm tok (Zb Tryz.func124 rfl rfl) (by simp) fun B=>?_
 refine Za tok rfl rfl ?_
 simp only [go_sem,simprocAttr]
 refine YX tok mixed drawO rfl rfl rfl ?_
 simp only [go_sem,simprocAttr,hne,hb]
 refine ⟨by omega,?_⟩
 refine ZH (Zb Tryz.func17 rfl rfl) (Zjx a ha) hn hT rfl ?_
 simp only [go_sem,simprocAttr]
 simp only [go_sem,simprocAttr,hne2,hM,hlk]
 refine ⟨hkk,?_⟩
 refine Zi rfl rfl ?_
 refine Ze ?_ (.int _ _) rfl
 simp only [go_sem,simprocAttr,numOf]
 cases getM (Y1 a) M <;> exact .refl _
theorem ZlY (n:Nat) (H:Zf) (l b:Nat) (c0:AV) (rest:List AV) (lm km:Nat) (M:List (List UInt8 × Int)) (hl:l < n) (hlm:lm < n) (hb:H l b = some (.box (c0 :: .map lm km :: rest))) (hM:H lm km = some (.map (Vl M))) (hsm:SmN M) (hn:0 < n) (hT:Tabs H) (x:GL) (hx:x.a.Good) :
  PC Tryz.prog n 119 [.ptr l b 0,x.enc] H (.int .i64 (YT M x)):=by
 have h1:=Zdj hsm x.a
 have hw:IntKind.i64.wrap (0 - numOf M x.a) = -numOf M x.a:=by rw [IntWalk.i64_in _ (by omega)]; omega
 refine Zm tok (Zb Tryz.func119 rfl rfl) (by simp) fun B=>?_
 refine Za tok rfl rfl ?_
 simp only [go_sem,simprocAttr]
 cases hno:x.no with
 | true =>
  refine Za tok rfl rfl ?_
  simp only [go_sem,simprocAttr,hno]
  refine Zp rfl rfl rfl ?_
  refine Za tok rfl rfl ?_
  simp only [go_sem,simprocAttr]
  refine XZ (Zb Tryz.func124 rfl rfl) (Zj0 (n + 1) _ l b c0 rest lm km M (show l < n + 1 by omega) (show lm < n + 1 by omega) (by show full n _ H l b = _; rw [ZL hl]; exact hb) (by show full n _ H lm km = _; rw [ZL hlm]; exact hM) (Nat.succ_pos _) (hT.full hn) x.a hx) (by simp only [go_sem,simprocAttr]) ?_
  simp only [go_sem,simprocAttr,hw]
  refine Zi rfl rfl ?_
  refine Ze ?_ (.int _ _) rfl
  simp only [go_sem,simprocAttr,YT,hno,if_true]
  exact .refl _
 | false =>
  refine Za tok rfl rfl ?_
  simp only [go_sem,simprocAttr,hno]
  refine Zn rfl rfl rfl ?_
  refine ZM rfl ?_
  refine Za tok rfl rfl ?_
  simp only [go_sem,simprocAttr]
  refine XZ (Zb Tryz.func124 rfl rfl) (Zj0 (n + 1) _ l b c0 rest lm km M (show l < n + 1 by omega) (show lm < n + 1 by omega) (by show full n _ H l b = _; rw [ZL hl]; exact hb) (by show full n _ H lm km = _; rw [ZL hlm]; exact hM) (Nat.succ_pos _) (hT.full hn) x.a hx) (by simp only [go_sem,simprocAttr]) ?_
  simp only [go_sem,simprocAttr]
  refine Zi rfl rfl ?_
  refine Ze ?_ (.int _ _) rfl
  simp only [go_sem,simprocAttr,YT,hno,if_false]
  exact .refl _
end Go.Proofs.YthgbkalgmicniaaGreatDoor

/- The groups of an aggregate's elements. No program. -/
namespace Go.Abs
open Go.Proofs.YthgbkalgmicniaaGreatDoor
structure Gp where
 key:List UInt8
 tup:List Tm
 ls:List LInt
def keyE (t:List Tm):List UInt8:=(Lib.itoa (t.length:Int) ++ [58]) ++ ZaH t
def Zep (t:List Tm) (c:LInt):List Gp → List Gp
 | []=>[⟨keyE t,t,[c]⟩]
 | g :: r=>if g.key = keyE t then ⟨g.key,g.tup,YJ g.ls c⟩ :: r else g :: Zep t c r
def ixG (k:List UInt8):List Gp → Nat
 | []=>0
 | g :: r=>if g.key = k then 0 else ixG k r + 1
def gIx (i:Nat):List Gp → List (List UInt8 × (Nat × List LInt))
 | []=>[]
 | g :: r=>(g.key,(i,g.ls)) :: gIx (i + 1) r
def Vd (gs:List Gp):List (List UInt8 × List Tm):=gs.map fun g=>(g.key,g.tup)
def YM (i:Nat):List Gp → List (Nat × Zk)
 | []=>[]
 | g :: r=>(300 + i,.buf 61 1 g.ls.length) :: YM (i + 1) r
def evG (n:Nat) (p:Nat × List LInt):AV:=.sl 1 (p.2.map Zw) (.buf n (300 + p.1))
def JW (t:List Tm):AV:=.sl 4 (t.map Tm.enc) .any
theorem Zby (k:List UInt8):∀ (gs:List Gp) (i:Nat),getM k (gIx i gs) = (gs[ixG k gs]?).map fun g=>(i + ixG k gs,g.ls)
 | [],i=>rfl
 | g :: r,i=>by
  simp only [gIx,getM,ixG]
  by_cases h:g.key = k
  ·simp [h]
  ·rw [if_neg h,if_neg h,Zby k r (i + 1),List.getElem?_cons_succ]
   congr 1
   funext g
   rw [show i + 1 + ixG k r = i + (ixG k r + 1) by omega]
theorem Zde (k:List UInt8):∀ gs:List Gp,getM k (Vd gs) = (gs[ixG k gs]?).map Gp.tup
 | []=>rfl
 | g :: r=>by
  simp only [Vd,List.map_cons,getM,ixG]
  by_cases h:g.key = k
  ·simp [h]
  ·rw [if_neg h,if_neg h,List.getElem?_cons_succ]
   exact Zde k r
theorem ZgR {k:List UInt8}:∀ {gs:List Gp} {g:Gp},gs[ixG k gs]? = some g → g.key = k
 | [],_,h=>by simp [ixG] at h
 | x :: r,g,h=>by
  simp only [ixG] at h
  split at h
  ·rename_i e; simp at h; subst h; exact e
  ·simp at h; exact ZgR h
theorem VK {t:List Tm} {c:LInt}:∀ {gs:List Gp},gs[ixG (keyE t) gs]? = none → Zep t c gs = gs ++ [⟨keyE t,t,[c]⟩] ∧ ixG (keyE t) gs = gs.length
 | [],_=>⟨rfl,rfl⟩
 | g :: r,h=>by
  simp only [ixG] at h
  split at h
  ·simp at h
  ·rename_i e
   have:=VK (t:=t) (c:=c) (gs:=r) (by simpa using h)
   simp only [Zep,ixG,if_neg e,this.1,this.2,List.cons_append,List.length_cons]
   exact ⟨trivial,trivial⟩
theorem VD {t:List Tm} {c:LInt}:∀ {gs:List Gp} {g:Gp},gs[ixG (keyE t) gs]? = some g → Zep t c gs = gs.set (ixG (keyE t) gs) ⟨g.key,g.tup,YJ g.ls c⟩
 | [],_,h=>by simp [ixG] at h
 | x :: r,g,h=>by
  simp only [ixG] at h
  simp only [Zep,ixG]
  split at h
  ·rename_i e; simp at h; subst h; rw [if_pos e,if_pos e]; rfl
  ·rename_i e
   rw [if_neg e,if_neg e,VD (gs:=r) (by simpa using h)]; rfl
theorem Zfv (g:Gp):∀ (gs:List Gp) (i:Nat),gIx i (gs ++ [g]) = gIx i gs ++ [(g.key,(i + gs.length,g.ls))]
 | [],i=>rfl
 | x :: r,i=>by
  simp only [List.cons_append,gIx,Zfv g r (i + 1),List.length_cons]
  rw [show i + 1 + r.length = i + (r.length + 1) by omega]
theorem ZgV (g:Gp):∀ (gs:List Gp) (i j:Nat),gIx i (gs.set j g) = (gIx i gs).set j (g.key,(i + j,g.ls))
 | [],i,j=>rfl
 | x :: r,i,0=>rfl
 | x :: r,i,j + 1=>by
  simp only [List.set_cons_succ,gIx,ZgV g r (i + 1) j]
  rw [show i + 1 + j = i + (j + 1) by omega]
theorem ZdD (g:Gp):∀ (gs:List Gp) (i:Nat),YM i (gs ++ [g]) = YM i gs ++ [(300 + (i + gs.length),.buf 61 1 g.ls.length)]
 | [],i=>rfl
 | x :: r,i=>by
  simp only [List.cons_append,YM,ZdD g r (i + 1),List.length_cons]
  rw [show i + 1 + r.length = i + (r.length + 1) by omega]
theorem lkb_bufs:∀ (gs:List Gp) (i j:Nat),lkb (YM i gs) (300 + (i + j)) = (gs[j]?).map fun g=>.buf 61 1 g.ls.length
 | [],i,j=>rfl
 | x :: r,i,0=>by simp [YM,lkb]
 | x :: r,i,j + 1=>by
  simp only [YM,lkb]
  rw [if_neg (by omega),show i + (j + 1) = i + 1 + j by omega,lkb_bufs r (i + 1) j,List.getElem?_cons_succ]
theorem ZaQ (x:Zk):∀ (gs:List Gp) (i:Nat),setb (YM i gs) (300 + (i + gs.length)) x = YM i gs ++ [(300 + (i + gs.length),x)]
 | [],i=>rfl
 | g :: r,i=>by
  simp only [YM,setb,List.length_cons]
  rw [if_neg (by omega),show i + (r.length + 1) = i + 1 + r.length by omega,ZaQ x r (i + 1)]; rfl
theorem ZaL (g:Gp):∀ (gs:List Gp) (i j:Nat),j < gs.length → setb (YM i gs) (300 + (i + j)) (.buf 61 1 g.ls.length) = YM i (gs.set j g)
 | [],i,j,h=>absurd h (Nat.not_lt_zero _)
 | x :: r,i,0,h=>by simp [YM,setb]
 | x :: r,i,j + 1,h=>by
  simp only [YM,setb,List.set_cons_succ]
  rw [if_neg (by omega),show i + (j + 1) = i + 1 + j by omega,ZaL g r (i + 1) j (by simpa using h)]
theorem ZeW (gs:List Gp):∀ (i k:Nat),k < 300 → lkb (YM i gs) k = none:=by
 induction gs with
 | nil=>intro i k _; rfl
 | cons g r ih=>intro i k h; simp only [YM,lkb]; rw [if_neg (by omega)]; exact ih _ _ h
def Yr (M:List (List UInt8 × Int)) (l:List GE):List Gp:=l.foldl (fun gs e=>Zep e.tuple (Y5 (e.cond.map (YT M))) gs) []
theorem Vw (M:List (List UInt8 × Int)) (l:List GE) (e:GE):Yr M (l ++ [e]) = Zep e.tuple (Y5 (e.cond.map (YT M))) (Yr M l):=by simp [Yr]
end Go.Abs

/- The table: note. -/
namespace Go.Abs
open Go.Proofs.YthgbkalgmicniaaGreatDoor
structure Tb where
 A:List Am
 M:List (List UInt8 × Int)
def Tb.add (t:Tb) (a:Am):Tb:=if numOf t.M a = 0 then ⟨t.A ++ [a],Xv (Y1 a) 1 t.M⟩ else t
def Tb.adds (t:Tb) (l:List Am):Tb:=l.foldl Tb.add t
def tbC (l:Nat) (t:Tb):List AV:=[.msl 2 l 200 t.A.length,.map l 12]
def tbA (t:Tb):Zk:=.ZN 33 2 (fl Am.cs t.A) t.A.length
def tbH (H:Zf) (l:Nat) (t:Tb):Zf:=((H.upd l 12 (.map (Vl t.M))).upd l 200 (tbA t)).upd l 3 (.box (tbC l t))
theorem Zhi {H:Zf} {l:Nat} {t:Tb}:tbH H l t l 3 = some (.box (tbC l t)):=Zf.upd_same _ _ _ _
theorem ZlJ {H:Zf} {l:Nat} {t:Tb}:tbH H l t l 200 = some (tbA t):=by unfold tbH; rw [Zf.upd_ne _ _ (by omega),Zf.upd_same]
theorem Zhl {H:Zf} {l:Nat} {t:Tb}:tbH H l t l 12 = some (.map (Vl t.M)):=by unfold tbH; rw [Zf.upd_ne _ _ (by omega),Zf.upd_ne _ _ (by omega),Zf.upd_same]
theorem Zlt {H:Zf} {l l' k:Nat} {t:Tb} (h:l' ≠ l):tbH H l t l' k = H l' k:=by unfold tbH; rw [Zf.upd_ne _ _ (fun e=>h e.1),Zf.upd_ne _ _ (fun e=>h e.1),Zf.upd_ne _ _ (fun e=>h e.1)]
theorem Zkm {H:Zf} {l:Nat} {t t':Tb}:(((tbH H l t).upd l 12 (.map (Vl t'.M))).upd l 200 (tbA t')).upd l 3 (.box (tbC l t')) = tbH H l t':=by
 unfold tbH
 rw [Wy _ (l:=l) (k:=3) (l':=l) (k':=12) (by omega),Wy _ (l:=l) (k:=200) (l':=l) (k':=12) (by omega),WT,Wy _ (l:=l) (k:=3) (l':=l) (k':=200) (by omega),WT,WT]
theorem Am.JI {n:Nat} (l:List Am):∀ c ∈ fl Am.cs l,Below n c:=fun c hc=>by
 simp only [fl,List.mem_flatMap] at hc
 obtain ⟨x,_,hx⟩:=hc; exact x.bcs.mem _ hx
theorem ZhE {n:Nat} (t:Tb):Zk.Below n (tbA t):=⟨fun a ha=>Am.JI _ a ha,by simp [Zk.at_,tbA]⟩
theorem Z8 {n:Nat} (M:List (List UInt8 × Int)):Zk.Below n (.map (Vl M)):=Zfk (Zdc (fun _=>.str _) (fun _ _=>.int _ _))
theorem ZhV {n l:Nat} (h:l < n) (t:Tb):Zk.Below n (.box (tbC l t)):=Zk.YV ⟨.msl _ _ _ _ h,.map _ _ h,trivial⟩
theorem Tb.ZjU (t:Tb) (a:Am):(t.add a).A.length ≤ t.A.length + 1:=by unfold Tb.add; split <;> simp
theorem Tb.adds_len:∀ (l:List Am) (t:Tb),(t.adds l).A.length ≤ t.A.length + l.length
 | [],t=>by simp [Tb.adds]
 | a :: l,t=>by
  have h1:=Tb.adds_len l (t.add a)
  have h2:=t.ZjU a
  simp only [Tb.adds,List.foldl_cons,List.length_cons] at *; omega
theorem Tb.Zh9 (t:Tb) (l:List Am) (a:Am):t.adds (l ++ [a]) = (t.adds l).add a:=by simp [Tb.adds]
end Go.Abs
namespace Go.Proofs.YthgbkalgmicniaaGreatDoor
open Go.Abs
set_option maxRecDepth 100000
def Zi3 (n l:Nat) (hs:List Am) (H:Zf) (t:Tb) (i:Nat):Zh :=
 ⟨[(8,.int .i64 i),(7,.int .i64 hs.length),(6,.sl 2 (hs.map Am.enc) .any),(0,.ptr l 3 0)],[],tbH H l (t.adds (hs.take i))⟩
def op113:Opt:=⟨true,false,fun d=>if d = 29 then .heap else .auto,[]⟩
theorem Tabs.tbH {H:Zf} {l:Nat} {t:Tb} (h:Tabs H) (hl:0 < l):Tabs (tbH H l t):=Tabs.up h fun k=>Zlt (by omega)
theorem Zn3 (n:Nat) (H:Zf) (l:Nat) (t:Tb) (hl:l < n) (h0:0 < l) (hT:Tabs H) (hs:List Am) (o:Own) (hg:∀ a ∈ hs,a.Good) (hlen:t.A.length + hs.length ≤ 1000000) :
  Zr Tryz.prog n 113 [.ptr l 3 0,.sl 2 (hs.map Am.enc) o] (tbH H l t) fun r H'=>r = .tup [] ∧ H' = tbH H l (t.adds hs):=by
 have hne:¬ l = n:=by omega
 have hn:0 < n:=by omega
 refine Zm tok (Zb Tryz.func113 rfl rfl) (by simp) fun B=>?_
 refine Za tok rfl rfl ?_
 simp only [go_sem,simprocAttr]
 repeat refine kn rfl ?_
 refine Zy (Zi3 n l hs H t) hs.length rfl ?_ ?_
 ·unfold Zi3
  rw [List.take_zero]
  refine Zg ?_ ?_ ?_ ?_ <;> repeat' first|exact trivial|refine q0 ?_|exact qb|exact q1|exact q2|exact q3|exact rfl|refine And.intro ?_ ?_|exact qA rfl|exact Inside.ptr _ _ _ (.inr ⟨rfl,rfl⟩)|exact Tm.ins _|exact Tm.Zj _ _|exact Am.ins _|exact Am.Zj _ _|refine Zd ?_|refine Tm.Zc ?_|refine Am.Zc ?_
  all_goals first | exact Inside.ptr _ _ _ (.inl hl) | exact Am.Zj _ _ | exact Wk.any _ _ _
 intro i hi
 refine Yi rfl ?_
 rcases Nat.lt_or_ge i hs.length with h | h
 ·have ha:=hg _ (List.getElem_mem h)
  have hnx:t.adds (hs.take (i + 1)) = (t.adds (hs.take i)).add hs[i]:=by rw [List.take_succ_eq_append_getElem h,Tb.Zh9]
  have hml:=Tb.adds_len (hs.take i) t
  rw [List.length_take] at hml
  generalize t.adds (hs.take i) = u at *
  refine Za tok rfl rfl ?_
  simp only [go_sem,simprocAttr,h]
  refine Zp rfl rfl rfl ?_
  refine Za tok rfl rfl ?_
  simp only [go_sem,simprocAttr,Am.YI _ _ h,h]
  refine Za tok rfl rfl ?_
  simp only [go_sem,simprocAttr]
  refine XZ (Zb Tryz.func124 rfl rfl) (Zj0 (n + 1) _ l 3 (.msl 2 l 200 u.A.length) [] l 12 u.M (show l < n + 1 by omega) (show l < n + 1 by omega) (by show full n _ (tbH H l u) l 3 = _; rw [ZL hl]; exact Zhi) (by show full n _ (tbH H l u) l 12 = _; rw [ZL hl]; exact Zhl) (Nat.succ_pos _) ((hT.tbH h0).full hn) hs[i] ha) (by simp only [go_sem,simprocAttr]) ?_
  simp only [go_sem,simprocAttr]
  by_cases hz:numOf u.M hs[i] = 0
  ·have hz':(numOf u.M hs[i] == 0) = true:=by simpa using hz
   refine Zp rfl rfl (by simp only [go_sem,simprocAttr,hz']) ?_
   have hadd:u.add hs[i] = ⟨u.A ++ [hs[i]],Xv (Y1 hs[i]) 1 u.M⟩:=by rw [Tb.add,if_pos hz]
   rw [hadd] at hnx
   have hb:=Zhi (H:=H) (l:=l) (t:=u)
   have hm:=Zhl (H:=H) (l:=l) (t:=u)
   have hat:=ZlJ (H:=H) (l:=l) (t:=u)
   have hset:=Zkm (H:=H) (l:=l) (t:=u) (t':=⟨u.A ++ [hs[i]],Xv (Y1 hs[i]) 1 u.M⟩)
   have hTu:Tabs (tbH H l u):=hT.tbH h0
   have hput:=Za1 kinj_str (AV.int .i64) (Y1 hs[i]) 1 u.M
   have hkk:∀ p ∈ Vl u.M,Yv tt 9 p.1 = true:=fun p hp=>by
    obtain ⟨q,_,rfl⟩:=List.mem_map.1 hp; exact Jv _
   have hq:∀ Y,((tbH H l u).upd l 12 Y) l 3 = tbH H l u l 3:=fun Y=>Zf.upd_ne _ _ (by omega)
   have hq2:∀ Y,((tbH H l u).upd l 12 Y) l 200 = tbH H l u l 200:=fun Y=>Zf.upd_ne _ _ (by omega)
   have hq3:∀ Y Z,(((tbH H l u).upd l 12 Y).upd l 200 Z) l 3 = tbH H l u l 3:=fun Y Z=>by rw [Zf.upd_ne _ _ (by omega),Zf.upd_ne _ _ (by omega)]
   have hcell:=ZhV hl (⟨u.A ++ [hs[i]],Xv (Y1 hs[i]) 1 u.M⟩:Tb)
   have hbA:=ZhE (n:=n) (⟨u.A ++ [hs[i]],Xv (Y1 hs[i]) 1 u.M⟩:Tb)
   have hbN:=Z8 (n:=n) (Xv (Y1 hs[i]) 1 u.M)
   generalize tbH H l u = G at *
   refine YX tok mixed drawO rfl rfl rfl ?_
   simp only [go_sem,simprocAttr,hne,hb,tbC]
   refine ZH (Zb Tryz.func17 rfl rfl) (Zjx hs[i] ha) hn hTu (by simp only [go_sem,simprocAttr]) ?_
   simp only [go_sem,simprocAttr,hne,hb,tbC,hm,hput]
   refine ⟨hkk,.inr hbN,?_⟩
   repeat refine kn rfl ?_
   refine WH tok mixed op113 rfl rfl (by kernel_rfl) (by kernel_rfl) ?_
   simp only [go_sem,simprocAttr,op113,hne,hb,tbC,hq,hq2,hq3,hat,tbA]
   have e1:fl Am.cs u.A ++ flat [hs[i].enc] = fl Am.cs (u.A ++ [hs[i]]):=by simp [Jd,flat,fl,Am.enc,AV.cells]
   have e2:u.A.length + 1 = (u.A ++ [hs[i]]).length:=by simp
   rw [e1]
   refine ⟨rfl,⟨ZQ (by omega),by omega⟩,.inr (by rw [e2]; exact hbA),.inr (by rw [e2]; exact hcell),?_⟩
   rw [e2]
   simp only [tbA,tbC] at hset
   rw [hset,← hnx]
   refine Za tok rfl rfl ?_
   simp only [go_sem,simprocAttr]
   refine Zt rfl ?_
   refine Zg ?_ ?_ ?_ ?_ <;> repeat' first|exact trivial|refine q0 ?_|exact qb|exact q1|exact q2|exact q3|exact rfl|refine And.intro ?_ ?_|exact qA rfl|exact Inside.ptr _ _ _ (.inr ⟨rfl,rfl⟩)|exact Tm.ins _|exact Tm.Zj _ _|exact Am.ins _|exact Am.Zj _ _|refine Zd ?_|refine Tm.Zc ?_|refine Am.Zc ?_
   ·simp only [go_sem,simprocAttr]
    rw [IntWalk.i64_in _ (by omega)]; exact .refl _
   all_goals first | exact Inside.ptr _ _ _ (.inl hl) | exact Am.Zj _ _
  ·have hz':(numOf u.M hs[i] == 0) = false:=by simpa using hz
   refine Zn rfl rfl (by simp only [go_sem,simprocAttr,hz']) ?_
   refine ZM rfl ?_
   have hadd:u.add hs[i] = u:=by rw [Tb.add,if_neg hz]
   rw [hadd] at hnx
   refine Za tok rfl rfl ?_
   simp only [go_sem,simprocAttr]
   refine Zt rfl ?_
   unfold Zi3
   rw [hnx]
   refine Zg ?_ ?_ ?_ ?_ <;> repeat' first|exact trivial|refine q0 ?_|exact qb|exact q1|exact q2|exact q3|exact rfl|refine And.intro ?_ ?_|exact qA rfl|exact Inside.ptr _ _ _ (.inr ⟨rfl,rfl⟩)|exact Tm.ins _|exact Tm.Zj _ _|exact Am.ins _|exact Am.Zj _ _|refine Zd ?_|refine Tm.Zc ?_|refine Am.Zc ?_
   ·simp only [go_sem,simprocAttr]
    rw [IntWalk.i64_in _ (by omega)]; exact .refl _
   all_goals first | exact Inside.ptr _ _ _ (.inl hl) | exact Am.Zj _ _
 ·refine Za tok rfl rfl ?_
  simp only [go_sem,simprocAttr,Nat.not_lt.2 h]
  refine Zn rfl rfl rfl ?_
  refine Yh rfl rfl rfl rfl ?_
  have hi':i = hs.length:=by omega
  subst hi'
  rw [List.take_length]
  exact XW ⟨by simp [YH],[],trivial,by simp,rfl,rfl⟩
end Go.Proofs.YthgbkalgmicniaaGreatDoor

/- The rules of a choice. -/
namespace Go.Abs
def XP (h:List Int):Wm:=h.foldl (fun w a=>Xv a 1 w) []
def St.pick (s:St) (h:List Int):St:=if h.length = 0 then s else s.choose
def St.low (s:St) (x:Ins) (h body:List Int):St :=
 if x.lower ≤ 0 then s else if (h.length:Int) < x.lower then s.rule [] body else (s.aux.sum [s.n + 1] (XP h) x.lower).rule [] (body ++ [-(s.n + 1)])
def St.upp (s:St) (x:Ins) (h body:List Int):St :=
 if x.upper < 0 ∨ (h.length:Int) ≤ x.upper then s else if body.length = 0 then s.sum [] (XP h) (x.upper + 1) else (s.aux.sum [s.n + 1] (XP h) (x.upper + 1)).rule [] (body ++ [s.n + 1])
def St.XL (s:St) (h body:List Int):St:=if h.length = 0 then s else (s.rule h body).choose
def St.choice (s:St) (x:Ins) (h:List Int) (l:List Cnd):St :=
 if x.lower ≤ 0 ∧ (x.upper < 0 ∨ (h.length:Int) ≤ x.upper) then (if h.length = 0 then s else (s.emit h l).choose)
 else (((s.lits l).2.XL h (s.lits l).1).low x h (s.lits l).1).upp x h (s.lits l).1
theorem Zhr (h:List Int) (a:Int):XP (h ++ [a]) = Xv a 1 (XP h):=by simp [XP]
theorem allW_len:∀ (h:List Int),(XP h).length ≤ h.length:=by
 intro h
 have:∀ (h:List Int) (w:Wm),(h.foldl (fun w a=>Xv a 1 w) w).length ≤ w.length + h.length:=by
  intro h
  induction h with
  | nil=>intro w; simp
  | cons a h ih =>
   intro w
   have h1:=ih (Xv a 1 w)
   have h2:=ZfI a 1 w
   simp only [List.foldl_cons,List.length_cons]
   split at h2 <;> omega
 have:=this h []
 simpa [XP] using this
theorem Zkl (h:List Int):((XP h).map Prod.fst).Nodup:=by
 have:∀ (h:List Int) (w:Wm),(w.map Prod.fst).Nodup → ((h.foldl (fun w a=>Xv a 1 w) w).map Prod.fst).Nodup:=by
  intro h
  induction h with
  | nil=>intro w hw; exact hw
  | cons a h ih=>intro w hw; exact ih _ (ZcM hw)
 exact this h [] (by simp)
theorem Zfa {h:List Int} {p:Int × Int} (hp:p ∈ XP h):p.1 ∈ h ∧ p.2 = 1:=by
 have:∀ (h:List Int) (w:Wm),p ∈ (h.foldl (fun w a=>Xv a 1 w) w) → p ∈ w ∨ (p.1 ∈ h ∧ p.2 = 1):=by
  intro h
  induction h with
  | nil=>intro w hw; exact .inl hw
  | cons a h ih =>
   intro w hw
   rcases ih _ hw with h1 | h1
   ·rcases Zbf h1 with h2 | h2
    ·subst h2; exact .inr ⟨by simp,rfl⟩
    ·exact .inl h2
   ·exact .inr ⟨List.mem_cons_of_mem _ h1.1,h1.2⟩
 rcases this h [] hp with h1 | h1
 ·cases h1
 ·exact h1
end Go.Abs
namespace Go.Proofs.YthgbkalgmicniaaGreatDoor
open Go.Abs
set_option maxRecDepth 100000
theorem ZjQ {h:List Int} (hh:∀ x ∈ h,SmI x) (hl:h.length ≤ 100000):WOk (XP h) :=
 ⟨⟨by have:=allW_len h; omega,fun p hp=>by rw [(Zfa hp).2]; decide⟩,Zkl h,fun p hp=>hh _ (Zfa hp).1⟩
def ZeE (l k:Nat):Opt:=⟨false,false,fun d=>if d = 7 then .place l k false else .auto,[]⟩
theorem ZlL (n:Nat) (H:Zf) (xs:List Int) (o:Own) (l2 k2:Nat) (hl2:l2 < n) (hf:H l2 k2 = none) (hlen:xs.length ≤ 1000000) :
  Zr Tryz.prog n 207 [.sl 1 (ZI xs) o] H fun r H'=>r = .sl 1 (ZI xs) (.buf l2 k2) ∧ H' = H.upd l2 k2 (.buf 3 1 xs.length):=by
 have hne:¬ l2 = n:=by omega
 have hle:l2 ≤ n:=by omega
 have hbb:∀ m,l2 < m → Below m (.sl 1 (ZI xs) (.buf l2 k2)):=fun m hm=>ZV (fun x hx=>by obtain ⟨u,_,rfl⟩:=List.mem_map.1 hx; exact .int _ _) (fun _ _ e=>by cases e; exact hm)
 have hb2:Zk.Below n (.buf 3 1 xs.length):=⟨by simp [Zk.avs],by simp [Zk.at_]⟩
 cases xs with
 | nil =>
  refine Zr.ZeJ ?_ ?_
  ·refine Zm tok (Zb Tryz.func207 rfl rfl) (by simp) fun B=>?_
   refine Za tok rfl rfl ?_
   simp only [go_sem,simprocAttr]
   refine Za tok rfl rfl ?_
   simp only [go_sem,simprocAttr]
   refine ⟨⟨_,rfl⟩,?_⟩
   refine Zp rfl rfl rfl ?_
   refine Za tok rfl rfl ?_
   simp only [go_sem,simprocAttr]
   repeat refine kn rfl ?_
   refine Yx (Je (t:=2) (l:=l2) (j:=k2) 3 1 false hle rfl (by simp only [full,if_neg hne]; exact hf)) ?_
   simp only [ZbS,setH,if_neg hne,if_false]
   refine Zi rfl rfl ?_
   exact ZP (.refl _) (hbb _ hl2) ⟨rfl,rfl⟩
  ·refine Zm tok (Zb Tryz.func207 rfl rfl) (by simp) fun B=>?_
   refine Za tok rfl rfl ?_
   simp only [go_sem,simprocAttr]
   refine Za tok rfl rfl ?_
   simp only [go_sem,simprocAttr]
   refine ⟨⟨_,rfl⟩,?_⟩
   refine Zn rfl rfl rfl ?_
   repeat refine kn rfl ?_
   refine Yx (s':=⟨[(0,.sl 1 [] .any)],[],H⟩) ?_ ?_
   ·refine Zg ⟨Wk.sln 1,trivial⟩ trivial ⟨?_,trivial⟩ trivial
    exact (XQ []).inside
   refine WG tok (ZeE l2 k2) rfl rfl (by kernel_rfl) ?_
   simp only [go_sem,simprocAttr,ZeE,hne]
   refine ⟨rfl,⟨hle,hf⟩,.inr hb2,?_⟩
   refine Zi rfl rfl ?_
   exact ZP (.refl _) (hbb _ hl2) ⟨rfl,rfl⟩
 | cons x r =>
  have h1:=ZcV (x :: r)
  simp only [List.length_cons] at hlen hb2
  simp only [ZI,List.map_cons,List.mem_cons,forall_eq_or_imp] at h1 hbb
  refine Zm tok (Zb Tryz.func207 rfl rfl) (by simp) fun B=>?_
  refine Za tok rfl rfl ?_
  simp only [go_sem,simprocAttr]
  refine Za tok rfl rfl ?_
  simp only [go_sem,simprocAttr]
  refine ⟨⟨_,rfl⟩,?_⟩
  refine Zn rfl rfl rfl ?_
  repeat refine kn rfl ?_
  refine WG tok (ZeE l2 k2) rfl rfl (by kernel_rfl) ?_
  simp only [go_sem,simprocAttr,ZeE,hne]
  refine ⟨rfl,⟨hle,hf,h1.2,ZQ (by omega),by omega⟩,.inr hb2,?_⟩
  refine Zi rfl rfl ?_
  exact ZP (.refl _) (hbb _ hl2) ⟨rfl,rfl⟩
end Go.Proofs.YthgbkalgmicniaaGreatDoor

/- The rules of a choice: the walk. -/
namespace Go.Proofs.YthgbkalgmicniaaGreatDoor
open Go.Abs
set_option maxRecDepth 100000
theorem td263:Z7 tt 263 = some (.struct [(0,183),(1,3)]):=rfl
theorem ZhI (s:St) (h:List Int) (l:List Cnd):∃ rs x,(s.emit h l).rules = rs ++ [x]:=by
 unfold St.emit
 split
 ·exact ⟨_,_,rfl⟩
 ·exact ⟨_,_,rfl⟩
theorem Zj5 {n l b:Nat} {H:Zf} {s:St} {k:Int} (hs:s.Fit k) (hk:k ≤ 800000) {cs:List Cnd} (hcs:∀ c ∈ cs,c.Ok n l b H) (hlen:cs.length ≤ 10000):∀ x ∈ (s.lits cs).1,SmI x:=fun x hx=>by
 have hfit:∀ i,((s.names (cs.take i)).2).Fit 900000:=fun i=>(names_fit (cs.take i) hs).mono (by rw [List.length_take]; omega)
 have hx:=(ordL_mem _ _).1 hx
 obtain ⟨i,hi,rfl⟩:=List.getElem_of_mem hx
 have hi':i < cs.length:=by rw [names_len] at hi; exact hi
 rw [(names_take cs s i hi').2 hi]
 exact ZeF (hfit i) (by omega) (hcs _ (List.getElem_mem hi'))
theorem ZC {α:Type} {p:α → Prop}:∀ {l:List α},(∀ x ∈ l,p x) → Yj p l
 | [],_=>trivial
 | a :: r,h=>⟨h a (by simp),ZC fun x hx=>h x (by simp [hx])⟩
def JL (n l b:Nat) (h body:List Int) (lo up:Bool):List (Nat × AV):=[(0,.ptr l b 0),(2,.sl 1 (ZI h) .any),(8,.int .i64 h.length),(9,.bool lo),(10,.bool up),(11,.sl 1 (ZI body) .any),(12,.map n 56),(5,.ptr n 5 0)]
def Zec (n l b:Nat) (H:Zf) (F:Fr) (s:St) (x:Ins) (h body:List Int) (lo up:Bool):Zh :=
 ⟨JL n l b h body lo up,[(5,.box x.cs),(56,.map (Y3 (XP h)))],bxH H l b F s⟩
def ZgP (n l b:Nat) (H:Zf) (F:Fr) (s:St) (x:Ins) (h body:List Int) (lo up:Bool) (i:Nat):Zh :=
 ⟨(59,.int .i64 i) :: (58,.int .i64 h.length) :: (57,.sl 1 (ZI h) .any) :: JL n l b h body lo up,[(5,.box x.cs),(56,.map (Y3 (XP (h.take i))))],bxH H l b F s⟩
theorem Zm4 (n:Nat) (H:Zf) (l b:Nat) (F:Fr) (s:St) (hl:l < n) (hF:F.bel n) (hs:s.Fit 600000) (x:Ins) (h:List Int) (g1:∀ x ∈ h,SmI x) (l1:h.length ≤ 10000) (cs:List Cnd) (hcs:∀ c ∈ cs,c.Ok n l b H) (hlen:cs.length ≤ 10000)
  (hlo:-1 ≤ x.lower ∧ x.lower ≤ 1048576) (hup:-1 ≤ x.upper ∧ x.upper ≤ 1048576) :
  Zr Tryz.prog n 126 [.ptr l b 0,x.enc,.sl 1 (ZI h) .any,.sl 1 (cs.map Cnd.enc) .any] (bxH H l b F s) fun r H'=>r = .tup [] ∧ H' = bxH H l b F (s.choice x h cs):=by
 have hne:¬ l = n:=by omega
 obtain ⟨lo,elo⟩:∃ lo,lo = decide (0 < x.lower):=⟨_,rfl⟩
 obtain ⟨up,eup⟩:∃ up,up = (decide (0 ≤ x.upper) && decide (x.upper < h.length)):=⟨_,rfl⟩
 have hbi:=XQ (n:=n) (k:=1) h
 have hbc:=Zc2 (k:=1) hcs
 refine Zm tok (Zb Tryz.func126 rfl rfl) (by simp) fun B=>?_
 refine Za tok rfl rfl ?_
 simp only [go_sem,simprocAttr]
 refine Za tok rfl rfl ?_
 simp only [go_sem,simprocAttr]
 refine Xl rfl ?_
 refine XF ⟨[(0,.ptr l b 0),(2,.sl 1 (ZI h) .any),(3,.sl 1 (cs.map Cnd.enc) .any),(8,.int .i64 h.length),(9,.bool lo),(10,.bool up),(5,.ptr n 5 0)],[(5,.box x.cs)],bxH H l b F s⟩ ?_ ?_
 ·refine YX tok mixed drawO rfl rfl rfl ?_
  simp only [go_sem,simprocAttr]
  cases h1:decide (0 ≤ x.upper) with
  | false =>
   rw [h1,Bool.false_and] at eup
   subst eup elo
   simp only [go_sem,simprocAttr]
   refine Zt rfl ?_
   refine ⟨rfl,?_⟩
   refine Zg ?_ ?_ ?_ ?_ <;> repeat' first|exact trivial|refine q0 ?_|exact qb|exact q1|exact q2|exact q3|exact rfl|refine And.intro ?_ ?_|exact qA rfl|exact Inside.ptr _ _ _ (.inr ⟨rfl,rfl⟩)|exact Tm.ins _|exact Tm.Zj _ _|exact Am.ins _|exact Am.Zj _ _|refine Zd ?_|refine Tm.Zc ?_|refine Am.Zc ?_
   all_goals first | exact hbi.inside | exact hbc.inside | exact Inside.ptr _ _ _ (.inl hl) | exact (ZF _).inside | skip
  | true =>
   rw [h1,Bool.true_and] at eup
   subst eup elo
   simp only [go_sem,simprocAttr,h1]
   refine Zt rfl ?_
   refine ⟨rfl,?_⟩
   refine Zg ?_ ?_ ?_ ?_ <;> repeat' first|exact trivial|refine q0 ?_|exact qb|exact q1|exact q2|exact q3|exact rfl|refine And.intro ?_ ?_|exact qA rfl|exact Inside.ptr _ _ _ (.inr ⟨rfl,rfl⟩)|exact Tm.ins _|exact Tm.Zj _ _|exact Am.ins _|exact Am.Zj _ _|refine Zd ?_|refine Tm.Zc ?_|refine Am.Zc ?_
   all_goals first | exact hbi.inside | exact hbc.inside | exact Inside.ptr _ _ _ (.inl hl) | exact (ZF _).inside | skip
 by_cases hno:lo = false ∧ up = false
 ·-- no bound
  obtain ⟨rfl,rfl⟩:=hno
  have hch:s.choice x h cs = if h.length = 0 then s else (s.emit h cs).choose:=by
   have c1:x.lower ≤ 0:=by
    have:=elo; simp only [Bool.false_eq,decide_eq_false_iff_not] at this; omega
   have c2:x.upper < 0 ∨ (h.length:Int) ≤ x.upper:=by
    by_cases c:0 ≤ x.upper
    ·by_cases c':x.upper < h.length
     ·simp [c,c'] at eup
     ·right; omega
    ·left; omega
   rw [St.choice,if_pos ⟨c1,c2⟩]
  rw [hch]
  refine Za tok rfl rfl ?_
  simp only [go_sem,simprocAttr]
  refine Zp rfl rfl rfl ?_
  refine Za tok rfl rfl ?_
  simp only [go_sem,simprocAttr]
  by_cases h0:h.length = 0
  ·rw [if_pos h0]
   refine Zn rfl rfl (by simp only [go_sem,simprocAttr,h0]) ?_
   refine ZM rfl ?_
   refine Zi rfl rfl ?_
   exact ⟨by simp [YH],[],trivial,by simp,rfl,rfl⟩
  ·rw [if_neg h0]
   have h1:decide (0 < (h.length:Int)) = true:=by simp; omega
   refine Zp rfl rfl (by simp only [go_sem,simprocAttr,h1]) ?_
   refine Za tok rfl rfl ?_
   simp only [go_sem,simprocAttr]
   refine X0 hl hF (Zb Tryz.func125 rfl rfl) (Zme (n + 1) (full n [(5,.box x.cs)] H) l b F s (by omega) (hF.mono (Nat.le_succ n)) (hs.mono (by omega)) h .any g1 (by omega) cs (fun c hc=>ZbU (hcs c hc) _) hlen) (by simp only [go_sem,simprocAttr]) ?_
   simp only [go_sem,simprocAttr]
   refine Za tok rfl rfl ?_
   simp only [go_sem,simprocAttr]
   obtain ⟨rs,y,hlast⟩:=ZhI s h cs
   refine X0 hl hF (Zb Tryz.func212 rfl rfl) (a212 (n + 1) _ l b F (s.emit h cs) (by omega) (hF.mono (Nat.le_succ n)) ((ZcX h cs hs).mono (by omega)) rs y hlast) (by simp only [go_sem,simprocAttr]) ?_
   simp only [go_sem,simprocAttr]
   refine Zi rfl rfl ?_
   exact ⟨by simp [YH],[],trivial,by simp,rfl,rfl⟩
 ·have hch:s.choice x h cs = (((s.lits cs).2.XL h (s.lits cs).1).low x h (s.lits cs).1).upp x h (s.lits cs).1:=by
   rw [St.choice,if_neg]
   rintro ⟨c1,c2⟩
   refine hno ⟨by rw [elo]; simp; omega,?_⟩
   rw [eup]
   rcases c2 with c2 | c2
   ·simp; omega
   ·simp; omega
  rw [hch]
  have go:∀ tm:List (Nat × AV),lkv tm 0 = .ptr l b 0 → lkv tm 2 = .sl 1 (ZI h) .any → lkv tm 3 = .sl 1 (cs.map Cnd.enc) .any → lkv tm 8 = .int .i64 h.length → lkv tm 9 = .bool lo → lkv tm 10 = .bool up → lkv tm 5 = .ptr n 5 0 →
    AKc ⟨Tryz.prog,tt,⟨none,B⟩,n,Tryz.f126.ntmps⟩ [.code (Y9 Tryz.f126).snd.snd.snd.snd] (PostF Tryz.prog tt n Tryz.f126.results.toList fun r H'=>r = .tup [] ∧ H' = bxH H l b F ((((s.lits cs).2.XL h (s.lits cs).1).low x h (s.lits cs).1).upp x h (s.lits cs).1)) ⟨tm,[(5,.box x.cs)],bxH H l b F s⟩:=by
   intro tm t0 t2 t3 t8 t9 t10 t5
   refine Za tok rfl rfl ?_
   simp only [go_sem,simprocAttr,t0,t2,t3]
   refine X0 hl hF (Zb Tryz.func128 rfl rfl) (ZkN (n + 1) (full n [(5,.box x.cs)] H) l b F s (by omega) (hF.mono (Nat.le_succ n)) (hs.mono (by omega)) cs (fun c hc=>ZbU (hcs c hc) _) hlen) (by simp only [go_sem,simprocAttr,t0,t3]) ?_
   simp only [go_sem,simprocAttr]
   have hsm:∀ x ∈ (s.lits cs).1,SmI x:=Zj5 hs (by omega) hcs hlen
   have hbl:((s.lits cs).1).length ≤ 10000:=by have:=ordL_len (s.names cs).1; rw [names_len] at this; simp only [St.lits]; omega
   have hf1:(s.lits cs).2.Fit 620000:=(Zbv cs hs).mono (by omega)
   have e1:Zw (Y5 (s.names cs).1) = .sl 1 (ZI (s.lits cs).1) .any:=rfl
   have e2:(s.names cs).2 = (s.lits cs).2:=rfl
   rw [e1,e2]
   obtain ⟨body,hbody⟩:∃ body,body = (s.lits cs).1:=⟨_,rfl⟩
   obtain ⟨s1,hs1⟩:∃ s1,s1 = (s.lits cs).2:=⟨_,rfl⟩
   rw [← hbody] at hsm hbl ⊢
   rw [← hs1] at hf1 ⊢
   have hbb:=XQ (n:=n) (k:=1) body
   refine Za tok rfl rfl ?_
   simp only [go_sem,simprocAttr,t8]
   refine XF ⟨[(0,.ptr l b 0),(2,.sl 1 (ZI h) .any),(8,.int .i64 h.length),(9,.bool lo),(10,.bool up),(11,.sl 1 (ZI body) .any),(5,.ptr n 5 0)],[(5,.box x.cs)],bxH H l b F (s1.XL h body)⟩ ?_ ?_
   ·by_cases h0:h.length = 0
    ·rw [St.XL,if_pos h0]
     refine Zn rfl rfl (by simp only [go_sem,simprocAttr,h0]) ?_
     refine ZM rfl ?_
     refine Zt rfl ?_
     refine ⟨rfl,?_⟩
     refine Zg ?_ ?_ ?_ ?_ <;> repeat' first|exact trivial|refine q0 ?_|exact qb|exact q1|exact q2|exact q3|exact rfl|refine And.intro ?_ ?_|exact qA rfl|exact Inside.ptr _ _ _ (.inr ⟨rfl,rfl⟩)|exact Tm.ins _|exact Tm.Zj _ _|exact Am.ins _|exact Am.Zj _ _|refine Zd ?_|refine Tm.Zc ?_|refine Am.Zc ?_
     ·simp only [go_sem,simprocAttr,t0]
      exact .refl _
     ·simp only [go_sem,simprocAttr,t2]
      exact .refl _
     ·simp only [go_sem,simprocAttr,t8]
      exact .refl _
     ·simp only [go_sem,simprocAttr,t9]
      exact .refl _
     ·simp only [go_sem,simprocAttr,t10]
      exact .refl _
     ·simp only [go_sem,simprocAttr,t5]
      exact .refl _
     all_goals first | exact hbi.inside | exact hbb.inside | exact Inside.ptr _ _ _ (.inl hl) | exact Inside.ptr _ _ _ (.inr ⟨rfl,rfl⟩) | exact (ZF _).inside | skip
    ·rw [St.XL,if_neg h0]
     have h1:decide (0 < (h.length:Int)) = true:=by simp; omega
     refine Zp rfl rfl (by simp only [go_sem,simprocAttr,h1]) ?_
     refine Za tok rfl rfl ?_
     simp only [go_sem,simprocAttr,t0,t2]
     refine X0 hl hF (Zb Tryz.func206 rfl rfl) (a206 (n + 1) (full n [(5,.box x.cs)] H) l b F s1 (by omega) (hF.mono (Nat.le_succ n)) (hf1.mono (by omega)) h .any body .any g1 hsm (by omega) (by omega)) (by simp only [go_sem,simprocAttr,t0,t2]) ?_
     simp only [go_sem,simprocAttr]
     refine Za tok rfl rfl ?_
     simp only [go_sem,simprocAttr,t0]
     refine X0 hl hF (Zb Tryz.func212 rfl rfl) (a212 (n + 1) _ l b F (s1.rule h body) (by omega) (hF.mono (Nat.le_succ n)) ((hf1.rule _ _).mono (by omega)) s1.rules _ rfl) (by simp only [go_sem,simprocAttr,t0]) ?_
     simp only [go_sem,simprocAttr]
     refine Zt rfl ?_
     refine ⟨rfl,?_⟩
     refine Zg ?_ ?_ ?_ ?_ <;> repeat' first|exact trivial|refine q0 ?_|exact qb|exact q1|exact q2|exact q3|exact rfl|refine And.intro ?_ ?_|exact qA rfl|exact Inside.ptr _ _ _ (.inr ⟨rfl,rfl⟩)|exact Tm.ins _|exact Tm.Zj _ _|exact Am.ins _|exact Am.Zj _ _|refine Zd ?_|refine Tm.Zc ?_|refine Am.Zc ?_
     ·simp only [go_sem,simprocAttr,t0]
      exact .refl _
     ·simp only [go_sem,simprocAttr,t2]
      exact .refl _
     ·simp only [go_sem,simprocAttr,t8]
      exact .refl _
     ·simp only [go_sem,simprocAttr,t9]
      exact .refl _
     ·simp only [go_sem,simprocAttr,t10]
      exact .refl _
     ·simp only [go_sem,simprocAttr,t5]
      exact .refl _
     all_goals first | exact hbi.inside | exact hbb.inside | exact Inside.ptr _ _ _ (.inl hl) | exact Inside.ptr _ _ _ (.inr ⟨rfl,rfl⟩) | exact (ZF _).inside | skip
   have hf2:(s1.XL h body).Fit 630000:=by
    unfold St.XL
    split
    ·exact hf1.mono (by omega)
    ·exact (hf1.rule _ _).choose.mono (by omega)
   generalize s1.XL h body = s2 at *
   refine Za tok rfl rfl ?_
   simp only [go_sem,simprocAttr]
   refine Za tok rfl rfl ?_
   simp only [go_sem,simprocAttr]
   refine XF (Zec n l b H F s2 x h body lo up) ?_ ?_
   ·repeat refine kn rfl ?_
    refine Zy (ZgP n l b H F s2 x h body lo up) h.length rfl ?_ ?_
    ·unfold ZgP JL
     refine Zg ?_ ?_ ?_ ?_ <;> repeat' first|exact trivial|refine q0 ?_|exact qb|exact q1|exact q2|exact q3|exact rfl|refine And.intro ?_ ?_|exact qA rfl|exact Inside.ptr _ _ _ (.inr ⟨rfl,rfl⟩)|exact Tm.ins _|exact Tm.Zj _ _|exact Am.ins _|exact Am.Zj _ _|refine Zd ?_|refine Tm.Zc ?_|refine Am.Zc ?_
     all_goals first | exact hbi.inside | exact hbb.inside | exact Inside.ptr _ _ _ (.inl hl) | exact Inside.ptr _ _ _ (.inr ⟨rfl,rfl⟩) | exact Inside.map _ _ (.inr ⟨rfl,rfl⟩) | exact (ZF _).inside | skip
     all_goals exact 0
    intro i hi
    refine Yi rfl ?_
    rcases Nat.lt_or_ge i h.length with hlt | hge
    ·have hput:=Za1 kinj_int (AV.int .i64) h[i] 1 (XP (h.take i))
     have hkk:∀ p ∈ Y3 (XP (h.take i)),Yv tt 3 p.1 = true:=fun p hp=>by
      obtain ⟨q,_,rfl⟩:=List.mem_map.1 hp; rfl
     have hsn:Xv h[i] 1 (XP (h.take i)) = XP (h.take (i + 1)):=by rw [List.take_succ_eq_append_getElem hlt,Zhr]
     rw [hsn] at hput
     refine Za tok rfl rfl ?_
     simp only [go_sem,simprocAttr,hlt,JL]
     refine Zp rfl rfl rfl ?_
     refine Za tok rfl rfl ?_
     simp only [go_sem,simprocAttr,Zea _ _ hlt,hlt]
     refine Za tok rfl rfl ?_
     simp only [go_sem,simprocAttr,hput]
     refine ⟨⟨rfl,hkk⟩,?_⟩
     refine Za tok rfl rfl ?_
     simp only [go_sem,simprocAttr]
     refine Zt rfl ?_
     unfold ZgP JL
     refine Zg ?_ ?_ ?_ ?_ <;> repeat' first|exact trivial|refine q0 ?_|exact qb|exact q1|exact q2|exact q3|exact rfl|refine And.intro ?_ ?_|exact qA rfl|exact Inside.ptr _ _ _ (.inr ⟨rfl,rfl⟩)|exact Tm.ins _|exact Tm.Zj _ _|exact Am.ins _|exact Am.Zj _ _|refine Zd ?_|refine Tm.Zc ?_|refine Am.Zc ?_
     ·simp only [go_sem,simprocAttr]
      rw [IntWalk.i64_in _ (by omega)]; exact .refl _
     all_goals first | exact hbi.inside | exact hbb.inside | exact Inside.ptr _ _ _ (.inl hl) | exact Inside.ptr _ _ _ (.inr ⟨rfl,rfl⟩) | exact Inside.map _ _ (.inr ⟨rfl,rfl⟩) | exact (ZF _).inside | exact ZC fun c hc=>((Yc (n:=n) _).1 c hc).inside | skip
    ·have hi':i = h.length:=by omega
     subst hi'
     refine Za tok rfl rfl ?_
     simp only [go_sem,simprocAttr,Nat.not_lt.2 hge,JL]
     refine Zn rfl rfl rfl ?_
     refine Yh rfl rfl rfl rfl ?_
     refine Zt rfl ?_
     refine ⟨rfl,?_⟩
     rw [List.take_length]
     unfold Zec JL
     refine Zg ?_ ?_ ?_ ?_ <;> repeat' first|exact trivial|refine q0 ?_|exact qb|exact q1|exact q2|exact q3|exact rfl|refine And.intro ?_ ?_|exact qA rfl|exact Inside.ptr _ _ _ (.inr ⟨rfl,rfl⟩)|exact Tm.ins _|exact Tm.Zj _ _|exact Am.ins _|exact Am.Zj _ _|refine Zd ?_|refine Tm.Zc ?_|refine Am.Zc ?_
     all_goals first | exact hbi.inside | exact hbb.inside | exact Inside.ptr _ _ _ (.inl hl) | exact Inside.ptr _ _ _ (.inr ⟨rfl,rfl⟩) | exact Inside.map _ _ (.inr ⟨rfl,rfl⟩) | exact (ZF _).inside | exact ZC fun c hc=>((Yc (n:=n) _).1 c hc).inside | skip
   have hW:=ZjQ g1 (by omega)
   have hn2:=hf2.n
   refine Xl rfl ?_
   refine XF (Zec n l b H F (s2.low x h body) x h body lo up) ?_ ?_
   ·refine Yi rfl ?_
    unfold JL
    cases lo with
    | false =>
     have c1:x.lower ≤ 0:=by
      simp only [Bool.false_eq,decide_eq_false_iff_not] at elo; omega
     rw [St.low,if_pos c1]
     refine Za tok rfl rfl ?_
     simp only [go_sem,simprocAttr]
     refine Zp rfl rfl rfl ?_
     refine ZM rfl ?_
     refine Zt rfl ?_
     refine ⟨rfl,?_⟩
     unfold Zec JL
     refine Zg ?_ ?_ ?_ ?_ <;> repeat' first|exact trivial|refine q0 ?_|exact qb|exact q1|exact q2|exact q3|exact rfl|refine And.intro ?_ ?_|exact qA rfl|exact Inside.ptr _ _ _ (.inr ⟨rfl,rfl⟩)|exact Tm.ins _|exact Tm.Zj _ _|exact Am.ins _|exact Am.Zj _ _|refine Zd ?_|refine Tm.Zc ?_|refine Am.Zc ?_
     all_goals first | exact hbi.inside | exact hbb.inside | exact Inside.ptr _ _ _ (.inl hl) | exact Inside.ptr _ _ _ (.inr ⟨rfl,rfl⟩) | exact Inside.map _ _ (.inr ⟨rfl,rfl⟩) | exact (ZF _).inside | exact ZC fun c hc=>((Yc (n:=n) _).1 c hc).inside | skip
    | true =>
     have c1:¬ x.lower ≤ 0:=by
      simp only [Bool.true_eq,decide_eq_true_eq] at elo; omega
     by_cases c2:(h.length:Int) < x.lower
     ·rw [St.low,if_neg c1,if_pos c2]
      refine Za tok rfl rfl ?_
      simp only [go_sem,simprocAttr]
      refine Zn rfl rfl rfl ?_
      refine Za tok rfl rfl ?_
      simp only [go_sem,simprocAttr]
      refine Zp rfl rfl (by simp only [go_sem,simprocAttr,c2]) ?_
      refine Za tok rfl rfl ?_
      simp only [go_sem,simprocAttr]
      refine X0 hl hF (Zb Tryz.func206 rfl rfl) (a206 (n + 1) _ l b F s2 (by omega) (hF.mono (Nat.le_succ n)) (hf2.mono (by omega)) [] .full body .any (by simp) hsm (by simp) (by omega)) (by simp only [go_sem,simprocAttr]) ?_
      simp only [go_sem,simprocAttr]
      refine Zt rfl ?_
      refine ⟨rfl,?_⟩
      unfold Zec JL
      refine Zg ?_ ?_ ?_ ?_ <;> repeat' first|exact trivial|refine q0 ?_|exact qb|exact q1|exact q2|exact q3|exact rfl|refine And.intro ?_ ?_|exact qA rfl|exact Inside.ptr _ _ _ (.inr ⟨rfl,rfl⟩)|exact Tm.ins _|exact Tm.Zj _ _|exact Am.ins _|exact Am.Zj _ _|refine Zd ?_|refine Tm.Zc ?_|refine Am.Zc ?_
      all_goals first | exact hbi.inside | exact hbb.inside | exact Inside.ptr _ _ _ (.inl hl) | exact Inside.ptr _ _ _ (.inr ⟨rfl,rfl⟩) | exact Inside.map _ _ (.inr ⟨rfl,rfl⟩) | exact (ZF _).inside | exact ZC fun c hc=>((Yc (n:=n) _).1 c hc).inside | skip
     ·rw [St.low,if_neg c1,if_neg c2]
      refine Za tok rfl rfl ?_
      simp only [go_sem,simprocAttr]
      refine Zn rfl rfl rfl ?_
      refine Za tok rfl rfl ?_
      simp only [go_sem,simprocAttr]
      refine Zn rfl rfl (by simp only [go_sem,simprocAttr,c2]) ?_
      refine Za tok rfl rfl ?_
      simp only [go_sem,simprocAttr,td263]
      have hwn:IntKind.i64.wrap (0 - (s2.n + 1)) = -(s2.n + 1):=by rw [IntWalk.i64_in _ (by omega)]; omega
      refine X0 hl hF (Zb Tryz.func213 rfl rfl) (a213 (n + 1) (full n [(5,.box x.cs),(56,.map (Y3 (XP h)))] H) l b F s2 (by omega) (hF.mono (Nat.le_succ n)) (hf2.mono (by omega)) (.pend n 56 (XP h) x.lower) ⟨Nat.lt_succ_self n,hW,by simp only [go_sem,simprocAttr],by omega,by omega⟩) (by simp only [go_sem,simprocAttr,VT]) ?_
      have enm:s2.name (.pend n 56 (XP h) x.lower) = (.lit (s2.n + 1),s2.aux.sum [s2.n + 1] (XP h) x.lower):=rfl
      rw [enm]
      simp only [go_sem,simprocAttr,VY]
      refine Za tok rfl rfl ?_
      simp only [go_sem,simprocAttr]
      refine Xk (caps:=[]) (avs:=[.sl 1 (ZI body) .any]) rfl (Zb Tryz.func207 rfl rfl) (ZlL (n + 1) _ body .any n 300 (Nat.lt_succ_self n) (by simp only [go_sem,simprocAttr]) (by omega)) (by simp only [go_sem,simprocAttr]) ?_
      rintro r H1 ⟨rfl,rfl⟩
      refine ⟨[(5,.box x.cs),(56,.map (Y3 (XP h))),(300,.buf 3 1 body.length)],bxH H l b F (s2.aux.sum [s2.n + 1] (XP h) x.lower),(ZU n [(5,.box x.cs),(56,.map (Y3 (XP h)))] _ 300 _).symm,.refl _ _,?_⟩
      simp only [go_sem,simprocAttr,hwn]
      refine ⟨rfl,⟨ZQ (by omega),by omega⟩,?_⟩
      refine X0 hl hF (Zb Tryz.func206 rfl rfl) (a206 (n + 1) _ l b F (s2.aux.sum [s2.n + 1] (XP h) x.lower) (by omega) (hF.mono (Nat.le_succ n)) ((hf2.aux.sum _ _ _).mono (by omega)) [] .full (body ++ [-(s2.n + 1)]) (.buf n 300) (by simp) (by intro y hy; rcases List.mem_append.1 hy with hy | hy; exact hsm y hy; simp only [List.mem_singleton] at hy; subst hy; unfold SmI; omega) (by simp) (by simp; omega)) (by simp only [go_sem,simprocAttr,ZI,List.map_append]) ?_
      simp only [go_sem,simprocAttr]
      refine Zt rfl ?_
      refine ⟨rfl,?_⟩
      unfold Zec JL
      refine Zg ?_ ?_ ?_ ?_ <;> repeat' first|exact trivial|refine q0 ?_|exact qb|exact q1|exact q2|exact q3|exact rfl|refine And.intro ?_ ?_|exact qA rfl|exact Inside.ptr _ _ _ (.inr ⟨rfl,rfl⟩)|exact Tm.ins _|exact Tm.Zj _ _|exact Am.ins _|exact Am.Zj _ _|refine Zd ?_|refine Tm.Zc ?_|refine Am.Zc ?_
      all_goals first | exact hbi.inside | exact hbb.inside | exact Inside.ptr _ _ _ (.inl hl) | exact Inside.ptr _ _ _ (.inr ⟨rfl,rfl⟩) | exact Inside.map _ _ (.inr ⟨rfl,rfl⟩) | exact (ZF _).inside | exact ZC fun c hc=>((Yc (n:=n) _).1 c hc).inside | skip
   have hf3:(s2.low x h body).Fit 640000:=by
    unfold St.low
    split
    ·exact hf2.mono (by omega)
    ·split
     ·exact (hf2.rule _ _).mono (by omega)
     ·exact ((hf2.aux.sum _ _ _).rule _ _).mono (by omega)
   generalize s2.low x h body = s3 at *
   have hn3:=hf3.n
   have hwu:IntKind.i64.wrap (x.upper + 1) = x.upper + 1:=by rw [IntWalk.i64_in _ (by omega)]
   refine Yi rfl ?_
   unfold JL
   cases up with
   | false =>
    have c1:x.upper < 0 ∨ (h.length:Int) ≤ x.upper:=by
     by_cases c:0 ≤ x.upper
     ·by_cases c':x.upper < h.length
      ·simp [c,c'] at eup
      ·right; omega
     ·left; omega
    rw [St.upp,if_pos c1]
    refine Za tok rfl rfl ?_
    simp only [go_sem,simprocAttr]
    refine Zp rfl rfl rfl ?_
    refine ZM rfl ?_
    repeat refine kn rfl ?_
    exact XW ⟨by simp [YH],[],trivial,by simp,rfl,rfl⟩
   | true =>
    have c1:¬ (x.upper < 0 ∨ (h.length:Int) ≤ x.upper):=by
     simp only [Bool.true_eq,Bool.and_eq_true,decide_eq_true_eq] at eup; omega
    by_cases c2:body.length = 0
    ·rw [St.upp,if_neg c1,if_pos c2]
     refine Za tok rfl rfl ?_
     simp only [go_sem,simprocAttr]
     refine Zn rfl rfl rfl ?_
     refine Za tok rfl rfl ?_
     simp only [go_sem,simprocAttr]
     refine Zp rfl rfl (by simp only [go_sem,simprocAttr,c2]) ?_
     refine Za tok rfl rfl ?_
     simp only [go_sem,simprocAttr,hwu]
     refine X0 hl hF (Zb Tryz.func211 rfl rfl) (Zk0 (n + 1) (full n [(5,.box x.cs),(56,.map (Y3 (XP h)))] H) l b F s3 (by omega) (hF.mono (Nat.le_succ n)) (hf3.mono (by omega)) [] .full (by simp) (by simp) n 56 (XP h) (Nat.lt_succ_self n) hW (by simp only [go_sem,simprocAttr]) (by omega) (by omega) (x.upper + 1)) (by simp only [go_sem,simprocAttr]) ?_
     simp only [go_sem,simprocAttr]
     repeat refine kn rfl ?_
     exact XW ⟨by simp [YH],[],trivial,by simp,rfl,rfl⟩
    ·rw [St.upp,if_neg c1,if_neg c2]
     have c3:((body.length:Int) == 0) = false:=by rw [beq_eq_false_iff_ne]; omega
     refine Za tok rfl rfl ?_
     simp only [go_sem,simprocAttr]
     refine Zn rfl rfl rfl ?_
     refine Za tok rfl rfl ?_
     simp only [go_sem,simprocAttr]
     refine Zn rfl rfl (by simp only [go_sem,simprocAttr,c3]) ?_
     refine Za tok rfl rfl ?_
     simp only [go_sem,simprocAttr,hwu,td263]
     refine X0 hl hF (Zb Tryz.func213 rfl rfl) (a213 (n + 1) (full n [(5,.box x.cs),(56,.map (Y3 (XP h)))] H) l b F s3 (by omega) (hF.mono (Nat.le_succ n)) (hf3.mono (by omega)) (.pend n 56 (XP h) (x.upper + 1)) ⟨Nat.lt_succ_self n,hW,by simp only [go_sem,simprocAttr],by omega,by omega⟩) (by simp only [go_sem,simprocAttr,VT]) ?_
     have enm:s3.name (.pend n 56 (XP h) (x.upper + 1)) = (.lit (s3.n + 1),s3.aux.sum [s3.n + 1] (XP h) (x.upper + 1)):=rfl
     rw [enm]
     simp only [go_sem,simprocAttr,VY]
     refine Za tok rfl rfl ?_
     simp only [go_sem,simprocAttr]
     refine Xk (caps:=[]) (avs:=[.sl 1 (ZI body) .any]) rfl (Zb Tryz.func207 rfl rfl) (ZlL (n + 1) _ body .any n 300 (Nat.lt_succ_self n) (by simp only [go_sem,simprocAttr]) (by omega)) (by simp only [go_sem,simprocAttr]) ?_
     rintro r H1 ⟨rfl,rfl⟩
     refine ⟨[(5,.box x.cs),(56,.map (Y3 (XP h))),(300,.buf 3 1 body.length)],bxH H l b F (s3.aux.sum [s3.n + 1] (XP h) (x.upper + 1)),(ZU n [(5,.box x.cs),(56,.map (Y3 (XP h)))] _ 300 _).symm,.refl _ _,?_⟩
     simp only [go_sem,simprocAttr]
     refine ⟨rfl,⟨ZQ (by omega),by omega⟩,?_⟩
     refine X0 hl hF (Zb Tryz.func206 rfl rfl) (a206 (n + 1) _ l b F (s3.aux.sum [s3.n + 1] (XP h) (x.upper + 1)) (by omega) (hF.mono (Nat.le_succ n)) ((hf3.aux.sum _ _ _).mono (by omega)) [] .full (body ++ [s3.n + 1]) (.buf n 300) (by simp) (by intro y hy; rcases List.mem_append.1 hy with hy | hy; exact hsm y hy; simp only [List.mem_singleton] at hy; subst hy; unfold SmI; omega) (by simp) (by simp; omega)) (by simp only [go_sem,simprocAttr,ZI,List.map_append]) ?_
     simp only [go_sem,simprocAttr]
     repeat refine kn rfl ?_
     exact XW ⟨by simp [YH],[],trivial,by simp,rfl,rfl⟩
  have h3:(lo || up) = true:=by
   cases hlo':lo <;> cases hup':up <;> simp [hlo',hup'] at hno ⊢
  cases hlo':lo with
  | true =>
   rw [hlo'] at go
   refine Za tok rfl rfl ?_
   simp only [go_sem,simprocAttr]
   refine Zn rfl rfl rfl ?_
   refine ZM rfl ?_
   exact go _ rfl rfl rfl rfl rfl rfl rfl
  | false =>
   cases hup':up with
   | false=>rw [hlo',hup'] at h3; cases h3
   | true =>
    rw [hlo',hup'] at go
    refine Za tok rfl rfl ?_
    simp only [go_sem,simprocAttr]
    refine Zn rfl rfl rfl ?_
    refine ZM rfl ?_
    exact go _ rfl rfl rfl rfl rfl rfl rfl
end Go.Proofs.YthgbkalgmicniaaGreatDoor

/- Orders by lists of numbers; sorted lists that are permutations of each other. -/
namespace Go.Proofs.YthgbkalgmicniaaGreatDoor
open Go.Abs
section
variable {X:Type} {G:X → Prop} {cf:X → X → Int} {f:X → List Int}
theorem ZfG {x y z:List Int} (h:lexI x y < 0) (h':lexI y z < 0):lexI x z < 0:=by
 have h1:=lexI_trans x y z (by omega) (by omega)
 rcases Int.lt_or_eq_of_le h1 with h2 | h2
 ·exact h2
 ·have h3:=lexI_anti x z
  have h4:=lexI_trans z x y (by omega) (by omega)
  have h5:=lexI_anti z y
  omega
theorem Zkf (h:∀ x y,G x → G y → cf x y = lexI (f x) (f y)):ZfV G (ltOf cf) where
 irrefl x hx:=by rw [ltOf,h x x hx hx,lexI_self]; rfl
 trans x y z hx hy hz h1 h2:=by
  rw [ltOf,decide_eq_true_eq] at *
  rw [h _ _ hx hy] at h1
  rw [h _ _ hy hz] at h2
  rw [h _ _ hx hz]
  exact ZfG h1 h2
 ntrans x y z hx hy hz h1 h2:=by
  rw [ltOf,decide_eq_false_iff_not] at *
  rw [h _ _ hx hy] at h1
  rw [h _ _ hy hz] at h2
  rw [h _ _ hx hz]
  have a1:=lexI_anti (f x) (f y)
  have a2:=lexI_anti (f y) (f z)
  have a3:=lexI_anti (f x) (f z)
  have:=lexI_trans (f z) (f y) (f x) (by omega) (by omega)
  omega
end
def Asc {X:Type} (lt:X → X → Bool) (l:List X):Prop:=l.Pairwise fun a b=>lt b a = false
theorem ZkK {X:Type} {lt:X → X → Bool} {l:List X} (h:∀ i i' (h:i < l.length) (h':i' < l.length),i < i' → lt l[i'] l[i] = false):Asc lt l :=
 List.pairwise_iff_getElem.2 fun i j hi hj hij=>h i j hi hj hij
theorem Zgx {X:Type} {lt:X → X → Bool} {p q:List X} (hp:p.Perm q) (h1:Asc lt p) (h2:Asc lt q) (hT:∀ x ∈ p,∀ y ∈ p,lt x y = false → lt y x = false → x = y):p = q :=
 hp.eq_of_pairwise (fun a b ha hb hab hba=>(hT a ha b (hp.mem_iff.2 hb) hba hab)) h1 h2
section
variable {X:Type} {G:X → Prop} {lt:X → X → Bool}
theorem ZcU {s x:X}:∀ {r:List X},x ∈ V8 lt s r → x = s ∨ x ∈ r
 | [],h=>by simp [V8] at h; exact .inl h
 | y :: r,h=>by
  simp only [V8] at h
  split at h
  ·rcases List.mem_cons.1 h with rfl | h
   ·exact .inr (by simp)
   ·rcases ZcU h with h | h
    ·exact .inl h
    ·exact .inr (by simp [h])
  ·rcases List.mem_cons.1 h with rfl | h
   ·exact .inl rfl
   ·exact .inr h
theorem Zdy (hO:ZfV G lt) {s:X} (hs:G s):∀ {r:List X},(∀ x ∈ r,G x) → r.Pairwise (fun a b=>lt a b = false) → (V8 lt s r).Pairwise (fun a b=>lt a b = false)
 | [],_,_=>by simp [V8]
 | x :: r,hr,h=>by
  rw [List.pairwise_cons] at h
  simp only [V8]
  split
  ·rename_i hsx
   rw [List.pairwise_cons]
   refine ⟨fun y hy=>?_,Zdy hO hs (fun y hy=>hr y (by simp [hy])) h.2⟩
   rcases ZcU hy with rfl | hy
   ·cases hxy:lt x y with
    | false=>rfl
    | true =>
     have:=hO.trans x y x (hr x (by simp)) hs (hr x (by simp)) hxy hsx
     rw [hO.irrefl x (hr x (by simp))] at this; cases this
   ·exact h.1 y hy
  ·rename_i hsx
   rw [List.pairwise_cons]
   have hsx':lt s x = false:=by simpa using hsx
   refine ⟨fun y hy=>?_,List.pairwise_cons.2 h⟩
   rcases List.mem_cons.1 hy with rfl | hy
   ·exact hsx'
   ·exact hO.ntrans s x y hs (hr x (by simp)) (hr y (by simp [hy])) hsx' (h.1 y hy)
theorem Zjv (hO:ZfV G lt) {s:X} (hs:G s) {l:List X} (hl:∀ x ∈ l,G x) (h:Asc lt l):Asc lt (Zf8 lt s l):=by
 unfold Asc Zf8 at *
 rw [List.pairwise_reverse]
 exact Zdy hO hs (fun x hx=>hl x (by simpa using hx)) (by rw [List.pairwise_reverse]; exact h)
theorem Zic (hO:ZfV G lt) {l:List X} (hl:∀ x ∈ l,G x):Asc lt (sortB lt l):=by
 have key:∀ (l b:List X),(∀ x ∈ l,G x) → (∀ x ∈ b,G x) → Asc lt b → Asc lt (l.foldl (fun out s=>Zf8 lt s out) b):=by
  intro l
  induction l with
  | nil=>intro b _ _ h; exact h
  | cons s l ih =>
   intro b hl hb h
   have hs:=hl s (by simp)
   refine ih _ (fun x hx=>hl x (by simp [hx])) (fun x hx=>?_) (Zjv hO hs hb h)
   rcases List.mem_cons.1 ((Zej lt s b).mem_iff.1 hx) with rfl | hx
   ·exact hs
   ·exact hb x hx
 exact key l [] hl (by simp) .nil
end
def ltA (a b:Am):Bool:=decide (ZdI a b < 0)
theorem Am.cs2 (a:Am):a.cs.length = 2:=rfl
theorem Am.cs1:∀ x:Am,∀ c ∈ x.cs,c.one = true:=fun x c hc=>by
 simp only [Am.cs,List.mem_cons,List.not_mem_nil,or_false] at hc
 rcases hc with rfl | rfl <;> rfl
def ZkB (l:List Am):Prop:=∀ a ∈ l,a.Good
theorem swoA:ZfV Am.Good (ltOf ZdI):=Zkf (f:=ZhJ) fun x y hx hy=>Zdu hx.nm hy.nm
theorem ZeG {l ys:List Am} (hg:∀ a ∈ l,a.Good) (hp:ys.Perm l) (ha:∀ i i' (h:i < ys.length) (h':i' < ys.length),i < i' → ltOf ZdI ys[i'] ys[i] = false):ys = sortB ltA l:=by
 refine Zgx (lt:=ltA) (hp.trans (WQ ltA l).symm) (ZkK ha) (Zic swoA hg) fun x hx y hy h1 h2=>?_
 have gx:=hg x (hp.mem_iff.1 hx)
 have gy:=hg y (hp.mem_iff.1 hy)
 rw [ltA,decide_eq_false_iff_not] at h1 h2
 refine ZhR gx.nm gy.nm ?_
 have:=Zdu gx.nm gy.nm
 have a:=lexI_anti (ZhJ x) (ZhJ y)
 have b:=Zdu gy.nm gx.nm
 omega
theorem ZnH (n:Nat) (H:Zf) (l j sz0:Nat) (A:List Am) (hl:l < n) (hg:ZkB A) (hlen:A.length ≤ 1000000) (hH:H l j = some (.ZN 33 2 (fl Am.cs A) A.length)) :
  Zr Tryz.prog n 116 [.msl sz0 l j A.length,.fn (.func 81) []] H (fun r H'=>r = .tup [] ∧ H' = H.upd l j (.ZN 33 2 (fl Am.cs (sortB ltA A)) A.length)):=by
 have h:=Zju (P:=Tryz.prog) (ρ:=Tryz.sort116_ren) Tryz.sort116 2 (by decide) Tryz.isAgg33 Tryz.sizeOf33 Am.cs Am.cs2 Am.cs1 (fun x=>x.bcs.mem) ZdI Am.Good swoA 81 _ _ (Zb Tryz.func81 rfl rfl) (fun x y hx hy=>a16 x y hx hy) n H l j 33 sz0 A hl hg hH (by omega)
 refine Zr.mono h ?_
 rintro r H' ⟨rfl,ys,hp,ha,rfl⟩
 rw [ZeG hg hp ha]
 have:(sortB ltA A).length = A.length:=(WQ ltA A).length_eq
 rw [this]
 exact ⟨rfl,rfl⟩
end Go.Proofs.YthgbkalgmicniaaGreatDoor
