/- Lists of elements of two cells each; sorting by insertion. No program, no condition. -/
import Derived.Test.YthgbkalgmicniaaGreatDoorM12
import Derived.Test.YthgbkalgmicniaaGreatDoorM13
import Derived.Test.YthgbkalgmicniaaGreatDoorM09
import Derived.Test.YthgbkalgmicniaaGreatDoorM10
import Derived.Test.YthgbkalgmicniaaGreatDoorM11
set_option linter.all false
namespace Go.Abs
def fl {α:Type} (cs:α → List AV) (l:List α):List AV:=l.flatMap cs
section
variable {α:Type} {cs:α → List AV} (hcs:∀ x,(cs x).length = 2)
include hcs
theorem fl_len:∀ l:List α,(fl cs l).length = l.length * 2
 | []=>rfl
 | x :: l=>by
  have:=fl_len l
  simp only [fl,List.flatMap_cons,List.length_append,List.length_cons,hcs] at this ⊢; omega
theorem fl_drop:∀ (l:List α) (i:Nat),(fl cs l).drop (i * 2) = fl cs (l.drop i)
 | l,0=>by simp
 | [],i + 1=>by simp [fl]
 | x :: l,i + 1=>by
  have h:(i + 1) * 2 = (cs x).length + i * 2:=by rw [hcs]; omega
  have:=fl_drop l i
  simp only [fl,List.flatMap_cons,List.drop_succ_cons] at this ⊢
  rw [h,List.drop_append,Nat.add_sub_cancel_left,this,List.drop_eq_nil_of_le (by omega)]
  simp
theorem Zlu (l:List α) (i:Nat) (h:i < l.length):((fl cs l).drop (i * 2)).take 2 = cs l[i]:=by
 rw [fl_drop hcs,List.drop_eq_getElem_cons h]
 simp only [fl,List.flatMap_cons]
 rw [List.take_append,List.take_of_length_le (by rw [hcs]; exact Nat.le_refl _),hcs]
 simp
end
theorem Jd {α:Type} (cs:α → List AV) (l r:List α):fl cs (l ++ r) = fl cs l ++ fl cs r:=by simp [fl]
theorem Ze5 {α:Type} (cs:α → List AV) (enc:α → AV) (h:∀ x,(enc x).cells = cs x) (l:List α):flat (l.map enc) = fl cs l:=by
 induction l with
 | nil=>rfl
 | cons x l ih=>simp only [List.map_cons,Xq,h,ih]; rfl
section
variable {α:Type} (lt:α → α → Bool)
def V8 (s:α):List α → List α
 | []=>[s]
 | x :: r=>if lt s x = true then x :: V8 s r else s :: x :: r
def Zf8 (s:α) (l:List α):List α:=(V8 lt s l.reverse).reverse
def sortB (l:List α):List α:=l.foldl (fun out s=>Zf8 lt s out) []
theorem Zej (s:α) (l:List α):(Zf8 lt s l).Perm (s :: l):=by
 have:∀ r:List α,(V8 lt s r).Perm (s :: r):=by
  intro r
  induction r with
  | nil=>exact .refl _
  | cons x r ih =>
   rw [V8]; split
   ·exact (ih.cons x).trans (.swap s x r)
   ·exact .refl _
 unfold Zf8
 exact (List.reverse_perm _).trans ((this _).trans ((List.reverse_perm l).cons s))
theorem WQ (l:List α):(sortB lt l).Perm l:=by
 have:∀ (l b:List α),(l.foldl (fun out s=>Zf8 lt s out) b).Perm (b ++ l):=by
  intro l
  induction l with
  | nil=>intro b; simp
  | cons x l ih =>
   intro b
   refine (ih _).trans ?_
   refine ((Zej lt x b).append_right l).trans ?_
   exact List.perm_middle.symm
 exact this l []
end
end Go.Abs

/- A builder in the heap: its variable and its rules. No program. -/
namespace Go.Abs
open Go.Proofs Go.Proofs.YthgbkalgmicniaaGreatDoor
structure Fr where
 a:AV
 num:AV
 pn:AV
 kn:AV
structure St where
 n:Int
 rules:List GR
 err:Int
def GR.raw (x:GR):List AV:=[.bool x.choice,Zw x.head,.bool x.sum,.int .i64 x.bound,Zw x.body,.sl 1 (x.w.map (AV.int .i64)) (if x.sum then .any else .full)]
def GR.ZdE (x:GR):AV:=.agg x.raw
def bxC (l b:Nat) (F:Fr) (s:St):List AV:=[F.a,F.num,.int .i64 s.n,.msl 6 l (b + 1) s.rules.length,F.pn,F.kn,.int .i64 s.err]
def bxR (s:St):Zk:=.ZN 70 6 (fl GR.raw s.rules) s.rules.length
def bxH (H:Zf) (l b:Nat) (F:Fr) (s:St):Zf:=(H.upd l (b + 1) (bxR s)).upd l b (.box (bxC l b F s))
theorem WT (H:Zf) (l k:Nat) (x y:Zk):(H.upd l k x).upd l k y = H.upd l k y:=by
 funext l' k'; simp only [Zf.upd]; split <;> rfl
theorem Wy (H:Zf) {l k l' k':Nat} (h:¬(l = l' ∧ k = k')) (x y:Zk):(H.upd l k x).upd l' k' y = (H.upd l' k' y).upd l k x:=by
 funext i j; simp only [Zf.upd]
 by_cases h1:i = l' ∧ j = k' <;> by_cases h2:i = l ∧ j = k
 ·exact absurd ⟨h2.1.symm.trans h1.1,h2.2.symm.trans h1.2⟩ h
 ·rw [if_pos h1,if_neg h2,if_pos h1]
 ·rw [if_neg h1,if_pos h2,if_pos h2]
 ·rw [if_neg h1,if_neg h2,if_neg h2,if_neg h1]
section
variable {H:Zf} {l b:Nat} {F:Fr} {s:St}
theorem bxH_box:bxH H l b F s l b = some (.box (bxC l b F s)):=Zf.upd_same _ _ _ _
theorem bxH_rules:bxH H l b F s l (b + 1) = some (bxR s):=by
 unfold bxH; rw [Zf.upd_ne _ _ (by omega),Zf.upd_same]
theorem Xt {l' k':Nat} (h1:¬(l' = l ∧ k' = b)) (h2:¬(l' = l ∧ k' = b + 1)):bxH H l b F s l' k' = H l' k':=by
 unfold bxH; rw [Zf.upd_ne _ _ h1,Zf.upd_ne _ _ h2]
theorem Za6 {l' k':Nat} (h:l' ≠ l):bxH H l b F s l' k' = H l' k':=Xt (fun e=>h e.1) (fun e=>h e.1)
theorem ZeD (s':St):((bxH H l b F s).upd l (b + 1) (bxR s')).upd l b (.box (bxC l b F s')) = bxH H l b F s':=by
 unfold bxH
 rw [Wy (H.upd l (b + 1) (bxR s)) (l:=l) (k:=b) (l':=l) (k':=b + 1) (by omega),WT,WT]
theorem Zdq (s':St) (h:s'.rules = s.rules):(bxH H l b F s).upd l b (.box (bxC l b F s')) = bxH H l b F s':=by
 unfold bxH
 rw [WT,bxR,bxR,h]
theorem ZiW (F':Fr):(bxH H l b F s).upd l b (.box (bxC l b F' s)) = bxH H l b F' s:=by
 unfold bxH
 rw [WT]
theorem Zaq {l' k':Nat} (h1:¬(l' = l ∧ k' = b)) (h2:¬(l' = l ∧ k' = b + 1)) (x:Zk):(bxH H l b F s).upd l' k' x = bxH (H.upd l' k' x) l b F s:=by
 unfold bxH
 rw [Wy _ (fun e=>h1 ⟨e.1.symm,e.2.symm⟩),Wy H (fun e=>h2 ⟨e.1.symm,e.2.symm⟩)]
theorem Yz {n:Nat} (h:l ≠ n) (L:List (Nat × Zk)):full n L (bxH H l b F s) = bxH (full n L H) l b F s:=by
 unfold bxH; rw [XI _ _ _ _ _ _ h,XI _ _ _ _ _ _ h]
end
def Fr.bel (F:Fr) (n:Nat):Prop:=Yj (fun c=>Below n c) [F.a,F.num,F.pn,F.kn]
theorem GR.Zml {n:Nat} (x:GR):∀ c ∈ x.raw,Below n c:=by
 refine Yj.mem (p:=fun c=>Below n c) ⟨.bool _,Zz _,.bool _,.int _ _,Zz _,ZV (fun y hy=>?_) ?_,trivial⟩
 ·obtain ⟨u,_,rfl⟩:=List.mem_map.1 hy; exact .int _ _
 ·intro l j e; split at e <;> cases e
theorem Js {n:Nat} (rs:List GR):∀ c ∈ fl GR.raw rs,Below n c:=fun c hc=>by
 simp only [fl,List.mem_flatMap] at hc
 obtain ⟨x,_,hx⟩:=hc; exact x.Zml c hx
theorem Vz {n:Nat} (s:St):Zk.Below n (bxR s):=⟨fun a ha=>Js _ a ha,by simp [Zk.at_,bxR]⟩
theorem XD {n l b:Nat} {F:Fr} (hF:F.bel n) (hl:l < n) (s:St):Zk.Below n (.box (bxC l b F s)):=by
 obtain ⟨h1,h2,h3,h4,_⟩:=hF
 exact Zk.YV ⟨h1,h2,.int _ _,.msl _ _ _ _ hl,h3,h4,.int _ _,trivial⟩
theorem Zay {n l b:Nat} {F F':Fr} {H:Zf} (hF:F'.bel n) (hl:l < n) (s s':St):Z5 n (bxH H l b F s) (bxH H l b F' s'):=fun l' k' x hx hb=>by
 by_cases h1:l' = l ∧ k' = b
 ·obtain ⟨rfl,rfl⟩:=h1
  rw [bxH_box] at hb; cases hb
  exact .inr (XD hF hl s')
 by_cases h2:l' = l ∧ k' = b + 1
 ·obtain ⟨rfl,rfl⟩:=h2
  rw [bxH_rules] at hb; cases hb
  exact .inr (Vz s')
 rw [Xt h1 h2] at hb ⊢
 exact .inl hb
theorem Fr.bel.mono {F:Fr} {n m:Nat} (h:F.bel n) (hm:n ≤ m):F.bel m:=by
 obtain ⟨h1,h2,h3,h4,_⟩:=h
 exact ⟨h1.mono hm,h2.mono hm,h3.mono hm,h4.mono hm,trivial⟩
def St.aux (s:St):St:=⟨s.n + 1,s.rules,s.err⟩
def St.rule (s:St) (h body:List Int):St:=⟨s.n,s.rules ++ [⟨false,Y5 h,false,0,Y5 body,[]⟩],s.err⟩
def VN (w:Wm):List Int:=Y5 (w.map Prod.fst)
def J5 (w:Wm):List Int:=(VN w).map fun x=>(getM x w).getD 0
def Xi (w:Wm):Int:=(w.map Prod.snd).sum
def St.sum (s:St) (h:List Int) (w:Wm) (k:Int):St:=⟨s.n,s.rules ++ [⟨false,Y5 h,true,k,VN w,J5 w⟩],s.err⟩
def lastChoice:List GR → List GR
 | []=>[]
 | [x]=>[{ x with choice:=true }]
 | x :: r=>x :: lastChoice r
def St.choose (s:St):St:=⟨s.n,lastChoice s.rules,s.err⟩
structure St.Fit (s:St) (k:Int):Prop where
 n:0 ≤ s.n ∧ s.n ≤ k
 r:(s.rules.length:Int) ≤ k
theorem St.Fit.mono {s:St} {k k':Int} (h:s.Fit k) (hk:k ≤ k'):s.Fit k':=⟨⟨h.n.1,by have:=h.n.2; omega⟩,by have:=h.r; omega⟩
theorem lastChoice_len:∀ l:List GR,(lastChoice l).length = l.length
 | []=>rfl
 | [x]=>rfl
 | x :: y :: r=>by simp only [lastChoice,List.length_cons]; rw [lastChoice_len (y :: r)]; rfl
theorem St.Fit.aux {s:St} {k:Int} (h:s.Fit k):s.aux.Fit (k + 1):=⟨by have:=h.n; simp only [St.aux]; omega,by have:=h.r; simp only [St.aux]; omega⟩
theorem St.Fit.rule {s:St} {k:Int} (h:s.Fit k) (a c:List Int):(s.rule a c).Fit (k + 1):=⟨by have:=h.n; simp only [St.rule]; omega,by have:=h.r; simp only [St.rule,List.length_append,List.length_cons,List.length_nil]; omega⟩
theorem St.Fit.sum {s:St} {k:Int} (h:s.Fit k) (a:List Int) (w:Wm) (c:Int):(s.sum a w c).Fit (k + 1):=⟨by have:=h.n; simp only [St.sum]; omega,by have:=h.r; simp only [St.sum,List.length_append,List.length_cons,List.length_nil]; omega⟩
theorem St.Fit.choose {s:St} {k:Int} (h:s.Fit k):s.choose.Fit k:=⟨h.n,by have:=h.r; simp only [St.choose,lastChoice_len]; exact this⟩
theorem Zeo {α:Type} {cs:α → List AV} {k:Nat} (h:∀ x,(cs x).length = k):∀ l:List α,(fl cs l).length = l.length * k
 | []=>by simp [fl]
 | x :: l=>by
  have:=Zeo h l
  simp only [fl,List.flatMap_cons,List.length_append,List.length_cons,h] at *
  rw [this,Nat.add_mul,Nat.one_mul,Nat.add_comm]
theorem ZdT (rs:List GR) (x:GR):splice (fl GR.raw (rs ++ [x])) (rs.length * 6) [.bool true] = fl GR.raw (lastChoice (rs ++ [x])):=by
 have e:lastChoice (rs ++ [x]) = rs ++ [{ x with choice:=true }]:=by
  induction rs with
  | nil=>rfl
  | cons y r ih =>
   cases r with
   | nil=>rfl
   | cons z r=>simp only [List.cons_append,lastChoice] at ih ⊢; rw [ih]
 have hl:(fl GR.raw rs).length = rs.length * 6:=Zeo (k:=6) (cs:=GR.raw) (fun _=>rfl) rs
 rw [e,Jd,Jd]
 generalize fl GR.raw rs = p at *
 have e1:fl GR.raw [x] = [.bool x.choice] ++ [Zw x.head,.bool x.sum,.int .i64 x.bound,Zw x.body,.sl 1 (x.w.map (AV.int .i64)) (if x.sum then .any else .full)]:=by simp [fl,GR.raw]
 have e2:fl GR.raw [{ x with choice:=true }] = [.bool true] ++ [Zw x.head,.bool x.sum,.int .i64 x.bound,Zw x.body,.sl 1 (x.w.map (AV.int .i64)) (if x.sum then .any else .full)]:=by simp [fl,GR.raw]
 rw [e1,e2]
 simp only [splice,← hl]
 have e3:p.length + [AV.bool true].length = (p ++ [AV.bool x.choice]).length:=by simp
 rw [e3,List.take_left' rfl,← List.append_assoc p [AV.bool x.choice],List.drop_left' rfl]
def St.Wx (s:St) (t:Int) (l:List (List Int)):St:=l.foldl (fun s x=>s.rule [t] x) s
def St.stands (s:St) (l:List (List Int)):Int × St:=match l with
 | [[x]]=>(x,s)
 | l=>(s.n + 1,s.aux.Wx (s.n + 1) l)
theorem Zad (t:Int):∀ (l:List (List Int)) {s:St} {k:Int},s.Fit k → (s.Wx t l).Fit (k + l.length)
 | [],s,k,h=>by simpa [St.Wx] using h
 | x :: l,s,k,h=>by
  have:=Zad t l (h.rule [t] x)
  simp only [St.Wx,List.foldl_cons,List.length_cons] at *
  exact this.mono (by omega)
theorem Zds {s:St} {k:Int} (l:List (List Int)) (h:s.Fit k):(s.stands l).2.Fit (k + l.length + 1):=by
 unfold St.stands
 split
 ·exact h.mono (by simp; omega)
 ·exact (Zad _ l h.aux).mono (by omega)
theorem X0 {cx:Cx} {o:Oper} {args:List Operand} {ts:List TypeId} {tm:List (Nat × AV)} {L:List (Nat × Zk)} {H:Zf} {l b:Nat} {F:Fr} {s s':St} {K:Zh → Prop} {f:FuncId} {fn:Func} {c:Code} {r:AV} {avs:List AV}
  (hl:l < cx.n) (hF:F.bel cx.n) (hf:Fun cx.P f fn c) (h:Zr cx.P (cx.n + 1) f avs (bxH (full cx.n L H) l b F s) fun r' H'=>r' = r ∧ H' = bxH (full cx.n L H) l b F s')
  (ha:Xj cx.T (evT tm) args ts = avs) (hk:K ⟨YP tm o.dst r,L,bxH H l b F s'⟩):JM cx false o (.func f) args ts ⟨tm,L,bxH H l b F s⟩ K:=by
 have hne:l ≠ cx.n:=by omega
 refine Xk (caps:=[]) (avs:=avs) rfl hf (by rw [List.append_nil]; show Zr _ _ _ _ (full cx.n L (bxH H l b F s)) _; rw [Yz hne]; exact h) ha ?_
 rintro r' H' ⟨rfl,rfl⟩
 exact ⟨L,bxH H l b F s',(Yz hne L).symm,Zay hF hl _ _,hk⟩
end Go.Abs

/- The sum of a map's weights; its keys in order. -/
namespace Go.Proofs.YthgbkalgmicniaaGreatDoor
open Go.Abs
set_option maxRecDepth 100000
theorem J8 {α:Type} [DecidableEq α]:∀ {p q:List α},p.Nodup → (∀ x ∈ p,x ∈ q) → p.length ≤ q.length
 | [],_,_,_=>Nat.zero_le _
 | x :: p,q,h,hs=>by
  rw [List.nodup_cons] at h
  have hx:=hs x (by simp)
  have:=J8 (q:=q.erase x) h.2 (fun y hy=>(List.mem_erase_of_ne (fun e=>h.1 (by rw [← e]; exact hy))).2 (hs y (by simp [hy])))
  rw [List.length_erase_of_mem hx] at this
  have:0 < q.length:=List.length_pos_of_mem hx
  simp only [List.length_cons]; omega
theorem Zbm {n l k s:Nat} {q:List Nat} {p:Nat → Prop} (h:l < n):Zk.Inside n p (.iter l k s q):=⟨by simp [Zk.avs],by simp only [Zk.at_,List.mem_singleton,forall_eq]; exact .inl h⟩
def wAt (w:Wm) (i:Nat):Int:=(w.getD i (0,0)).2
def kAt (w:Wm) (i:Nat):Int:=(w.getD i (0,0)).1
def Zco (w:Wm) (seen:List Nat):Int:=(seen.map (wAt w)).sum
theorem ZhK (w:Wm):(List.range w.length).map (wAt w) = w.map Prod.snd:=by
 apply List.ext_getElem
 ·simp
 ·intro i h1 h2
  have h3:i < w.length:=by simpa using h2
  simp [wAt,h3]
theorem ZhL (w:Wm):(List.range w.length).map (kAt w) = w.map Prod.fst:=by
 apply List.ext_getElem
 ·simp
 ·intro i h1 h2
  have h3:i < w.length:=by simpa using h2
  simp [kAt,h3]
theorem Zjh {p q:List Int} (h:p.Perm q):p.sum = q.sum:=by
 induction h with
 | nil=>rfl
 | cons _ _ ih=>simp [ih]
 | swap a b l=>simp; omega
 | trans _ _ h1 h2=>exact h1.trans h2
def SmW (w:Wm):Prop:=w.length ≤ 100000 ∧ ∀ p ∈ w,0 ≤ p.2 ∧ p.2 ≤ 1099511627776
theorem ZgI {p:List Int} {c:Int} (h:∀ x ∈ p,0 ≤ x ∧ x ≤ c):0 ≤ p.sum ∧ p.sum ≤ p.length * c:=by
 induction p with
 | nil=>simp
 | cons x p ih =>
  have h1:=h x (by simp)
  have h2:=ih fun y hy=>h y (by simp [hy])
  simp only [List.sum_cons,List.length_cons]
  have:((p.length + 1:Nat):Int) * c = p.length * c + c:=by rw [Int.natCast_succ,Int.add_mul,Int.one_mul]
  omega
theorem ZdW {w:Wm} {seen:List Nat} (hnd:seen.Nodup) (hlt:∀ i ∈ seen,i < w.length) (hall:∀ i,i < w.length → i ∈ seen):seen.Perm (List.range w.length) :=
 (List.perm_ext_iff_of_nodup hnd List.nodup_range).2 fun i=>by rw [List.mem_range]; exact ⟨hlt i,hall i⟩
def Zir (n l k:Nat) (w:Wm) (H:Zf) (seen:List Nat):Zh :=
 ⟨[(6,.ptr n 6 0),(2,.int .i64 (Zco w seen))],[(6,.iter l k w.length seen)],H⟩
theorem Zeg (w:Wm) (i:Nat) (h:i < w.length):(Y3 w).getD i (.dead,.dead) = (.int .i64 (kAt w i),.int .i64 (wAt w i)):=by
 rw [List.getD_eq_getElem?_getD]; simp [Y0,h,kAt,wAt]
theorem Zle (n:Nat) (H:Zf) (l k:Nat) (w:Wm) (hl:l < n) (hw:SmW w) (hH:H l k = some (.map (Y3 w))):PC Tryz.prog n 137 [.map l k] H (.int .i64 (Xi w)):=by
 have hne:¬ l = n:=by omega
 have hel:(Y3 w).length = w.length:=by simp [Y0]
 have hgd:=Zeg w
 generalize Y3 w = es at *
 refine Zm tok (Zb Tryz.func137 rfl rfl) (by simp) fun B=>?_
 refine Za tok rfl rfl ?_
 simp only [go_sem,simprocAttr]
 refine Za tok rfl rfl ?_
 simp only [go_sem,simprocAttr,hne,hH]
 repeat refine kn rfl ?_
 refine Zgl (fun m st=>∃ seen:List Nat,seen.Nodup ∧ (∀ i ∈ seen,i < w.length) ∧ m = w.length - seen.length ∧ st = Zir n l k w H seen) (m0:=w.length) (s0:=Zir n l k w H []) rfl ?_ ⟨[],by simp,by simp,by simp,rfl⟩ ?_
 ·rw [hel]
  refine Zg ?_ ?_ ?_ ?_ <;> repeat' first|exact trivial|refine q0 ?_|exact qb|exact q1|exact q2|exact q3|exact rfl|refine And.intro ?_ ?_|exact qA rfl|exact Inside.ptr _ _ _ (.inr ⟨rfl,rfl⟩)|exact Tm.ins _|exact Tm.Zj _ _|exact Am.ins _|exact Am.Zj _ _|refine Zd ?_|refine Tm.Zc ?_|refine Am.Zc ?_
  all_goals first | exact (Zbm hl).1 | (intro q hq; simp only [Zk.at_,List.mem_singleton] at hq; subst hq; exact .inl hl) | skip
 rintro m st ⟨seen,hnd,hlt,rfl,rfl⟩
 refine Yi rfl ?_
 have hlen:seen.length ≤ w.length:=by
  have:=J8 hnd (q:=List.range w.length) (fun i hi=>by simpa using hlt i hi)
  simpa using this
 have hsb:∀ s:List Nat,(∀ i ∈ s,i < w.length) → s.length ≤ w.length → 0 ≤ Zco w s ∧ Zco w s ≤ 109951162777600000:=fun s hs hsl=>by
  have:=ZgI (p:=s.map (wAt w)) (c:=1099511627776) (fun x hx=>by
   obtain ⟨i,hi,rfl⟩:=List.mem_map.1 hx
   have hi':=hs i hi
   have:w[i] ∈ w:=List.getElem_mem hi'
   have h2:=hw.2 _ this
   simp only [wAt,List.getD_eq_getElem?_getD,List.getElem?_eq_getElem hi',Option.getD_some]; exact h2)
  have hw1:=hw.1
  have e:((s.map (wAt w)).length:Int) ≤ 100000:=by rw [List.length_map]; omega
  unfold Zco
  refine ⟨this.1,Int.le_trans this.2 ?_⟩
  have:=Int.mul_le_mul_of_nonneg_right e (show (0:Int) ≤ 1099511627776 by decide)
  omega
 refine Za tok rfl rfl ?_
 simp only [go_sem,simprocAttr]
 refine ⟨6,l,k,es,seen,rfl,by simp only [go_sem,simprocAttr,hel],by simp only [go_sem,simprocAttr,hne,hH],fun hall=>?_,fun i hi hni=>?_⟩
 ·simp only [go_sem,simprocAttr]
  refine Zn rfl rfl rfl ?_
  refine Yh rfl rfl rfl rfl ?_
  have e:Zco w seen = Xi w:=by
   have hp:=(ZdW hnd hlt (fun i hi=>hall i (by omega))).map (wAt w)
   rw [ZhK] at hp
   exact Zjh hp
  refine Za tok rfl rfl ?_
  simp only [go_sem,simprocAttr,e]
  refine Zi rfl rfl ?_
  exact Ze (.refl _) (.int _ _) rfl
 ·have hi':i < w.length:=by omega
  have hgi:=hgd i hi'
  simp only [go_sem,simprocAttr,hgi]
  refine Zp rfl rfl rfl ?_
  obtain ⟨h0,t0,het⟩:∃ h0 t0,seen ++ [i] = h0 :: t0:=by
   cases seen with
   | nil=>exact ⟨i,[],rfl⟩
   | cons x y=>exact ⟨x,y ++ [i],rfl⟩
  have hgl:∀ p,(h0 :: t0).getLast p = i:=fun p=>by
   have:∀ (l:List Nat) (q:l ≠ []),l = seen ++ [i] → l.getLast q = i:=fun l q e=>by subst e; simp
   exact this _ p het.symm
  rw [het]
  refine Za tok rfl rfl ?_
  simp only [go_sem,simprocAttr,hne,hH,hel,hgl,hgi]
  refine ⟨hi',?_⟩
  refine Za tok rfl rfl ?_
  simp only [go_sem,simprocAttr]
  rw [← het]
  refine Zt rfl ?_
  have hnd':(seen ++ [i]).Nodup:=List.nodup_append.2 ⟨hnd,by simp,fun x hx y hy e=>by
   simp only [List.mem_singleton] at hy; subst hy; subst e; exact hni hx⟩
  have hlt':∀ x ∈ seen ++ [i],x < w.length:=fun x hx=>by
   rcases List.mem_append.1 hx with hx | hx
   ·exact hlt x hx
   ·simp only [List.mem_singleton] at hx; subst hx; exact hi'
  have hl1:(seen ++ [i]).length = seen.length + 1:=by simp
  have hle':=J8 hnd' (q:=List.range w.length) (fun x hx=>by simpa using hlt' x hx)
  rw [List.length_range] at hle'
  have hs1:Zco w (seen ++ [i]) = Zco w seen + wAt w i:=by simp [Zco]
  have hb:=hsb _ hlt' hle'
  refine ⟨w.length - (seen ++ [i]).length,Zir n l k w H (seen ++ [i]),by omega,?_,seen ++ [i],hnd',hlt',rfl,rfl⟩
  refine Zg ?_ ?_ ?_ ?_ <;> repeat' first|exact trivial|refine q0 ?_|exact qb|exact q1|exact q2|exact q3|exact rfl|refine And.intro ?_ ?_|exact qA rfl|exact Inside.ptr _ _ _ (.inr ⟨rfl,rfl⟩)|exact Tm.ins _|exact Tm.Zj _ _|exact Am.ins _|exact Am.Zj _ _|refine Zd ?_|refine Tm.Zc ?_|refine Am.Zc ?_
  all_goals first | exact (Zbm hl).1 | (intro q hq; simp only [Zk.at_,List.mem_singleton] at hq; subst hq; exact .inl hl) | skip
  simp only [go_sem,simprocAttr,hs1]
  rw [IntWalk.i64_in _ (by omega)]
  exact .refl _
end Go.Proofs.YthgbkalgmicniaaGreatDoor

/- Own slots that are given to a lower level. -/
namespace Go.Abs
theorem Zf3 {cx:Cx} {c:Code} {k:List Itm} {Q:Exit → Zh → Prop} {tm:List (Nat × AV)} {L:List (Nat × Zk)} {H:Zf} (j l q:Nat) (x:Zk) (tm':List (Nat × AV)) (hl:l < cx.n) (hfree:H l q = none) (hj:lkb L j = some x) (hb:x.Below cx.n)
  (h1:Yj (fun p=>Zew cx.n j (lkv tm p.1) ∧ Wk (ren cx.n j l q (lkv tm p.1)) p.2) tm') (hL:Yj (fun p=>Yj (fun a=>Zew cx.n j a) p.2.avs ∧ p.2.at_ = [] ∧ p.2.isRec = false) (delb L j))
  (h:AKc cx (.code c :: k) Q ⟨tm',JU cx.n j l q L,H.upd l q x⟩):AKc cx (.code c :: k) Q ⟨tm,L,H⟩ :=
 Yx (ZiR j l q hl hfree hj hb h1.mem (fun p hp=>by
  obtain ⟨g1,g2,g3⟩:=hL.mem p hp
  exact ⟨g1.mem,⟨(fun r hr=>absurd (g2 ▸ hr) (List.not_mem_nil)),g3⟩⟩)) h
end Go.Abs

/- A map's keys, one after the other. -/
namespace Go.Proofs.YthgbkalgmicniaaGreatDoor
open Go.Abs
set_option maxRecDepth 100000
def Zna (x l:Nat) (S:List Int → Nat → Option Zk):Prop :=
 ∀ m H ks k,x < m → ks.length ≤ 100000 → (∀ j,H x j = S ks j) → WR Tryz.prog m l [.int .i64 k] H fun r H1=>r = .bool true ∧ H1 = H.YQ x (S (ks ++ [k]))
theorem Zjj {H:Zf} {x:Nat} {S:Nat → Option Zk} (j:Nat):H.YQ x S x j = S j:=by simp [Zf.YQ]
theorem Zfs {H:Zf} {x l:Nat} {S:Nat → Option Zk} (h:l ≠ x) (j:Nat):H.YQ x S l j = H l j:=by simp [Zf.YQ,h]
theorem Zch {H:Zf} {x:Nat} {S S':Nat → Option Zk}:(H.YQ x S).YQ x S' = H.YQ x S':=by
 funext l k; simp only [Zf.YQ]; split <;> rfl
theorem ZgL {H:Zf} {x:Nat} {S:Nat → Option Zk} (h:∀ j,H x j = S j):H.YQ x S = H:=by
 funext l k; simp only [Zf.YQ]; split
 ·rename_i e; subst e; exact (h k).symm
 ·rfl
theorem ZL {n l:Nat} (h:l < n) (L:List (Nat × Zk)) (H:Zf) (k:Nat):full n L H l k = H l k:=by unfold full; rw [if_neg (by omega)]
def Zhc (n x l l0 k0:Nat) (w:Wm) (S:List Int → Nat → Option Zk) (H:Zf) (seen:List Nat):Zh :=
 ⟨[(5,.ptr n 5 0),(0,.fn (.yield l) [])],[(5,.iter l0 k0 w.length seen)],H.YQ x (S (seen.map (kAt w)))⟩
theorem ZnY {x l:Nat} {S:List Int → Nat → Option Zk} (hY:Zna x l S) (hS:∀ ks k b,S ks k = some b → b.Below (x + 1)) (n:Nat) (H:Zf) (l0 k0:Nat) (w:Wm) (hl:l0 < x) (hx:x < n) (hw:w.length ≤ 100000) (hH:H l0 k0 = some (.map (Y3 w))) (h0:∀ j,H x j = S [] j) :
  Zr Tryz.prog n 299 [.fn (.yield l) [],.ZA [.map l0 k0]] H fun r H'=>∃ ks:List Int,ks.Perm (w.map Prod.fst) ∧ H' = H.YQ x (S ks):=by
 have hne:¬ l0 = n:=by omega
 have hel:(Y3 w).length = w.length:=by simp [Y0]
 have hgd:=Zeg w
 generalize Y3 w = es at *
 refine Zm tok (Zb Tryz.func299 rfl rfl) (by simp) fun B=>?_
 refine Za tok rfl rfl ?_
 simp only [go_sem,simprocAttr,hne,hH]
 repeat refine kn rfl ?_
 refine Zgl (fun m st=>∃ seen:List Nat,seen.Nodup ∧ (∀ i ∈ seen,i < w.length) ∧ m = w.length - seen.length ∧ st = Zhc n x l l0 k0 w S H seen) (m0:=w.length) (s0:=Zhc n x l l0 k0 w S H []) rfl ?_ ⟨[],by simp,by simp,by simp,rfl⟩ ?_
 ·rw [hel]
  unfold Zhc
  rw [List.map_nil,ZgL h0]
  refine Zg ?_ ?_ ?_ ?_ <;> repeat' first|exact trivial|refine q0 ?_|exact qb|exact q1|exact q2|exact q3|exact rfl|refine And.intro ?_ ?_|exact qA rfl|exact Inside.ptr _ _ _ (.inr ⟨rfl,rfl⟩)|exact Tm.ins _|exact Tm.Zj _ _|exact Am.ins _|exact Am.Zj _ _|refine Zd ?_|refine Tm.Zc ?_|refine Am.Zc ?_
  all_goals first | exact (Zbm (show l0 < n by omega)).1 | (intro q hq; simp only [Zk.at_,List.mem_singleton] at hq; subst hq; exact .inl (show l0 < n by omega)) | exact .fn _ _ (fun i hi=>absurd hi (Nat.not_lt_zero _)) | skip
 rintro m st ⟨seen,hnd,hlt,rfl,rfl⟩
 refine Yi rfl ?_
 have hlen:seen.length ≤ w.length:=by
  have:=J8 hnd (q:=List.range w.length) (fun i hi=>by simpa using hlt i hi)
  simpa using this
 have hne':¬ l0 = x:=by omega
 refine Za tok rfl rfl ?_
 simp only [go_sem,simprocAttr]
 refine ⟨5,l0,k0,es,seen,rfl,by simp only [go_sem,simprocAttr,hel],by simp only [go_sem,simprocAttr,hne,Zfs hne',hH],fun hall=>?_,fun i hi hni=>?_⟩
 ·simp only [go_sem,simprocAttr]
  refine Zn rfl rfl rfl ?_
  refine Yh rfl rfl rfl rfl ?_
  refine XW ⟨by simp [YH],[],trivial,by simp,seen.map (kAt w),?_,rfl⟩
  have hp:=(ZdW hnd hlt (fun i hi=>hall i (by omega))).map (kAt w)
  rw [ZhL] at hp
  exact hp
 ·have hi':i < w.length:=by omega
  have hgi:=hgd i hi'
  simp only [go_sem,simprocAttr,hgi]
  refine Zp rfl rfl rfl ?_
  obtain ⟨q0,t0,het⟩:∃ h0 t0,seen ++ [i] = h0 :: t0:=by
   cases seen with
   | nil=>exact ⟨i,[],rfl⟩
   | cons x y=>exact ⟨x,y ++ [i],rfl⟩
  have hgl:∀ p,(q0 :: t0).getLast p = i:=fun p=>by
   have:∀ (l:List Nat) (q:l ≠ []),l = seen ++ [i] → l.getLast q = i:=fun l q e=>by subst e; simp
   exact this _ p het.symm
  rw [het]
  refine Za tok rfl rfl ?_
  simp only [go_sem,simprocAttr,hne,Zfs hne',hH,hel,hgl,hgi]
  refine ⟨hi',?_⟩
  refine Za tok rfl rfl ?_
  simp only [go_sem,simprocAttr]
  have hks:seen.map (kAt w) ++ [kAt w i] = (seen ++ [i]).map (kAt w):=by simp
  refine ZkA (avs:=[.int .i64 (kAt w i)]) (by simp only [go_sem,simprocAttr]) (hY (n + 1) _ (seen.map (kAt w)) (kAt w i) (show x < n + 1 by omega) (by rw [List.length_map]; omega) (fun j=>by rw [ZL (n:=n) hx]; exact Zjj j)) (by simp only [go_sem,simprocAttr]) ?_
  rintro r H1 ⟨rfl,rfl⟩
  refine ⟨_,H.YQ x (S ((seen ++ [i]).map (kAt w))),by rw [← Jy (show x ≠ n by omega),Zch,hks],?_,?_⟩
  ·exact fun l' k' b' hl' hb'=>by
    have:=Zau (H:=H.YQ x (S (seen.map (kAt w)))) hx (hS ((seen ++ [i]).map (kAt w))) l' k' b' hl'
    rw [Zch] at this; exact this hb'
  simp only [go_sem,simprocAttr]
  refine Zn rfl rfl rfl ?_
  refine ZM rfl ?_
  rw [← het]
  refine Zt rfl ?_
  have hnd':(seen ++ [i]).Nodup:=List.nodup_append.2 ⟨hnd,by simp,fun x hx y hy e=>by
   simp only [List.mem_singleton] at hy; subst hy; subst e; exact hni hx⟩
  have hlt':∀ x ∈ seen ++ [i],x < w.length:=fun x hx=>by
   rcases List.mem_append.1 hx with hx | hx
   ·exact hlt x hx
   ·simp only [List.mem_singleton] at hx; subst hx; exact hi'
  have hl1:(seen ++ [i]).length = seen.length + 1:=by simp
  have hle':=J8 hnd' (q:=List.range w.length) (fun x hx=>by simpa using hlt' x hx)
  rw [List.length_range] at hle'
  refine ⟨w.length - (seen ++ [i]).length,Zhc n x l l0 k0 w S H (seen ++ [i]),by omega,?_,seen ++ [i],hnd',hlt',rfl,rfl⟩
  refine Zg ?_ ?_ ?_ ?_ <;> repeat' first|exact trivial|refine q0 ?_|exact qb|exact q1|exact q2|exact q3|exact rfl|refine And.intro ?_ ?_|exact qA rfl|exact Inside.ptr _ _ _ (.inr ⟨rfl,rfl⟩)|exact Tm.ins _|exact Tm.Zj _ _|exact Am.ins _|exact Am.Zj _ _|refine Zd ?_|refine Tm.Zc ?_|refine Am.Zc ?_
  all_goals first | exact (Zbm (show l0 < n by omega)).1 | (intro q hq; simp only [Zk.at_,List.mem_singleton] at hq; subst hq; exact .inl (show l0 < n by omega)) | exact .fn _ _ (fun i hi=>absurd hi (Nat.not_lt_zero _)) | skip
theorem ZnN (n:Nat) (H:Zf) (l k:Nat) (hl:l < n):PC Tryz.prog n 224 [.map l k] H (.fn (.func 299) [.ZA [.map l k]]):=by
 refine Zm tok (Zb Tryz.func224 rfl rfl) (by simp) fun B=>?_
 refine Za tok rfl rfl ?_
 simp only [go_sem,simprocAttr]
 repeat refine kn rfl ?_
 refine Ym 1 [.map l k] [(1,.ZA [.map l k])] rfl ?_ ?_ trivial ?_
 ·exact ⟨.map _ _ (.inl hl),trivial⟩
 ·exact ⟨.inr ⟨0,rfl,rfl⟩,trivial⟩
 simp only [go_sem,simprocAttr]
 refine Za tok rfl rfl ?_
 simp only [go_sem,simprocAttr]
 refine Zi rfl rfl ?_
 exact Ze (.refl _) (.fn _ _ fun i hi=>(show Yj (fun c=>Below n c) [.ZA [.map l k]] from ⟨Yd ⟨.map _ _ hl,trivial⟩,trivial⟩).mem _ (List.getElem_mem hi)) rfl
end Go.Proofs.YthgbkalgmicniaaGreatDoor

/- A map's keys, collected, in order; the literals of a map of weights and their weights. -/
namespace Go.Proofs.YthgbkalgmicniaaGreatDoor
open Go.Abs
set_option maxRecDepth 100000
theorem allA {n:Nat} {p:Nat → Prop}:∀ l:List Int,Yj (fun c=>Inside n p c) (ZI l)
 | []=>trivial
 | _ :: l=>⟨.int _ _,allA l⟩
def ZeH (n:Nat) (ks:List Int):List (Nat × Zk):=[(2,.box [.msl 1 n 200 ks.length]),(200,.ZN 3 1 (ZI ks) ks.length)]
theorem ZnO (n:Nat) (H:Zf) (l k:Nat) (w:Wm) (hl:l < n) (hw:w.length ≤ 100000) (hH:H l k = some (.map (Y3 w))) (l2 k2:Nat) (hl2:l2 < n) (hf:H l2 k2 = none) :
  Zr Tryz.prog n 338 [.sl 1 [] .full,.fn (.func 299) [.ZA [.map l k]]] H fun r H'=>∃ ks:List Int,ks.Perm (w.map Prod.fst) ∧ r = .msl 1 l2 k2 ks.length ∧ H' = H.upd l2 k2 (.ZN 3 1 (ZI ks) ks.length):=by
 have hne:¬ l = n:=by omega
 have hne2:¬ l2 = n:=by omega
 have hfb:∀ m,l < m → Below m (.fn (.func 299) [.ZA [.map l k]]):=fun m hm=>VW ⟨Yd ⟨.map _ _ hm,trivial⟩,trivial⟩
 refine Zm tok (Zb Tryz.func338 rfl rfl) (by simp) fun B=>?_
 refine Za tok rfl rfl ?_
 simp only [go_sem,simprocAttr]
 refine Za tok rfl rfl ?_
 simp only [go_sem,simprocAttr]
 repeat refine kn rfl ?_
 refine Wl 2 200 0 3 1 rfl rfl rfl ?_
 simp only [go_sem,simprocAttr]
 simp only [go_sem,simprocAttr,List.set_cons_zero]
 obtain ⟨tm,htm⟩:∃ tm:List (Nat × AV),tm = [(6,.fn (.func 299) [.ZA [.map l k]]),(4,.sl 1 [] .full),(2,.ptr n 2 0),(0,.sl 1 [] .full),(1,.fn (.func 299) [.ZA [.map l k]])]:=⟨_,rfl⟩
 have h6:lkv tm 6 = .fn (.func 299) [.ZA [.map l k]]:=by rw [htm]; rfl
 have h2:lkv tm 2 = .ptr n 2 0:=by rw [htm]; rfl
 have hbt:Yj (fun p=>Below (n + 1) p.2) tm:=by
  rw [htm]
  exact ⟨hfb _ (by omega),ZV (fun _ h=>by cases h) (fun _ _ e=>by cases e),.ptr _ _ _ (Nat.lt_succ_self n),ZV (fun _ h=>by cases h) (fun _ _ e=>by cases e),hfb _ (by omega),trivial⟩
 rw [← htm]
 clear htm
 refine Zce (caps:=[.ZA [.map l k]]) 100 rfl (by simp only [go_sem,simprocAttr,h6]) (Zb Tryz.func299 rfl rfl) rfl fun y=>?_
 refine ⟨_,ZnY (x:=n) (l:=y) (S:=fun ks=>lkb (setb (ZeH n ks) 100 (.lrec y Tryz.f338.ntmps tm #[7] (Y9 Tryz.f338).snd.fst.snd.fst.fst (Y9 Tryz.f338).snd.fst.snd.fst.snd .ready none))) ?_ ?_ (n + 1) _ l k w hl (Nat.lt_succ_self n) hw (by rw [ZL hl]; exact hH) (fun j=>by simp only [full,if_true]; rfl),?_⟩
 ·intro m H' ks x hm hks hlv
  have hnm:¬ n = m:=by omega
  have h2':=hlv 2
  have h200:=hlv 200
  have h100:=hlv 100
  simp only [ZeH,setb,lkb] at h2' h200 h100
  refine Zd6 tt (x:=n) (y:=100) h100 hm rfl (by decide) fun B'=>?_
  show AKc _ _ _ ⟨(7,.int .i64 x) :: tm,[],H'⟩
  refine Za tok rfl rfl ?_
  simp only [go_sem,simprocAttr]
  refine Zt rfl ?_
  refine ⟨rfl,h100,?_⟩
  simp only [go_sem,simprocAttr]
  refine Za tok rfl rfl ?_
  simp only [go_sem,simprocAttr,hnm,h2,h2',h200,full,Zf.upd,(show ¬ m = n by omega)]
  have hfl:ZI ks ++ flat [AV.int IntKind.i64 x] = ZI (ks ++ [x]):=by simp [ZI,flat,AV.cells]
  have hl1:ks.length + 1 = (ks ++ [x]).length:=by simp
  rw [hfl]
  refine ⟨rfl,⟨ZQ (by omega),by omega⟩,.inr (ZhS _ _ _ _),.inr (Zk.YV ⟨.msl _ _ _ _ hm,trivial⟩),?_⟩
  rw [hl1]
  repeat refine kn rfl ?_
  refine Zt rfl ?_
  refine ⟨by simp [Zf.upd],rfl,ZfN (fun j=>?_) (fun l' j hne=>?_)⟩
  ·by_cases e1:j = 100
   ·subst e1; simp [Zf.upd,setb,lkb,ZeH]
   ·by_cases e2:j = 2
    ·subst e2; simp [Zf.upd,setb,lkb,ZeH]
    ·by_cases e3:j = 200
     ·subst e3; simp [Zf.upd,setb,lkb,ZeH]
     ·simp [Zf.upd,e1,e2,e3,hlv j,setb,lkb,ZeH,Ne.symm e1,Ne.symm e2,Ne.symm e3]
  ·simp [Zf.upd,hne]
 ·intro ks j b' h
  have hb:Yj (fun q:Nat × Zk=>q.2.Below (n + 1)) (setb (ZeH n ks) 100 (.lrec y Tryz.f338.ntmps tm #[7] (Y9 Tryz.f338).snd.fst.snd.fst.fst (Y9 Tryz.f338).snd.fst.snd.fst.snd .ready none)) :=
   ⟨Zk.YV ⟨.msl _ _ _ _ (Nat.lt_succ_self n),trivial⟩,ZhS _ _ _ _,Zk.ZdB hbt,trivial⟩
  exact hb.mem _ (lkb_mem h)
 ·rintro r H1 ⟨ks,hp,rfl⟩
  refine ⟨setb (ZeH n ks) 100 (.lrec y Tryz.f338.ntmps tm #[7] (Y9 Tryz.f338).snd.fst.snd.fst.fst (Y9 Tryz.f338).snd.fst.snd.fst.snd .ready none),H,.ready,none,?_,.refl _ _,rfl,by simp,?_⟩
  ·funext l' j
   simp only [Zf.YQ,full]
   by_cases e:l' = n
   ·rw [if_pos e,if_pos e]
   ·rw [if_neg e,if_neg e,if_neg e]
  simp only [go_sem,simprocAttr,ZeH,setb]
  refine Za tok rfl rfl ?_
  simp only [go_sem,simprocAttr,h2]
  repeat refine kn rfl ?_
  refine Yx (s':=⟨[(4,.msl 1 n 200 ks.length)],[(200,.ZN 3 1 (ZI ks) ks.length)],H⟩) ?_ ?_
  ·refine Zg ?_ ?_ ?_ ?_ <;> repeat' first|exact trivial|refine q0 ?_|exact qb|exact q1|exact q2|exact q3|exact rfl|refine And.intro ?_ ?_|exact qA rfl|exact Inside.ptr _ _ _ (.inr ⟨rfl,rfl⟩)|exact Tm.ins _|exact Tm.Zj _ _|exact Am.ins _|exact Am.Zj _ _|refine Zd ?_|refine Tm.Zc ?_|refine Am.Zc ?_
   all_goals first | exact YE (.inr ⟨rfl,rfl⟩) | exact allA ks | skip
  refine Zf3 200 l2 k2 _ [(4,.msl 1 l2 k2 ks.length)] hl2 hf rfl (ZhS _ _ _ _) ⟨⟨.inr (.inr (.inr ⟨1,_,rfl⟩)),by simp [lkv,ren]; exact .refl _⟩,trivial⟩ trivial ?_
  refine Zi rfl rfl ?_
  exact ZP (.refl _) (.msl _ _ _ _ hl2) ⟨ks,hp,rfl,rfl⟩
theorem Znu (n:Nat) (H:Zf) (l k:Nat) (w:Wm) (hl:l < n) (hw:w.length ≤ 100000) (hH:H l k = some (.map (Y3 w))) (l2 k2:Nat) (hl2:l2 < n) (hf:H l2 k2 = none) :
  Zr Tryz.prog n 298 [.fn (.func 299) [.ZA [.map l k]]] H fun r H'=>∃ ks:List Int,ks.Perm (w.map Prod.fst) ∧ r = .msl 1 l2 k2 ks.length ∧ H' = H.upd l2 k2 (.ZN 3 1 (ZI ks) ks.length):=by
 have hne2:¬ l2 = n:=by omega
 refine Zm tok (Zb Tryz.func298 rfl rfl) (by simp) fun B=>?_
 refine Za tok rfl rfl ?_
 simp only [go_sem,simprocAttr]
 refine Za tok rfl rfl ?_
 simp only [go_sem,simprocAttr]
 refine Xk (caps:=[]) (avs:=[.sl 1 [] .full,.fn (.func 299) [.ZA [.map l k]]]) rfl (Zb Tryz.func338 rfl rfl) (ZnO (n + 1) _ l k w (show l < n + 1 by omega) hw (by show full n [] H l k = _; rw [ZL hl]; exact hH) l2 k2 (show l2 < n + 1 by omega) (by show full n [] H l2 k2 = _; rw [ZL hl2]; exact hf)) (by simp only [go_sem,simprocAttr]) ?_
 rintro r H1 ⟨ks,hp,rfl,rfl⟩
 refine ⟨[],H.upd l2 k2 (.ZN 3 1 (ZI ks) ks.length),by show (full n [] H).upd _ _ _ = _; rw [XI _ _ _ _ _ _ hne2],fun l' k' b' hl' hb'=>?_,?_⟩
 ·simp only [Zf.upd] at hb'
  split at hb'
  ·cases hb'; exact .inr (ZhS _ _ _ _)
  ·exact .inl hb'
 simp only [go_sem,simprocAttr]
 refine Zi rfl rfl ?_
 exact ZP (.refl _) (.msl _ _ _ _ hl2) ⟨ks,hp,rfl,rfl⟩
theorem ZhC {ys xs:List Int} (hp:ys.Perm xs) (hn:xs.Nodup) (ha:∀ i i' (h:i < ys.length) (h':i' < ys.length),i < i' → ltOf cmpL ys[i'] ys[i] = false):ys = Y5 xs:=by
 refine Zcs ?_ fun x=>hp.mem_iff
 rw [List.pairwise_iff_getElem]
 intro i j hi hj hij
 have h1:=ha i j hi hj hij
 simp only [ltOf,decide_eq_false_iff_not,Zbl] at h1
 by_cases e:ltL ys[i] ys[j]
 ·exact e
 ·have h2:=Zbk e h1
  have h3:=(hp.nodup_iff.2 hn)
  exact absurd h2 ((List.pairwise_iff_getElem.1 h3) i j hi hj hij)
theorem Zny (n:Nat) (H:Zf) (l k:Nat) (w:Wm) (hl:l < n) (hw:w.length ≤ 100000) (hH:H l k = some (.map (Y3 w))) (hnd:(w.map Prod.fst).Nodup) (hsm:∀ p ∈ w,SmI p.1) :
  PC Tryz.prog n 223 [.fn (.func 299) [.ZA [.map l k]],.fn (.func 209) []] H (.sl 1 (ZI (VN w)) .any):=by
 refine Zm tok (Zb Tryz.func223 rfl rfl) (by simp) fun B=>?_
 refine Za tok rfl rfl ?_
 simp only [go_sem,simprocAttr]
 refine Za tok rfl rfl ?_
 simp only [go_sem,simprocAttr]
 refine Xk (caps:=[]) (avs:=[.fn (.func 299) [.ZA [.map l k]]]) rfl (Zb Tryz.func298 rfl rfl) (Znu (n + 1) _ l k w (show l < n + 1 by omega) hw (by show full n [] H l k = _; rw [ZL hl]; exact hH) n 200 (Nat.lt_succ_self n) (by simp only [go_sem,simprocAttr])) (by simp only [go_sem,simprocAttr]) ?_
 rintro r H1 ⟨ks,hp,rfl,rfl⟩
 refine ⟨[(200,.ZN 3 1 (ZI ks) ks.length)],H,(ZU n [] H 200 _).symm,.refl _ _,?_⟩
 have hkl:ks.length ≤ 100000:=by rw [hp.length_eq,List.length_map]; exact hw
 have hks:∀ x ∈ ks,SmI x:=fun x hx=>by
  obtain ⟨p,hp',rfl⟩:=List.mem_map.1 ((hp.mem_iff).1 hx); exact hsm p hp'
 simp only [go_sem,simprocAttr]
 refine Za tok rfl rfl ?_
 simp only [go_sem,simprocAttr]
 refine Xk (caps:=[]) (avs:=[.msl 1 n 200 ks.length,.fn (.func 209) []]) rfl (Zb Tryz.func208 rfl rfl) (ZfY (P:=Tryz.prog) Tryz.laysSlF6_f208 Tryz.sort208 rfl cmpL SmI Zmq 209 _ _ (Zb Tryz.func209 rfl rfl) (fun x y hx hy=>ZmH x y hx hy) (n + 1) _ n 200 3 1 ks hks (by simp only [go_sem,simprocAttr]) (by omega)) (by simp only [go_sem,simprocAttr]) ?_
 rintro r H1 ⟨rfl,ys,hyp,hya,rfl⟩
 have hys:ys = Y5 (w.map Prod.fst):=ZhC (hyp.trans hp) hnd hya
 have hyl:=hyp.length_eq
 refine ⟨[(200,.ZN 3 1 (ZI ys) ks.length)],H,(ZU n _ H 200 _).symm,.refl _ _,?_⟩
 simp only [go_sem,simprocAttr]
 refine Za tok rfl rfl ?_
 simp only [go_sem,simprocAttr]
 repeat refine kn rfl ?_
 refine Yx (s':=⟨[(4,.msl 1 n 200 ks.length)],[(200,.ZN 3 1 (ZI ys) ks.length)],H⟩) ?_ ?_
 ·refine Zg ?_ ?_ ?_ ?_ <;> repeat' first|exact trivial|refine q0 ?_|exact qb|exact q1|exact q2|exact q3|exact rfl|refine And.intro ?_ ?_|exact qA rfl|exact Inside.ptr _ _ _ (.inr ⟨rfl,rfl⟩)|exact Tm.ins _|exact Tm.Zj _ _|exact Am.ins _|exact Am.Zj _ _|refine Zd ?_|refine Tm.Zc ?_|refine Am.Zc ?_
  all_goals first | exact YE (.inr ⟨rfl,rfl⟩) | exact allA ys | skip
 refine Yx (Vh (tm':=[(4,.sl 1 (ZI ys) .any)]) (j:=200) (ZI ys) rfl (flat_aInts ys) (by simp [ZI]; omega) (fun x hx=>?_) (Zmh ys) (fun p hp=>?_) (fun p hp=>?_)) ?_
 ·obtain ⟨u,_,rfl⟩:=List.mem_map.1 hx; rfl
 ·simp only [List.mem_singleton] at hp; subst hp
  exact .inr ⟨1,rfl,rfl⟩
 ·simp [delb] at hp
 refine Zi rfl rfl ?_
 subst hys
 exact Ze (.refl _) (XQ _) rfl
theorem a226 (n:Nat) (H:Zf) (l k:Nat) (w:Wm) (hl:l < n) (hH:H l k = some (.map (Y3 w))) (x:Int):PC Tryz.prog n 226 [.int .i64 x,.ZA [.map l k]] H (.int .i64 ((getM x w).getD 0)):=by
 have hne:¬ l = n:=by omega
 have hlk:=fun re=>JH kinj_int (AV.int .i64) re x w
 have hkk:∀ p ∈ Y3 w,Yv tt 3 p.1 = true:=fun p hp=>by
  obtain ⟨q,_,rfl⟩:=List.mem_map.1 hp; rfl
 refine Zm tok (Zb Tryz.func226 rfl rfl) (by simp) fun B=>?_
 refine Za tok rfl rfl ?_
 simp only [go_sem,simprocAttr]
 refine Za tok rfl rfl ?_
 simp only [go_sem,simprocAttr,hne,hH,hlk]
 refine ⟨⟨rfl,hkk⟩,?_⟩
 refine Zi rfl rfl ?_
 refine Ze ?_ (.int _ _) rfl
 cases getM x w <;> exact .refl _
theorem a138 (n:Nat) (H:Zf) (l k:Nat) (w:Wm) (hl:l < n) (hw:w.length ≤ 100000) (hH:H l k = some (.map (Y3 w))) (hnd:(w.map Prod.fst).Nodup) (hsm:∀ p ∈ w,SmI p.1) :
  PC Tryz.prog n 138 [.map l k] H (.tup [Zw (VN w),Zw (J5 w)]):=by
 have hne:¬ l = n:=by omega
 have hH1:∀ L,full n L H l k = some (.map (Y3 w)):=fun L=>by rw [ZL hl]; exact hH
 have hsl:(VN w).length ≤ 1000000:=by
  have:=ordL_len (w.map Prod.fst)
  rw [List.length_map] at this
  unfold VN; omega
 have hbf:∀ m,l < m → Below m (.fn (.func 226) [.ZA [.map l k]]):=fun m hm=>VW ⟨Yd ⟨.map _ _ hm,trivial⟩,trivial⟩
 refine Zm tok (Zb Tryz.func138 rfl rfl) (by simp) fun B=>?_
 refine Za tok rfl rfl ?_
 simp only [go_sem,simprocAttr]
 repeat refine kn rfl ?_
 refine Ym 1 [.map l k] [(2,.sl 1 [] .full),(3,.sl 1 [] .full),(1,.ZA [.map l k])] rfl ⟨.map _ _ (.inl hl),trivial⟩ ?_ trivial ?_
 ·have hx:∀ q,Inside n q (.sl 1 [] .full):=fun q=>(ZV (n:=n) (fun _ h=>by cases h) (fun _ _ e=>by cases e)).inside
  exact ⟨.inl ⟨.refl _,hx _⟩,.inl ⟨.refl _,hx _⟩,.inr ⟨0,rfl,rfl⟩,trivial⟩
 simp only [go_sem,simprocAttr]
 refine Za tok rfl rfl ?_
 simp only [go_sem,simprocAttr]
 refine XZ (Zb Tryz.func224 rfl rfl) (ZnN (n + 1) _ l k (show l < n + 1 by omega)) (by simp only [go_sem,simprocAttr]) ?_
 simp only [go_sem,simprocAttr]
 refine XZ (Zb Tryz.func223 rfl rfl) (Zny (n + 1) _ l k w (show l < n + 1 by omega) hw (hH1 _) hnd hsm) (by simp only [go_sem,simprocAttr]) ?_
 simp only [go_sem,simprocAttr]
 refine Za tok rfl rfl ?_
 simp only [go_sem,simprocAttr]
 have hmap:=Zn0 (n + 1) (VN w) hsl 226 [.ZA [.map l k]] _ _ (Zb Tryz.func226 rfl rfl) (J5 w) (by simp [J5]) (fun _=>full n [] H) (hbf _ (by omega)) (WO _)
  (fun i h L=>Zr.mono (a226 (n + 1 + 1) (full (n + 1) L (full n [] H)) l k w (by omega) (by rw [ZL (show l < n + 1 by omega)]; exact hH1 _) ((VN w)[i])) (by rintro r H1 ⟨rfl,rfl⟩; exact ⟨by simp [J5],rfl⟩)) (fun _ _=>.refl _ _)
 refine Xk (caps:=[]) (avs:=[.sl 1 (ZI (VN w)) .any,.fn (.func 226) [.ZA [.map l k]]]) rfl (Zb Tryz.func225 rfl rfl) hmap (by simp only [go_sem,simprocAttr]) ?_
 rintro r H1 ⟨rfl,rfl⟩
 refine ⟨[],H,rfl,.refl _ _,?_⟩
 simp only [go_sem,simprocAttr]
 refine Zi rfl rfl ?_
 exact Vb (.refl _) (.refl _) (Zz _) (Zz _) rfl
end Go.Proofs.YthgbkalgmicniaaGreatDoor

/- The builder's rules. -/
namespace Go.Proofs.YthgbkalgmicniaaGreatDoor
open Go.Abs
set_option maxRecDepth 100000
theorem ZkZ (n:Nat) (H:Zf) (l b:Nat) (F:Fr) (s:St) (hl:l < n) (hF:F.bel n) (hs:s.Fit 1000000000) :
  Zr Tryz.prog n 205 [.ptr l b 0] (bxH H l b F s) fun r H'=>r = .int .i64 s.aux.n ∧ H' = bxH H l b F s.aux:=by
 have hne:¬ l = n:=by omega
 have hn:=hs.n
 have hw:IntKind.i64.wrap (s.n + 1) = s.n + 1:=by rw [IntWalk.i64_in _ (by omega)]
 have hb:=bxH_box (H:=H) (l:=l) (b:=b) (F:=F) (s:=s)
 have hb2:=Zdq (H:=H) (l:=l) (b:=b) (F:=F) (s:=s) s.aux rfl
 have hbl:=XD (b:=b) hF hl s.aux
 refine Zm tok (Zb Tryz.func205 rfl rfl) (by simp) fun B=>?_
 refine Za tok rfl rfl ?_
 simp only [go_sem,simprocAttr]
 refine Za tok rfl rfl ?_
 simp only [go_sem,simprocAttr,hne,hb,bxC,hw]
 refine ⟨.inr ?_,?_⟩
 ·exact hbl
 simp only [bxC,St.aux] at hb2
 rw [hb2]
 refine Za tok rfl rfl ?_
 simp only [go_sem,simprocAttr,hne,bxH_box,bxC,St.aux]
 refine Zi rfl rfl ?_
 exact ZP (.refl _) (.int _ _) ⟨rfl,rfl⟩
def op206:Opt:=⟨true,false,fun d=>if d = 17 then .heap else .auto,[]⟩
theorem a206 (n:Nat) (H:Zf) (l b:Nat) (F:Fr) (s:St) (hl:l < n) (hF:F.bel n) (hs:s.Fit 1000000) (h:List Int) (o1:Own) (body:List Int) (o2:Own) (g1:∀ x ∈ h,SmI x) (g2:∀ x ∈ body,SmI x) (l1:h.length ≤ 1000000) (l2:body.length ≤ 1000000) :
  Zr Tryz.prog n 206 [.ptr l b 0,.sl 1 (ZI h) o1,.sl 1 (ZI body) o2] (bxH H l b F s) fun r H'=>r = .tup [] ∧ H' = bxH H l b F (s.rule h body):=by
 have hne:¬ l = n:=by omega
 have hr:=hs.r
 have hb:=bxH_box (H:=H) (l:=l) (b:=b) (F:=F) (s:=s)
 have hb1:=bxH_rules (H:=H) (l:=l) (b:=b) (F:=F) (s:=s)
 have hb2:=ZeD (H:=H) (l:=l) (b:=b) (F:=F) (s:=s) (s.rule h body)
 have hbl:=XD (b:=b) hF hl (s.rule h body)
 have hbr:=Vz (n:=n) (s.rule h body)
 have hq:∀ Y,((bxH H l b F s).upd l (b + 1) Y) l b = (bxH H l b F s) l b:=fun Y=>Zf.upd_ne _ _ (by omega)
 refine Zm tok (Zb Tryz.func206 rfl rfl) (by simp) fun B=>?_
 refine WH tok mixed op206 rfl rfl (by kernel_rfl) (by kernel_rfl) ?_
 generalize bxH H l b F s = G at *
 simp only [go_sem,simprocAttr,op206,hne,hb,bxC]
 refine Zq (Zb Tryz.func122 rfl rfl) (Zia h o1 g1 l1) (by simp only [go_sem,simprocAttr,op206,hne,hb,bxC]) ?_
 simp only [go_sem,simprocAttr,op206,hne,hb,bxC]
 refine Zq (Zb Tryz.func122 rfl rfl) (Zia body o2 g2 l2) (by simp only [go_sem,simprocAttr,op206,hne,hb,bxC,hb1,bxR,hq]) ?_
 simp only [go_sem,simprocAttr,op206,hne,hb,bxC,hb1,bxR,hq]
 have e1:fl GR.raw s.rules ++ flat [AV.agg [.bool false,.sl 1 (ZI (Y5 h)) .any,.bool false,.int .i64 0,.sl 1 (ZI (Y5 body)) .any,.sl 1 [] .full]] = fl GR.raw (s.rule h body).rules:=by
  simp only [St.rule,Jd]; rfl
 have e2:s.rules.length + 1 = (s.rule h body).rules.length:=by simp [St.rule]
 rw [e1]
 refine ⟨by decide,⟨ZQ (by omega),by omega⟩,.inr (by rw [e2]; exact hbr),.inr (by rw [e2]; exact hbl),?_⟩
 rw [e2]
 refine XW ⟨by simp [YH],[],trivial,by simp,rfl,?_⟩
 exact hb2
def op212:Opt:=⟨true,false,fun _=>.auto,[]⟩
theorem a212 (n:Nat) (H:Zf) (l b:Nat) (F:Fr) (s:St) (hl:l < n) (hF:F.bel n) (hs:s.Fit 1000000) (rs:List GR) (x:GR) (hx:s.rules = rs ++ [x]) :
  Zr Tryz.prog n 212 [.ptr l b 0] (bxH H l b F s) fun r H'=>r = .tup [] ∧ H' = bxH H l b F s.choose:=by
 have hne:¬ l = n:=by omega
 have hr:=hs.r
 have hb:=bxH_box (H:=H) (l:=l) (b:=b) (F:=F) (s:=s)
 have hb1:=bxH_rules (H:=H) (l:=l) (b:=b) (F:=F) (s:=s)
 have hb2:=ZeD (H:=H) (l:=l) (b:=b) (F:=F) (s:=s) s.choose
 have hbl:=XD (b:=b) hF hl s.choose
 have hbr:=Vz (n:=n) s.choose
 have hlen:s.rules.length = rs.length + 1:=by rw [hx]; simp
 have hw:IntKind.i64.wrap (((rs.length + 1:Nat):Int) - 1) = (rs.length:Int):=by rw [IntWalk.i64_in _ (by omega)]; omega
 refine Zm tok (Zb Tryz.func212 rfl rfl) (by simp) fun B=>?_
 refine WH tok mixed op212 rfl rfl (by kernel_rfl) (by kernel_rfl) ?_
 generalize bxH H l b F s = G at *
 simp only [go_sem,simprocAttr,op212,hne,hb,bxC,bxR,hb1,hlen,hw]
 have hfl:=Zeo (k:=6) (cs:=GR.raw) (fun _=>rfl) s.rules
 have e0:s.choose.rules.length = rs.length + 1:=by simp only [St.choose,lastChoice_len]; exact hlen
 have e1:List.take (rs.length * 6) (fl GR.raw s.rules) ++ AV.bool true :: List.drop (rs.length * 6 + 1) (fl GR.raw s.rules) = fl GR.raw s.choose.rules:=by
  have:=ZdT rs x
  rw [← hx] at this
  exact this
 rw [e1,← e0]
 refine ⟨by omega,⟨by omega,by omega⟩,.inr hbr,?_⟩
 refine XW ⟨by simp [YH],[],trivial,by simp,rfl,?_⟩
 rw [← hb2]
 refine (X3 ?_).symm
 show (G.upd l (b + 1) _) l b = _
 rw [Zf.upd_ne _ _ (by omega),hb]
 simp only [bxC,St.choose,lastChoice_len]
end Go.Proofs.YthgbkalgmicniaaGreatDoor

/- The literal that stands for a disjunction; the table's literals. -/
namespace Go.Proofs.YthgbkalgmicniaaGreatDoor
open Go.Abs
set_option maxRecDepth 100000
theorem ZgB (l:List LInt) (i:Nat) (h:i < l.length) (d:AV):(l.map Zw).getD i d = Zw l[i]:=by
 rw [List.getD_eq_getElem?_getD,List.getElem?_map,List.getElem?_eq_getElem h]; rfl
def SmL (l:List LInt):Prop:=∀ x ∈ l,x.length ≤ 1000000 ∧ ∀ y ∈ x,SmI y
def ZlK (H:Zf) (l b:Nat) (F:Fr) (s:St) (t:Int) (L:List LInt) (i:Nat):Zh :=
 ⟨[(27,.int .i64 i),(26,.int .i64 L.length),(25,.sl 1 (L.map Zw) .any),(5,.int .i64 t),(0,.ptr l b 0)],[],bxH H l b F (s.Wx t (L.take i))⟩
theorem ZeR (s:St) (t:Int) (L:List LInt) (x:LInt):s.Wx t (L ++ [x]) = (s.Wx t L).rule [t] x:=by simp [St.Wx]
theorem Zmk (n:Nat) (H:Zf) (l b:Nat) (F:Fr) (s:St) (hl:l < n) (hF:F.bel n) (hs:s.Fit 900000) (L:List LInt) (hL:SmL L) (hlen:L.length ≤ 10000) :
  Zr Tryz.prog n 136 [.ptr l b 0,.sl 1 (L.map Zw) .any] (bxH H l b F s) fun r H'=>r = .int .i64 (s.stands L).1 ∧ H' = bxH H l b F (s.stands L).2:=by
 have hne:¬ l = n:=by omega
 refine Zm tok (Zb Tryz.func136 rfl rfl) (by simp) fun B=>?_
 refine Za tok rfl rfl ?_
 simp only [go_sem,simprocAttr]
 by_cases h1:∃ x,L = [[x]]
 ·obtain ⟨x,rfl⟩:=h1
  refine Za tok rfl rfl ?_
  simp only [go_sem,simprocAttr,List.map_cons,List.map_nil,List.length_cons,List.length_nil,List.getD_cons_zero]
  refine Zp rfl rfl rfl ?_
  refine Za tok rfl rfl ?_
  simp only [go_sem,simprocAttr,List.map_cons,List.map_nil,List.length_cons,List.length_nil,List.getD_cons_zero]
  refine Zi rfl rfl ?_
  exact ZP (.refl _) (.int _ _) ⟨rfl,rfl⟩
 have hst:s.stands L = (s.n + 1,s.aux.Wx (s.n + 1) L):=by
  unfold St.stands
  split
  ·rename_i x; exact absurd ⟨x,rfl⟩ h1
  ·rfl
 rw [hst]
 have go:∀ tm:List (Nat × AV),lkv tm 0 = .ptr l b 0 → lkv tm 1 = .sl 1 (L.map Zw) .any → AKc ⟨Tryz.prog,tt,⟨none,B⟩,n,Tryz.f136.ntmps⟩ [.code (Y9 Tryz.f136).snd.snd]
   (PostF Tryz.prog tt n Tryz.f136.results.toList fun r H'=>r = .int .i64 (s.n + 1) ∧ H' = bxH H l b F (s.aux.Wx (s.n + 1) L)) ⟨tm,[],bxH H l b F s⟩:=by
  intro tm t0 t1
  have haux:=ZkZ (n + 1) H l b F s (by omega) (hF.mono (Nat.le_succ n)) (hs.mono (by omega))
  refine Za tok rfl rfl ?_
  simp only [go_sem,simprocAttr,t0,t1]
  refine Xk (caps:=[]) (avs:=[.ptr l b 0]) rfl (Zb Tryz.func205 rfl rfl) (by rw [Yz hne]; exact ZkZ (n + 1) (full n [] H) l b F s (by omega) (hF.mono (Nat.le_succ n)) (hs.mono (by omega))) (by simp only [go_sem,simprocAttr,t0]) ?_
  rintro r H1 ⟨rfl,rfl⟩
  refine ⟨[],bxH H l b F s.aux,by rw [Yz hne],Zay hF hl _ _,?_⟩
  simp only [go_sem,simprocAttr,t0,t1]
  refine Za tok rfl rfl ?_
  simp only [go_sem,simprocAttr,t0,t1]
  repeat refine kn rfl ?_
  refine Zy (ZlK H l b F s.aux (s.n + 1) L) L.length rfl ?_ ?_
  ·refine Zg ?_ ?_ ?_ ?_ <;> repeat' first|exact trivial|refine q0 ?_|exact qb|exact q1|exact q2|exact q3|exact rfl|refine And.intro ?_ ?_|exact qA rfl|exact Inside.ptr _ _ _ (.inr ⟨rfl,rfl⟩)|exact Tm.ins _|exact Tm.Zj _ _|exact Am.ins _|exact Am.Zj _ _|refine Zd ?_|refine Tm.Zc ?_|refine Am.Zc ?_
   ·simp only [go_sem,simprocAttr,t0]
    exact .refl _
   all_goals first | exact Inside.ptr _ _ _ (.inl hl) | exact (JV _).inside
  intro i hi
  refine Yi rfl ?_
  rcases Nat.lt_or_ge i L.length with h | h
  ·refine Za tok rfl rfl ?_
   simp only [go_sem,simprocAttr,h]
   refine Zp rfl rfl rfl ?_
   refine Za tok rfl rfl ?_
   simp only [go_sem,simprocAttr,ZgB _ _ h,h]
   have hLi:=hL L[i] (List.getElem_mem h)
   have hn:=hs.n
   have hfit:=(Zad (s.n + 1) (L.take i) hs.aux).mono (k':=1000000) (by rw [List.length_take]; omega)
   refine Za tok rfl rfl ?_
   simp only [go_sem,simprocAttr]
   refine ⟨rfl,?_⟩
   refine Xk (caps:=[]) (avs:=[.ptr l b 0,.sl 1 (ZI [s.n + 1]) .full,.sl 1 (ZI L[i]) .any]) rfl (Zb Tryz.func206 rfl rfl)
    (by rw [Yz hne]; exact a206 (n + 1) (full n [] H) l b F _ (by omega) (hF.mono (Nat.le_succ n)) hfit [s.n + 1] _ L[i] _ (by simp only [List.mem_singleton,forall_eq]; unfold SmI; omega) hLi.2 (by simp) hLi.1) (by simp only [go_sem,simprocAttr]) ?_
   rintro r H1 ⟨rfl,rfl⟩
   refine ⟨[],bxH H l b F ((s.aux.Wx (s.n + 1) (L.take i)).rule [s.n + 1] L[i]),by rw [Yz hne],Zay hF hl _ _,?_⟩
   simp only [go_sem,simprocAttr]
   rw [← ZeR,← List.take_succ_eq_append_getElem h]
   refine Za tok rfl rfl ?_
   simp only [go_sem,simprocAttr]
   refine Zt rfl ?_
   refine Zg ?_ ?_ ?_ ?_ <;> repeat' first|exact trivial|refine q0 ?_|exact qb|exact q1|exact q2|exact q3|exact rfl|refine And.intro ?_ ?_|exact qA rfl|exact Inside.ptr _ _ _ (.inr ⟨rfl,rfl⟩)|exact Tm.ins _|exact Tm.Zj _ _|exact Am.ins _|exact Am.Zj _ _|refine Zd ?_|refine Tm.Zc ?_|refine Am.Zc ?_
   ·simp only [go_sem,simprocAttr]
    rw [IntWalk.i64_in _ (by omega)]; exact .refl _
   all_goals first | exact Inside.ptr _ _ _ (.inl hl) | exact (JV _).inside
  ·refine Za tok rfl rfl ?_
   simp only [go_sem,simprocAttr,Nat.not_lt.2 h]
   refine Zn rfl rfl rfl ?_
   refine Yh rfl rfl rfl rfl ?_
   have hi':i = L.length:=by omega
   subst hi'
   refine Za tok rfl rfl ?_
   simp only [go_sem,simprocAttr]
   refine Zi rfl rfl ?_
   refine ZP (.refl _) (.int _ _) ⟨rfl,?_⟩
   rw [List.take_length]
 by_cases h2:L.length = 1
 ·obtain ⟨x,rfl⟩:∃ x,L = [x]:=by
   match L,h2 with
   | [x],_=>exact ⟨x,rfl⟩
  have h3:((x.length:Int) == 1) = false:=by
   rw [beq_eq_false_iff_ne]
   intro e
   match x,e,h1 with
   | [y],_,h1=>exact h1 ⟨y,rfl⟩
  refine Za tok rfl rfl ?_
  simp only [go_sem,simprocAttr,List.map_cons,List.map_nil,List.length_cons,List.length_nil,List.getD_cons_zero,h3]
  refine Zn rfl rfl rfl ?_
  refine ZM rfl ?_
  exact go _ rfl rfl
 ·have h3:((L.length:Int) == 1) = false:=by rw [beq_eq_false_iff_ne]; omega
  refine Za tok rfl rfl ?_
  simp only [go_sem,simprocAttr,h3]
  refine Zn rfl rfl rfl ?_
  refine ZM rfl ?_
  exact go _ rfl rfl
end Go.Proofs.YthgbkalgmicniaaGreatDoor

/- Rules with a sum; naming; literals of conditions. -/
namespace Go.Proofs.YthgbkalgmicniaaGreatDoor
open Go.Abs
set_option maxRecDepth 100000
structure WOk (w:Wm):Prop where
 sm:SmW w
 nd:(w.map Prod.fst).Nodup
 k:∀ p ∈ w,SmI p.1
def op211a:Opt:=⟨true,true,fun _=>.auto,[6]⟩
def op211:Opt:=⟨true,false,fun d=>if d = 27 then .heap else .auto,[]⟩
theorem Zk0 (n:Nat) (H:Zf) (l b:Nat) (F:Fr) (s:St) (hl:l < n) (hF:F.bel n) (hs:s.Fit 1000000) (h:List Int) (o1:Own) (g1:∀ x ∈ h,SmI x) (l1:h.length ≤ 1000000)
  (lw kw:Nat) (w:Wm) (hlw:lw < n) (hw:WOk w) (hH:H lw kw = some (.map (Y3 w))) (hd1:¬(lw = l ∧ kw = b)) (hd2:¬(lw = l ∧ kw = b + 1)) (k:Int) :
  Zr Tryz.prog n 211 [.ptr l b 0,.sl 1 (ZI h) o1,.agg [.map lw kw,.int .i64 k]] (bxH H l b F s) fun r H'=>r = .tup [] ∧ H' = bxH H l b F (s.sum h w k):=by
 have hne:¬ l = n:=by omega
 have hr:=hs.r
 have hb:=bxH_box (H:=H) (l:=l) (b:=b) (F:=F) (s:=s)
 have hb1:=bxH_rules (H:=H) (l:=l) (b:=b) (F:=F) (s:=s)
 have hb2:=ZeD (H:=H) (l:=l) (b:=b) (F:=F) (s:=s) (s.sum h w k)
 have hbl:=XD (b:=b) hF hl (s.sum h w k)
 have hbr:=Vz (n:=n) (s.sum h w k)
 have hq:∀ Y,((bxH H l b F s).upd l (b + 1) Y) l b = (bxH H l b F s) l b:=fun Y=>Zf.upd_ne _ _ (by omega)
 have hHb:bxH H l b F s lw kw = some (.map (Y3 w)):=by rw [Xt hd1 hd2]; exact hH
 refine Zm tok (Zb Tryz.func211 rfl rfl) (by simp) fun B=>?_
 generalize bxH H l b F s = G at *
 refine Za tok rfl rfl ?_
 simp only [go_sem,simprocAttr]
 repeat refine kn rfl ?_
 refine WH tok mixed op211a rfl rfl (by kernel_rfl) (by kernel_rfl) ?_
 simp only [go_sem,simprocAttr,op211a]
 refine Zf2 (Zb Tryz.func122 rfl rfl) (Zia h o1 g1 l1) (by simp only [go_sem,simprocAttr]) ?_
 simp only [go_sem,simprocAttr,op211a]
 refine ⟨rfl,?_⟩
 refine Za tok rfl rfl ?_
 simp only [go_sem,simprocAttr]
 refine XZ (Zb Tryz.func138 rfl rfl) (a138 (n + 1) _ lw kw w (show lw < n + 1 by omega) hw.sm.1 (by show full n _ G lw kw = _; rw [ZL hlw]; exact hHb) hw.nd hw.k) (by simp only [go_sem,simprocAttr]) ?_
 simp only [go_sem,simprocAttr]
 repeat refine kn rfl ?_
 refine WH tok mixed op211 rfl rfl (by kernel_rfl) (by kernel_rfl) ?_
 simp only [go_sem,simprocAttr,op211,hne,hb,bxC,hb1,bxR,hq]
 have e1:fl GR.raw s.rules ++ flat [AV.agg [.bool false,.sl 1 (ZI (Y5 h)) .any,.bool true,.int .i64 k,Zw (VN w),Zw (J5 w)]] = fl GR.raw (s.sum h w k).rules:=by
  simp only [St.sum,Jd]; rfl
 have e2:s.rules.length + 1 = (s.sum h w k).rules.length:=by simp [St.sum]
 rw [e1]
 refine ⟨rfl,⟨ZQ (by omega),by omega⟩,.inr (by rw [e2]; exact hbr),.inr (by rw [e2]; exact hbl),?_⟩
 rw [e2]
 refine XW ⟨by simp [YH],[],trivial,by simp,rfl,?_⟩
 exact hb2
theorem VY (x:Int):(Cnd.lit x).enc = .ifc 160 (.int .i64 x):=rfl
theorem ZaB (x:Bool):(Cnd.con x).enc = .ifc 261 (.bool x):=rfl
theorem VT (l k:Nat) (w:Wm) (n:Int):(Cnd.pend l k w n).enc = .ifc 263 (.agg [.map l k,.int .i64 n]):=rfl
def _root_.Go.Abs.Cnd.Ok (n l b:Nat) (H:Zf):Cnd → Prop
 | .lit x=>SmI x
 | .con _=>True
 | .pend lw kw w _=>lw < n ∧ WOk w ∧ H lw kw = some (.map (Y3 w)) ∧ ¬(lw = l ∧ kw = b) ∧ ¬(lw = l ∧ kw = b + 1)
def _root_.Go.Abs.St.name (s:St):Cnd → Cnd × St
 | .pend _ _ w k=>(.lit (s.n + 1),s.aux.sum [s.n + 1] w k)
 | c=>(c,s)
theorem Zb9 {n l b:Nat} {H:Zf} {c:Cnd} (h:c.Ok n l b H):Below n c.enc:=by
 cases c with
 | lit x=>exact .ifc _ _ (.int _ _)
 | con x=>exact .ifc _ _ (.bool _)
 | pend l k w x =>
  refine .ifc _ _ (YL ?_)
  intro c hc
  simp only [List.mem_cons,List.not_mem_nil,or_false] at hc
  rcases hc with rfl | rfl
  ·exact .map _ _ h.1
  ·exact .int _ _
theorem Ziy {s:St} {k:Int} (c:Cnd) (h:s.Fit k):(s.name c).2.Fit (k + 2):=by
 cases c with
 | pend l k' w x=>exact (h.aux.sum _ _ _).mono (by omega)
 | _=>exact h.mono (by omega)
theorem a213 (n:Nat) (H:Zf) (l b:Nat) (F:Fr) (s:St) (hl:l < n) (hF:F.bel n) (hs:s.Fit 900000) (c:Cnd) (hc:c.Ok n l b H) :
  Zr Tryz.prog n 213 [.ptr l b 0,c.enc] (bxH H l b F s) fun r H'=>r = (s.name c).1.enc ∧ H' = bxH H l b F (s.name c).2:=by
 have hne:¬ l = n:=by omega
 have hcb:=Zb9 hc
 refine Zm tok (Zb Tryz.func213 rfl rfl) (by simp) fun B=>?_
 cases c with
 | lit x =>
  refine Za tok rfl rfl ?_
  simp only [go_sem,simprocAttr]
  refine Za tok rfl rfl ?_
  simp only [go_sem,simprocAttr,VY]
  refine Za tok rfl rfl ?_
  simp only [go_sem,simprocAttr]
  refine Zn rfl rfl rfl ?_
  refine ZM rfl ?_
  refine Za tok rfl rfl ?_
  simp only [go_sem,simprocAttr]
  refine Zi rfl rfl ?_
  exact ZP (.refl _) hcb ⟨rfl,rfl⟩
 | con x =>
  refine Za tok rfl rfl ?_
  simp only [go_sem,simprocAttr]
  refine Za tok rfl rfl ?_
  simp only [go_sem,simprocAttr,ZaB]
  refine Za tok rfl rfl ?_
  simp only [go_sem,simprocAttr]
  refine Zn rfl rfl rfl ?_
  refine ZM rfl ?_
  refine Za tok rfl rfl ?_
  simp only [go_sem,simprocAttr]
  refine Zi rfl rfl ?_
  exact ZP (.refl _) hcb ⟨rfl,rfl⟩
 | pend lw kw w x =>
  refine Za tok rfl rfl ?_
  simp only [go_sem,simprocAttr]
  refine Za tok rfl rfl ?_
  simp only [go_sem,simprocAttr,VT]
  refine Za tok rfl rfl ?_
  simp only [go_sem,simprocAttr]
  refine Zp rfl rfl rfl ?_
  refine Za tok rfl rfl ?_
  simp only [go_sem,simprocAttr]
  refine X0 hl hF (Zb Tryz.func205 rfl rfl) (ZkZ (n + 1) _ l b F s (by omega) (hF.mono (Nat.le_succ n)) (hs.mono (by omega))) (by simp only [go_sem,simprocAttr]) ?_
  simp only [go_sem,simprocAttr]
  refine Za tok rfl rfl ?_
  simp only [go_sem,simprocAttr]
  have hn:=hs.n
  have hlw:lw ≠ n:=by have:=hc.1; omega
  refine ⟨rfl,?_⟩
  refine X0 hl hF (Zb Tryz.func211 rfl rfl) (Zk0 (n + 1) _ l b F s.aux (by omega) (hF.mono (Nat.le_succ n)) (hs.aux.mono (by omega)) [s.n + 1] .full (by simp only [List.mem_singleton,forall_eq]; unfold SmI; omega) (by simp) lw kw w (by have:=hc.1; omega) hc.2.1 (by simp only [full,if_neg hlw]; exact hc.2.2.1) hc.2.2.2.1 hc.2.2.2.2 x) (by simp only [go_sem,simprocAttr,St.aux]) ?_
  simp only [go_sem,simprocAttr]
  refine Za tok rfl rfl ?_
  simp only [go_sem,simprocAttr]
  refine Zi rfl rfl ?_
  exact ZP (.refl _) (.ifc _ _ (.int _ _)) ⟨rfl,rfl⟩
def _root_.Go.Abs.St.neg (s:St) (c:Cnd):Cnd × St:=match s.name c with
 | (.lit x,t)=>(.lit (-x),t)
 | (.con b,t)=>(.con (!b),t)
 | (c,t)=>(c,t)
end Go.Proofs.YthgbkalgmicniaaGreatDoor

/- Literals of conditions; rules with conditions as bodies; settled conditions. -/
namespace Go.Proofs.YthgbkalgmicniaaGreatDoor
open Go.Abs
set_option maxRecDepth 100000
theorem ZbU {n l b:Nat} {H:Zf} {c:Cnd} (hc:c.Ok n l b H) (L:List (Nat × Zk)):c.Ok (n + 1) l b (full n L H):=by
 cases c with
 | pend lw kw w x =>
  obtain ⟨h1,h2,h3,h4,h5⟩:=hc
  exact ⟨by omega,h2,by rw [ZL h1]; exact h3,h4,h5⟩
 | _=>exact hc
end Go.Proofs.YthgbkalgmicniaaGreatDoor
namespace Go.Abs
def litOf:Cnd → Int
 | .lit x=>x
 | _=>0
def St.names (s:St):List Cnd → List Int × St
 | []=>([],s)
 | c :: r=>(litOf (s.name c).1 :: (St.names (s.name c).2 r).1,(St.names (s.name c).2 r).2)
end Go.Abs
namespace Go.Proofs.YthgbkalgmicniaaGreatDoor
open Go.Abs
theorem names_len:∀ (l:List Cnd) (s:St),(s.names l).1.length = l.length
 | [],_=>rfl
 | c :: r,s=>by simp only [St.names,List.length_cons,names_len r]
theorem names_take:∀ (l:List Cnd) (s:St) (i:Nat) (h:i < l.length),((s.names (l.take (i + 1))).2 = ((s.names (l.take i)).2.name l[i]).2) ∧ ∀ h':i < (s.names l).1.length,(s.names l).1[i] = litOf ((s.names (l.take i)).2.name l[i]).1
 | c :: r,s,0,h=>⟨rfl,fun _=>rfl⟩
 | c :: r,s,i + 1,h=>by
  have:=names_take r (s.name c).2 i (by simpa using h)
  simp only [List.take_succ_cons,St.names,List.getElem_cons_succ] at *
  exact ⟨this.1,fun h'=>this.2 (by simpa using h')⟩
theorem names_fit:∀ (l:List Cnd) {s:St} {k:Int},s.Fit k → (s.names l).2.Fit (k + 2 * l.length)
 | [],s,k,h=>h.mono (by simp)
 | c :: r,s,k,h=>by
  have:=names_fit r (Ziy c h)
  simp only [St.names,List.length_cons]
  exact this.mono (by omega)
theorem ZeF {n l b:Nat} {H:Zf} {s:St} {k:Int} (hs:s.Fit k) (hk:k ≤ 1000000) {c:Cnd} (hc:c.Ok n l b H):SmI (litOf (s.name c).1):=by
 have hn:=hs.n
 cases c with
 | lit x=>exact hc
 | con x=>show SmI 0; unfold SmI; omega
 | pend lw kw w x=>show SmI (s.n + 1); unfold SmI; omega
theorem ZnG (n:Nat) (H:Zf) (l b:Nat) (F:Fr) (s:St) (hl:l < n) (hF:F.bel n) (hs:s.Fit 900000) (c:Cnd) (hc:c.Ok n l b H) :
  Zr Tryz.prog n 217 [c.enc,.ZA [.ptr l b 0]] (bxH H l b F s) fun r H'=>r = .int .i64 (litOf (s.name c).1) ∧ H' = bxH H l b F (s.name c).2:=by
 have hne:¬ l = n:=by omega
 refine Zm tok (Zb Tryz.func217 rfl rfl) (by simp) fun B=>?_
 refine Za tok rfl rfl ?_
 simp only [go_sem,simprocAttr]
 refine Za tok rfl rfl ?_
 simp only [go_sem,simprocAttr]
 refine X0 hl hF (Zb Tryz.func213 rfl rfl) (a213 (n + 1) (full n [] H) l b F s (by omega) (hF.mono (Nat.le_succ n)) hs c (ZbU hc [])) (by simp only [go_sem,simprocAttr]) ?_
 cases hd:(s.name c).1 with
 | lit x =>
  simp only [go_sem,simprocAttr,VY]
  refine Za tok rfl rfl ?_
  simp only [go_sem,simprocAttr]
  refine Zi rfl rfl ?_
  exact ZP (.refl _) (.int _ _) ⟨rfl,rfl⟩
 | con x =>
  simp only [go_sem,simprocAttr,ZaB]
  refine Za tok rfl rfl ?_
  simp only [go_sem,simprocAttr]
  refine Zi rfl rfl ?_
  exact ZP (.refl _) (.int _ _) ⟨rfl,rfl⟩
 | pend lw kw w x =>
  cases c with
  | pend _ _ _ _=>cases hd
  | lit _=>cases hd
  | con _=>cases hd
theorem Zc2 {n l b:Nat} {H:Zf} {k:Nat} {cs:List Cnd} (h:∀ c ∈ cs,c.Ok n l b H):Below n (.sl k (cs.map Cnd.enc) .any):=ZK fun x hx=>by
 obtain ⟨u,hu,rfl⟩:=List.mem_map.1 hx; exact Zb9 (h u hu)
theorem ZkN (n:Nat) (H:Zf) (l b:Nat) (F:Fr) (s:St) (hl:l < n) (hF:F.bel n) (hs:s.Fit 800000) (cs:List Cnd) (hcs:∀ c ∈ cs,c.Ok n l b H) (hlen:cs.length ≤ 10000) :
  Zr Tryz.prog n 128 [.ptr l b 0,.sl 1 (cs.map Cnd.enc) .any] (bxH H l b F s) fun r H'=>r = Zw (Y5 (s.names cs).1) ∧ H' = bxH H l b F (s.names cs).2:=by
 have hne:¬ l = n:=by omega
 have hbf:∀ m,l < m → Below m (.fn (.func 217) [.ZA [.ptr l b 0]]):=fun m hm=>VW ⟨Yd ⟨.ptr _ _ _ hm,trivial⟩,trivial⟩
 have hfit:∀ i,((s.names (cs.take i)).2).Fit 900000:=fun i=>(names_fit (cs.take i) hs).mono (by rw [List.length_take]; omega)
 have hsm:∀ x ∈ (s.names cs).1,SmI x:=fun x hx=>by
  obtain ⟨i,hi,rfl⟩:=List.getElem_of_mem hx
  have hi':i < cs.length:=by rw [names_len] at hi; exact hi
  rw [(names_take cs s i hi').2 hi]
  exact ZeF (hfit i) (by omega) (hcs _ (List.getElem_mem hi'))
 refine Zm tok (Zb Tryz.func128 rfl rfl) (by simp) fun B=>?_
 refine Za tok rfl rfl ?_
 simp only [go_sem,simprocAttr]
 repeat refine kn rfl ?_
 have hbc:=Zc2 (k:=1) hcs
 refine Ym 2 [.ptr l b 0] [(1,.sl 1 (cs.map Cnd.enc) .any),(2,.ZA [.ptr l b 0])] rfl ⟨Inside.ptr _ _ _ (.inl hl),trivial⟩ ⟨.inl ⟨.refl _,hbc.inside⟩,.inr ⟨0,rfl,rfl⟩,trivial⟩ trivial ?_
 simp only [go_sem,simprocAttr]
 refine Za tok rfl rfl ?_
 simp only [go_sem,simprocAttr]
 have hmap:=e216 (n + 1) cs (by omega) 217 [.ZA [.ptr l b 0]] _ _ (Zb Tryz.func217 rfl rfl) (s.names cs).1 (names_len cs s) (fun i=>bxH (full n [] H) l b F (s.names (cs.take i)).2) (hbf _ (by omega)) (hbc.mono (Nat.le_succ n))
  (fun i h L=>by
   have h1:=names_take cs s i h
   have:=ZnG (n + 1 + 1) (full (n + 1) L (full n [] H)) l b F (s.names (cs.take i)).2 (by omega) (hF.mono (by omega)) (hfit i) cs[i] (ZbU (ZbU (hcs _ (List.getElem_mem h)) []) L)
   rw [Yz (show l ≠ n + 1 by omega),Yz (show l ≠ n + 1 by omega),h1.1,h1.2 (by rw [names_len]; exact h)]
   exact this) (fun i h=>Zay (hF.mono (Nat.le_succ n)) (by omega) _ _)
 rw [List.take_zero,List.take_length] at hmap
 refine X0 hl hF (Zb Tryz.func216 rfl rfl) hmap (by simp only [go_sem,simprocAttr]) ?_
 simp only [go_sem,simprocAttr]
 refine Zq (Zb Tryz.func122 rfl rfl) (Zia (s.names cs).1 .any hsm (by rw [names_len]; omega)) (by simp only [go_sem,simprocAttr,eInt]) ?_
 simp only [go_sem,simprocAttr,eInt]
 refine Zi rfl rfl ?_
 exact ZP (.refl _) (Zz _) ⟨rfl,rfl⟩
end Go.Proofs.YthgbkalgmicniaaGreatDoor

/- Settled conditions; rules with conditions as bodies. -/
namespace Go.Abs
def isCon:Cnd → Bool
 | .con _=>true
 | _=>false
def isNo:Cnd → Bool
 | .con b=>!b
 | _=>false
def Xf (l:List Cnd):List Cnd:=l.filter fun c=>!isCon c
def W9 (l:List Cnd):List Cnd × Bool:=if l.any isNo then ([],false) else (Xf l,true)
def St.lits (s:St) (l:List Cnd):List Int × St:=(Y5 (s.names l).1,(s.names l).2)
def St.emit (s:St) (h:List Int) (l:List Cnd):St:=match l with
 | [.pend _ _ w k]=>s.sum h w k
 | l=>(s.lits l).2.rule h (s.lits l).1
end Go.Abs
namespace Go.Proofs.YthgbkalgmicniaaGreatDoor
open Go.Abs
set_option maxRecDepth 100000
def Zmo (n:Nat) (l:List Cnd) (H:Zf) (i:Nat):Zh :=
 ⟨[(10,.int .i64 i),(9,.int .i64 l.length),(8,.sl 1 (l.map Cnd.enc) .any),(2,.sl 1 ((Xf (l.take i)).map Cnd.enc) (.buf n 200)),(3,.bool false)],[(200,.buf 260 1 (Xf (l.take i)).length)],H⟩
theorem Zjl (l:List Cnd) (i:Nat) (h:i < l.length) (d:AV):(l.map Cnd.enc).getD i d = l[i].enc:=by
 rw [List.getD_eq_getElem?_getD,List.getElem?_map,List.getElem?_eq_getElem h]; rfl
theorem ZgH (l:List Cnd) (c:Cnd):Xf (l ++ [c]) = if isCon c then Xf l else Xf l ++ [c]:=by
 unfold Xf; rw [List.filter_append]
 cases h:isCon c <;> simp [h]
theorem ZnQ (n:Nat) (H:Zf) (l:List Cnd) (hbc:∀ c ∈ l,Below n c.enc) (hl:l.length ≤ 1000000) :
  PC Tryz.prog n 121 [.sl 1 (l.map Cnd.enc) .any] H (.tup [.sl 1 ((W9 l).1.map Cnd.enc) .any,.bool (W9 l).2]):=by
 have hol:∀ i,(Xf (l.take i)).length ≤ 1000000:=fun i=>by
  have h1:=List.length_filter_le (fun c=>!isCon c) (l.take i)
  have h2:(l.take i).length ≤ l.length:=by rw [List.length_take]; omega
  unfold Xf; omega
 have hbo:∀ i,∀ x ∈ (Xf (l.take i)).map Cnd.enc,Below n x:=fun i x hx=>by
  obtain ⟨c,hc,rfl⟩:=List.mem_map.1 hx
  exact hbc c (List.mem_of_mem_take (List.mem_filter.1 hc).1)
 have hb:Below n (.sl 1 (l.map Cnd.enc) .any):=ZK fun x hx=>by
  obtain ⟨c,hc,rfl⟩:=List.mem_map.1 hx; exact hbc c hc
 refine Zm tok (Zb Tryz.func121 rfl rfl) (by simp) fun B=>?_
 refine Za tok rfl rfl ?_
 simp only [go_sem,simprocAttr]
 refine Za tok rfl rfl ?_
 simp only [go_sem,simprocAttr]
 repeat refine kn rfl ?_
 refine WS 2 200 260 1 rfl rfl ?_
 refine Ye (Zmo n l H) (fun i=>(l.take i).any isNo = false) l.length rfl ?_ rfl ?_
 ·refine Zg ?_ ?_ ?_ ?_ <;> repeat' first|exact trivial|refine q0 ?_|exact qb|exact q1|exact q2|exact q3|exact rfl|refine And.intro ?_ ?_|exact qA rfl|exact Inside.ptr _ _ _ (.inr ⟨rfl,rfl⟩)|exact Tm.ins _|exact Tm.Zj _ _|exact Am.ins _|exact Am.Zj _ _|refine Zd ?_|refine Tm.Zc ?_|refine Am.Zc ?_
  all_goals first | exact hb.inside | exact Zc (hbo 0) rfl | skip
 intro i hi hq
 refine Yi rfl ?_
 rcases Nat.lt_or_ge i l.length with h | h
 ·have hlo:=hol i
  refine Za tok rfl rfl ?_
  simp only [go_sem,simprocAttr,h]
  refine Zp rfl rfl rfl ?_
  refine Za tok rfl rfl ?_
  simp only [go_sem,simprocAttr,Zjl _ _ h,h]
  have hnx:∀ c,l[i] = c → Xf (l.take (i + 1)) = if isCon c then Xf (l.take i) else Xf (l.take i) ++ [c]:=fun c hc=>by
   rw [List.take_succ_eq_append_getElem h,hc,ZgH]
  have hno:∀ c,l[i] = c → (l.take (i + 1)).any isNo = isNo c:=fun c hc=>by
   rw [List.take_succ_eq_append_getElem h,hc,List.any_append,hq]; simp
  cases hc:l[i] with
  | lit x =>
   have h1:=hnx _ hc
   have h2:=hno _ hc
   refine Za tok rfl rfl ?_
   simp only [go_sem,simprocAttr,VY]
   refine Za tok rfl rfl ?_
   simp only [go_sem,simprocAttr]
   refine Zp rfl rfl rfl ?_
   refine Za tok rfl rfl ?_
   simp only [go_sem,simprocAttr]
   refine ⟨rfl,⟨ZQ (by omega),by omega⟩,?_⟩
   refine Za tok rfl rfl ?_
   simp only [go_sem,simprocAttr]
   refine Zt rfl ?_
   refine ⟨h2,?_⟩
   refine Zg ?_ ?_ ?_ ?_ <;> repeat' first|exact trivial|refine q0 ?_|exact qb|exact q1|exact q2|exact q3|exact rfl|refine And.intro ?_ ?_|exact qA rfl|exact Inside.ptr _ _ _ (.inr ⟨rfl,rfl⟩)|exact Tm.ins _|exact Tm.Zj _ _|exact Am.ins _|exact Am.Zj _ _|refine Zd ?_|refine Tm.Zc ?_|refine Am.Zc ?_
   ·simp only [go_sem,simprocAttr]
    rw [IntWalk.i64_in _ (by omega)]; exact .refl _
   ·simp only [go_sem,simprocAttr,h1,isCon,List.map_append,VY]
    exact .refl _
   all_goals first | exact hb.inside | exact Zc (hbo (i + 1)) rfl | skip
   simp only [go_sem,simprocAttr,h1,isCon,List.length_append]
  | con x =>
   have h1:=hnx _ hc
   have h2:=hno _ hc
   refine Za tok rfl rfl ?_
   simp only [go_sem,simprocAttr,ZaB]
   refine Za tok rfl rfl ?_
   simp only [go_sem,simprocAttr]
   refine Zn rfl rfl rfl ?_
   refine Za tok rfl rfl ?_
   simp only [go_sem,simprocAttr]
   cases x with
   | false =>
    simp only [go_sem,simprocAttr]
    refine Zp rfl rfl rfl ?_
    refine Za tok rfl rfl ?_
    simp only [go_sem,simprocAttr]
    refine XO rfl rfl ?_
    have e:l.any isNo = true:=List.any_eq_true.2 ⟨l[i],List.getElem_mem h,by rw [hc]; rfl⟩
    rw [W9,if_pos e]
    refine Vb ?_ (.refl _) (ZK (fun _ h=>by cases h)) (.bool _) rfl
    simp only [go_sem,simprocAttr]
    exact .any _ _ _
   | true =>
    simp only [go_sem,simprocAttr]
    refine Zn rfl rfl rfl ?_
    refine ZM rfl ?_
    refine Za tok rfl rfl ?_
    simp only [go_sem,simprocAttr]
    refine Zt rfl ?_
    refine ⟨h2,?_⟩
    refine Zg ?_ ?_ ?_ ?_ <;> repeat' first|exact trivial|refine q0 ?_|exact qb|exact q1|exact q2|exact q3|exact rfl|refine And.intro ?_ ?_|exact qA rfl|exact Inside.ptr _ _ _ (.inr ⟨rfl,rfl⟩)|exact Tm.ins _|exact Tm.Zj _ _|exact Am.ins _|exact Am.Zj _ _|refine Zd ?_|refine Tm.Zc ?_|refine Am.Zc ?_
    ·simp only [go_sem,simprocAttr]
     rw [IntWalk.i64_in _ (by omega)]; exact .refl _
    ·simp only [go_sem,simprocAttr,h1,isCon]
     exact .refl _
    all_goals first | exact hb.inside | exact Zc (hbo (i + 1)) rfl | skip
    simp only [go_sem,simprocAttr,h1,isCon]
  | pend lw kw w x =>
   have h1:=hnx _ hc
   have h2:=hno _ hc
   refine Za tok rfl rfl ?_
   simp only [go_sem,simprocAttr,VT]
   refine Za tok rfl rfl ?_
   simp only [go_sem,simprocAttr]
   refine Zp rfl rfl rfl ?_
   refine Za tok rfl rfl ?_
   simp only [go_sem,simprocAttr]
   refine ⟨rfl,⟨ZQ (by omega),by omega⟩,?_⟩
   refine Za tok rfl rfl ?_
   simp only [go_sem,simprocAttr]
   refine Zt rfl ?_
   refine ⟨h2,?_⟩
   refine Zg ?_ ?_ ?_ ?_ <;> repeat' first|exact trivial|refine q0 ?_|exact qb|exact q1|exact q2|exact q3|exact rfl|refine And.intro ?_ ?_|exact qA rfl|exact Inside.ptr _ _ _ (.inr ⟨rfl,rfl⟩)|exact Tm.ins _|exact Tm.Zj _ _|exact Am.ins _|exact Am.Zj _ _|refine Zd ?_|refine Tm.Zc ?_|refine Am.Zc ?_
   ·simp only [go_sem,simprocAttr]
    rw [IntWalk.i64_in _ (by omega)]; exact .refl _
   ·simp only [go_sem,simprocAttr,h1,isCon,List.map_append,VT]
    exact .refl _
   all_goals first | exact hb.inside | exact Zc (hbo (i + 1)) rfl | skip
   simp only [go_sem,simprocAttr,h1,isCon,List.length_append]
 ·refine Za tok rfl rfl ?_
  simp only [go_sem,simprocAttr,Nat.not_lt.2 h]
  refine Zn rfl rfl rfl ?_
  refine Yh rfl rfl rfl rfl ?_
  have hi':i = l.length:=by omega
  subst hi'
  rw [List.take_length] at hq
  refine Za tok rfl rfl ?_
  simp only [go_sem,simprocAttr]
  refine Zi rfl rfl ?_
  rw [W9,if_neg (by rw [hq]; decide)]
  refine Vb ?_ (.refl _) (ZK (by have:=hbo l.length; rw [List.take_length] at this; exact this)) (.bool _) rfl
  simp only [go_sem,simprocAttr,List.take_length]
  exact .any _ _ _
theorem Zbv {s:St} {k:Int} (l:List Cnd) (h:s.Fit k):(s.lits l).2.Fit (k + 2 * l.length):=names_fit l h
theorem ZcX {s:St} {k:Int} (h:List Int) (l:List Cnd) (hs:s.Fit k):(s.emit h l).Fit (k + 2 * l.length + 1):=by
 unfold St.emit
 split
 ·exact (hs.sum _ _ _).mono (by simp; omega)
 ·exact (Zbv _ hs).rule _ _
theorem Zme (n:Nat) (H:Zf) (l b:Nat) (F:Fr) (s:St) (hl:l < n) (hF:F.bel n) (hs:s.Fit 700000) (h:List Int) (o1:Own) (g1:∀ x ∈ h,SmI x) (l1:h.length ≤ 1000000) (cs:List Cnd) (hcs:∀ c ∈ cs,c.Ok n l b H) (hlen:cs.length ≤ 10000) :
  Zr Tryz.prog n 125 [.ptr l b 0,.sl 1 (ZI h) o1,.sl 1 (cs.map Cnd.enc) .any] (bxH H l b F s) fun r H'=>r = .tup [] ∧ H' = bxH H l b F (s.emit h cs):=by
 have hne:¬ l = n:=by omega
 have hfit:∀ i,((s.names (cs.take i)).2).Fit 900000:=fun i=>(names_fit (cs.take i) hs).mono (by rw [List.length_take]; omega)
 have hsm:∀ x ∈ (s.names cs).1,SmI x:=fun x hx=>by
  obtain ⟨i,hi,rfl⟩:=List.getElem_of_mem hx
  have hi':i < cs.length:=by rw [names_len] at hi; exact hi
  rw [(names_take cs s i hi').2 hi]
  exact ZeF (hfit i) (by omega) (hcs _ (List.getElem_mem hi'))
 have hsm':∀ x ∈ Y5 (s.names cs).1,SmI x:=fun x hx=>hsm x ((ordL_mem _ _).1 hx)
 have hlo:(Y5 (s.names cs).1).length ≤ 1000000:=by have:=ordL_len (s.names cs).1; rw [names_len] at this; omega
 refine Zm tok (Zb Tryz.func125 rfl rfl) (by simp) fun B=>?_
 have go:s.emit h cs = (s.lits cs).2.rule h (s.lits cs).1 → ∀ (tm:List (Nat × AV)) (L:List (Nat × Zk)),lkv tm 0 = .ptr l b 0 → lkv tm 1 = .sl 1 (ZI h) o1 → lkv tm 2 = .sl 1 (cs.map Cnd.enc) .any → AKc ⟨Tryz.prog,tt,⟨none,B⟩,n,Tryz.f125.ntmps⟩ [.code (Y9 Tryz.f125).snd.snd]
   (PostF Tryz.prog tt n Tryz.f125.results.toList fun r H'=>r = .tup [] ∧ H' = bxH H l b F (s.emit h cs)) ⟨tm,L,bxH H l b F s⟩:=by
  intro he tm L t0 t1 t2
  rw [he]
  refine Za tok rfl rfl ?_
  simp only [go_sem,simprocAttr,t0,t1,t2]
  refine X0 hl hF (Zb Tryz.func128 rfl rfl) (ZkN (n + 1) (full n L H) l b F s (by omega) (hF.mono (Nat.le_succ n)) (hs.mono (by omega)) cs (fun c hc=>ZbU (hcs c hc) L) hlen) (by simp only [go_sem,simprocAttr,t0,t2]) ?_
  simp only [go_sem,simprocAttr]
  refine X0 hl hF (Zb Tryz.func206 rfl rfl) (a206 (n + 1) (full n L H) l b F (s.names cs).2 (by omega) (hF.mono (Nat.le_succ n)) ((names_fit cs hs).mono (by omega)) h o1 (Y5 (s.names cs).1) .any g1 hsm' l1 hlo) (by simp only [go_sem,simprocAttr,t0,t1]) ?_
  simp only [go_sem,simprocAttr]
  exact XW ⟨by simp [YH],[],trivial,by simp,rfl,rfl⟩
 by_cases h1:cs.length = 1
 ·obtain ⟨c,rfl⟩:∃ c,cs = [c]:=by
   match cs,h1 with
   | [c],_=>exact ⟨c,rfl⟩
  have hc:=hcs c (by simp)
  refine Za tok rfl rfl ?_
  simp only [go_sem,simprocAttr,List.length_cons,List.length_nil]
  refine Zp rfl rfl rfl ?_
  cases c with
  | lit x =>
   refine Za tok rfl rfl ?_
   simp only [go_sem,simprocAttr,VY]
   refine Za tok rfl rfl ?_
   simp only [go_sem,simprocAttr]
   refine Zn rfl rfl rfl ?_
   refine ZM rfl ?_
   exact go rfl _ _ rfl rfl rfl
  | con x =>
   refine Za tok rfl rfl ?_
   simp only [go_sem,simprocAttr,ZaB]
   refine Za tok rfl rfl ?_
   simp only [go_sem,simprocAttr]
   refine Zn rfl rfl rfl ?_
   refine ZM rfl ?_
   exact go rfl _ _ rfl rfl rfl
  | pend lw kw w x =>
   refine Za tok rfl rfl ?_
   simp only [go_sem,simprocAttr,VT]
   refine Za tok rfl rfl ?_
   simp only [go_sem,simprocAttr]
   refine Zp rfl rfl rfl ?_
   refine Za tok rfl rfl ?_
   simp only [go_sem,simprocAttr]
   have hlw:lw ≠ n:=by have:=hc.1; omega
   refine X0 hl hF (Zb Tryz.func211 rfl rfl) (Zk0 (n + 1) _ l b F s (by omega) (hF.mono (Nat.le_succ n)) (hs.mono (by omega)) h o1 g1 l1 lw kw w (by have:=hc.1; omega) hc.2.1 (by simp only [full,if_neg hlw]; exact hc.2.2.1) hc.2.2.2.1 hc.2.2.2.2 x) (by simp only [go_sem,simprocAttr]) ?_
   simp only [go_sem,simprocAttr]
   refine Zi rfl rfl ?_
   exact ⟨by simp [YH],[],trivial,by simp,rfl,rfl⟩
 ·have h3:((cs.length:Int) == 1) = false:=by rw [beq_eq_false_iff_ne]; omega
  refine Za tok rfl rfl ?_
  simp only [go_sem,simprocAttr,h3]
  refine Zn rfl rfl rfl ?_
  refine ZM rfl ?_
  refine go ?_ _ _ rfl rfl rfl
  unfold St.emit
  split
  ·exact absurd rfl h1
  ·rfl
end Go.Proofs.YthgbkalgmicniaaGreatDoor
