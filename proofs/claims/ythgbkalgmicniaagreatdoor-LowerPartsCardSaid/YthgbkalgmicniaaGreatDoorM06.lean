/- Goals out of code: regions, calls, loops. No program, no condition. -/
import Derived.Test.YthgbkalgmicniaaGreatDoorM05
set_option linter.all false
namespace Go.Abs
def Z5 (n:Nat) (H H':Zf):Prop:=∀ l k b,l < n → H' l k = some b → H l k = some b ∨ b.Below n
theorem Z5.refl (n:Nat) (H:Zf):Z5 n H H:=fun _ _ _ _ h=>.inl h
theorem Z5.trans {n:Nat} {A B C:Zf} (h:Z5 n A B) (h':Z5 n B C):Z5 n A C:=fun l k b hl hb=>by
 rcases h' l k b hl hb with h1 | h1
 ·exact h l k b hl h1
 ·exact .inr h1
theorem Z5.upd {n l k:Nat} {H:Zf} {b:Zk} (h:b.Below n):Z5 n H (H.upd l k b):=fun l' k' b' _ hb=>by
 simp only [Zf.upd] at hb
 split at hb
 ·cases hb; exact .inr h
 ·exact .inl hb
inductive AM where
 | auto | pure | heap | call
 | place (l k:Nat) (mb:Bool)
 | lay (mb:Bool)
def evR (T:TT) (o:Op) (ρ:Operand → AV) (G:Zf):Prop × AV :=
 match o with
 | .load t x=>match T t with
  | some r=>match ρ x with
   | .ZA cs=>(r.size ≤ cs.length ∧ (r.isAgg = false → 0 < cs.length),ldA r cs)
   | .ptr l k off=>match G l k with
    | some (.box cs)=>(off + r.size ≤ cs.length ∧ (r.isAgg = false → off < cs.length),ldA r (cs.drop off))
    | _=>(False,.dead)
   | .eptr l k i off=>match G l k with
    | some (.ZN _ _ cs i')=>(i' = i ∧ 0 < i ∧ off + r.size ≤ cs.length ∧ (r.isAgg = false → off < cs.length),ldA r (cs.drop off))
    | _=>(False,.dead)
   | _=>(False,.dead)
  | none=>(False,.dead)
 | .lookup t x y ok=>match mapOf T t with
  | some (kt,_,re)=>match ρ x with
   | .nilm=>((re.isAgg = false → re.size = 1) ∧ Yv T kt (ρ y) = true,lookA re (ρ y) [] ok)
   | .map l k=>match G l k with
    | some (.map es)=>((re.isAgg = false → re.size = 1) ∧ Yv T kt (ρ y) = true ∧ (∀ p ∈ es,Yv T kt p.1 = true),lookA re (ρ y) es ok)
    | _=>(False,.dead)
   | _=>(False,.dead)
  | none=>(False,.dead)
 | _=>(False,.dead)
def avoids (n:Nat) (lay:List Nat):AV → Prop
 | .ptr l k _=>l = n → lay.contains k = false
 | .eptr l k _ _=>l = n → lay.contains k = false
 | .map l k=>l = n → lay.contains k = false
 | _=>True
def lookOpd:Op → Operand
 | .load _ x=>x
 | .lookup _ x _ _=>x
 | _=>.func 0
theorem ZdX {P:Program} {T:TT} (hT:TOK P T) {m:Nat} {o:Oper} {ρ:Operand → AV} {G:Zf}:∀ p,evR T o.op ρ G = p → p.1 → Wi P m o ρ G p.2 G:=by
 intro p hp h
 unfold evR at hp
 split at hp
 ·rename_i t x ho
  split at hp
  ·rename_i r hr
   split at hp
   ·rename_i hx; subst hp; exact (Zbq hT ho hr hx h.1 h.2).sem
   ·rename_i hx
    split at hp
    ·rename_i cs hb; subst hp
     exact (Zfg hT ho hr hx hb h.1 h.2).sem
    ·subst hp; exact h.elim
   ·rename_i hx
    split at hp
    ·rename_i cs i' hb; subst hp
     obtain ⟨rfl,c1,c2,c3⟩:=h
     exact (Zey hT ho hr hx hb c1 c2 c3).sem
    ·subst hp; exact h.elim
   ·subst hp; exact h.elim
  ·subst hp; exact h.elim
 ·rename_i t x y ok ho
  split at hp
  ·rename_i kt e re hm
   split at hp
   ·rename_i hx; subst hp
    exact ((ZaR hT ho hm h.1 hx rfl h.2).run m G).sem
   ·rename_i hx
    split at hp
    ·rename_i es hb; subst hp
     exact (Zid hT ho hm h.1 hx rfl hb h.2.1 h.2.2).sem
    ·subst hp; exact h.elim
   ·subst hp; exact h.elim
  ·subst hp; exact h.elim
 ·subst hp; exact h.elim
theorem Zib {T:TT} {n:Nat} {lay:List Nat} {o:Op} {ρ:Operand → AV} {G H:Zf} (hG:VF n (fun s=>lay.contains s) G H) (ha:avoids n lay (ρ (lookOpd o))):evR T o ρ G = evR T o ρ H:=by
 unfold evR
 cases o <;> try rfl
 ·rename_i t x
  simp only [lookOpd] at ha
  dsimp only
  cases T t with
  | none=>rfl
  | some r =>
   dsimp only
   cases hx:ρ x <;> try rfl
   ·rw [hx] at ha; dsimp only; rw [hG _ _ ha]
   ·rw [hx] at ha; dsimp only; rw [hG _ _ ha]
 ·rename_i t x y ok
  simp only [lookOpd] at ha
  dsimp only
  cases mapOf T t with
  | none=>rfl
  | some q =>
   obtain ⟨kt,e,re⟩:=q
   dsimp only
   cases hx:ρ x <;> try rfl
   rw [hx] at ha; dsimp only; rw [hG _ _ ha]
def evW (T:TT) (n:Nat) (o:Op) (d:Option Nat) (am:AM) (ρ:Operand → AV) (G:Zf):Prop × AV × Option (Nat × Nat × Zk) :=
 match o with
 | .store t x y=>match T t with
  | some r=>match ρ x with
   | .ptr l k off=>match G l k with
    | some (.box cs)=>((mv T t y (ρ y)).cells.length = r.size ∧ ones (mv T t y (ρ y)) = true ∧ off + r.size ≤ cs.length,.tup [],some (l,k,.box (splice cs off (mv T t y (ρ y)).cells)))
    | _=>(False,.dead,none)
   | .eptr l k i off=>match G l k with
    | some (.ZN e sz cs i')=>(i' = i ∧ 0 < i ∧ (mv T t y (ρ y)).cells.length = r.size ∧ ones (mv T t y (ρ y)) = true ∧ off + r.size ≤ cs.length,.tup [],some (l,k,.ZN e sz (splice cs off (mv T t y (ρ y)).cells) i))
    | _=>(False,.dead,none)
   | _=>(False,.dead,none)
  | none=>(False,.dead,none)
 | .mapUpdate t x y z=>match mapOf T t with
  | some (kt,_,_)=>match ρ x with
   | .map l k=>match G l k with
    | some (.map es)=>(Yv T kt (ρ y) = true ∧ (∀ p ∈ es,Yv T kt p.1 = true),.tup [],some (l,k,.map (Zbn (ρ y) (ρ z) es)))
    | _=>(False,.dead,none)
   | _=>(False,.dead,none)
  | none=>(False,.dead,none)
 | .insert t x y z=>match mapOf T t with
  | some (kt,_,_)=>match ρ x with
   | .map l k=>match G l k with
    | some (.map es)=>(Yv T kt (ρ y) = true ∧ (∀ p ∈ es,Yv T kt p.1 = true),.tup [],some (l,k,.map (Zbn (ρ y) (ρ z) es)))
    | _=>(False,.dead,none)
   | _=>(False,.dead,none)
  | none=>(False,.dead,none)
 | .mapEntry t x y=>match mapOf T t with
  | some (kt,_,re)=>match ρ x with
   | .map l k=>match G l k with
    | some (.map es)=>((re.isAgg = false → re.size = 1) ∧ Yv T kt (ρ y) = true ∧ (∀ p ∈ es,Yv T kt p.1 = true),(Zfp re (ρ y) es).1,some (l,k,.map (Zfp re (ρ y) es).2))
    | _=>(False,.dead,none)
   | _=>(False,.dead,none)
  | none=>(False,.dead,none)
 | .entryStore _ x y z=>match ρ x,ρ y with
  | .map l k,.int _ i=>match G l k with
   | some (.map es)=>(0 ≤ i ∧ i.toNat < es.length,.tup [],some (l,k,.map (es.set i.toNat ((es.getD i.toNat (.dead,.dead)).1,ρ z))))
   | _=>(False,.dead,none)
  | _,_=>(False,.dead,none)
 | .range t x=>match d,mapOf T t with
  | some dd,some _=>match ρ x with
   | .map l k=>match G l k with
    | some (.map es)=>(G n dd = none,.ptr n dd 0,some (n,dd,.iter l k es.length []))
    | _=>(False,.dead,none)
   | _=>(False,.dead,none)
  | _,_=>(False,.dead,none)
 | .entry x=>match ρ x with
  | .ptr l k 0=>match G l k with
   | some (.iter l' j since (s :: seen))=>match G l' j with
    | some (.map es)=>(since = es.length ∧ (s :: seen).getLast (by simp) < es.length,.tup [(es.getD ((s :: seen).getLast (by simp)) (.dead,.dead)).1,(es.getD ((s :: seen).getLast (by simp)) (.dead,.dead)).2],none)
    | _=>(False,.dead,none)
   | _=>(False,.dead,none)
  | _=>(False,.dead,none)
 | .call c=>match c.callee,c.args.toList,c.argTypes.toList with
  | .builtin .append,[x,y],[t,t']=>match sliceOf T t,mv T t y (ρ y) with
   | some (e,re),.sl k' ys _=>match am with
    | .place l j mb=>match mv T t x (ρ x) with
     | .sl _ [] .full=>(t' = t ∧ 0 < re.size ∧ l ≤ n ∧ G l j = none ∧ (ys = [] ∨ k' = re.size) ∧ (∀ y ∈ ys,ones y = true) ∧ ys.length ≤ maxLen ∧ ys.length * re.bytes ≤ 140737488355328,
       if mb then .msl re.size l j ys.length else .sl re.size ys (.buf l j),some (l,j,if mb then .ZN e re.size (flat ys) ys.length else .buf e re.size ys.length))
     | _=>(False,.dead,none)
    | _=>match ρ x with
     | .sl k xs (.buf l j)=>match G l j with
      | some (.buf e' sz fr)=>(t' = t ∧ e' = e ∧ sz = re.size ∧ fr = xs.length ∧ k = re.size ∧ 0 < re.size ∧ (ys = [] ∨ k' = re.size) ∧ (∀ y ∈ ys,ones y = true) ∧ xs.length + ys.length ≤ maxLen ∧ (xs.length + ys.length) * re.bytes ≤ 140737488355328,
        .sl k (xs ++ ys) (.buf l j),some (l,j,.buf e re.size (xs.length + ys.length)))
      | _=>(False,.dead,none)
     | .msl sz0 l j i=>match G l j with
      | some (.ZN e' sz cs i')=>(t' = t ∧ e' = e ∧ sz = re.size ∧ i' = i ∧ 0 < re.size ∧ (ys = [] ∨ k' = re.size) ∧ (∀ y ∈ ys,ones y = true) ∧ i + ys.length ≤ maxLen ∧ (i + ys.length) * re.bytes ≤ 140737488355328,
        .msl sz0 l j (i + ys.length),some (l,j,.ZN e re.size (cs ++ flat ys) (i + ys.length)))
      | _=>(False,.dead,none)
     | _=>(False,.dead,none)
   | some (e,re),.int .i64 c=>match ρ x with
    | .sl k xs (.buf l j)=>match G l j with
     | some (.buf e' sz fr)=>(Z7 T t' = some (.int .i64) ∧ 0 ≤ c ∧ e' = e ∧ sz = re.size ∧ fr = xs.length ∧ k = re.size ∧ 0 < re.size ∧ (zeroV re).cells = re.zero ∧ xs.length + c.toNat ≤ maxLen ∧ (xs.length + c.toNat) * re.bytes ≤ 140737488355328,
       .sl k (xs ++ List.replicate c.toNat (zeroV re)) (.buf l j),some (l,j,.buf e re.size (xs.length + c.toNat)))
     | _=>(False,.dead,none)
    | _=>(False,.dead,none)
   | _,_=>(False,.dead,none)
  | _,_,_=>(False,.dead,none)
 | _=>(False,.dead,none)
def ZlH (G:Zf):Option (Nat × Nat × Zk) → Zf
 | none=>G
 | some (l,k,b)=>G.upd l k b
theorem Zd8 {P:Program} {T:TT} (hT:TOK P T) {n:Nat} {o:Oper} {am:AM} {ρ:Operand → AV} {G:Zf}:∀ p,evW T n o.op o.dst am ρ G = p → p.1 → Wi P (n + 1) o ρ G p.2.1 (ZlH G p.2.2):=by
 intro p hp h
 unfold evW at hp
 split at hp
 ·rename_i t x y ho
  split at hp
  ·rename_i r hr
   split at hp
   ·rename_i l k off hx
    split at hp
    ·rename_i cs hb; subst hp
     obtain ⟨h1,h2,h3⟩:=h
     exact (VX (T:=T) t (ZiQ (m:=n + 1) (ρ:=fun z=>mv T t z (ρ z)) hT ho hr (by show mv T t x (ρ x) = _; rw [hx]; cases x <;> rfl) rfl hb h1 (Xn h2) h3)).sem
    ·subst hp; exact h.elim
   ·rename_i l k i off hx
    split at hp
    ·rename_i e sz cs i' hb; subst hp
     obtain ⟨rfl,h0,h1,h2,h3⟩:=h
     exact (VX (T:=T) t (ZdJ (m:=n + 1) (ρ:=fun z=>mv T t z (ρ z)) hT ho hr (by show mv T t x (ρ x) = _; rw [hx]; cases x <;> rfl) rfl hb h0 h1 (Xn h2) h3)).sem
    ·subst hp; exact h.elim
   ·subst hp; exact h.elim
  ·subst hp; exact h.elim
 ·rename_i t x y z ho
  split at hp
  ·rename_i kt e re hm
   split at hp
   ·rename_i l k hx
    split at hp
    ·rename_i es hb; subst hp
     exact (Zbg hT (.inl ho) hm hx rfl rfl hb h.1 h.2).sem
    ·subst hp; exact h.elim
   ·subst hp; exact h.elim
  ·subst hp; exact h.elim
 ·rename_i t x y z ho
  split at hp
  ·rename_i kt e re hm
   split at hp
   ·rename_i l k hx
    split at hp
    ·rename_i es hb; subst hp
     exact (Zbg hT (.inr ho) hm hx rfl rfl hb h.1 h.2).sem
    ·subst hp; exact h.elim
   ·subst hp; exact h.elim
  ·subst hp; exact h.elim
 ·rename_i t x y ho
  split at hp
  ·rename_i kt e re hm
   split at hp
   ·rename_i l k hx
    split at hp
    ·rename_i es hb; subst hp
     exact (Zfm hT ho hm h.1 hx rfl hb h.2.1 h.2.2).sem
    ·subst hp; exact h.elim
   ·subst hp; exact h.elim
  ·subst hp; exact h.elim
 ·rename_i t x y z ho
  split at hp
  ·rename_i l k kk i hx hy
   split at hp
   ·rename_i es hb; subst hp
    obtain ⟨c1,c2⟩:=h
    exact (ZdK (i:=i.toNat) (kk:=kk) ho hx (by rw [hy]; congr 1; omega) rfl hb c2).sem
   ·subst hp; exact h.elim
  ·subst hp; exact h.elim
 ·rename_i t x ho
  split at hp
  ·rename_i dd q hd hm
   obtain ⟨kt,e,re⟩:=q
   split at hp
   ·rename_i l k hx
    split at hp
    ·rename_i es hb; subst hp
     exact (Zjz hT ho hm hx hb (Nat.lt_succ_self n) h).sem
    ·subst hp; exact h.elim
   ·subst hp; exact h.elim
  ·subst hp; exact h.elim
 ·rename_i x ho
  split at hp
  ·rename_i l k hx
   split at hp
   ·rename_i l' j since s seen hb
    split at hp
    ·rename_i es hM; subst hp
     obtain ⟨rfl,c2⟩:=h
     have e1:s :: seen = (s :: seen).dropLast ++ [(s :: seen).getLast (by simp)]:=(List.dropLast_concat_getLast _).symm
     rw [e1] at hb
     exact (ZiT ho hx hb hM c2).sem
    ·subst hp; exact h.elim
   ·subst hp; exact h.elim
  ·subst hp; exact h.elim
 ·rename_i c ho
  obtain ⟨cal,args,ts⟩:=c
  simp only at hp
  split at hp
  ·rename_i x y t t' ha ht
   obtain ⟨args⟩:=args
   obtain ⟨ts⟩:=ts
   simp only at ha ht
   subst ha ht
   split at hp
   ·rename_i e re k' ys ow hsl hy
    obtain ⟨r,b1,b2,b3⟩:=YF hsl
    split at hp
    ·rename_i l j mb
     split at hp
     ·rename_i k hx; subst hp
      obtain ⟨rfl,c1,c2,c3,c4,c5,c6,c7⟩:=h
      have hh:=JQ (m:=n + 1) (ρ:=fun z=>mv T t' z (ρ z)) hT ho b1 b2 b3 c1 hx hy (show l < n + 1 by omega) c3 c4 (fun y hy=>Xn (c5 y hy)) c6 c7
      cases mb with
      | false=>exact (VX (T:=T) t' hh.1).sem
      | true=>exact (VX (T:=T) t' hh.2).sem
     ·subst hp; exact h.elim
    ·split at hp
     ·rename_i k xs l j hx
      split at hp
      ·rename_i e' sz fr hb; subst hp
       obtain ⟨rfl,rfl,rfl,rfl,rfl,c5,c6,c7,c8,c9⟩:=h
       have hxm:mv T t' x (ρ x) = .sl re.size xs (.buf l j):=by
        rw [hx]
        cases x <;> try rfl
        simp only [mv,ZdY]
        cases xs with
        | nil=>simp only [b1,b2,b3]
        | cons a as=>rfl
       intro E w a Q K hr hops
       have hl:l < n + 1:=by
        have hv:=hops x (by rw [ho]; simp [Op.operands,Call.operands])
        rw [hx] at hv
        have hbl:=hv.lvl hr.norm
        cases hbl with | sl _ _ _ _ hb'=>exact hb' l j rfl
       exact (VX (T:=T) t' (ZdP (m:=n + 1) (ρ:=fun z=>mv T t' z (ρ z)) hT ho b1 b2 b3 c5 hxm hy hl hb rfl c6 (fun y hy=>Xn (c7 y hy)) c8 c9)).sem E w a Q K hr hops
      ·subst hp; exact h.elim
     ·rename_i sz0 l j i hx
      split at hp
      ·rename_i e' sz cs i' hb; subst hp
       obtain ⟨rfl,rfl,rfl,rfl,c5,c6,c7,c8,c9⟩:=h
       have hxm:mv T t' x (ρ x) = .msl sz0 l j i':=by
        rw [hx]; cases x <;> rfl
       intro E w a Q K hr hops
       have hl:l < n + 1:=by
        have hv:=hops x (by rw [ho]; simp [Op.operands,Call.operands])
        rw [hx] at hv
        have hbl:=hv.lvl hr.norm
        cases hbl with | msl _ _ _ _ hb'=>exact hb'
       exact (VX (T:=T) t' (ZdA (m:=n + 1) (ρ:=fun z=>mv T t' z (ρ z)) hT ho b1 b2 b3 c5 hxm hy hl hb c6 (fun y hy=>Xn (c7 y hy)) c8 c9)).sem E w a Q K hr hops
      ·subst hp; exact h.elim
     ·subst hp; exact h.elim
   ·rename_i e re c hsl hy
    obtain ⟨r,b1,b2,b3⟩:=YF hsl
    split at hp
    ·rename_i k xs l j hx
     split at hp
     ·rename_i e' sz fr hb; subst hp
      obtain ⟨c0,c1,rfl,rfl,rfl,rfl,c5,c6,c8,c9⟩:=h
      obtain ⟨rx,d1,d2⟩:=YA c0
      have hxm:mv T t x (ρ x) = .sl re.size xs (.buf l j):=by
       rw [hx]
       cases x <;> try rfl
       simp only [mv,ZdY]
       cases xs with
       | nil=>simp only [b1,b2,b3]
       | cons a as=>rfl
      intro E w a Q K hr hops
      have hl:l < n + 1:=by
       have hv:=hops x (by rw [ho]; simp [Op.operands,Call.operands])
       rw [hx] at hv
       have hbl:=hv.lvl hr.norm
       cases hbl with | sl _ _ _ _ hb'=>exact hb' l j rfl
      exact (VX (T:=T) t (Zdh (m:=n + 1) (ρ:=fun z=>mv T t z (ρ z)) (c:=c.toNat) hT ho b1 b2 b3 d1 d2 c5 hxm (by rw [hy]; congr 1; omega) hl hb rfl c6 c8 c9)).sem E w a Q K hr hops
     ·subst hp; exact h.elim
    ·subst hp; exact h.elim
   ·subst hp; exact h.elim
  ·subst hp; exact h.elim
 ·subst hp; exact h.elim
def evA (T:TT) (n:Nat) (o:Op) (am:AM) (ρ:Operand → AV) (dd:Nat):Prop × AV × Zk :=
 match o with
 | .box t x=>(ones (mv T t x (ρ x)) = true,.ptr n dd 0,.box (mv T t x (ρ x)).cells)
 | .alloc t=>match T t with
  | some r=>(True,.ptr n dd 0,.box r.zero)
  | none=>(False,.dead,.box [])
 | .makeMap _ none=>(True,.map n dd,.map [])
 | .call c=>match c.callee,c.args.toList,c.argTypes.toList with
  | .builtin .append,[x,y],[t,t']=>match sliceOf T t,mv T t x (ρ x),mv T t y (ρ y),am with
   | some (e,re),.sl _ [] .full,.sl k' ys _,.lay mb=>(t' = t ∧ 0 < re.size ∧ (ys = [] ∨ k' = re.size) ∧ (∀ y ∈ ys,ones y = true) ∧ ys.length ≤ maxLen ∧ ys.length * re.bytes ≤ 140737488355328,
     if mb then .msl re.size n dd ys.length else .sl re.size ys (.buf n dd),if mb then .ZN e re.size (flat ys) ys.length else .buf e re.size ys.length)
   | _,_,_,_=>(False,.dead,.box [])
  | _,_,_=>(False,.dead,.box [])
 | .buildSlice t k ps=>match sliceOf T t,am with
  | some (e,re),.lay true=>(inOrder 0 ps.toList = true ∧ k = ps.size ∧ 0 < k ∧ 0 < re.size ∧ k * re.size ≤ 2 ^ 24 ∧ (∀ x ∈ ps.toList.map (fun p=>ρ p.2),x.cells.length = re.size ∧ ones x = true),.msl re.size n dd k,.ZN e re.size (flat (ps.toList.map fun p=>ρ p.2)) k)
  | _,_=>(False,.dead,.box [])
 | _=>(False,.dead,.box [])
theorem ZhA {P:Program} {T:TT} (hT:TOK P T) {n:Nat} {o:Oper} {am:AM} {ρ:Operand → AV} {dd:Nat}:∀ p,evA T n o.op am ρ dd = p → p.1 → ∀ G,G n dd = none → Wi P (n + 1) o ρ G p.2.1 (G.upd n dd p.2.2):=by
 intro p hp h G hG
 unfold evA at hp
 split at hp
 ·rename_i t x ho; subst hp
  exact (VX (T:=T) t (ZkS (m:=n + 1) (H:=G) (ρ:=fun z=>mv T t z (ρ z)) (P:=P) ho rfl (Xn h) (Nat.lt_succ_self n) hG)).sem
 ·rename_i t ho
  split at hp
  ·rename_i r hr; subst hp
   exact (ZiC hT ho hr (Nat.lt_succ_self n) hG).sem
  ·subst hp; exact h.elim
 ·rename_i t ho; subst hp
  exact (Zgr ho (Nat.lt_succ_self n) hG).sem
 ·rename_i c ho
  obtain ⟨cal,args,ts⟩:=c
  simp only at hp
  split at hp
  ·rename_i x y t t' ha ht
   obtain ⟨args⟩:=args
   obtain ⟨ts⟩:=ts
   simp only at ha ht
   subst ha ht
   split at hp
   ·rename_i e re k k' ys ow mb hsl hx hy
    obtain ⟨r,b1,b2,b3⟩:=YF hsl
    subst hp
    obtain ⟨rfl,c1,c4,c5,c6,c7⟩:=h
    have hh:=JQ (m:=n + 1) (ρ:=fun z=>mv T t' z (ρ z)) hT ho b1 b2 b3 c1 hx hy (Nat.lt_succ_self n) hG c4 (fun y hy=>Xn (c5 y hy)) c6 c7
    cases mb with
    | false=>exact (VX (T:=T) t' hh.1).sem
    | true=>exact (VX (T:=T) t' hh.2).sem
   ·subst hp; exact h.elim
  ·subst hp; exact h.elim
 ·rename_i t k ps ho
  split at hp
  ·rename_i e re hsl
   obtain ⟨r,b1,b2,b3⟩:=YF hsl
   subst hp
   obtain ⟨c1,c2,c0,c3,c4,c5⟩:=h
   exact (ZbC (m:=n + 1) (H:=G) hT ho b1 b2 b3 c1 c2 c0 c3 c4 (fun x hx=>⟨(c5 x hx).1,Xn (c5 x hx).2⟩) (Nat.lt_succ_self n) hG).sem
  ·subst hp; exact h.elim
 ·subst hp; exact h.elim
def ZbS (n:Nat) (L:List (Nat × Zk)) (l k:Nat) (b:Zk):List (Nat × Zk):=if l = n then setb L k b else L
def setH (n:Nat) (H:Zf) (l k:Nat) (b:Zk):Zf:=if l = n then H else H.upd l k b
theorem Zdd (n:Nat) (L:List (Nat × Zk)) (H:Zf) (l k:Nat) (b:Zk):full n (ZbS n L l k b) (setH n H l k b) = (full n L H).upd l k b:=by
 unfold ZbS setH
 by_cases h:l = n
 ·subst h; simp only [if_true]; exact ZU _ _ _ _ _
 ·simp only [if_neg h]; exact XI _ _ _ _ _ _ h
def Xj (T:TT) (ρ:Operand → AV):List Operand → List TypeId → List AV
 | x :: xs,t :: ts=>mv T t x (ρ x) :: Xj T ρ xs ts
 | x :: xs,[]=>ρ x :: Xj T ρ xs []
 | [],_=>[]
theorem WL {E:Env} {T:TT} {ρ:Operand → AV} {a:Act}:∀ (xs:List Operand) (ts:List TypeId),(∀ x ∈ xs,VR E (ρ x) (a.eval x)) → VRs E (Xj T ρ xs ts) (xs.map a.eval)
 | [],_,_=>VRs.nil E
 | x :: xs,[],h=>VRs.cons (h x (by simp)) (WL xs [] (fun y hy=>h y (List.mem_cons_of_mem _ hy)))
 | x :: xs,t :: ts,h=>VRs.cons (Zd0 (h x (by simp))) (WL xs ts (fun y hy=>h y (List.mem_cons_of_mem _ hy)))
structure Opt where
 dr:Bool
 al:Bool
 am:Nat → AM
 lay:List Nat
def ZcR (op:Opt):Option Nat → AM
 | some d=>op.am d
 | none=>.auto
def Zmj (cx:Cx) (dr:Bool) (o:Oper) (g:Operand) (args:List Operand) (ts:List TypeId) (s:Zh) (F:Zh → Prop):Prop :=
 ∃ f fn c caps Qc,evT s.tmps g = .fn (.func f) caps ∧ Fun cx.P f fn c ∧
  Zr cx.P (cx.n + 1) f (Xj cx.T (evT s.tmps) args ts ++ caps) (full cx.n s.L s.H) Qc ∧
  (∀ r H1,Qc r H1 → ∃ L' H',H1 = full cx.n L' H' ∧ Z5 cx.n s.H H' ∧ F ⟨YP s.tmps o.dst r,L',H'⟩) ∧
  (dr = true → ∃ r,(∀ r' H1,Qc r' H1 → r' = r ∧ H1 = full cx.n s.L s.H) ∧ F ⟨YP s.tmps o.dst r,s.L,s.H⟩)
def ZkI (cx:Cx) (o:Oper) (g:Operand) (args:List Operand) (ts:List TypeId) (s:Zh) (F:Zh → Prop):Prop :=
 ∃ l Qc,evT s.tmps g = .fn (.yield l) [] ∧ WR cx.P (cx.n + 1) l (Xj cx.T (evT s.tmps) args ts) (full cx.n s.L s.H) Qc ∧
  ∀ r H1,Qc r H1 → ∃ L' H',H1 = full cx.n L' H' ∧ Z5 cx.n s.H H' ∧ F ⟨YP s.tmps o.dst r,L',H'⟩
def Zlb (cx:Cx) (o:Oper) (g:Operand) (args:List Operand) (ts:List TypeId) (s:Zh) (F:Zh → Prop):Prop :=
 ∃ f fn c bs Qc,evT s.tmps g = .bfn (.func f) bs ∧ Fun cx.P f fn c ∧
  Zr cx.P (cx.n + 1) f (bs ++ Xj cx.T (evT s.tmps) args ts) (full cx.n s.L s.H) Qc ∧
  ∀ r H1,Qc r H1 → ∃ L' H',H1 = full cx.n L' H' ∧ Z5 cx.n s.H H' ∧ F ⟨YP s.tmps o.dst r,L',H'⟩
def JM (cx:Cx) (dr:Bool) (o:Oper) (g:Operand) (args:List Operand) (ts:List TypeId) (s:Zh) (F:Zh → Prop):Prop :=
 Zmj cx dr o g args ts s F ∨ (dr = false ∧ (ZkI cx o g args ts s F ∨ Zlb cx o g args ts s F))
def Zkv (cx:Cx) (o:Oper) (x:Operand) (s:Zh) (F:Zh → Prop):Prop :=
 ∃ k l' j es seen,evT s.tmps x = .ptr cx.n k 0 ∧ lkb s.L k = some (.iter l' j es.length seen) ∧ full cx.n s.L s.H l' j = some (.map es) ∧
  ((∀ i,i < es.length → i ∈ seen) → F ⟨YP s.tmps o.dst (.tup [.bool false]),s.L,s.H⟩) ∧
  (∀ i,i < es.length → i ∉ seen → F ⟨YP s.tmps o.dst (.tup [.bool true,(es.getD i (.dead,.dead)).1,(es.getD i (.dead,.dead)).2]),setb s.L k (.iter l' j es.length (seen ++ [i])),s.H⟩)
def Zgt (cx:Cx) (o:Oper) (g:Operand) (args:List Operand) (ts:List TypeId) (s:Zh) (F:Zh → Prop):Prop :=
 ∃ f fn c caps r,evT s.tmps g = .fn (.func f) caps ∧ Fun cx.P f fn c ∧ Pure cx.P f (Xj cx.T (evT s.tmps) args ts ++ caps) r ∧ F ⟨YP s.tmps o.dst r,s.L,s.H⟩
def ZgF (cx:Cx) (lay:List Nat) (o:Oper) (g:Operand) (args:List Operand) (ts:List TypeId) (s:Zh) (F:Zh → Prop):Prop :=
 ∃ f fn c caps r,evT s.tmps g = .fn (.func f) caps ∧ Fun cx.P f fn c ∧ (∀ G,VF cx.n (fun x=>lay.contains x) G (full cx.n s.L s.H) → PC cx.P (cx.n + 1) f (Xj cx.T (evT s.tmps) args ts ++ caps) G r) ∧ F ⟨YP s.tmps o.dst r,s.L,s.H⟩
def Zgm (cx:Cx) (o:Oper) (g:Operand) (args:List Operand) (ts:List TypeId) (s:Zh) (F:Zh → Prop):Prop :=
 ∃ f fn c caps r L' H',evT s.tmps g = .fn (.func f) caps ∧ Fun cx.P f fn c ∧ Zr cx.P (cx.n + 1) f (Xj cx.T (evT s.tmps) args ts ++ caps) (full cx.n s.L s.H) (fun r' H1=>r' = r ∧ H1 = full cx.n L' H') ∧
  Z5 cx.n s.H H' ∧ F ⟨YP s.tmps o.dst r,L',H'⟩
def evL (T:TT) (o:Op) (ρ:Operand → AV):Prop × AV :=
 match o with
 | .load t x=>match T t with
  | some r=>match ρ x with
   | .ZA cs=>(r.size ≤ cs.length ∧ (r.isAgg = false → 0 < cs.length),ldA r cs)
   | _=>(False,.dead)
  | none=>(False,.dead)
 | _=>(False,.dead)
theorem ZhF {P:Program} {T:TT} (hT:TOK P T) {o:Oper} {ρ:Operand → AV}:∀ p,evL T o.op ρ = p → p.1 → ∀ m G,Wi P m o ρ G p.2 G:=by
 intro p hp h m G
 unfold evL at hp
 split at hp
 ·rename_i t x ho
  split at hp
  ·rename_i r hr
   split at hp
   ·rename_i hx; subst hp; exact (Zbq hT ho hr hx h.1 h.2).sem
   ·subst hp; exact h.elim
  ·subst hp; exact h.elim
 ·subst hp; exact h.elim
def Ziw (cx:Cx) (o:Oper) (s:Zh) (F:Zh → Prop):Prop :=
 (evL cx.T o.op (evT s.tmps)).1 ∧ F ⟨YP s.tmps o.dst (evL cx.T o.op (evT s.tmps)).2,s.L,s.H⟩
def Zcq (cx:Cx) (o:Oper) (s:Zh) (F:Zh → Prop):Prop :=
 (evP cx.T o.op o.type (evT s.tmps)).1 ∧ F ⟨YP s.tmps o.dst (evP cx.T o.op o.type (evT s.tmps)).2,s.L,s.H⟩
def Zhk (cx:Cx) (op:Opt) (o:Oper) (s:Zh) (F:Zh → Prop):Prop :=
 (evR cx.T o.op (evT s.tmps) (full cx.n s.L s.H)).1 ∧ avoids cx.n op.lay (evT s.tmps (lookOpd o.op)) ∧ F ⟨YP s.tmps o.dst (evR cx.T o.op (evT s.tmps) (full cx.n s.L s.H)).2,s.L,s.H⟩
def Zky (n:Nat) (tm:List (Nat × AV)) (L:List (Nat × Zk)) (H:Zf) (F:Zh → Prop):Option (Nat × Nat × Zk) → Prop
 | none=>F ⟨tm,L,H⟩
 | some (l,k,b)=>(l = n ∨ b.Below n) ∧ F ⟨tm,ZbS n L l k b,setH n H l k b⟩
def stepW (cx:Cx) (am:AM) (o:Oper) (s:Zh) (F:Zh → Prop):Prop :=
 (evW cx.T cx.n o.op o.dst am (evT s.tmps) (full cx.n s.L s.H)).1 ∧ Zky cx.n (YP s.tmps o.dst (evW cx.T cx.n o.op o.dst am (evT s.tmps) (full cx.n s.L s.H)).2.1) s.L s.H F (evW cx.T cx.n o.op o.dst am (evT s.tmps) (full cx.n s.L s.H)).2.2
def Zcl (cx:Cx) (am:AM) (o:Oper) (s:Zh) (F:Zh → Prop):Prop :=
 match o.dst with
 | some dd=>(evA cx.T cx.n o.op am (evT s.tmps) dd).1 ∧ lkb s.L dd = none ∧ F ⟨YP s.tmps (some dd) (evA cx.T cx.n o.op am (evT s.tmps) dd).2.1,setb s.L dd (evA cx.T cx.n o.op am (evT s.tmps) dd).2.2,s.H⟩
 | none=>False
def isBuf:AV → Bool
 | .sl _ _ (.buf _ _)=>true
 | .msl _ _ _ _=>true
 | _=>false
def J7 (cx:Cx) (op:Opt) (o:Oper) (args:List Operand) (s:Zh) (F:Zh → Prop):AM → Prop
 | .auto=>match op.dr,args with
  | false,x :: _=>match isBuf (evT s.tmps x) with
   | true=>stepW cx .auto o s F
   | false=>Zcq cx o s F
  | _,_=>Zcq cx o s F
 | .pure=>Zcq cx o s F
 | .heap=>stepW cx .heap o s F
 | .place l k mb=>stepW cx (.place l k mb) o s F
 | .lay mb=>Zcl cx (.lay mb) o s F
 | .call=>False
def ZgX (cx:Cx) (o:Oper) (s:Zh) (F:Zh → Prop):AM → Prop
 | .lay mb=>Zcl cx (.lay mb) o s F
 | _=>Zcq cx o s F
def V6 (cx:Cx) (op:Opt) (o:Oper) (s:Zh) (F:Zh → Prop):Prop :=
 match o.op with
 | .load _ _=>match ZcR op o.dst with
  | .pure=>Ziw cx o s F
  | _=>Zhk cx op o s F
 | .lookup _ _ _ _=>Zhk cx op o s F
 | .store _ _ _=>stepW cx .auto o s F
 | .mapUpdate _ _ _ _=>stepW cx .auto o s F
 | .insert _ _ _ _=>stepW cx .auto o s F
 | .mapEntry _ _ _=>stepW cx .auto o s F
 | .entryStore _ _ _ _=>stepW cx .auto o s F
 | .range _ _=>stepW cx .auto o s F
 | .entry _=>stepW cx .auto o s F
 | .box _ _=>Zcl cx .auto o s F
 | .alloc _=>Zcl cx .auto o s F
 | .makeMap _ _=>Zcl cx .auto o s F
 | .buildSlice _ _ _=>ZgX cx o s F (ZcR op o.dst)
 | .next x str=>op.dr = false ∧ str = false ∧ Zkv cx o x s F
 | .call c=>match c.callee with
  | .value g=>match op.al with
   | true=>match ZcR op o.dst with
    | .heap=>ZgF cx op.lay o g c.args.toList c.argTypes.toList s F
    | .call=>Zgm cx o g c.args.toList c.argTypes.toList s F
    | _=>Zgt cx o g c.args.toList c.argTypes.toList s F
   | false=>op.lay = [] ∧ JM cx op.dr o g c.args.toList c.argTypes.toList s F
  | .builtin .append=>J7 cx op o c.args.toList s F (ZcR op o.dst)
  | _=>Zcq cx o s F
 | _=>Zcq cx o s F
def vcG (cx:Cx) (op:Opt) (o:Oper) (s:Zh) (F:Zh → Prop) (want:Bool):AV → Prop
 | .bool true=>match want with
  | true=>V6 cx op o s F
  | false=>F ⟨YP s.tmps o.dst (.tup []),s.L,s.H⟩
 | .bool false=>match want with
  | true=>F ⟨YP s.tmps o.dst (.tup []),s.L,s.H⟩
  | false=>V6 cx op o s F
 | .tup []=>F ⟨YP s.tmps o.dst (.tup []),s.L,s.H⟩
 | _=>False
def VO (all:List Oper) (j:Nat):Option Nat:=(all[j]?).bind (·.dst)
def Xy (cx:Cx) (op:Opt) (all:List Oper) (k:List Itm) (Q:Exit → Zh → Prop):List Oper → Zh → Prop
 | [],s=>AK cx.P cx.φ cx.n cx.N k Q s
 | o :: r,s=>match o.guard with
  | none=>V6 cx op o s (Xy cx op all k Q r)
  | some (j,want)=>match VO all j with
   | none=>Xy cx op all k Q r ⟨YP s.tmps o.dst (.tup []),s.L,s.H⟩
   | some d=>vcG cx op o s (Xy cx op all k Q r) want (lkv s.tmps d)
def ZmV (d:Nat):AM → Kd
 | .auto=>.p
 | .pure=>.p
 | .lay _=>.a d
 | _=>.w
def Zfl (op:Opt):Option Nat → Kd
 | some d=>if op.al then .a d else .w
 | none=>.w
def XG (op:Opt) (o:Oper):Kd :=
 match o.op with
 | .load _ _=>match ZcR op o.dst with
  | .pure=>.p
  | _=>.t
 | .lookup _ _ _ _=>.t
 | .store _ _ _=>.w
 | .mapUpdate _ _ _ _=>.w
 | .insert _ _ _ _=>.w
 | .mapEntry _ _ _=>.w
 | .entryStore _ _ _ _=>.w
 | .range _ _=>.w
 | .entry _=>.w
 | .box _ _=>Zfl op o.dst
 | .alloc _=>Zfl op o.dst
 | .makeMap _ _=>Zfl op o.dst
 | .buildSlice _ _ _=>match ZcR op o.dst,o.dst with
  | .lay _,some d=>.a d
  | _,_=>.p
 | .call c=>match c.callee with
  | .value _=>if op.al then (match ZcR op o.dst with | .heap=>.t | .call=>.w | _=>.p) else .t
  | .builtin .append=>match o.dst with
   | some d=>ZmV d (op.am d)
   | none=>.p
  | _=>.p
 | _=>.p
def Step (cx:Cx) (lay:List Nat) (o:Oper) (κ:Kd) (s:Zh) (F:Zh → Prop):Prop :=
 ∃ v L' H',κ.sem cx.P (cx.n + 1) cx.n (fun x=>lay.contains x) o (evT s.tmps) (full cx.n s.L s.H) v (full cx.n L' H') ∧ Z5 cx.n s.H H' ∧ F ⟨YP s.tmps o.dst v,L',H'⟩
theorem ZbR {n:Nat} {G H:Zf} (h:VF n (fun x=>([]:List Nat).contains x) G H):G = H:=by
 funext l k; exact h l k (fun _=>rfl)
theorem Xw {cx:Cx} (hT:TOK cx.P cx.T) {lay:List Nat} {o:Oper} {s:Zh} {F:Zh → Prop} {κ:Kd} (hκ:κ = .p ∨ κ = .w) (h:Zcq cx o s F):Step cx lay o κ s F:=by
 have hs:=Zh5 (P:=cx.P) hT (o:=o) (ρ:=evT s.tmps) _ rfl h.1
 refine ⟨_,s.L,s.H,?_,.refl _ _,h.2⟩
 rcases hκ with rfl | rfl
 ·exact ⟨fun G=>hs _ G,rfl⟩
 ·exact hs _ _
theorem ZcH {cx:Cx} (hT:TOK cx.P cx.T) {op:Opt} {o:Oper} {s:Zh} {F:Zh → Prop} {κ:Kd} (hκ:κ = .t ∨ κ = .w) (h:Zhk cx op o s F):Step cx op.lay o κ s F:=by
 obtain ⟨h1,h2,h3⟩:=h
 refine ⟨_,s.L,s.H,?_,.refl _ _,h3⟩
 rcases hκ with rfl | rfl
 ·refine ⟨fun G hG=>?_,rfl⟩
  have e:=Zib (T:=cx.T) hG h2
  rw [← e] at h1 ⊢
  exact ZdX (P:=cx.P) hT _ rfl h1
 ·exact ZdX (P:=cx.P) hT _ rfl h1
theorem YZ {cx:Cx} (hT:TOK cx.P cx.T) {lay:List Nat} {am:AM} {o:Oper} {s:Zh} {F:Zh → Prop} (h:stepW cx am o s F):Step cx lay o .w s F:=by
 obtain ⟨h1,h2⟩:=h
 have hs:=Zd8 (P:=cx.P) hT (n:=cx.n) (am:=am) (o:=o) (ρ:=evT s.tmps) (G:=full cx.n s.L s.H) _ rfl h1
 generalize evW cx.T cx.n o.op o.dst am (evT s.tmps) (full cx.n s.L s.H) = p at h2 hs
 obtain ⟨c,v,ob⟩:=p
 cases ob with
 | none=>exact ⟨v,s.L,s.H,hs,.refl _ _,h2⟩
 | some q =>
  obtain ⟨l,k,b⟩:=q
  obtain ⟨hb,hF⟩:=h2
  refine ⟨v,ZbS cx.n s.L l k b,setH cx.n s.H l k b,?_,?_,hF⟩
  ·show Wi _ _ _ _ _ _ _
   rw [Zdd]; exact hs
  ·unfold setH
   by_cases hl:l = cx.n
   ·rw [if_pos hl]; exact .refl _ _
   ·rw [if_neg hl]; exact .upd (hb.resolve_left hl)
theorem VE {cx:Cx} (hT:TOK cx.P cx.T) {lay:List Nat} {am:AM} {o:Oper} {s:Zh} {F:Zh → Prop} {κ:Kd} (hκ:(∃ d,o.dst = some d ∧ κ = .a d) ∨ κ = .w) (h:Zcl cx am o s F):Step cx lay o κ s F:=by
 unfold Zcl at h
 split at h
 ·rename_i dd hd
  obtain ⟨h1,h2,h3⟩:=h
  have hs:=ZhA (P:=cx.P) hT (n:=cx.n) (am:=am) (o:=o) (ρ:=evT s.tmps) (dd:=dd) _ rfl h1
  have hfree:full cx.n s.L s.H cx.n dd = none:=by simp only [full,if_true]; exact h2
  refine ⟨_,_,s.H,?_,.refl _ _,by rw [hd]; exact h3⟩
  rcases hκ with ⟨d,hd',rfl⟩ | rfl
  ·rw [hd] at hd'; cases hd'
   exact ⟨_,hs,hfree,by rw [ZU]⟩
  ·show Wi _ _ _ _ _ _ _
   rw [ZU]; exact hs _ hfree
 ·exact h.elim
theorem Zf1 {cx:Cx} {o:Oper} {s:Zh} {F:Zh → Prop} {g:Operand} {args:Array Operand} {ts:Array TypeId} (ho:o.op = .call { callee:=.value g,args:=args,argTypes:=ts })
  (h:JM cx true o g args.toList ts.toList s F):Step cx [] o .t s F:=by
 rcases h with h | ⟨h,_⟩
 case inr=>cases h
 obtain ⟨f,fn,c,caps,Qc,h1,h2,h3,_,h5⟩:=h
 have has:∀ E (a:Act),(∀ x ∈ args,VR E (evT s.tmps x) (a.eval x)) → VRs E (Xj cx.T (evT s.tmps) args.toList ts.toList) (args.toList.map a.eval):=fun E a hx=>WL _ _ (fun x hx'=>hx x (by simpa using hx'))
 obtain ⟨r,h4,h6⟩:=h5 rfl
 have hs:Wi cx.P (cx.n + 1) o (evT s.tmps) (full cx.n s.L s.H) r (full cx.n s.L s.H):=Za9 h2 ho h1 _ has (h3.mono h4)
 exact ⟨r,s.L,s.H,⟨fun G hG=>by rw [ZbR hG]; exact hs,rfl⟩,.refl _ _,h6⟩
theorem ZfJ {cx:Cx} {lay:List Nat} {o:Oper} {s:Zh} {F:Zh → Prop} {g:Operand} {args:Array Operand} {ts:Array TypeId} {κ:Kd} (hκ:κ = .p ∨ κ = .w) (ho:o.op = .call { callee:=.value g,args:=args,argTypes:=ts })
  (h:Zgt cx o g args.toList ts.toList s F):Step cx lay o κ s F:=by
 obtain ⟨f,fn,c,caps,r,h1,h2,h3,h6⟩:=h
 have has:∀ E (a:Act),(∀ x ∈ args,VR E (evT s.tmps x) (a.eval x)) → VRs E (Xj cx.T (evT s.tmps) args.toList ts.toList) (args.toList.map a.eval):=fun E a hx=>WL _ _ (fun x hx'=>hx x (by simpa using hx'))
 have hs:∀ G,Wi cx.P (cx.n + 1) o (evT s.tmps) G r G:=fun G=>Za9 h2 ho h1 _ has (h3 _ G)
 refine ⟨r,s.L,s.H,?_,.refl _ _,h6⟩
 rcases hκ with rfl | rfl
 ·exact ⟨hs,rfl⟩
 ·exact hs _
theorem ZfW {cx:Cx} {lay:List Nat} {o:Oper} {s:Zh} {F:Zh → Prop} {g:Operand} {args:Array Operand} {ts:Array TypeId} {κ:Kd} (hκ:κ = .t ∨ κ = .w) (ho:o.op = .call { callee:=.value g,args:=args,argTypes:=ts })
  (h:ZgF cx lay o g args.toList ts.toList s F):Step cx lay o κ s F:=by
 obtain ⟨f,fn,c,caps,r,h1,h2,h3,h6⟩:=h
 have has:∀ E (a:Act),(∀ x ∈ args,VR E (evT s.tmps x) (a.eval x)) → VRs E (Xj cx.T (evT s.tmps) args.toList ts.toList) (args.toList.map a.eval):=fun E a hx=>WL _ _ (fun x hx'=>hx x (by simpa using hx'))
 have hs:∀ G,VF cx.n (fun x=>lay.contains x) G (full cx.n s.L s.H) → Wi cx.P (cx.n + 1) o (evT s.tmps) G r G:=fun G hG=>Za9 h2 ho h1 _ has (h3 G hG)
 refine ⟨r,s.L,s.H,?_,.refl _ _,h6⟩
 rcases hκ with rfl | rfl
 ·exact ⟨hs,rfl⟩
 ·exact hs _ (fun _ _ _=>rfl)
theorem Zgn {cx:Cx} (hT:TOK cx.P cx.T) {lay:List Nat} {o:Oper} {s:Zh} {F:Zh → Prop} {κ:Kd} (hκ:κ = .p ∨ κ = .w) (h:Ziw cx o s F):Step cx lay o κ s F:=by
 have hs:=ZhF (P:=cx.P) hT (o:=o) (ρ:=evT s.tmps) _ rfl h.1
 refine ⟨_,s.L,s.H,?_,.refl _ _,h.2⟩
 rcases hκ with rfl | rfl
 ·exact ⟨fun G=>hs _ G,rfl⟩
 ·exact hs _ _
theorem ZfS {cx:Cx} {lay:List Nat} {o:Oper} {s:Zh} {F:Zh → Prop} {g:Operand} {args:Array Operand} {ts:Array TypeId} (ho:o.op = .call { callee:=.value g,args:=args,argTypes:=ts })
  (h:Zgm cx o g args.toList ts.toList s F):Step cx lay o .w s F:=by
 obtain ⟨f,fn,c,caps,r,L',H',h1,h2,h3,h4,h6⟩:=h
 have has:∀ E (a:Act),(∀ x ∈ args,VR E (evT s.tmps x) (a.eval x)) → VRs E (Xj cx.T (evT s.tmps) args.toList ts.toList) (args.toList.map a.eval):=fun E a hx=>WL _ _ (fun x hx'=>hx x (by simpa using hx'))
 exact ⟨r,L',H',Za9 h2 ho h1 _ has h3,h4,h6⟩
theorem ZdR {cx:Cx} (hT:TOK cx.P cx.T) {op:Opt} {o:Oper} {args:List Operand} {s:Zh} {F:Zh → Prop} {am:AM} {κ:Kd} (hk:(op.dr = false ∧ κ = .w) ∨ (op.dr = true ∧ κ = (match o.dst with | some d=>ZmV d am | none=>.p)))
  (ha:o.dst = none → am = .auto) (h:J7 cx op o args s F am):Step cx op.lay o κ s F:=by
 cases hd:o.dst with
 | none =>
  have:=ha hd
  subst this
  rw [hd] at hk
  simp only [J7] at h
  split at h
  ·rename_i hdr
   have hκ:κ = .w:=by
    rcases hk with ⟨_,h⟩ | ⟨h,_⟩
    ·exact h
    ·rw [hdr] at h; cases h
   subst hκ
   split at h
   ·exact YZ hT h
   ·exact Xw hT (.inr rfl) h
  ·exact Xw hT (hk.elim (fun h=>.inr h.2) (fun h=>.inl h.2)) h
 | some d =>
  rw [hd] at hk
  cases am with
  | auto =>
   simp only [J7] at h
   split at h
   ·rename_i hdr
    have hκ:κ = .w:=by
     rcases hk with ⟨_,h⟩ | ⟨h,_⟩
     ·exact h
     ·rw [hdr] at h; cases h
    subst hκ
    split at h
    ·exact YZ hT h
    ·exact Xw hT (.inr rfl) h
   ·exact Xw hT (hk.elim (fun h=>.inr h.2) (fun h=>.inl h.2)) h
  | pure=>exact Xw hT (hk.elim (fun h=>.inr h.2) (fun h=>.inl h.2)) h
  | heap =>
   have:κ = .w:=hk.elim (fun h=>h.2) (fun h=>h.2)
   subst this; exact YZ hT h
  | place l k mb =>
   have:κ = .w:=hk.elim (fun h=>h.2) (fun h=>h.2)
   subst this; exact YZ hT h
  | lay mb=>exact VE hT (hk.elim (fun h=>.inr h.2) (fun h=>.inl ⟨d,hd,h.2⟩)) h
  | call=>exact h.elim
def ZfD (op:Opt) (o:Oper):Bool :=
 match o.op with
 | .next _ _=>true
 | .call c=>match c.callee with
  | .value _=>!op.al
  | _=>false
 | _=>false
theorem Zc3 {cx:Cx} (hT:TOK cx.P cx.T) {op:Opt} {o:Oper} {s:Zh} {F:Zh → Prop} {κ:Kd} (hrel:op.dr = true ∨ ZfD op o = false) (hk:(op.dr = false ∧ κ = .w) ∨ (op.dr = true ∧ κ = XG op o)) (h:V6 cx op o s F):Step cx op.lay o κ s F:=by
 have hnew:XG op o = Zfl op o.dst → (∃ d,o.dst = some d ∧ κ = .a d) ∨ κ = .w:=fun e=>by
  rcases hk with ⟨_,h⟩ | ⟨_,h⟩
  ·exact .inr h
  ·rw [h,e]
   unfold Zfl
   split
   ·rename_i d hd
    split
    ·exact .inl ⟨d,hd,rfl⟩
    ·exact .inr rfl
   ·exact .inr rfl
 have hw:XG op o = .w → κ = .w:=fun e=>hk.elim (fun h=>h.2) (fun h=>h.2.trans e)
 have ht:XG op o = .t → κ = .t ∨ κ = .w:=fun e=>hk.elim (fun h=>.inr h.2) (fun h=>.inl (h.2.trans e))
 have hp:XG op o = .p → κ = .p ∨ κ = .w:=fun e=>hk.elim (fun h=>.inr h.2) (fun h=>.inl (h.2.trans e))
 unfold V6 at h
 split at h
 ·rename_i ho
  split at h
  ·rename_i hm; exact Zgn hT (hp (by simp only [XG,ho,hm])) h
  ·rename_i hm
   exact ZcH hT (ht (by simp only [XG,ho])) h
 ·rename_i ho; exact ZcH hT (ht (by simp only [XG,ho])) h
 ·rename_i ho; rw [hw (by simp only [XG,ho])]; exact YZ hT h
 ·rename_i ho; rw [hw (by simp only [XG,ho])]; exact YZ hT h
 ·rename_i ho; rw [hw (by simp only [XG,ho])]; exact YZ hT h
 ·rename_i ho; rw [hw (by simp only [XG,ho])]; exact YZ hT h
 ·rename_i ho; rw [hw (by simp only [XG,ho])]; exact YZ hT h
 ·rename_i ho; rw [hw (by simp only [XG,ho])]; exact YZ hT h
 ·rename_i ho; rw [hw (by simp only [XG,ho])]; exact YZ hT h
 ·rename_i ho; exact VE hT (hnew (by simp only [XG,ho])) h
 ·rename_i ho; exact VE hT (hnew (by simp only [XG,ho])) h
 ·rename_i ho; exact VE hT (hnew (by simp only [XG,ho])) h
 ·rename_i ho
  cases hd:o.dst with
  | none =>
   have hk0:XG op o = .p:=by simp only [XG,ho,hd]; split <;> simp_all
   rw [hd] at h
   exact Xw hT (hp hk0) h
  | some d =>
   cases hm:ZcR op (some d) with
   | lay mb =>
    rw [hd,hm] at h
    refine VE hT (hk.elim (fun h=>.inr h.2) (fun h=>.inl ⟨d,hd,?_⟩)) h
    rw [h.2]; simp only [XG,ho,hd,hm]
   | _ =>
    rw [hd,hm] at h
    have hk0:XG op o = .p:=by simp only [XG,ho,hd,hm]
    exact Xw hT (hp hk0) h
 ·rename_i ho
  rcases hrel with hd | hn
  ·rw [h.1] at hd; cases hd
  ·simp only [ZfD,ho] at hn; cases hn
 ·rename_i c ho
  obtain ⟨cal,args,ts⟩:=c
  simp only at h
  split at h
  ·rename_i g
   split at h
   ·rename_i hal
    cases hm:ZcR op o.dst with
    | heap =>
     rw [hm] at h
     exact ZfW (ht (by simp only [XG,ho,hal,if_true,hm])) ho h
    | call =>
     rw [hm] at h
     rw [hw (by simp only [XG,ho,hal,if_true,hm])]
     exact ZfS ho h
    | _ =>
     rw [hm] at h
     exact ZfJ (hp (by simp only [XG,ho,hal,if_true,hm])) ho h
   ·rename_i hal
    obtain ⟨hl,h⟩:=h
    rw [hl]
    rcases hrel with hd | hn
    ·rw [hd] at h
     rcases hk with ⟨hd',_⟩ | ⟨_,rfl⟩
     ·rw [hd] at hd'; cases hd'
     ·have:XG op o = .t:=by simp only [XG,ho,hal]; rfl
      rw [this]; exact Zf1 ho h
    ·simp only [ZfD,ho,hal] at hn; cases hn
  ·refine ZdR hT ?_ (fun hd=>by simp only [ZcR,hd]) h
   rcases hk with h | ⟨hd,h⟩
   ·exact .inl h
   ·refine .inr ⟨hd,?_⟩
    rw [h]
    simp only [XG,ho]
    cases o.dst <;> rfl
  ·rename_i h1 h2
   refine Xw hT (hp ?_) h
   simp only [XG,ho]
 ·rename_i h1 h2 h3 h4 h4' h5 h6 h7 h8 h9 h10 h11 h13 hn h12
  refine Xw hT (hp ?_) h
  unfold XG
  split
  ·rename_i ho; exact (h1 _ _ ho).elim
  ·rename_i ho; exact (h2 _ _ _ _ ho).elim
  ·rename_i ho; exact (h3 _ _ _ ho).elim
  ·rename_i ho; exact (h4 _ _ _ _ ho).elim
  ·rename_i ho; exact (h4' _ _ _ _ ho).elim
  ·rename_i ho; exact (h5 _ _ _ ho).elim
  ·rename_i ho; exact (h6 _ _ _ _ ho).elim
  ·rename_i ho; exact (h7 _ _ ho).elim
  ·rename_i ho; exact (h8 _ ho).elim
  ·rename_i ho; exact (h9 _ _ ho).elim
  ·rename_i ho; exact (h10 _ ho).elim
  ·rename_i ho; exact (h11 _ _ ho).elim
  ·rename_i ho; exact (h13 _ _ _ ho).elim
  ·rename_i ho; exact (h12 _ ho).elim
  ·rfl
theorem Wi.Znj {P:Program} {m:Nat} {o:Oper} {ρ:Operand → AV} {H H':Zf} {v:AV} {S:AV → Zf → Prop} (h:Wi P m o ρ H v H') (hS:S v H'):Jr P m o ρ H S :=
 fun E w a Q K hr hops hK ro=>h E w a Q K hr hops (fun E' w' cv hv hh hx=>hK E' w' cv v H' hS hv hh hx) ro
theorem Jr.mono {P:Program} {m:Nat} {o:Oper} {ρ:Operand → AV} {H:Zf} {S S':AV → Zf → Prop} (h:Jr P m o ρ H S) (hS:∀ v H',S v H' → S' v H'):Jr P m o ρ H S' :=
 fun E w a Q K hr hops hK ro=>h E w a Q K hr hops (fun E' w' cv v H' hs hv hh hx=>hK E' w' cv v H' (hS _ _ hs) hv hh hx) ro
theorem Zjb {P:Program} {m:Nat} {o:Oper} {ρ:Operand → AV} {H:Zf} {f:FuncId} {fn:Func} {c:Code} {g:Operand} {caps:List AV} {args:Array Operand} {ts:Array TypeId} {S:AV → Zf → Prop} (hf:Fun P f fn c)
  (ho:o.op = .call { callee:=.value g,args:=args,argTypes:=ts }) (hg:ρ g = .fn (.func f) caps) (as:List AV) (has:∀ E (a:Act),(∀ x ∈ args,VR E (ρ x) (a.eval x)) → VRs E as (args.toList.map a.eval))
  (hc:Zr P m f (as ++ caps) H S):Jr P m o ρ H S:=fun E w a Q K hr hops hk ro=>by
 have hgv:=hops g (by rw [ho]; simp [Op.operands,Call.operands])
 rw [hg] at hgv
 have he:execOp a.eval o = (do let d ← resolve a.eval { callee:=.value g,args:=args,argTypes:=ts } o.type; invoke d.target d.args):=by simp only [execOp,ho]
 generalize hy:a.eval g = y at hgv
 cases hgv with | fn _ _ vs hl hvs =>
 have hrun:(execOp a.eval o).run P w = .ok (.enter f (args.map a.eval ++ vs.toArray)) w:=by
  rw [he]
  simp [resolve,hy,Deferred.ofValue,invoke,XU hf]
 refine Xr hrun (fun _ e=>by cases e) ⟨JX,Jz ?_⟩
 have h1:=hc E w (args.toList.map a.eval ++ vs) hr ((has E a (fun x hx=>hops x (by rw [ho]; simp [Op.operands,Call.operands,hx]))).append ⟨hl,hvs⟩)
 rw [show (args.toList.map a.eval ++ vs).toArray = args.map a.eval ++ vs.toArray by rw [← List.append_toArray,← Array.toList_map]] at h1
 refine h1.mono ?_
 rintro e w' ⟨r',v,H1,E',rfl,hq,hv,hh,hx⟩
 exact hk E' w' v r' H1 hq hv hh hx
theorem Zil {P:Program} {m:Nat} {o:Oper} {ρ:Operand → AV} {H:Zf} {f:FuncId} {fn:Func} {c:Code} {g:Operand} {bs:List AV} {args:Array Operand} {ts:Array TypeId} {S:AV → Zf → Prop} (hf:Fun P f fn c)
  (ho:o.op = .call { callee:=.value g,args:=args,argTypes:=ts }) (hg:ρ g = .bfn (.func f) bs) (as:List AV) (has:∀ E (a:Act),(∀ x ∈ args,VR E (ρ x) (a.eval x)) → VRs E as (args.toList.map a.eval))
  (hc:Zr P m f (bs ++ as) H S):Jr P m o ρ H S:=fun E w a Q K hr hops hk ro=>by
 have hgv:=hops g (by rw [ho]; simp [Op.operands,Call.operands])
 rw [hg] at hgv
 have he:execOp a.eval o = (do let d ← resolve a.eval { callee:=.value g,args:=args,argTypes:=ts } o.type; invoke d.target d.args):=by simp only [execOp,ho]
 generalize hy:a.eval g = y at hgv
 cases hgv with | bfn _ _ vs hl hvs =>
 have hrun:(execOp a.eval o).run P w = .ok (.enter f (vs.toArray ++ args.map a.eval)) w:=by
  rw [he]
  simp [resolve,hy,Deferred.ofValue,invoke,XU hf]
 refine Xr hrun (fun _ e=>by cases e) ⟨JX,Jz ?_⟩
 have h1:=hc E w (vs ++ args.toList.map a.eval) hr (VRs.append ⟨hl,hvs⟩ (has E a (fun x hx=>hops x (by rw [ho]; simp [Op.operands,Call.operands,hx]))))
 rw [show (vs ++ args.toList.map a.eval).toArray = vs.toArray ++ args.map a.eval by rw [← List.append_toArray,← Array.toList_map]] at h1
 refine h1.mono ?_
 rintro e w' ⟨r',v,H1,E',rfl,hq,hv,hh,hx⟩
 exact hk E' w' v r' H1 hq hv hh hx
theorem ZiJ {P:Program} {m:Nat} {o:Oper} {ρ:Operand → AV} {H:Zf} {l:Nat} {g:Operand} {args:Array Operand} {ts:Array TypeId} {S:AV → Zf → Prop}
  (ho:o.op = .call { callee:=.value g,args:=args,argTypes:=ts }) (hg:ρ g = .fn (.yield l) []) (as:List AV) (has:∀ E (a:Act),(∀ x ∈ args,VR E (ρ x) (a.eval x)) → VRs E as (args.toList.map a.eval))
  (hc:WR P m l as H S):Jr P m o ρ H S:=fun E w a Q K hr hops hk ro=>by
 have hgv:=hops g (by rw [ho]; simp [Op.operands,Call.operands])
 rw [hg] at hgv
 have he:execOp a.eval o = (do let d ← resolve a.eval { callee:=.value g,args:=args,argTypes:=ts } o.type; invoke d.target d.args):=by simp only [execOp,ho]
 generalize hy:a.eval g = y at hgv
 cases hgv with | fn _ _ vs hl hvs =>
 have hvs0:vs = []:=by simpa using hl
 subst hvs0
 obtain ⟨fn,tmps,ca,cb,h1,h2⟩:=hc E w (args.toList.map a.eval) hr (has E a (fun x hx=>hops x (by rw [ho]; simp [Op.operands,Call.operands,hx])))
 rw [show (args.toList.map a.eval).toArray = args.map a.eval by rw [← Array.toList_map]] at h1
 have hrun:(execOp a.eval o).run P w = .ok (.round l fn tmps ca cb) w:=by
  rw [he]
  simp [resolve,hy,Deferred.ofValue,invoke,h1]
 refine Xr hrun (fun _ e=>by cases e) ⟨JX,(h2 ro _).mono ?_⟩
 rintro e w' ⟨r',v,H1,E',rfl,hq,hv,hh,hx⟩
 exact hk E' w' v r' H1 hq hv hh hx
def ZiO (cx:Cx) (o:Oper) (s:Zh) (F:Zh → Prop):Prop :=
 Jr cx.P (cx.n + 1) o (evT s.tmps) (full cx.n s.L s.H) fun v H1=>∃ L' H',H1 = full cx.n L' H' ∧ Z5 cx.n s.H H' ∧ F ⟨YP s.tmps o.dst v,L',H'⟩
theorem Step.ordered {cx:Cx} {lay:List Nat} {o:Oper} {s:Zh} {F:Zh → Prop} (h:Step cx lay o .w s F):ZiO cx o s F:=by
 obtain ⟨v,L',H',h1,h2,h3⟩:=h
 exact Wi.Znj h1 ⟨L',H',rfl,h2,h3⟩
theorem Zgq {cx:Cx} {o:Oper} {x:Operand} {s:Zh} {F:Zh → Prop} (ho:o.op = .next x false) (h:Zkv cx o x s F):ZiO cx o s F:=by
 obtain ⟨k,l',j,es,seen,h1,h2,h3,h4,h5⟩:=h
 have hk:full cx.n s.L s.H cx.n k = some (.iter l' j es.length seen):=by simp only [full,if_true]; exact h2
 refine (Zj4 ho h1 hk h3).mono ?_
 rintro v H' (⟨a1,rfl,rfl⟩ | ⟨i,a1,a2,rfl,rfl⟩)
 ·exact ⟨s.L,s.H,rfl,.refl _ _,h4 a1⟩
 ·exact ⟨_,s.H,(ZU _ _ _ _ _).symm,.refl _ _,h5 i a1 a2⟩
theorem ZdO {cx:Cx} (hT:TOK cx.P cx.T) {op:Opt} (hop:op.dr = false) {o:Oper} {s:Zh} {F:Zh → Prop} (h:V6 cx op o s F):ZiO cx o s F:=by
 cases hr:ZfD op o with
 | false=>exact (Zc3 hT (.inr hr) (.inl ⟨hop,rfl⟩) h).ordered
 | true =>
  unfold ZfD at hr
  split at hr
  ·rename_i x str ho
   unfold V6 at h
   rw [ho] at h
   obtain ⟨_,rfl,h⟩:=h
   exact Zgq ho h
  ·rename_i c ho
   obtain ⟨cal,args,ts⟩:=c
   simp only at hr
   split at hr
   ·rename_i g
    have hal:op.al = false:=by simpa using hr
    unfold V6 at h
    rw [ho] at h
    simp only [hal] at h
    have has:∀ E (a:Act),(∀ x ∈ args,VR E (evT s.tmps x) (a.eval x)) → VRs E (Xj cx.T (evT s.tmps) args.toList ts.toList) (args.toList.map a.eval):=fun E a hx=>WL _ _ (fun x hx'=>hx x (by simpa using hx'))
    obtain ⟨_,⟨f,fn,cc,caps,Qc,h1,h2,h3,h4,_⟩ | ⟨_,⟨l,Qc,h1,h2,h3⟩ | ⟨f,fn,cc,bs,Qc,h1,h2,h3,h4⟩⟩⟩:=h
    ·exact Zjb h2 ho h1 _ has (h3.mono h4)
    ·exact ZiJ ho h1 _ has (h2.mono h3)
    ·exact Zil h2 ho h1 _ has (h3.mono h4)
   ·cases hr
  ·cases hr
theorem JA {cx:Cx} (hT:TOK cx.P cx.T) {op:Opt} {all:List Oper} {k:List Itm} {Q:Exit → Zh → Prop} {kd:Nat → Kd} (hop:op.dr = true) (hk:∀ i o,all[i]? = some o → kd i = XG op o) :
  ∀ (l:List Oper) (i:Nat) (s:Zh),all.drop i = l → Xy cx op all k Q l s →
   ∃ tm' L' H',Wj cx.P (cx.n + 1) cx.n (fun x=>op.lay.contains x) all kd i l s.tmps (full cx.n s.L s.H) tm' (full cx.n L' H') ∧ Z5 cx.n s.H H' ∧ AK cx.P cx.φ cx.n cx.N k Q ⟨tm',L',H'⟩
 | [],i,s,_,h=>⟨s.tmps,s.L,s.H,.nil i s.tmps _,.refl _ _,h⟩
 | o :: r,i,s,hi,h=>by
  have ho:all[i]? = some o:=by
   have:=congrArg (·[0]?) hi
   simpa [List.getElem?_drop] using this
  have hi':all.drop (i + 1) = r:=by rw [← List.drop_drop,hi]; rfl
  have run:YD all s.tmps o = some true → V6 cx op o s (Xy cx op all k Q r) →
    ∃ tm' L' H',Wj cx.P (cx.n + 1) cx.n (fun x=>op.lay.contains x) all kd i (o :: r) s.tmps (full cx.n s.L s.H) tm' (full cx.n L' H') ∧ Z5 cx.n s.H H' ∧ AK cx.P cx.φ cx.n cx.N k Q ⟨tm',L',H'⟩:=by
   intro hg hr
   obtain ⟨v,L1,H1,h1,h2,h3⟩:=Zc3 hT (κ:=kd i) (.inl hop) (.inr ⟨hop,hk i o ho⟩) hr
   obtain ⟨tm',L',H',h4,h5,h6⟩:=JA hT hop hk r (i + 1) _ hi' h3
   exact ⟨tm',L',H',.run i o r _ _ _ _ _ v hg h1 h4,h2.trans h5,h6⟩
  have pass:YD all s.tmps o = some false → Xy cx op all k Q r ⟨YP s.tmps o.dst (.tup []),s.L,s.H⟩ →
    ∃ tm' L' H',Wj cx.P (cx.n + 1) cx.n (fun x=>op.lay.contains x) all kd i (o :: r) s.tmps (full cx.n s.L s.H) tm' (full cx.n L' H') ∧ Z5 cx.n s.H H' ∧ AK cx.P cx.φ cx.n cx.N k Q ⟨tm',L',H'⟩:=by
   intro hg hr
   obtain ⟨tm',L',H',h4,h5,h6⟩:=JA hT hop hk r (i + 1) _ hi' hr
   exact ⟨tm',L',H',.pass i o r _ _ _ _ hg h4,h5,h6⟩
  simp only [Xy] at h
  split at h
  ·rename_i hgd
   exact run (by simp only [YD,hgd]) h
  ·rename_i j want hgd
   split at h
   ·rename_i hd
    exact pass (by unfold VO at hd; simp only [YD,hgd,hd]) h
   ·rename_i d hd
    unfold VO at hd
    unfold vcG at h
    split at h
    ·rename_i hv
     split at h
     ·exact run (by simp only [YD,hgd,hd,hv]; rfl) h
     ·exact pass (by simp only [YD,hgd,hd,hv]; rfl) h
    ·rename_i hv
     split at h
     ·exact pass (by simp only [YD,hgd,hd,hv]; rfl) h
     ·exact run (by simp only [YD,hgd,hd,hv]; rfl) h
    ·rename_i hv
     exact pass (by simp only [YD,hgd,hd,hv]) h
    ·exact h.elim
def ZaT (N:Nat) (ops:List Oper):Bool:=ops.all fun o=>match o.dst with | some d=>decide (d < N) | none=>true
theorem ZaU {N:Nat} {ops:List Oper} (h:ZaT N ops = true):∀ o ∈ ops,∀ x,o.dst = some x → x < N:=by
 intro o ho x hx
 have:=(List.all_eq_true.1 h) o ho
 simpa [hx] using this
theorem WZ.ZbK {n:Nat} {H H':Zf} (h:∀ l k b,l < n → H l k = some b → b.Below n) (h':Z5 n H H'):∀ l k b,l < n → H' l k = some b → b.Below n:=fun l k b hl hb=>by
 rcases h' l k b hl hb with h1 | h1
 ·exact h l k b hl h1
 ·exact h1
theorem Zdx {cx:Cx} (hT:TOK cx.P cx.T) {op:Opt} (hop:op.dr = false) {ops:Array Oper} {k:List Itm} {Q:Exit → Zh → Prop} (hd:∀ o ∈ ops.toList,∀ x,o.dst = some x → x < cx.N) {E0:Env} {w0:World} :
  ∀ (l:List Oper) (i:Nat) (s:Zh),ops.toList.drop i = l → Xy cx op ops.toList k Q l s → ∀ E w a,WZ cx.φ.B cx.n cx.N s E a w → Ext cx.n E0 w0 E w →
   wpOpsIn (fr cx.φ.ro) 0 cx.P ops (fun e a' w'=>∃ s' E',AX cx.P cx.φ cx.n cx.N Q k e s' ∧ WZ cx.φ.B cx.n cx.N s' E' a' w' ∧ Ext cx.n E0 w0 E' w') ((List.range ops.size).drop i) a w
 | [],i,s,hi,h=>fun E w a hs hx=>by
  have hlen:ops.size ≤ i:=by have:=congrArg List.length hi; simp at this; omega
  rw [List.drop_of_length_le (by simpa using hlen)]
  exact ⟨s,E,h,hs,hx⟩
 | o :: r,i,s,hi,h=>fun E w a hs hx=>by
  have hlt:i < ops.size:=by
   rcases Nat.lt_or_ge i ops.size with h | h
   ·exact h
   ·rw [List.drop_of_length_le (by simpa using h)] at hi; cases hi
  have hoi:ops[i]? = some o:=by
   have:=congrArg (·[0]?) hi
   simpa [List.getElem?_drop] using this
  have hmem:o ∈ ops.toList:=List.mem_of_mem_drop (by rw [hi]; simp)
  have hi':ops.toList.drop (i + 1) = r:=by rw [← List.drop_drop,hi]; rfl
  rw [List.drop_eq_getElem_cons (by simpa using hlt)]
  simp only [List.getElem_range,wpOpsIn,hoi]
  have key:(YD ops.toList s.tmps o = some true ∧ V6 cx op o s (Xy cx op ops.toList k Q r)) ∨ (YD ops.toList s.tmps o = some false ∧ Xy cx op ops.toList k Q r ⟨YP s.tmps o.dst (.tup []),s.L,s.H⟩):=by
   simp only [Xy] at h
   split at h
   ·rename_i hgd
    exact .inl ⟨by simp only [YD,hgd],h⟩
   ·rename_i j want hgd
    split at h
    ·rename_i hd
     exact .inr ⟨by unfold VO at hd; simp only [YD,hgd,hd],h⟩
    ·rename_i d hd
     unfold VO at hd
     unfold vcG at h
     split at h
     ·rename_i hv
      split at h
      ·exact .inl ⟨by simp only [YD,hgd,hd,hv]; rfl,h⟩
      ·exact .inr ⟨by simp only [YD,hgd,hd,hv]; rfl,h⟩
     ·rename_i hv
      split at h
      ·exact .inr ⟨by simp only [YD,hgd,hd,hv]; rfl,h⟩
      ·exact .inl ⟨by simp only [YD,hgd,hd,hv]; rfl,h⟩
     ·rename_i hv
      exact .inr ⟨by simp only [YD,hgd,hd,hv],h⟩
     ·exact h.elim
  rcases key with ⟨hg,hr⟩ | ⟨hg,hr⟩
  ·rw [XR (fun j w d _ _=>hs.tmps d) hg]
   simp only [if_true]
   refine ZdO hT hop hr E w a _ _ hs.heap (fun x _=>ZiD hs.tmps x) ?_ cx.φ.ro
   rintro E' w' cv v H1 ⟨L',H',rfl,ho,hF⟩ hcv hh hx'
   refine Zdx hT hop hd r (i + 1) _ hi' hF E' w' _ ⟨by rw [size_put]; exact hs.size,by rw [Jt]; exact hs.defs.ext hx',fun t=>?_,hh,WZ.ZbK hs.out ho⟩ (hx.trans (hx'.mono (Nat.le_succ _)))
   rw [Zc8,Zbz hs.size (hd o hmem)]
   split
   ·exact hcv
   ·exact (hs.tmps t).mono hs.heap.norm hx'.le
  ·rw [XR (fun j w d _ _=>hs.tmps d) hg]
   simp only [Bool.false_eq_true,if_false]
   refine ⟨fun _ _=>trivial,?_⟩
   refine Zdx hT hop hd r (i + 1) _ hi' hr E w _ ⟨by rw [size_put]; exact hs.size,by rw [Jt]; exact hs.defs,fun t=>?_,hs.heap,hs.out⟩ hx
   rw [Zc8,Zbz hs.size (hd o hmem)]
   split
   ·exact VP E
   ·exact hs.tmps t
theorem Zem {cx:Cx} (hT:TOK cx.P cx.T) {id:Nat} {ops:Array Oper} {k:List Itm} {Q:Exit → Zh → Prop} {s:Zh} (hd:ZaT cx.N ops.toList = true)
  (op:Opt) (hop:op.dr = false) (h:Xy cx op ops.toList k Q ops.toList s):AK cx.P cx.φ cx.n cx.N (.code (.region id ops false) :: k) Q s:=fun E w a hs=>by
 refine wpIn_region ?_
 have:=Zdx hT hop (ZaU hd) ops.toList 0 s rfl h E w a hs (.refl _ _ _)
 simpa using this
theorem Kd.Zjr {P:Program} {m n:Nat} {A B:Nat → Bool} (hAB:∀ s,B s = true → A s = true) {o:Oper} {ρ:Operand → AV} {H:Zf} {v:AV} {H':Zf} {κ:Kd} (h:κ.sem P m n A o ρ H v H'):κ.sem P m n B o ρ H v H':=by
 cases κ with
 | p=>exact h
 | t=>exact ⟨fun G hG=>h.1 G (fun l s hs=>hG l s (fun hl=>by
   cases hb:B s with
   | false=>rfl
   | true=>have:=hAB s hb; rw [hs hl] at this; cases this)),h.2⟩
 | w=>exact h
 | a d=>exact h
theorem Wj.mono {P:Program} {m n:Nat} {A B:Nat → Bool} (hAB:∀ s,B s = true → A s = true) {all:List Oper} {kd:Nat → Kd} {i:Nat} {l:List Oper} {tm tm':List (Nat × AV)} {H H':Zf} (h:Wj P m n A all kd i l tm H tm' H'):Wj P m n B all kd i l tm H tm' H':=by
 induction h with
 | nil i tm H=>exact .nil i tm H
 | run i o r tm tm' H H1 H' v hg h _ ih=>exact .run i o r tm tm' H H1 H' v hg (Kd.Zjr hAB h) ih
 | pass i o r tm tm' H H' hg _ ih=>exact .pass i o r tm tm' H H' hg ih
def ZaE (op:Opt) (ops:List Oper) (i:Nat):Kd:=match ops[i]? with
 | some o=>XG op o
 | none=>.p
def Zdf (op:Opt) (ops:List Oper):Bool:=(List.range ops.length).all fun i=>match ZaE op ops i with
 | .a d=>op.lay.contains d
 | _=>true
theorem Zc1 {op:Opt} {ops:List Oper} (h:Zdf op ops = true):∀ s,ZcI ops.length (ZaE op ops) s = true → op.lay.contains s = true:=by
 intro s hs
 simp only [ZcI,List.any_eq_true,List.mem_range,beq_iff_eq] at hs
 obtain ⟨i,hi,hk⟩:=hs
 simp only [Zdf,List.all_eq_true,List.mem_range] at h
 have:=h i hi
 rw [hk] at this; exact this
theorem Zc6 {cx:Cx} (hT:TOK cx.P cx.T) (hm:cx.P.follows .mixedOrders = true) (op:Opt) (hop:op.dr = true) {id:Nat} {ops:Array Oper} {k:List Itm} {Q:Exit → Zh → Prop} {s:Zh} (hd:ZaT cx.N ops.toList = true)
  (hok:(VI ops.toList (ZaE op ops.toList) && Zdf op ops.toList) = true)
  (h:Xy cx op ops.toList k Q ops.toList s):AK cx.P cx.φ cx.n cx.N (.code (.region id ops true) :: k) Q s:=fun E w a hs=>by
 obtain ⟨hok,hlay⟩:=Bool.and_eq_true_iff.1 hok
 obtain ⟨tm',L',H',hr,ho,hk⟩:=JA hT (kd:=ZaE op ops.toList) hop (fun i o hi=>by simp only [ZaE,hi]) ops.toList 0 s rfl h
 obtain ⟨T,G,V,t0,g0,t1,g1,hc⟩:=(hr.mono (Zc1 hlay)).course
 refine wpIn_region_any hm ?_
 have hlen:ops.toList.length = ops.size:=by simp
 have hu:unl (Array.replicate ops.size false) ≤ ops.size:=by
  unfold unl; exact Nat.le_trans List.countP_le_length (by simp)
 have hL:∀ i,(Array.replicate ops.size false).getD i false = false:=fun i=>by
  rw [Array.getD_eq_getD_getElem?]
  by_cases hi:i < ops.size <;> simp [hi]
 have hva:∀ n t,va ops.toList (lkv (T 0)) V ((Array.replicate ops.size false).getD · false) n t = lkv (T 0) t:=by
  intro n t
  induction n with
  | zero=>rfl
  | succ n ih=>rw [va,if_neg (fun c=>by rw [hL] at c; cases c.1),ih]
 have hhv:∀ n,hv cx.n (ZaE op ops.toList) G ((Array.replicate ops.size false).getD · false) n = G 0:=by
  intro n
  induction n with
  | zero=>rfl
  | succ n ih =>
   funext l s
   rw [Zax,if_neg (fun c=>by rw [hL] at c; cases c.1),ih]
 refine Zbe cx.φ.ro a.defers (m:=cx.n + 1) (N:=cx.N) (ZaU hd) hc (ZaS hok) E { w with drawn:=w.drawn + 1 } ?_ ops.size _ E { w with drawn:=w.drawn + 1 } a hu (by simp) (fun i o _ hi=>by have:=hL i; simp only at hi; rw [this] at hi; cases hi) hs.size rfl ?_ ?_ (.refl _ _ _)
 ·intro E' w' a' h1 h2 h3 h4 h5
  rw [← hlen,t1] at h3
  rw [← hlen,g1] at h4
  exact ⟨⟨tm',L',H'⟩,E',hk,⟨h1,by rw [h2]; exact (hs.defs.ext (Env.Jp cx.n E w)).ext h5,h3,h4,WZ.ZbK hs.out ho⟩,(Env.Jp cx.n E w).trans (h5.mono (Nat.le_succ _))⟩
 ·intro t; rw [hva,t0]; exact hs.tmps t
 ·rw [hhv,g0]; exact hs.heap.drew
end Go.Abs
