/- Goals out of code: regions, calls, loops. No program, no condition. -/
import Derived.Test.YtmdeagmbfhbbnaaGreatDoorRQ03
import Derived.IntWalk
set_option linter.all false
namespace Go.Abs
def ZL(n:Nat)(H H':Za):Prop:=∀l k b,l<n→H' l k=some b→H l k=some b∨b.Below n
theorem ZL.refl(n:Nat)(H:Za):ZL n H H:=fun _ _ _ _ h=>.inl h
section
variable {n:Nat}
theorem ZL.trans{A B C:Za}(h:ZL n A B)(h':ZL n B C):ZL n A C:=fun l k b hl hb=>by
 rcases h' l k b hl hb with h1|h1
 ·exact h l k b hl h1
 ·exact .inr h1
theorem ZL.upd{n l k:Nat}{H:Za}{b:Ze}(h:b.Below n):ZL n H (H.upd l k b):=fun l' k' b' _ hb=>by
 simp only[Za.upd]at hb;split at hb
 ·cases hb;exact .inr h
 ·exact .inl hb
inductive AM where
 |auto|pure|heap|call
 |own (k:Nat)
 |place (l k:Nat) (mb:Bool)
 |lay (mb:Bool)
 |at_ (l k:Nat)
def evR(T:TT)(o:Op)(ρ:Operand→AV)(G:Za):Prop×AV:=
 match o with
 | .load t x=>match T t with
  |some r=>match ρ x with
   | .iptr cs=>(r.size≤cs.length∧(r.isAgg=false→0<cs.length),ldA r cs)
   | .ptr l k off=>match G l k with
    |some (.box cs)=>(off+r.size≤cs.length∧(r.isAgg=false→off<cs.length),ldA r (cs.drop off))
    |_=>(False,.dead)
   | .eptr l k i off=>match G l k with
    |some (.Zg _ _ cs i')=>(i'=i∧0<i∧off+r.size≤cs.length∧(r.isAgg=false→off<cs.length),ldA r (cs.drop off))
    |_=>(False,.dead)
   |_=>(False,.dead)
  |none=>(False,.dead)
 | .lookup t x y ok=>match mapOf T t with
  |some (kt,_,re)=>match ρ x with
   | .nilm=>((re.isAgg=false→re.size=1)∧YE T kt (ρ y)=true,lookA re (ρ y) [] ok)
   | .map l k=>match G l k with
    |some (.map es)=>((re.isAgg=false→re.size=1)∧YE T kt (ρ y)=true∧(∀p∈es,YE T kt p.1=true),lookA re (ρ y) es ok)
    |_=>(False,.dead)
   |_=>(False,.dead)
  |none=>(False,.dead)
 | .slice t x lo hi mx=>match ρ x with
  | .msl sz l k n=>match G l k with
   |some (.Zg _ _ _ i)=>match lo,mx,sliceOf T t,bnd ρ hi n with
    |none,none,some _,some h=>(i=n∧0≤h∧h≤n∧0<n,.sub sz l k n 0 h.toNat)
    |_,_,_,_=>(False,.dead)
   |_=>(False,.dead)
  |_=>(False,.dead)
 |_=>(False,.dead)
def avoids(n:Nat)(lay:List Nat):AV→Prop
 | .msl _ l k _=>l=n→lay.contains k=false
 | .ptr l k _=>l=n→lay.contains k=false
 | .eptr l k _ _=>l=n→lay.contains k=false
 | .map l k=>l=n→lay.contains k=false
 |_=>True
def lookOpd:Op→Operand
 | .load _ x=>x
 | .lookup _ x _ _=>x
 | .slice _ x _ _ _=>x
 |_=>.func 0
variable {G:Za} {ρ:Operand→AV} {o:Oper} {m:Nat} {T:TT} {P:Program}
theorem Zhm(hT:TOK P T):∀p,evR T o.op ρ G=p→p.1→XE P m o ρ G p.2 G:=by
 intro p hp h;unfold evR at hp;split at hp
 ·rename_i t x ho;split at hp
  ·rename_i r hr;split at hp
   ·rename_i hx;subst hp;exact(ZdC hT ho hr hx h.1 h.2).sem
   ·rename_i hx;split at hp
    ·rename_i cs hb;subst hp;exact(Zju hT ho hr hx hb h.1 h.2).sem
    ·subst hp;exact h.elim
   ·rename_i hx;split at hp
    ·rename_i cs i' hb;subst hp;obtain⟨rfl,c1,c2,c3⟩:=h;exact(ZiG hT ho hr hx hb c1 c2 c3).sem
    ·subst hp;exact h.elim
   ·subst hp;exact h.elim
  ·subst hp;exact h.elim
 ·rename_i t x y ok ho;split at hp
  ·rename_i kt e re hm;split at hp
   ·rename_i hx;subst hp;exact((ZcB hT ho hm h.1 hx rfl h.2).run m G).sem
   ·rename_i hx;split at hp
    ·rename_i es hb;subst hp;exact(ZnL hT ho hm h.1 hx rfl hb h.2.1 h.2.2).sem
    ·subst hp;exact h.elim
   ·subst hp;exact h.elim
  ·subst hp;exact h.elim
 ·rename_i t x lo hi mx ho;split at hp
  ·rename_i hx;split at hp
   ·rename_i hb;split at hp
    ·rename_i q h' hs hh;subst hp;obtain⟨e,re⟩:=q;obtain⟨r,b1,b2,b3⟩:=ZT hs;obtain⟨rfl,c1,c2,c3⟩:=h;exact(ZdG hT ho b1 b2 b3 hx hb hh c1 c2 c3).sem
    ·subst hp;exact h.elim
   ·subst hp;exact h.elim
  ·subst hp;exact h.elim
 ·subst hp;exact h.elim
variable {H:Za} {lay:List Nat}
theorem ZnZ{o:Op}(hG:JD n (fun s=>lay.contains s) G H)(ha:avoids n lay (ρ (lookOpd o))):evR T o ρ G=evR T o ρ H:=by
 unfold evR;cases o<;>try rfl
 ·rename_i t x;simp only[lookOpd]at ha;dsimp only;cases T t with
  |none=>rfl
  |some r=>
   dsimp only;cases hx:ρ x<;>try rfl
   ·rw[hx]at ha;dsimp only;rw[hG _ _ ha]
   ·rw[hx]at ha;dsimp only;rw[hG _ _ ha]
 ·rename_i t x lo hi mx;simp only[lookOpd]at ha;dsimp only;cases hx:ρ x<;>try rfl
  rw[hx]at ha;dsimp only;rw[hG _ _ ha]
 ·rename_i t x y ok;simp only[lookOpd]at ha;dsimp only;cases mapOf T t with
  |none=>rfl
  |some q=>
   obtain⟨kt,e,re⟩:=q;dsimp only;cases hx:ρ x<;>try rfl
   rw[hx]at ha;dsimp only;rw[hG _ _ ha]
def evW(T:TT)(n:Nat)(o:Op)(d:Option Nat)(am:AM)(ρ:Operand→AV)(G:Za):Prop×AV×Option (Nat×Nat×Ze):=
 match o with
 | .store t x y=>match T t with
  |some r=>match ρ x with
   | .ptr l k off=>match G l k with
    |some (.box cs)=>((mv T t y (ρ y)).cells.length=r.size∧ones (mv T t y (ρ y))=true∧off+r.size≤cs.length,.tup [],some (l,k,.box (splice cs off (mv T t y (ρ y)).cells)))
    |_=>(False,.dead,none)
   | .eptr l k i off=>match G l k with
    |some (.Zg e sz cs i')=>(i'=i∧0<i∧(mv T t y (ρ y)).cells.length=r.size∧ones (mv T t y (ρ y))=true∧off+r.size≤cs.length,.tup [],some (l,k,.Zg e sz (splice cs off (mv T t y (ρ y)).cells) i))
    |_=>(False,.dead,none)
   |_=>(False,.dead,none)
  |none=>(False,.dead,none)
 | .mapUpdate t x y z=>match mapOf T t with
  |some (kt,_,_)=>match ρ x with
   | .map l k=>match G l k with
    |some (.map es)=>(YE T kt (ρ y)=true∧(∀p∈es,YE T kt p.1=true),.tup [],some (l,k,.map (ZaH (ρ y) (ρ z) es)))
    |_=>(False,.dead,none)
   |_=>(False,.dead,none)
  |none=>(False,.dead,none)
 | .insert t x y z=>match mapOf T t with
  |some (kt,_,_)=>match ρ x with
   | .map l k=>match G l k with
    |some (.map es)=>(YE T kt (ρ y)=true∧(∀p∈es,YE T kt p.1=true),.tup [],some (l,k,.map (ZaH (ρ y) (ρ z) es)))
    |_=>(False,.dead,none)
   |_=>(False,.dead,none)
  |none=>(False,.dead,none)
 | .mapEntry t x y=>match mapOf T t with
  |some (kt,_,re)=>match ρ x with
   | .map l k=>match G l k with
    |some (.map es)=>((re.isAgg=false→re.size=1)∧YE T kt (ρ y)=true∧(∀p∈es,YE T kt p.1=true),(Ze6 re (ρ y) es).1,some (l,k,.map (Ze6 re (ρ y) es).2))
    |_=>(False,.dead,none)
   |_=>(False,.dead,none)
  |none=>(False,.dead,none)
 | .entryStore _ x y z=>match ρ x,ρ y with
  | .map l k,.int _ i=>match G l k with
   |some (.map es)=>(0≤i∧i.toNat<es.length,.tup [],some (l,k,.map (es.set i.toNat ((es.getD i.toNat (.dead,.dead)).1,ρ z))))
   |_=>(False,.dead,none)
  |_,_=>(False,.dead,none)
 | .range t x=>match d,mapOf T t with
  |some dd,some _=>match ρ x with
   | .map l k=>match G l k with
    |some (.map es)=>(G n dd=none,.ptr n dd 0,some (n,dd,.iter l k es.length []))
    |_=>(False,.dead,none)
   |_=>(False,.dead,none)
  |_,_=>(False,.dead,none)
 | .entry x=>match ρ x with
  | .ptr l k 0=>match G l k with
   |some (.iter l' j since (s::seen))=>match G l' j with
    |some (.map es)=>(since=es.length∧(s::seen).getLast sm<es.length,.tup [(es.getD ((s::seen).getLast sm) (.dead,.dead)).1,(es.getD ((s::seen).getLast sm) (.dead,.dead)).2],none)
    |_=>(False,.dead,none)
   |_=>(False,.dead,none)
  |_=>(False,.dead,none)
 | .call c=>match c.callee,c.args.toList,c.argTypes.toList with
  | .builtin .append,[x,y],[t,t']=>match sliceOf T t,mv T t y (ρ y)with
   |some (e,re),.sl k' ys _=>match am with
    | .place l j mb=>match mv T t x (ρ x)with
     | .sl _ [] .full=>(t'=t∧0<re.size∧l≤n∧G l j=none∧(ys=[]∨k'=re.size)∧(∀y∈ys,ones y=true)∧ys.length≤maxLen∧ys.length*re.bytes≤140737488355328,
       if mb then .msl re.size l j ys.length else .sl re.size ys (.buf l j),some (l,j,if mb then .Zg e re.size (flat ys) ys.length else .buf e re.size ys.length))
     |_=>(False,.dead,none)
    |_=>match ρ x with
     | .sl k xs (.buf l j)=>match G l j with
      |some (.buf e' sz fr)=>(t'=t∧e'=e∧sz=re.size∧fr=xs.length∧k=re.size∧0<re.size∧(ys=[]∨k'=re.size)∧(∀y∈ys,ones y=true)∧xs.length+ys.length≤maxLen∧(xs.length+ys.length)*re.bytes≤140737488355328,
        .sl k (xs++ys) (.buf l j),some (l,j,.buf e re.size (xs.length+ys.length)))
      |_=>(False,.dead,none)
     | .msl sz0 l j i=>match G l j with
      |some (.Zg e' sz cs i')=>(t'=t∧e'=e∧sz=re.size∧i'=i∧0<re.size∧(ys=[]∨k'=re.size)∧(∀y∈ys,ones y=true)∧i+ys.length≤maxLen∧(i+ys.length)*re.bytes≤140737488355328,
        .msl sz0 l j (i+ys.length),some (l,j,.Zg e re.size (cs++flat ys) (i+ys.length)))
      |_=>(False,.dead,none)
     |_=>(False,.dead,none)
   |some (e,re),.int .i64 c=>match ρ x with
    | .sl k xs (.buf l j)=>match G l j with
     |some (.buf e' sz fr)=>(JM T t'=some (.int .i64)∧0≤c∧e'=e∧sz=re.size∧fr=xs.length∧k=re.size∧0<re.size∧(zeroV re).cells=re.zero∧xs.length+c.toNat≤maxLen∧(xs.length+c.toNat)*re.bytes≤140737488355328,
       .sl k (xs++List.replicate c.toNat (zeroV re)) (.buf l j),some (l,j,.buf e re.size (xs.length+c.toNat)))
     |_=>(False,.dead,none)
    |_=>(False,.dead,none)
   |_,_=>(False,.dead,none)
  |_,_,_=>(False,.dead,none)
 |_=>(False,.dead,none)
def ZrY(G:Za):Option (Nat×Nat×Ze)→Za
 |none=>G
 |some (l,k,b)=>G.upd l k b
variable {am:AM}
theorem Znr(hT:TOK P T):∀p,evW T n o.op o.dst am ρ G=p→p.1→XE P (n+1) o ρ G p.2.1 (ZrY G p.2.2):=by
 intro p hp h;unfold evW at hp;split at hp
 ·rename_i t x y ho;split at hp
  ·rename_i r hr;split at hp
   ·rename_i l k off hx;split at hp
    ·rename_i cs hb;subst hp;obtain⟨h1,h2,h3⟩:=h;exact(Wn (T:=T) t (ZjY (m:=n+1) (ρ:=fun z=>mv T t z (ρ z)) hT ho hr (by show mv T t x (ρ x)=_;rw[hx];cases x<;>rfl) rfl hb h1 (YG h2) h3)).sem
    ·subst hp;exact h.elim
   ·rename_i l k i off hx;split at hp
    ·rename_i e sz cs i' hb;subst hp;obtain⟨rfl,h0,h1,h2,h3⟩:=h;exact(Wn (T:=T) t (Zcv (m:=n+1) (ρ:=fun z=>mv T t z (ρ z)) hT ho hr (by show mv T t x (ρ x)=_;rw[hx];cases x<;>rfl) rfl hb h0 h1 (YG h2) h3)).sem
    ·subst hp;exact h.elim
   ·subst hp;exact h.elim
  ·subst hp;exact h.elim
 ·rename_i t x y z ho;split at hp
  ·rename_i kt e re hm;split at hp
   ·rename_i l k hx;split at hp
    ·rename_i es hb;subst hp;exact(Zc5 hT (.inl ho) hm hx rfl rfl hb h.1 h.2).sem
    ·subst hp;exact h.elim
   ·subst hp;exact h.elim
  ·subst hp;exact h.elim
 ·rename_i t x y z ho;split at hp
  ·rename_i kt e re hm;split at hp
   ·rename_i l k hx;split at hp
    ·rename_i es hb;subst hp;exact(Zc5 hT (.inr ho) hm hx rfl rfl hb h.1 h.2).sem
    ·subst hp;exact h.elim
   ·subst hp;exact h.elim
  ·subst hp;exact h.elim
 ·rename_i t x y ho;split at hp
  ·rename_i kt e re hm;split at hp
   ·rename_i l k hx;split at hp
    ·rename_i es hb;subst hp;exact(ZkR hT ho hm h.1 hx rfl hb h.2.1 h.2.2).sem
    ·subst hp;exact h.elim
   ·subst hp;exact h.elim
  ·subst hp;exact h.elim
 ·rename_i t x y z ho;split at hp
  ·rename_i l k kk i hx hy;split at hp
   ·rename_i es hb;subst hp;obtain⟨c1,c2⟩:=h;exact(Zg4 (i:=i.toNat) (kk:=kk) ho hx (by rw[hy];congr 1;omega) rfl hb c2).sem
   ·subst hp;exact h.elim
  ·subst hp;exact h.elim
 ·rename_i t x ho;split at hp
  ·rename_i dd q hd hm;obtain⟨kt,e,re⟩:=q;split at hp
   ·rename_i l k hx;split at hp
    ·rename_i es hb;subst hp;exact(Zom hT ho hm hx hb (Qr n) h).sem
    ·subst hp;exact h.elim
   ·subst hp;exact h.elim
  ·subst hp;exact h.elim
 ·rename_i x ho;split at hp
  ·rename_i l k hx;split at hp
   ·rename_i l' j since s seen hb;split at hp
    ·rename_i es hM;subst hp;obtain⟨rfl,c2⟩:=h;have e1:s::seen=(s::seen).dropLast++[(s::seen).getLast sm]:=(List.dropLast_concat_getLast _).symm;rw[e1]at hb;exact(ZpG ho hx hb hM c2).sem
    ·subst hp;exact h.elim
   ·subst hp;exact h.elim
  ·subst hp;exact h.elim
 ·rename_i c ho;obtain⟨cal,args,ts⟩:=c;simp only at hp;split at hp
  ·rename_i x y t t' ha ht;obtain⟨args⟩:=args;obtain⟨ts⟩:=ts;simp only at ha ht;subst ha ht;split at hp
   ·rename_i e re k' ys ow hsl hy;obtain⟨r,b1,b2,b3⟩:=ZT hsl;split at hp
    ·rename_i l j mb;split at hp
     ·rename_i k hx;subst hp;obtain⟨rfl,c1,c2,c3,c4,c5,c6,c7⟩:=h;have hh:=Zbg (m:=n+1) (ρ:=fun z=>mv T t' z (ρ z)) hT ho b1 b2 b3 c1 hx hy (show l<n+1 by omega) c3 c4 (fun y hy=>YG (c5 y hy)) c6 c7;cases mb with
      |false=>exact(Wn (T:=T) t' hh.1).sem
      |true=>exact(Wn (T:=T) t' hh.2).sem
     ·subst hp;exact h.elim
    ·split at hp
     ·rename_i k xs l j hx;split at hp
      ·rename_i e' sz fr hb;subst hp;obtain⟨rfl,rfl,rfl,rfl,rfl,c5,c6,c7,c8,c9⟩:=h;have hxm:mv T t' x (ρ x)= .sl re.size xs (.buf l j):=by
        rw[hx];cases x<;>try rfl
        simp only[mv,Zgz];cases xs with
        |nil=>simp only[b1,b2,b3]
        |cons a az=>rfl
       intro E w a Q K hr hops;have hl:l<n+1:=by
        have hv:=hops x (by rw[ho];simp[Op.operands,Call.operands]);rw[hx]at hv;have hbl:=hv.lvl hr.norm;cases hbl with|sl _ _ _ _ hb'=>exact hb' l j rfl
       exact(Wn (T:=T) t' (ZcE (m:=n+1) (ρ:=fun z=>mv T t' z (ρ z)) hT ho b1 b2 b3 c5 hxm hy hl hb rfl c6 (fun y hy=>YG (c7 y hy)) c8 c9)).sem E w a Q K hr hops
      ·subst hp;exact h.elim
     ·rename_i sz0 l j i hx;split at hp
      ·rename_i e' sz cs i' hb;subst hp;obtain⟨rfl,rfl,rfl,rfl,c5,c6,c7,c8,c9⟩:=h;have hxm:mv T t' x (ρ x)= .msl sz0 l j i':=by
        rw[hx];cases x<;>rfl
       intro E w a Q K hr hops;have hl:l<n+1:=by
        have hv:=hops x (by rw[ho];simp[Op.operands,Call.operands]);rw[hx]at hv;have hbl:=hv.lvl hr.norm;cases hbl with|msl _ _ _ _ hb'=>exact hb'
       exact(Wn (T:=T) t' (ZbI (m:=n+1) (ρ:=fun z=>mv T t' z (ρ z)) hT ho b1 b2 b3 c5 hxm hy hl hb c6 (fun y hy=>YG (c7 y hy)) c8 c9)).sem E w a Q K hr hops
      ·subst hp;exact h.elim
     ·subst hp;exact h.elim
   ·rename_i e re c hsl hy;obtain⟨r,b1,b2,b3⟩:=ZT hsl;split at hp
    ·rename_i k xs l j hx;split at hp
     ·rename_i e' sz fr hb;subst hp;obtain⟨c0,c1,rfl,rfl,rfl,rfl,c5,c6,c8,c9⟩:=h;obtain⟨rx,d1,d2⟩:=YH c0;have hxm:mv T t x (ρ x)= .sl re.size xs (.buf l j):=by
       rw[hx];cases x<;>try rfl
       simp only[mv,Zgz];cases xs with
       |nil=>simp only[b1,b2,b3]
       |cons a az=>rfl
      intro E w a Q K hr hops;have hl:l<n+1:=by
       have hv:=hops x (by rw[ho];simp[Op.operands,Call.operands]);rw[hx]at hv;have hbl:=hv.lvl hr.norm;cases hbl with|sl _ _ _ _ hb'=>exact hb' l j rfl
      exact(Wn (T:=T) t (ZgB (m:=n+1) (ρ:=fun z=>mv T t z (ρ z)) (c:=c.toNat) hT ho b1 b2 b3 d1 d2 c5 hxm (by rw[hy];congr 1;omega) hl hb rfl c6 c8 c9)).sem E w a Q K hr hops
     ·subst hp;exact h.elim
    ·subst hp;exact h.elim
   ·subst hp;exact h.elim
  ·subst hp;exact h.elim
 ·subst hp;exact h.elim
def evA(T:TT)(n:Nat)(o:Op)(am:AM)(ρ:Operand→AV)(dd:Nat):Prop×AV×Ze:=
 match o with
 | .box t x=>(ones (mv T t x (ρ x))=true,.ptr n dd 0,.box (mv T t x (ρ x)).cells)
 | .alloc t=>match T t with
  |some r=>(True,.ptr n dd 0,.box r.zero)
  |none=>(False,.dead,.box [])
 | .makeMap _ none=>(True,.map n dd,.map [])
 | .call c=>match c.callee,c.args.toList,c.argTypes.toList with
  | .builtin .append,[x,y],[t,t']=>match sliceOf T t,mv T t x (ρ x),mv T t y (ρ y),am with
   |some (e,re),.sl _ [] .full,.sl k' ys _,.lay mb=>(t'=t∧0<re.size∧(ys=[]∨k'=re.size)∧(∀y∈ys,ones y=true)∧ys.length≤maxLen∧ys.length*re.bytes≤140737488355328,
     if mb then .msl re.size n dd ys.length else .sl re.size ys (.buf n dd),if mb then .Zg e re.size (flat ys) ys.length else .buf e re.size ys.length)
   |some (e,re),.sl _ [] .full,.int .i64 c,.lay true=>(JM T t'=some (.int .i64)∧0<c∧0<re.size∧(zeroV re).cells=re.zero∧c.toNat≤maxLen∧c.toNat*re.bytes≤140737488355328,
     .msl re.size n dd c.toNat,.Zg e re.size (flat (List.replicate c.toNat (zeroV re))) c.toNat)
   |_,_,_,_=>(False,.dead,.box [])
  |_,_,_=>(False,.dead,.box [])
 | .makeSlice t x y=>match sliceOf T t,ρ x,ρ y with
  |some (e,re),.int _ l,.int _ c=>(0≤l∧l≤c∧0<re.size∧(zeroV re).cells=re.zero∧c.toNat≤maxLen∧c.toNat*re.bytes≤140737488355328,.msl re.size n dd l.toNat,.Zg e re.size (flat (List.replicate l.toNat (zeroV re))) l.toNat)
  |_,_,_=>(False,.dead,.box [])
 | .buildSlice t k ps=>match sliceOf T t,am with
  |some (e,re),.lay true=>(inOrder 0 ps.toList=true∧k=ps.size∧0<k∧0<re.size∧k*re.size≤2^24∧(∀x∈ps.toList.map (fun p=>ρ p.2),x.cells.length=re.size∧ones x=true),.msl re.size n dd k,.Zg e re.size (flat (ps.toList.map fun p=>ρ p.2)) k)
  |_,_=>(False,.dead,.box [])
 |_=>(False,.dead,.box [])
theorem Znu(hT:TOK P T){dd:Nat}:∀p,evA T n o.op am ρ dd=p→p.1→ ∀G,G n dd=none→XE P (n+1) o ρ G p.2.1 (G.upd n dd p.2.2):=by
 intro p hp h G hG;unfold evA at hp;split at hp
 ·rename_i t x ho;subst hp;exact(Wn (T:=T) t (Zr3 (m:=n+1) (H:=G) (ρ:=fun z=>mv T t z (ρ z)) (P:=P) ho rfl (YG h) (Qr n) hG)).sem
 ·rename_i t ho;split at hp
  ·rename_i r hr;subst hp;exact(Zp9 hT ho hr (Qr n) hG).sem
  ·subst hp;exact h.elim
 ·rename_i t ho;subst hp;exact(Zlr ho (Qr n) hG).sem
 ·rename_i c ho;obtain⟨cal,args,ts⟩:=c;simp only at hp;split at hp
  ·rename_i x y t t' ha ht;obtain⟨args⟩:=args;obtain⟨ts⟩:=ts;simp only at ha ht;subst ha ht;split at hp
   ·rename_i e re k k' ys ow mb hsl hx hy;obtain⟨r,b1,b2,b3⟩:=ZT hsl;subst hp;obtain⟨rfl,c1,c4,c5,c6,c7⟩:=h;have hh:=Zbg (m:=n+1) (ρ:=fun z=>mv T t' z (ρ z)) hT ho b1 b2 b3 c1 hx hy (Qr n) hG c4 (fun y hy=>YG (c5 y hy)) c6 c7;cases mb with
    |false=>exact(Wn (T:=T) t' hh.1).sem
    |true=>exact(Wn (T:=T) t' hh.2).sem
   ·rename_i e re k c hsl hx hy;obtain⟨r,b1,b2,b3⟩:=ZT hsl;subst hp;obtain⟨c0,c1,c2,c3,c4,c5⟩:=h;obtain⟨rx,d1,d2⟩:=YH c0;exact(Wn (T:=T) t (Zgm (m:=n+1) (ρ:=fun z=>mv T t z (ρ z)) (c:=c.toNat) hT ho b1 b2 b3 d1 d2 c2 hx (by rw[hy];congr 1;omega) om c3 c4 c5 (Qr n) hG)).sem
   ·subst hp;exact h.elim
  ·subst hp;exact h.elim
 ·rename_i t x y ho;split at hp
  ·rename_i e re kk l kk' c hsl hx hy;obtain⟨r,b1,b2,b3⟩:=ZT hsl;subst hp;obtain⟨c0,c1,c3,c4,c5,c6⟩:=h;exact(Zii (m:=n+1) (l:=l.toNat) (c:=c.toNat) hT ho b1 b2 b3 c3 (by rw[hx];congr 1;omega) (by rw[hy];congr 1;omega) om c4 c5 c6 (Qr n) hG).sem
  ·subst hp;exact h.elim
 ·rename_i t k ps ho;split at hp
  ·rename_i e re hsl;obtain⟨r,b1,b2,b3⟩:=ZT hsl;subst hp;obtain⟨c1,c2,c0,c3,c4,c5⟩:=h;exact(Zc4 (m:=n+1) (H:=G) hT ho b1 b2 b3 c1 c2 c0 c3 c4 (fun x hx=>⟨(c5 x hx).1,YG (c5 x hx).2⟩) (Qr n) hG).sem
  ·subst hp;exact h.elim
 ·subst hp;exact h.elim
def Zdf(n:Nat)(L:List (Nat×Ze))(l k:Nat)(b:Ze):List (Nat×Ze):=if l=n then setb L k b else L
def setH(n:Nat)(H:Za)(l k:Nat)(b:Ze):Za:=if l=n then H else H.upd l k b
theorem Jt(n:Nat)(L:List (Nat×Ze))(H:Za)(l k:Nat)(b:Ze):full n (Zdf n L l k b) (setH n H l k b)=(full n L H).upd l k b:=by
 unfold Zdf setH;by_cases h:l=n
 ·subst h;simp only[if_true];exact Zm _ _ _ _ _
 ·simp only[if_neg h];exact Yj _ _ _ _ _ _ h
def Yo(T:TT)(ρ:Operand→AV):List Operand→List TypeId→List AV
 |x::xs,t::ts=>mv T t x (ρ x)::Yo T ρ xs ts
 |x::xs,[]=>ρ x::Yo T ρ xs []
 |[],_=>[]
theorem Wh{E:Env}{T:TT}{ρ:Operand→AV}{a:Act}:∀(xs:List Operand) (ts:List TypeId),(∀x∈xs,VR E (ρ x) (a.eval x))→VRs E (Yo T ρ xs ts) (xs.map a.eval)
 |[],_,_=>VRs.nil E
 |x::xs,[],h=>VRs.cons (h x sm) (Wh xs [] (fun y hy=>h y (Qx _ hy)))
 |x::xs,t::ts,h=>VRs.cons (ZhB (h x sm)) (Wh xs ts (fun y hy=>h y (Qx _ hy)))
structure Opt where
 dr:Bool
 al:Bool
 am:Nat→AM
 lay:List Nat
def ZbD(op:Opt):Option Nat→AM
 |some d=>op.am d
 |none=>.auto
def Ztv(cx:Cx)(dr:Bool)(o:Oper)(g:Operand)(args:List Operand)(ts:List TypeId)(s:Zb)(F:Zb→Prop):Prop:=
 ∃f fn c caps Qc,evT s.tmps g= .fn (.func f) caps∧Fun cx.P f fn c∧
  Zi cx.P (cx.n+1) f (Yo cx.T (evT s.tmps) args ts++caps) (full cx.n s.L s.H) Qc∧
  (∀r H1,Qc r H1→ ∃L' H',H1=full cx.n L' H'∧ZL cx.n s.H H'∧F ⟨Yl s.tmps o.dst r,L',H'⟩)∧
  (dr=true→ ∃r,(∀r' H1,Qc r' H1→r'=r∧H1=full cx.n s.L s.H)∧F ⟨Yl s.tmps o.dst r,s.L,s.H⟩)
def Zss(cx:Cx)(o:Oper)(g:Operand)(args:List Operand)(ts:List TypeId)(s:Zb)(F:Zb→Prop):Prop:=
 ∃l Qc,evT s.tmps g= .fn (.yield l) []∧VD cx.P (cx.n+1) l (Yo cx.T (evT s.tmps) args ts) (full cx.n s.L s.H) Qc∧
  ∀r H1,Qc r H1→ ∃L' H',H1=full cx.n L' H'∧ZL cx.n s.H H'∧F ⟨Yl s.tmps o.dst r,L',H'⟩
def ZrE(cx:Cx)(o:Oper)(g:Operand)(args:List Operand)(ts:List TypeId)(s:Zb)(F:Zb→Prop):Prop:=
 ∃f fn c bs Qc,evT s.tmps g= .bfn (.func f) bs∧Fun cx.P f fn c∧
  Zi cx.P (cx.n+1) f (bs++Yo cx.T (evT s.tmps) args ts) (full cx.n s.L s.H) Qc∧
  ∀r H1,Qc r H1→ ∃L' H',H1=full cx.n L' H'∧ZL cx.n s.H H'∧F ⟨Yl s.tmps o.dst r,L',H'⟩
def Vg(cx:Cx)(dr:Bool)(o:Oper)(g:Operand)(args:List Operand)(ts:List TypeId)(s:Zb)(F:Zb→Prop):Prop:=
 Ztv cx dr o g args ts s F∨(dr=false∧(Zss cx o g args ts s F∨ZrE cx o g args ts s F))
def Zro(cx:Cx)(o:Oper)(x:Operand)(s:Zb)(F:Zb→Prop):Prop:=
 ∃k l' j es seen,evT s.tmps x= .ptr cx.n k 0∧lkb s.L k=some (.iter l' j es.length seen)∧full cx.n s.L s.H l' j=some (.map es)∧
  ((∀i,i<es.length→i∈seen)→F ⟨Yl s.tmps o.dst (.tup [.bool false]),s.L,s.H⟩)∧
  (∀i,i<es.length→i∉seen→F ⟨Yl s.tmps o.dst (.tup [.bool true,(es.getD i (.dead,.dead)).1,(es.getD i (.dead,.dead)).2]),setb s.L k (.iter l' j es.length (seen++[i])),s.H⟩)
def Zix(cx:Cx)(o:Oper)(g:Operand)(args:List Operand)(ts:List TypeId)(s:Zb)(F:Zb→Prop):Prop:=
 ∃f fn c caps r,evT s.tmps g= .fn (.func f) caps∧Fun cx.P f fn c∧Pure cx.P f (Yo cx.T (evT s.tmps) args ts++caps) r∧F ⟨Yl s.tmps o.dst r,s.L,s.H⟩
def Zk8(cx:Cx)(lay:List Nat)(o:Oper)(g:Operand)(args:List Operand)(ts:List TypeId)(s:Zb)(F:Zb→Prop):Prop:=
 ∃f fn c caps r,evT s.tmps g= .fn (.func f) caps∧Fun cx.P f fn c∧(∀G,JD cx.n (fun x=>lay.contains x) G (full cx.n s.L s.H)→PC cx.P (cx.n+1) f (Yo cx.T (evT s.tmps) args ts++caps) G r)∧F ⟨Yl s.tmps o.dst r,s.L,s.H⟩
def Zet(cx:Cx)(o:Oper)(g:Operand)(args:List Operand)(ts:List TypeId)(s:Zb)(F:Zb→Prop):Prop:=
 ∃f fn c caps r L' H',evT s.tmps g= .fn (.func f) caps∧Fun cx.P f fn c∧Zi cx.P (cx.n+1) f (Yo cx.T (evT s.tmps) args ts++caps) (full cx.n s.L s.H) (fun r' H1=>r'=r∧H1=full cx.n L' H')∧
  ZL cx.n s.H H'∧F ⟨Yl s.tmps o.dst r,L',H'⟩
def evL(T:TT)(o:Op)(ρ:Operand→AV):Prop×AV:=
 match o with
 | .load t x=>match T t with
  |some r=>match ρ x with
   | .iptr cs=>(r.size≤cs.length∧(r.isAgg=false→0<cs.length),ldA r cs)
   |_=>(False,.dead)
  |none=>(False,.dead)
 |_=>(False,.dead)
theorem ZnY(hT:TOK P T):∀p,evL T o.op ρ=p→p.1→ ∀m G,XE P m o ρ G p.2 G:=by
 intro p hp h m G;unfold evL at hp;split at hp
 ·rename_i t x ho;split at hp
  ·rename_i r hr;split at hp
   ·rename_i hx;subst hp;exact(ZdC hT ho hr hx h.1 h.2).sem
   ·subst hp;exact h.elim
  ·subst hp;exact h.elim
 ·subst hp;exact h.elim
def ZpY(cx:Cx)(o:Oper)(s:Zb)(F:Zb→Prop):Prop:=
 (evL cx.T o.op (evT s.tmps)).1∧F ⟨Yl s.tmps o.dst (evL cx.T o.op (evT s.tmps)).2,s.L,s.H⟩
def Zcz(cx:Cx)(o:Oper)(s:Zb)(F:Zb→Prop):Prop:=
 (evP cx.T o.op o.type (evT s.tmps)).1∧F ⟨Yl s.tmps o.dst (evP cx.T o.op o.type (evT s.tmps)).2,s.L,s.H⟩
def ZkN(cx:Cx)(op:Opt)(o:Oper)(s:Zb)(F:Zb→Prop):Prop:=
 (evR cx.T o.op (evT s.tmps) (full cx.n s.L s.H)).1∧avoids cx.n op.lay (evT s.tmps (lookOpd o.op))∧F ⟨Yl s.tmps o.dst (evR cx.T o.op (evT s.tmps) (full cx.n s.L s.H)).2,s.L,s.H⟩
def Zon(n:Nat)(tm:List (Nat×AV))(L:List (Nat×Ze))(H:Za)(F:Zb→Prop):Option (Nat×Nat×Ze)→Prop
 |none=>F ⟨tm,L,H⟩
 |some (l,k,b)=>(l=n∨b.Below n)∧F ⟨tm,Zdf n L l k b,setH n H l k b⟩
def stepW(cx:Cx)(am:AM)(o:Oper)(s:Zb)(F:Zb→Prop):Prop:=
 (evW cx.T cx.n o.op o.dst am (evT s.tmps) (full cx.n s.L s.H)).1∧Zon cx.n (Yl s.tmps o.dst (evW cx.T cx.n o.op o.dst am (evT s.tmps) (full cx.n s.L s.H)).2.1) s.L s.H F (evW cx.T cx.n o.op o.dst am (evT s.tmps) (full cx.n s.L s.H)).2.2
def evS(T:TT)(l k:Nat)(o:Op)(ρ:Operand→AV)(b0:Option Ze):Prop×Ze:=
 match o with
 | .store t x y=>match T t with
  |some r=>match ρ x,b0 with
   | .ptr l' k' off,some (.box cs)=>((l'=l∧k'=k)∧(mv T t y (ρ y)).cells.length=r.size∧ones (mv T t y (ρ y))=true∧off+r.size≤cs.length,.box (splice cs off (mv T t y (ρ y)).cells))
   | .eptr l' k' i off,some (.Zg e sz cs i')=>((l'=l∧k'=k)∧i'=i∧0<i∧(mv T t y (ρ y)).cells.length=r.size∧ones (mv T t y (ρ y))=true∧off+r.size≤cs.length,.Zg e sz (splice cs off (mv T t y (ρ y)).cells) i)
   |_,_=>(False,.box [])
  |none=>(False,.box [])
 |_=>(False,.box [])
variable {b0:Option Ze} {l k:Nat}
theorem Znb(hT:TOK P T):∀p,evS T l k o.op ρ b0=p→p.1→ ∀G,G l k=b0→XE P (n+1) o ρ G (.tup []) (G.upd l k p.2):=by
 intro p hp h G hG;unfold evS at hp;split at hp
 ·rename_i t x y ho;split at hp
  ·rename_i r hr;split at hp
   ·rename_i l' k' off cs hx;subst hp;obtain⟨⟨rfl,rfl⟩,h1,h2,h3⟩:=h;exact(Wn (T:=T) t (ZjY (m:=n+1) (ρ:=fun z=>mv T t z (ρ z)) hT ho hr (by show mv T t x (ρ x)=_;rw[hx];cases x<;>rfl) rfl hG h1 (YG h2) h3)).sem
   ·rename_i l' k' i off e sz cs i' hx;subst hp;obtain⟨⟨rfl,rfl⟩,rfl,h0,h1,h2,h3⟩:=h;exact(Wn (T:=T) t (Zcv (m:=n+1) (ρ:=fun z=>mv T t z (ρ z)) hT ho hr (by show mv T t x (ρ x)=_;rw[hx];cases x<;>rfl) rfl hG h0 h1 (YG h2) h3)).sem
   ·subst hp;exact h.elim
  ·subst hp;exact h.elim
 ·subst hp;exact h.elim
def Zlt(cx:Cx)(l k:Nat)(o:Oper)(s:Zb)(F:Zb→Prop):Prop:=
 (evS cx.T l k o.op (evT s.tmps) (full cx.n s.L s.H l k)).1∧Zon cx.n (Yl s.tmps o.dst (.tup [])) s.L s.H F (some (l,k,(evS cx.T l k o.op (evT s.tmps) (full cx.n s.L s.H l k)).2))
def amT(op:Opt):Operand→AM
 | .tmp t=>op.am t
 |_=>.auto
def ZdX(cx:Cx)(am:AM)(o:Oper)(s:Zb)(F:Zb→Prop):Prop:=
 match o.dst with
 |some dd=>(evA cx.T cx.n o.op am (evT s.tmps) dd).1∧lkb s.L dd=none∧F ⟨Yl s.tmps (some dd) (evA cx.T cx.n o.op am (evT s.tmps) dd).2.1,setb s.L dd (evA cx.T cx.n o.op am (evT s.tmps) dd).2.2,s.H⟩
 |none=>False
def evO(T:TT)(n k:Nat)(o:Op)(ρ:Operand→AV)(b0:Option Ze):Prop×AV×Ze:=
 match o with
 | .call c=>match c.callee,c.args.toList,c.argTypes.toList with
  | .builtin .append,[x,y],[t,t']=>match sliceOf T t,mv T t y (ρ y),ρ x,b0 with
   |some (e,re),.sl k' ys _,.sl kk xs (.buf l j),some (.buf e' sz fr)=>((l=n∧j=k)∧t'=t∧e'=e∧sz=re.size∧fr=xs.length∧kk=re.size∧0<re.size∧(ys=[]∨k'=re.size)∧(∀y∈ys,ones y=true)∧xs.length+ys.length≤maxLen∧(xs.length+ys.length)*re.bytes≤140737488355328,
     .sl kk (xs++ys) (.buf l j),.buf e re.size (xs.length+ys.length))
   |some (e,re),.sl k' ys _,.msl sz0 l j i,some (.Zg e' sz cs i')=>((l=n∧j=k)∧t'=t∧e'=e∧sz=re.size∧i'=i∧0<re.size∧(ys=[]∨k'=re.size)∧(∀y∈ys,ones y=true)∧i+ys.length≤maxLen∧(i+ys.length)*re.bytes≤140737488355328,
     .msl sz0 l j (i+ys.length),.Zg e re.size (cs++flat ys) (i+ys.length))
   |_,_,_,_=>(False,.dead,.box [])
  |_,_,_=>(False,.dead,.box [])
 |_=>(False,.dead,.box [])
theorem Zoa(hT:TOK P T):∀p,evO T n k o.op ρ b0=p→p.1→ ∀G,G n k=b0→XE P (n+1) o ρ G p.2.1 (G.upd n k p.2.2):=by
 intro p hp h G hG;unfold evO at hp;split at hp
 ·rename_i c ho;obtain⟨cal,args,ts⟩:=c;simp only at hp;split at hp
  ·rename_i x y t t' ha ht;obtain⟨args⟩:=args;obtain⟨ts⟩:=ts;simp only at ha ht;subst ha ht;split at hp
   ·rename_i e re k' ys ow kk xs l j e' sz fr hsl hy hx;obtain⟨r,b1,b2,b3⟩:=ZT hsl;subst hp;obtain⟨⟨rfl,rfl⟩,rfl,rfl,rfl,rfl,rfl,c5,c6,c7,c8,c9⟩:=h;have hxm:mv T t' x (ρ x)= .sl re.size xs (.buf l j):=by
     rw[hx];cases x<;>try rfl
     simp only[mv,Zgz];cases xs with
     |nil=>simp only[b1,b2,b3]
     |cons a az=>rfl
    exact(Wn (T:=T) t' (ZcE (m:=l+1) (ρ:=fun z=>mv T t' z (ρ z)) hT ho b1 b2 b3 c5 hxm hy (Qr l) hG rfl c6 (fun y hy=>YG (c7 y hy)) c8 c9)).sem
   ·rename_i e re k' ys ow sz0 l j i e' sz cs i' hsl hy hx;obtain⟨r,b1,b2,b3⟩:=ZT hsl;subst hp;obtain⟨⟨rfl,rfl⟩,rfl,rfl,rfl,rfl,c5,c6,c7,c8,c9⟩:=h;have hxm:mv T t' x (ρ x)= .msl sz0 l j i':=by
     rw[hx];cases x<;>rfl
    exact(Wn (T:=T) t' (ZbI (m:=l+1) (ρ:=fun z=>mv T t' z (ρ z)) hT ho b1 b2 b3 c5 hxm hy (Qr l) hG c6 (fun y hy=>YG (c7 y hy)) c8 c9)).sem
   ·subst hp;exact h.elim
  ·subst hp;exact h.elim
 ·subst hp;exact h.elim
def ZoZ(cx:Cx)(k:Nat)(o:Oper)(s:Zb)(F:Zb→Prop):Prop:=
 (evO cx.T cx.n k o.op (evT s.tmps) (lkb s.L k)).1∧F ⟨Yl s.tmps o.dst (evO cx.T cx.n k o.op (evT s.tmps) (lkb s.L k)).2.1,setb s.L k (evO cx.T cx.n k o.op (evT s.tmps) (lkb s.L k)).2.2,s.H⟩
def Step(cx:Cx)(lay:List Nat)(o:Oper)(κ:Kd)(s:Zb)(F:Zb→Prop):Prop:=
 ∃v L' H',κ.sem cx.P (cx.n+1) cx.n (fun x=>lay.contains x) o (evT s.tmps) (full cx.n s.L s.H) v (full cx.n L' H')∧ZL cx.n s.H H'∧F ⟨Yl s.tmps o.dst v,L',H'⟩
def isBuf:AV→Bool
 | .sl _ _ (.buf _ _)=>true
 | .msl _ _ _ _=>true
 |_=>false
def ZbG(cx:Cx)(op:Opt)(o:Oper)(args:List Operand)(s:Zb)(F:Zb→Prop):AM→Prop
 | .auto=>match op.dr,args with
  |false,x::_=>match isBuf (evT s.tmps x)with
   |true=>stepW cx .auto o s F
   |false=>Zcz cx o s F
  |_,_=>Zcz cx o s F
 | .pure=>Zcz cx o s F
 | .heap=>stepW cx .heap o s F
 | .place l k mb=>stepW cx (.place l k mb) o s F
 | .lay mb=>ZdX cx (.lay mb) o s F
 | .own k=>ZoZ cx k o s F
 | .call=>Step cx op.lay o .w s F
 | .at_ _ _=>False
def Zif(cx:Cx)(op:Opt)(o:Oper)(s:Zb)(F:Zb→Prop):AV→Bool→Prop
 | .msl _ _ _ _,false=>ZkN cx op o s F
 |_,_=>Zcz cx o s F
def ZmT(cx:Cx)(o:Oper)(s:Zb)(F:Zb→Prop):AM→Prop
 | .lay mb=>ZdX cx (.lay mb) o s F
 |_=>Zcz cx o s F
def VT(cx:Cx)(op:Opt)(o:Oper)(s:Zb)(F:Zb→Prop):Prop:=
 match o.op with
 | .load _ _=>match ZbD op o.dst with
  | .pure=>ZpY cx o s F
  |_=>ZkN cx op o s F
 | .lookup _ _ _ _=>ZkN cx op o s F
 | .slice _ x _ _ _=>match ZbD op o.dst with
  | .heap=>Step cx op.lay o .t s F
  |_=>Zif cx op o s F (evT s.tmps x) op.dr
 | .store _ x _=>match amT op x with
  | .at_ l k=>Zlt cx l k o s F
  |_=>stepW cx .auto o s F
 | .mapUpdate _ _ _ _=>stepW cx .auto o s F
 | .insert _ _ _ _=>stepW cx .auto o s F
 | .mapEntry _ _ _=>stepW cx .auto o s F
 | .entryStore _ _ _ _=>stepW cx .auto o s F
 | .range _ _=>stepW cx .auto o s F
 | .entry _=>stepW cx .auto o s F
 | .box _ _=>ZdX cx .auto o s F
 | .alloc _=>ZdX cx .auto o s F
 | .makeMap _ _=>ZdX cx .auto o s F
 | .makeSlice _ _ _=>ZdX cx .auto o s F
 | .buildSlice _ _ _=>ZmT cx o s F (ZbD op o.dst)
 | .next x str=>op.dr=false∧str=false∧Zro cx o x s F
 | .call c=>match c.callee with
  | .value g=>match op.al with
   |true=>match ZbD op o.dst with
    | .heap=>Zk8 cx op.lay o g c.args.toList c.argTypes.toList s F
    | .call=>Zet cx o g c.args.toList c.argTypes.toList s F
    |_=>Zix cx o g c.args.toList c.argTypes.toList s F
   |false=>op.lay=[]∧Vg cx op.dr o g c.args.toList c.argTypes.toList s F
  | .builtin .append=>ZbG cx op o c.args.toList s F (ZbD op o.dst)
  | .builtin .clear=>Step cx op.lay o .w s F
  | .builtin .len=>match ZbD op o.dst with
   | .heap=>Step cx op.lay o .t s F
   |_=>Zcz cx o s F
  |_=>Zcz cx o s F
 |_=>Zcz cx o s F
def vcG(cx:Cx)(op:Opt)(o:Oper)(s:Zb)(F:Zb→Prop)(want:Bool):AV→Prop
 | .bool true=>match want with
  |true=>VT cx op o s F
  |false=>F ⟨Yl s.tmps o.dst (.tup []),s.L,s.H⟩
 | .bool false=>match want with
  |true=>F ⟨Yl s.tmps o.dst (.tup []),s.L,s.H⟩
  |false=>VT cx op o s F
 | .tup []=>F ⟨Yl s.tmps o.dst (.tup []),s.L,s.H⟩
 |_=>False
def X3(all:List Oper)(j:Nat):Option Nat:=(all[j]?).bind (·.dst)
def Y2(cx:Cx)(op:Opt)(all:List Oper)(k:List Itm)(Q:Exit→Zb→Prop):List Oper→Zb→Prop
 |[],s=>AK cx.P cx.φ cx.n cx.N k Q s
 |o::r,s=>match o.guard with
  |none=>VT cx op o s (Y2 cx op all k Q r)
  |some (j,want)=>match X3 all j with
   |none=>Y2 cx op all k Q r ⟨Yl s.tmps o.dst (.tup []),s.L,s.H⟩
   |some d=>vcG cx op o s (Y2 cx op all k Q r) want (lkv s.tmps d)
def Ztq(d:Nat):AM→Kd
 | .auto=>.p
 | .pure=>.p
 | .lay _=>.a d
 | .own k=>.a k
 |_=>.w
def Zhj(op:Opt):Option Nat→Kd
 |some d=>if op.al then .a d else .w
 |none=>.w
def XA(op:Opt)(o:Oper):Kd:=
 match o.op with
 | .load _ _=>match ZbD op o.dst with
  | .pure=>.p
  |_=>.t
 | .lookup _ _ _ _=>.t
 | .slice _ _ _ _ _=>match ZbD op o.dst with
  | .heap=>.t
  |_=>.p
 | .store _ x _=>match amT op x with
  | .at_ l k=>.b l k
  |_=>.w
 | .mapUpdate _ _ _ _=>.w
 | .insert _ _ _ _=>.w
 | .mapEntry _ _ _=>.w
 | .entryStore _ _ _ _=>.w
 | .range _ _=>.w
 | .entry _=>.w
 | .box _ _=>Zhj op o.dst
 | .alloc _=>Zhj op o.dst
 | .makeMap _ _=>Zhj op o.dst
 | .makeSlice _ _ _=>Zhj op o.dst
 | .buildSlice _ _ _=>match ZbD op o.dst,o.dst with
  | .lay _,some d=>.a d
  |_,_=>.p
 | .call c=>match c.callee with
  | .value _=>if op.al then(match ZbD op o.dst with| .heap=>.t| .call=>.w|_=>.p)else .t
  | .builtin .append=>match o.dst with
   |some d=>Ztq d (op.am d)
   |none=>.p
  | .builtin .clear=>.w
  | .builtin .len=>match ZbD op o.dst with
   | .heap=>.t
   |_=>.p
  |_=>.p
 |_=>.p
theorem XU(h:JD n (fun x=>([]:List Nat).contains x) G H):G=H:=by
 funext l k;exact h l k (fun _=>rfl)
variable {F:Zb→Prop} {s:Zb} {cx:Cx}
theorem Step.weak(h:Step cx lay o .t s F):Step cx lay o .w s F:=by
 obtain⟨v,L',H',h1,h2,h3⟩:=h;have e:=h1.2;refine⟨v,L',H',?_,h2,h3⟩;show XE _ _ _ _ _ _ _;rw[e];exact h1.1 (full cx.n s.L s.H) (fun _ _ _=>rfl)
variable {v:AV}
theorem Step.look(h:Yq cx.P (cx.n+1) o (evT s.tmps) (full cx.n s.L s.H) v (full cx.n s.L s.H))(hF:F ⟨Yl s.tmps o.dst v,s.L,s.H⟩):Step cx [] o .t s F:=
 ⟨v,s.L,s.H,⟨fun G hG=>by rw[XU hG];exact h.sem,rfl⟩,.refl _ _,hF⟩
theorem Step.same(h:Yq cx.P (cx.n+1) o (evT s.tmps) (full cx.n s.L s.H) v (full cx.n s.L s.H))(hF:F ⟨Yl s.tmps o.dst v,s.L,s.H⟩):Step cx lay o .w s F:=
 ⟨v,s.L,s.H,h.sem,.refl _ _,hF⟩
theorem Step.turn{b:Ze}(h:Yq cx.P (cx.n+1) o (evT s.tmps) (full cx.n s.L s.H) v ((full cx.n s.L s.H).upd l k b))(hb:l=cx.n∨b.Below cx.n)
  (hF:F ⟨Yl s.tmps o.dst v,Zdf cx.n s.L l k b,setH cx.n s.H l k b⟩):Step cx lay o .w s F:=by
 refine⟨v,_,_,?_,?_,hF⟩
 ·show XE _ _ _ _ _ _ _;rw[Jt];exact h.sem
 ·unfold setH;by_cases hl:l=cx.n
  ·rw[if_pos hl];exact .refl _ _
  ·rw[if_neg hl];exact .upd (hb.resolve_left hl)
variable {κ:Kd}
theorem Xj(hT:TOK cx.P cx.T)(hκ:κ= .p∨κ= .w)(h:Zcz cx o s F):Step cx lay o κ s F:=by
 have hs:=Zoj (P:=cx.P) hT (o:=o) (ρ:=evT s.tmps) _ rfl h.1;refine⟨_,s.L,s.H,?_,.refl _ _,h.2⟩;rcases hκ with rfl|rfl
 ·exact⟨fun G=>hs _ G,rfl⟩
 ·exact hs _ _
variable {op:Opt}
theorem ZcU(hT:TOK cx.P cx.T)(hκ:κ= .t∨κ= .w)(h:ZkN cx op o s F):Step cx op.lay o κ s F:=by
 obtain⟨h1,h2,h3⟩:=h;refine⟨_,s.L,s.H,?_,.refl _ _,h3⟩;rcases hκ with rfl|rfl
 ·refine⟨fun G hG=>?_,rfl⟩;have e:=ZnZ (T:=cx.T) hG h2;rw[←e]at h1⊢;exact Zhm (P:=cx.P) hT _ rfl h1
 ·exact Zhm (P:=cx.P) hT _ rfl h1
theorem Xk(hT:TOK cx.P cx.T)(h:stepW cx am o s F):Step cx lay o .w s F:=by
 obtain⟨h1,h2⟩:=h;have hs:=Znr (P:=cx.P) hT (n:=cx.n) (am:=am) (o:=o) (ρ:=evT s.tmps) (G:=full cx.n s.L s.H) _ rfl h1;generalize evW cx.T cx.n o.op o.dst am (evT s.tmps) (full cx.n s.L s.H)=p at h2 hs;obtain⟨c,v,ob⟩:=p;cases ob with
 |none=>exact⟨v,s.L,s.H,hs,.refl _ _,h2⟩
 |some q=>
  obtain⟨l,k,b⟩:=q;obtain⟨hb,hF⟩:=h2;refine⟨v,Zdf cx.n s.L l k b,setH cx.n s.H l k b,?_,?_,hF⟩
  ·show XE _ _ _ _ _ _ _;rw[Jt];exact hs
  ·unfold setH;by_cases hl:l=cx.n
   ·rw[if_pos hl];exact .refl _ _
   ·rw[if_neg hl];exact .upd (hb.resolve_left hl)
theorem Zi3(hT:TOK cx.P cx.T)(hκ:κ= .b l k∨κ= .w)(h:Zlt cx l k o s F):Step cx lay o κ s F:=by
 obtain⟨h1,hb,hF⟩:=h;have hs:=Znb (P:=cx.P) hT (n:=cx.n) (l:=l) (k:=k) (o:=o) (ρ:=evT s.tmps) (b0:=full cx.n s.L s.H l k) _ rfl h1;refine⟨.tup [],Zdf cx.n s.L l k _,setH cx.n s.H l k _,?_,?_,hF⟩
 ·rcases hκ with rfl|rfl
  ·exact⟨_,hs,by rw[Jt]⟩
  ·show XE _ _ _ _ _ _ _;rw[Jt];exact hs _ rfl
 ·unfold setH;by_cases hl:l=cx.n
  ·rw[if_pos hl];exact .refl _ _
  ·rw[if_neg hl];exact .upd (hb.resolve_left hl)
theorem Vs(hT:TOK cx.P cx.T)(hκ:(∃d,o.dst=some d∧κ= .a d)∨κ= .w)(h:ZdX cx am o s F):Step cx lay o κ s F:=by
 unfold ZdX at h;split at h
 ·rename_i dd hd;obtain⟨h1,h2,h3⟩:=h;have hs:=Znu (P:=cx.P) hT (n:=cx.n) (am:=am) (o:=o) (ρ:=evT s.tmps) (dd:=dd) _ rfl h1;have hfree:full cx.n s.L s.H cx.n dd=none:=by simp only[full,if_true];exact h2
  refine⟨_,_,s.H,?_,.refl _ _,by rw[hd];exact h3⟩;rcases hκ with⟨d,hd',rfl⟩|rfl
  ·rw[hd]at hd';cases hd';exact⟨_,fun G hG=>hs G (hG.trans hfree),by rw[Zm]⟩
  ·show XE _ _ _ _ _ _ _;rw[Zm];exact hs _ hfree
 ·exact h.elim
theorem Zl3(hT:TOK cx.P cx.T)(hκ:κ= .a k∨κ= .w)(h:ZoZ cx k o s F):Step cx lay o κ s F:=by
 obtain⟨h1,h2⟩:=h;have hs:=Zoa (P:=cx.P) hT (n:=cx.n) (k:=k) (o:=o) (ρ:=evT s.tmps) (b0:=lkb s.L k) _ rfl h1;have hat:full cx.n s.L s.H cx.n k=lkb s.L k:=by simp only[full,if_true]
 refine⟨_,_,s.H,?_,.refl _ _,h2⟩;rcases hκ with rfl|rfl
 ·exact⟨_,fun G hG=>hs G (hG.trans hat),by rw[Zm]⟩
 ·show XE _ _ _ _ _ _ _;rw[Zm];exact hs _ hat
theorem ZkY{cx:Cx}{s:Zb}{F:Zb→Prop}{g:Operand}{args:Array Operand}{ts:Array TypeId}(ho:o.op= .call {callee:=.value g,args:=args,argTypes:=ts})
  (h:Vg cx true o g args.toList ts.toList s F):Step cx [] o .t s F:=by
 rcases h with h|⟨h,_⟩
 case inr=>cases h
 obtain⟨f,fn,c,caps,Qc,h1,h2,h3,_,h5⟩:=h;have has:∀E (a:Act),(∀x∈args,VR E (evT s.tmps x) (a.eval x))→VRs E (Yo cx.T (evT s.tmps) args.toList ts.toList) (args.toList.map a.eval):=fun E a hx=>Wh _ _ (fun x hx'=>hx x (by simpa using hx'))
 obtain⟨r,h4,h6⟩:=h5 rfl;have hs:XE cx.P (cx.n+1) o (evT s.tmps) (full cx.n s.L s.H) r (full cx.n s.L s.H):=ZdD h2 ho h1 _ has (h3.mono h4);exact⟨r,s.L,s.H,⟨fun G hG=>by rw[XU hG];exact hs,rfl⟩,.refl _ _,h6⟩
theorem ZjG{cx:Cx}{lay:List Nat}{s:Zb}{F:Zb→Prop}{g:Operand}{args:Array Operand}{ts:Array TypeId}(hκ:κ= .p∨κ= .w)(ho:o.op= .call {callee:=.value g,args:=args,argTypes:=ts})
  (h:Zix cx o g args.toList ts.toList s F):Step cx lay o κ s F:=by
 obtain⟨f,fn,c,caps,r,h1,h2,h3,h6⟩:=h;have has:∀E (a:Act),(∀x∈args,VR E (evT s.tmps x) (a.eval x))→VRs E (Yo cx.T (evT s.tmps) args.toList ts.toList) (args.toList.map a.eval):=fun E a hx=>Wh _ _ (fun x hx'=>hx x (by simpa using hx'))
 have hs:∀G,XE cx.P (cx.n+1) o (evT s.tmps) G r G:=fun G=>ZdD h2 ho h1 _ has (h3 _ G)
 refine⟨r,s.L,s.H,?_,.refl _ _,h6⟩;rcases hκ with rfl|rfl
 ·exact⟨hs,rfl⟩
 ·exact hs _
theorem ZjL{cx:Cx}{lay:List Nat}{s:Zb}{F:Zb→Prop}{g:Operand}{args:Array Operand}{ts:Array TypeId}(hκ:κ= .t∨κ= .w)(ho:o.op= .call {callee:=.value g,args:=args,argTypes:=ts})
  (h:Zk8 cx lay o g args.toList ts.toList s F):Step cx lay o κ s F:=by
 obtain⟨f,fn,c,caps,r,h1,h2,h3,h6⟩:=h;have has:∀E (a:Act),(∀x∈args,VR E (evT s.tmps x) (a.eval x))→VRs E (Yo cx.T (evT s.tmps) args.toList ts.toList) (args.toList.map a.eval):=fun E a hx=>Wh _ _ (fun x hx'=>hx x (by simpa using hx'))
 have hs:∀G,JD cx.n (fun x=>lay.contains x) G (full cx.n s.L s.H)→XE cx.P (cx.n+1) o (evT s.tmps) G r G:=fun G hG=>ZdD h2 ho h1 _ has (h3 G hG)
 refine⟨r,s.L,s.H,?_,.refl _ _,h6⟩;rcases hκ with rfl|rfl
 ·exact⟨hs,rfl⟩
 ·exact hs _ (fun _ _ _=>rfl)
theorem ZkW(hT:TOK cx.P cx.T)(hκ:κ= .p∨κ= .w)(h:ZpY cx o s F):Step cx lay o κ s F:=by
 have hs:=ZnY (P:=cx.P) hT (o:=o) (ρ:=evT s.tmps) _ rfl h.1;refine⟨_,s.L,s.H,?_,.refl _ _,h.2⟩;rcases hκ with rfl|rfl
 ·exact⟨fun G=>hs _ G,rfl⟩
 ·exact hs _ _
theorem ZjM{cx:Cx}{lay:List Nat}{s:Zb}{F:Zb→Prop}{g:Operand}{args:Array Operand}{ts:Array TypeId}(ho:o.op= .call {callee:=.value g,args:=args,argTypes:=ts})
  (h:Zet cx o g args.toList ts.toList s F):Step cx lay o .w s F:=by
 obtain⟨f,fn,c,caps,r,L',H',h1,h2,h3,h4,h6⟩:=h;have has:∀E (a:Act),(∀x∈args,VR E (evT s.tmps x) (a.eval x))→VRs E (Yo cx.T (evT s.tmps) args.toList ts.toList) (args.toList.map a.eval):=fun E a hx=>Wh _ _ (fun x hx'=>hx x (by simpa using hx'))
 exact⟨r,L',H',ZdD h2 ho h1 _ has h3,h4,h6⟩
theorem ZgV(hT:TOK cx.P cx.T){args:List Operand}(hk:(op.dr=false∧κ= .w)∨(op.dr=true∧κ=(match o.dst with|some d=>Ztq d am|none=>.p)))
  (ha:o.dst=none→am= .auto) (h:ZbG cx op o args s F am):Step cx op.lay o κ s F:=by
 cases hd:o.dst with
 |none=>
  have:=ha hd;subst this;rw[hd]at hk;simp only[ZbG]at h;split at h
  ·rename_i hdr;have hκ:κ= .w:=by
    rcases hk with⟨_,h⟩|⟨h,_⟩
    ·exact h
    ·rw[hdr]at h;cases h
   subst hκ;split at h
   ·exact Xk hT h
   ·exact Xj hT (.inr rfl) h
  ·exact Xj hT (hk.elim (fun h=>.inr h.2) (fun h=>.inl h.2)) h
 |some d=>
  rw[hd]at hk;cases am with
  |auto=>
   simp only[ZbG]at h;split at h
   ·rename_i hdr;have hκ:κ= .w:=by
     rcases hk with⟨_,h⟩|⟨h,_⟩
     ·exact h
     ·rw[hdr]at h;cases h
    subst hκ;split at h
    ·exact Xk hT h
    ·exact Xj hT (.inr rfl) h
   ·exact Xj hT (hk.elim (fun h=>.inr h.2) (fun h=>.inl h.2)) h
  |pure=>exact Xj hT (hk.elim (fun h=>.inr h.2) (fun h=>.inl h.2)) h
  |heap=>
   have:κ= .w:=hk.elim (fun h=>h.2) (fun h=>h.2);subst this;exact Xk hT h
  |place l k mb=>
   have:κ= .w:=hk.elim (fun h=>h.2) (fun h=>h.2);subst this;exact Xk hT h
  |lay mb=>exact Vs hT (hk.elim (fun h=>.inr h.2) (fun h=>.inl ⟨d,hd,h.2⟩)) h
  |own k=>exact Zl3 hT (hk.elim (fun h=>.inr h.2) (fun h=>.inl h.2)) h
  |call=>
   have:κ= .w:=hk.elim (fun h=>h.2) (fun h=>h.2);subst this;exact h
  |at_ l k=>exact h.elim
def Zkz(op:Opt)(o:Oper):Bool:=
 match o.op with
 | .next _ _=>true
 | .call c=>match c.callee with
  | .value _=>!op.al
  |_=>false
 |_=>false
theorem ZfJ(hT:TOK cx.P cx.T)(hrel:op.dr=true∨Zkz op o=false)(hk:(op.dr=false∧κ= .w)∨(op.dr=true∧κ=XA op o))(h:VT cx op o s F):Step cx op.lay o κ s F:=by
 have hnew:XA op o=Zhj op o.dst→(∃d,o.dst=some d∧κ= .a d)∨κ= .w:=fun e=>by
  rcases hk with⟨_,h⟩|⟨_,h⟩
  ·exact .inr h
  ·rw[h,e];unfold Zhj;split
   ·rename_i d hd;split
    ·exact .inl ⟨d,hd,rfl⟩
    ·exact .inr rfl
   ·exact .inr rfl
 have hw:XA op o= .w→κ= .w:=fun e=>hk.elim (fun h=>h.2) (fun h=>h.2.trans e)
 have ht:XA op o= .t→κ= .t∨κ= .w:=fun e=>hk.elim (fun h=>.inr h.2) (fun h=>.inl (h.2.trans e))
 have hp:XA op o= .p→κ= .p∨κ= .w:=fun e=>hk.elim (fun h=>.inr h.2) (fun h=>.inl (h.2.trans e))
 unfold VT at h;split at h
 ·rename_i ho;split at h
  ·rename_i hm;exact ZkW hT (hp (by simp only[XA,ho,hm])) h
  ·rename_i hm;exact ZcU hT (ht (by simp only[XA,ho])) h
 ·rename_i ho;exact ZcU hT (ht (by simp only[XA,ho])) h
 ·rename_i t x lo hi mx ho;cases hm:ZbD op o.dst with
  |heap=>
   rw[hm]at h;rcases ht (by simp only[XA,ho,hm])with rfl|rfl
   ·exact h
   ·exact h.weak
  |_=>
  rw[hm]at h;dsimp only at h;have hp0:XA op o= .p:=by simp only[XA,ho,hm]
  unfold Zif at h;split at h
  ·rename_i hdr;have hκ:κ= .w:=by
    rcases hk with⟨_,h⟩|⟨h,_⟩
    ·exact h
    ·rw[hdr]at h;cases h
   exact ZcU hT (.inr hκ) h
  ·exact Xj hT (hp hp0) h
 ·rename_i t x y ho;cases hm:amT op x with
  |at_ l k=>
   rw[hm]at h;refine Zi3 hT (hk.elim (fun h=>.inr h.2) (fun h=>.inl ?_)) h;rw[h.2];simp only[XA,ho,hm]
  |_=>
   rw[hm]at h;rw[hw (by simp only[XA,ho,hm])];exact Xk hT h
 ·rename_i ho;rw[hw (by simp only[XA,ho])];exact Xk hT h
 ·rename_i ho;rw[hw (by simp only[XA,ho])];exact Xk hT h
 ·rename_i ho;rw[hw (by simp only[XA,ho])];exact Xk hT h
 ·rename_i ho;rw[hw (by simp only[XA,ho])];exact Xk hT h
 ·rename_i ho;rw[hw (by simp only[XA,ho])];exact Xk hT h
 ·rename_i ho;rw[hw (by simp only[XA,ho])];exact Xk hT h
 ·rename_i ho;exact Vs hT (hnew (by simp only[XA,ho])) h
 ·rename_i ho;exact Vs hT (hnew (by simp only[XA,ho])) h
 ·rename_i ho;exact Vs hT (hnew (by simp only[XA,ho])) h
 ·rename_i ho;exact Vs hT (hnew (by simp only[XA,ho])) h
 ·rename_i ho;cases hd:o.dst with
  |none=>
   have hk0:XA op o= .p:=by simp only[XA,ho,hd];split<;>simp_all
   rw[hd]at h;exact Xj hT (hp hk0) h
  |some d=>
   cases hm:ZbD op (some d)with
   |lay mb=>
    rw[hd,hm]at h;refine Vs hT (hk.elim (fun h=>.inr h.2) (fun h=>.inl ⟨d,hd,?_⟩)) h;rw[h.2];simp only[XA,ho,hd,hm]
   |_=>
    rw[hd,hm]at h;have hk0:XA op o= .p:=by simp only[XA,ho,hd,hm]
    exact Xj hT (hp hk0) h
 ·rename_i ho;rcases hrel with hd|hn
  ·rw[h.1]at hd;cases hd
  ·simp only[Zkz,ho]at hn;cases hn
 ·rename_i c ho;obtain⟨cal,args,ts⟩:=c;simp only at h;split at h
  ·rename_i g;split at h
   ·rename_i hal;cases hm:ZbD op o.dst with
    |heap=>
     rw[hm]at h;exact ZjL (ht (by simp only[XA,ho,hal,if_true,hm])) ho h
    |call=>
     rw[hm]at h;rw[hw (by simp only[XA,ho,hal,if_true,hm])];exact ZjM ho h
    |_=>
     rw[hm]at h;exact ZjG (hp (by simp only[XA,ho,hal,if_true,hm])) ho h
   ·rename_i hal;obtain⟨hl,h⟩:=h;rw[hl];rcases hrel with hd|hn
    ·rw[hd]at h;rcases hk with⟨hd',_⟩|⟨_,rfl⟩
     ·rw[hd]at hd';cases hd'
     ·have:XA op o= .t:=by simp only[XA,ho,hal];rfl
      rw[this];exact ZkY ho h
    ·simp only[Zkz,ho,hal]at hn;cases hn
  ·refine ZgV hT ?_ (fun hd=>by simp only[ZbD,hd]) h;rcases hk with h|⟨hd,h⟩
   ·exact .inl h
   ·refine .inr ⟨hd,?_⟩;rw[h];simp only[XA,ho];cases o.dst<;>rfl
  ·rw[hw (by simp only[XA,ho])];exact h
  ·cases hm:ZbD op o.dst with
   |heap=>
    rw[hm]at h;rcases ht (by simp only[XA,ho,hm])with rfl|rfl
    ·exact h
    ·exact h.weak
   |_=>rw[hm]at h;exact Xj hT (hp (by simp only[XA,ho,hm])) h
  ·rename_i h1 h2 h3 h4;refine Xj hT (hp ?_) h;simp only[XA,ho]
 ·rename_i h1 h2 hsl h3 h4 h4' h5 h6 h7 h8 h9 h10 h11 hms h13 hn h12;refine Xj hT (hp ?_) h;unfold XA;split
  ·rename_i ho;exact(h1 _ _ ho).elim
  ·rename_i ho;exact(h2 _ _ _ _ ho).elim
  ·rename_i ho;exact(hsl _ _ _ _ _ ho).elim
  ·rename_i ho;exact(h3 _ _ _ ho).elim
  ·rename_i ho;exact(h4 _ _ _ _ ho).elim
  ·rename_i ho;exact(h4' _ _ _ _ ho).elim
  ·rename_i ho;exact(h5 _ _ _ ho).elim
  ·rename_i ho;exact(h6 _ _ _ _ ho).elim
  ·rename_i ho;exact(h7 _ _ ho).elim
  ·rename_i ho;exact(h8 _ ho).elim
  ·rename_i ho;exact(h9 _ _ ho).elim
  ·rename_i ho;exact(h10 _ ho).elim
  ·rename_i ho;exact(h11 _ _ ho).elim
  ·rename_i ho;exact(hms _ _ _ ho).elim
  ·rename_i ho;exact(h13 _ _ _ ho).elim
  ·rename_i ho;exact(h12 _ ho).elim
  ·rfl
variable {S:AV→Za→Prop} {H':Za}
theorem XE.ZuQ(h:XE P m o ρ H v H')(hS:S v H'):Za6 P m o ρ H S:=
 fun E w a Q K hr hops hK ro=>h E w a Q K hr hops (fun E' w' cv hv hh hx=>hK E' w' cv v H' hS hv hh hx) ro
theorem Za6.mono{S':AV→Za→Prop}(h:Za6 P m o ρ H S)(hS:∀v H',S v H'→S' v H'):Za6 P m o ρ H S':=
 fun E w a Q K hr hops hK ro=>h E w a Q K hr hops (fun E' w' cv v H' hs hv hh hx=>hK E' w' cv v H' (hS _ _ hs) hv hh hx) ro
theorem Zou{m:Nat}{ρ:Operand→AV}{H:Za}{f:FuncId}{fn:Func}{c:Code}{g:Operand}{caps:List AV}{args:Array Operand}{ts:Array TypeId}{S:AV→Za→Prop}(hf:Fun P f fn c)
  (ho:o.op= .call {callee:=.value g,args:=args,argTypes:=ts}) (hg:ρ g= .fn (.func f) caps) (az:List AV) (has:∀E (a:Act),(∀x∈args,VR E (ρ x) (a.eval x))→VRs E az (args.toList.map a.eval))
  (hc:Zi P m f (az++caps) H S):Za6 P m o ρ H S:=fun E w a Q K hr hops hk ro=>by
 have hgv:=hops g (by rw[ho];simp[Op.operands,Call.operands]);rw[hg]at hgv;have he:execOp a.eval o=(do let d←resolve a.eval {callee:=.value g,args:=args,argTypes:=ts} o.type;invoke d.target d.args):=by simp only[execOp,ho]
 generalize hy:a.eval g=y at hgv;cases hgv with|fn _ _ vs hl hvs=>
 have hrun:(execOp a.eval o).run P w= .ok (.enter f (args.map a.eval++vs.toArray)) w:=by
  rw[he];simp[resolve,hy,Deferred.ofValue,invoke,Y4 hf]
 refine Y9 hrun (fun _ e=>by cases e) ⟨JI,JA ?_⟩;have h1:=hc E w (args.toList.map a.eval++vs) hr ((has E a (fun x hx=>hops x (by rw[ho];simp[Op.operands,Call.operands,hx]))).append ⟨hl,hvs⟩);rw[show(args.toList.map a.eval++vs).toArray=args.map a.eval++vs.toArray by rw[←List.append_toArray,←Array.toList_map]]at h1;refine h1.mono ?_;rintro e w' ⟨r',v,H1,E',rfl,hq,hv,hh,hx⟩;exact hk E' w' v r' H1 hq hv hh hx
theorem Zp7{m:Nat}{ρ:Operand→AV}{H:Za}{f:FuncId}{fn:Func}{c:Code}{g:Operand}{bs:List AV}{args:Array Operand}{ts:Array TypeId}{S:AV→Za→Prop}(hf:Fun P f fn c)
  (ho:o.op= .call {callee:=.value g,args:=args,argTypes:=ts}) (hg:ρ g= .bfn (.func f) bs) (az:List AV) (has:∀E (a:Act),(∀x∈args,VR E (ρ x) (a.eval x))→VRs E az (args.toList.map a.eval))
  (hc:Zi P m f (bs++az) H S):Za6 P m o ρ H S:=fun E w a Q K hr hops hk ro=>by
 have hgv:=hops g (by rw[ho];simp[Op.operands,Call.operands]);rw[hg]at hgv;have he:execOp a.eval o=(do let d←resolve a.eval {callee:=.value g,args:=args,argTypes:=ts} o.type;invoke d.target d.args):=by simp only[execOp,ho]
 generalize hy:a.eval g=y at hgv;cases hgv with|bfn _ _ vs hl hvs=>
 have hrun:(execOp a.eval o).run P w= .ok (.enter f (vs.toArray++args.map a.eval)) w:=by
  rw[he];simp[resolve,hy,Deferred.ofValue,invoke,Y4 hf]
 refine Y9 hrun (fun _ e=>by cases e) ⟨JI,JA ?_⟩;have h1:=hc E w (vs++args.toList.map a.eval) hr (VRs.append ⟨hl,hvs⟩ (has E a (fun x hx=>hops x (by rw[ho];simp[Op.operands,Call.operands,hx]))));rw[show(vs++args.toList.map a.eval).toArray=vs.toArray++args.map a.eval by rw[←List.append_toArray,←Array.toList_map]]at h1;refine h1.mono ?_;rintro e w' ⟨r',v,H1,E',rfl,hq,hv,hh,hx⟩;exact hk E' w' v r' H1 hq hv hh hx
theorem Zp3{P:Program}{m:Nat}{ρ:Operand→AV}{H:Za}{l:Nat}{g:Operand}{args:Array Operand}{ts:Array TypeId}{S:AV→Za→Prop}
  (ho:o.op= .call {callee:=.value g,args:=args,argTypes:=ts}) (hg:ρ g= .fn (.yield l) []) (az:List AV) (has:∀E (a:Act),(∀x∈args,VR E (ρ x) (a.eval x))→VRs E az (args.toList.map a.eval))
  (hc:VD P m l az H S):Za6 P m o ρ H S:=fun E w a Q K hr hops hk ro=>by
 have hgv:=hops g (by rw[ho];simp[Op.operands,Call.operands]);rw[hg]at hgv;have he:execOp a.eval o=(do let d←resolve a.eval {callee:=.value g,args:=args,argTypes:=ts} o.type;invoke d.target d.args):=by simp only[execOp,ho]
 generalize hy:a.eval g=y at hgv;cases hgv with|fn _ _ vs hl hvs=>
 have hvs0:vs=[]:=by simpa using hl
 subst hvs0;obtain⟨fn,tmps,ca,cb,h1,h2⟩:=hc E w (args.toList.map a.eval) hr (has E a (fun x hx=>hops x (by rw[ho];simp[Op.operands,Call.operands,hx])));rw[show(args.toList.map a.eval).toArray=args.map a.eval by rw[←Array.toList_map]]at h1;have hrun:(execOp a.eval o).run P w= .ok (.round l fn tmps ca cb) w:=by
  rw[he];simp[resolve,hy,Deferred.ofValue,invoke,h1]
 refine Y9 hrun (fun _ e=>by cases e) ⟨JI,(h2 ro _).mono ?_⟩;rintro e w' ⟨r',v,H1,E',rfl,hq,hv,hh,hx⟩;exact hk E' w' v r' H1 hq hv hh hx
def Zp1(cx:Cx)(o:Oper)(s:Zb)(F:Zb→Prop):Prop:=
 Za6 cx.P (cx.n+1) o (evT s.tmps) (full cx.n s.L s.H) fun v H1=>∃L' H',H1=full cx.n L' H'∧ZL cx.n s.H H'∧F ⟨Yl s.tmps o.dst v,L',H'⟩
theorem Step.ordered(h:Step cx lay o .w s F):Zp1 cx o s F:=by
 obtain⟨v,L',H',h1,h2,h3⟩:=h;exact XE.ZuQ h1 ⟨L',H',rfl,h2,h3⟩
theorem Zl0{x:Operand}(ho:o.op= .next x false)(h:Zro cx o x s F):Zp1 cx o s F:=by
 obtain⟨k,l',j,es,seen,h1,h2,h3,h4,h5⟩:=h;have hk:full cx.n s.L s.H cx.n k=some (.iter l' j es.length seen):=by simp only[full,if_true];exact h2
 refine(ZqQ ho h1 hk h3).mono ?_;rintro v H' (⟨a1,rfl,rfl⟩|⟨i,a1,a2,rfl,rfl⟩)
 ·exact⟨s.L,s.H,rfl,.refl _ _,h4 a1⟩
 ·exact⟨_,s.H,(Zm _ _ _ _ _).symm,.refl _ _,h5 i a1 a2⟩
theorem Zcx(hT:TOK cx.P cx.T)(hop:op.dr=false)(h:VT cx op o s F):Zp1 cx o s F:=by
 cases hr:Zkz op o with
 |false=>exact(ZfJ hT (.inr hr) (.inl ⟨hop,rfl⟩) h).ordered
 |true=>
  unfold Zkz at hr;split at hr
  ·rename_i x str ho;unfold VT at h;rw[ho]at h;obtain⟨_,rfl,h⟩:=h;exact Zl0 ho h
  ·rename_i c ho;obtain⟨cal,args,ts⟩:=c;simp only at hr;split at hr
   ·rename_i g;have hal:op.al=false:=by simpa using hr
    unfold VT at h;rw[ho]at h;simp only[hal]at h;have has:∀E (a:Act),(∀x∈args,VR E (evT s.tmps x) (a.eval x))→VRs E (Yo cx.T (evT s.tmps) args.toList ts.toList) (args.toList.map a.eval):=fun E a hx=>Wh _ _ (fun x hx'=>hx x (by simpa using hx'))
    obtain⟨_,⟨f,fn,cc,caps,Qc,h1,h2,h3,h4,_⟩|⟨_,⟨l,Qc,h1,h2,h3⟩|⟨f,fn,cc,bs,Qc,h1,h2,h3,h4⟩⟩⟩:=h
    ·exact Zou h2 ho h1 _ has (h3.mono h4)
    ·exact Zp3 ho h1 _ has (h2.mono h3)
    ·exact Zp7 h2 ho h1 _ has (h3.mono h4)
   ·cases hr
  ·cases hr
theorem Zag{cx:Cx}(hT:TOK cx.P cx.T){op:Opt}{all:List Oper}{k:List Itm}{Q:Exit→Zb→Prop}{kd:Nat→Kd}{post:List Oper}(hop:op.dr=true)(hk:∀i o,all[i]? =some o→kd i=XA op o):
  ∀(l:List Oper) (i:Nat) (s:Zb),all.drop i=l++post→Y2 cx op all k Q l s→
   ∃tm' L' H',J4 cx.P (cx.n+1) cx.n (fun x=>op.lay.contains x) all kd i l s.tmps (full cx.n s.L s.H) tm' (full cx.n L' H')∧ZL cx.n s.H H'∧AK cx.P cx.φ cx.n cx.N k Q ⟨tm',L',H'⟩
 |[],i,s,_,h=>⟨s.tmps,s.L,s.H,.nil i s.tmps _,.refl _ _,h⟩
 |o::r,i,s,hi,h=>by
  have ho:all[i]? =some o:=by
   have:=congrArg (·[0]?) hi;simpa[UC]using this
  have hi':all.drop (i+1)=r++post:=by rw[←UF,hi];rfl
  have run:Yp all s.tmps o=some true→VT cx op o s (Y2 cx op all k Q r)→
    ∃tm' L' H',J4 cx.P (cx.n+1) cx.n (fun x=>op.lay.contains x) all kd i (o::r) s.tmps (full cx.n s.L s.H) tm' (full cx.n L' H')∧ZL cx.n s.H H'∧AK cx.P cx.φ cx.n cx.N k Q ⟨tm',L',H'⟩:=by
   intro hg hr;obtain⟨v,L1,H1,h1,h2,h3⟩:=ZfJ hT (κ:=kd i) (.inl hop) (.inr ⟨hop,hk i o ho⟩) hr;obtain⟨tm',L',H',h4,h5,h6⟩:=Zag hT hop hk r (i+1) _ hi' h3;exact⟨tm',L',H',.run i o r _ _ _ _ _ v hg h1 h4,h2.trans h5,h6⟩
  have pass:Yp all s.tmps o=some false→Y2 cx op all k Q r ⟨Yl s.tmps o.dst (.tup []),s.L,s.H⟩→
    ∃tm' L' H',J4 cx.P (cx.n+1) cx.n (fun x=>op.lay.contains x) all kd i (o::r) s.tmps (full cx.n s.L s.H) tm' (full cx.n L' H')∧ZL cx.n s.H H'∧AK cx.P cx.φ cx.n cx.N k Q ⟨tm',L',H'⟩:=by
   intro hg hr;obtain⟨tm',L',H',h4,h5,h6⟩:=Zag hT hop hk r (i+1) _ hi' hr;exact⟨tm',L',H',.pass i o r _ _ _ _ hg h4,h5,h6⟩
  simp only[Y2]at h;split at h
  ·rename_i hgd;exact run (by simp only[Yp,hgd]) h
  ·rename_i j want hgd;split at h
   ·rename_i hd;exact pass (by unfold X3 at hd;simp only[Yp,hgd,hd]) h
   ·rename_i d hd;unfold X3 at hd;unfold vcG at h;split at h
    ·rename_i hv;split at h
     ·exact run (by simp only[Yp,hgd,hd,hv];rfl) h
     ·exact pass (by simp only[Yp,hgd,hd,hv];rfl) h
    ·rename_i hv;split at h
     ·exact pass (by simp only[Yp,hgd,hd,hv];rfl) h
     ·exact run (by simp only[Yp,hgd,hd,hv];rfl) h
    ·rename_i hv;exact pass (by simp only[Yp,hgd,hd,hv]) h
    ·exact h.elim
variable {kd:Nat→Kd} {Q:Exit→Zb→Prop} {all:List Oper}
theorem Zlm(hT:TOK cx.P cx.T){k:List Itm}(hop:op.dr=true)(hk:∀i o,all[i]? =some o→kd i=XA op o)(l:List Oper)(i:Nat)(s:Zb)(hi:all.drop i=l)(h:Y2 cx op all k Q l s):
  ∃tm' L' H',J4 cx.P (cx.n+1) cx.n (fun x=>op.lay.contains x) all kd i l s.tmps (full cx.n s.L s.H) tm' (full cx.n L' H')∧ZL cx.n s.H H'∧AK cx.P cx.φ cx.n cx.N k Q ⟨tm',L',H'⟩:=
 Zag (post:=[]) hT hop hk l i s (by rw[hi,Qu]) h
def X4(N:Nat)(ops:List Oper):Bool:=ops.all fun o=>match o.dst with|some d=>decide (d<N)|none=>true
variable {ops:List Oper}
theorem WH{N:Nat}(h:X4 N ops=true):∀o∈ops,∀x,o.dst=some x→x<N:=by
 intro o ho x hx;have:=(QA.1 h) o ho;simpa[hx]using this
theorem Yn.Wx(h:∀l k b,l<n→H l k=some b→b.Below n)(h':ZL n H H'):∀l k b,l<n→H' l k=some b→b.Below n:=fun l k b hl hb=>by
 rcases h' l k b hl hb with h1|h1
 ·exact h l k b hl h1
 ·exact h1
theorem ZgR{cx:Cx}(hT:TOK cx.P cx.T){op:Opt}(hop:op.dr=false){ops:Array Oper}{k:List Itm}{Q:Exit→Zb→Prop}(hd:∀o∈ops.toList,∀x,o.dst=some x→x<cx.N){E0:Env}{w0:World}:
  ∀(l:List Oper) (i:Nat) (s:Zb),ops.toList.drop i=l→Y2 cx op ops.toList k Q l s→ ∀E w a,Yn cx.φ.B cx.n cx.N s E a w→Ext cx.n E0 w0 E w→
   wpOpsIn (fr cx.φ.ro) 0 cx.P ops (fun e a' w'=>∃s' E',AX cx.P cx.φ cx.n cx.N Q k e s'∧Yn cx.φ.B cx.n cx.N s' E' a' w'∧Ext cx.n E0 w0 E' w') ((List.range ops.size).drop i) a w
 |[],i,s,hi,h=>fun E w a hs hx=>by
  have hlen:ops.size≤i:=by have:=congrArg List.length hi;simp at this;omega
  rw[Ux (by simpa using hlen)];exact⟨s,E,h,hs,hx⟩
 |o::r,i,s,hi,h=>fun E w a hs hx=>by
  have hlt:i<ops.size:=by
   rcases Qg i ops.size with h|h
   ·exact h
   ·rw[Ux (by simpa using h)]at hi;cases hi
  have hoi:ops[i]? =some o:=by
   have:=congrArg (·[0]?) hi;simpa[UC]using this
  have hmem:o∈ops.toList:=U8 (by rw[hi];simp);have hi':ops.toList.drop (i+1)=r:=by rw[←List.drop_drop,hi];rfl
  rw[Qw (by simpa using hlt)];simp only[MK,wpOpsIn,hoi];have key:(Yp ops.toList s.tmps o=some true∧VT cx op o s (Y2 cx op ops.toList k Q r))∨(Yp ops.toList s.tmps o=some false∧Y2 cx op ops.toList k Q r ⟨Yl s.tmps o.dst (.tup []),s.L,s.H⟩):=by
   simp only[Y2]at h;split at h
   ·rename_i hgd;exact .inl ⟨by simp only[Yp,hgd],h⟩
   ·rename_i j want hgd;split at h
    ·rename_i hd;exact .inr ⟨by unfold X3 at hd;simp only[Yp,hgd,hd],h⟩
    ·rename_i d hd;unfold X3 at hd;unfold vcG at h;split at h
     ·rename_i hv;split at h
      ·exact .inl ⟨by simp only[Yp,hgd,hd,hv];rfl,h⟩
      ·exact .inr ⟨by simp only[Yp,hgd,hd,hv];rfl,h⟩
     ·rename_i hv;split at h
      ·exact .inr ⟨by simp only[Yp,hgd,hd,hv];rfl,h⟩
      ·exact .inl ⟨by simp only[Yp,hgd,hd,hv];rfl,h⟩
     ·rename_i hv;exact .inr ⟨by simp only[Yp,hgd,hd,hv],h⟩
     ·exact h.elim
  rcases key with⟨hg,hr⟩|⟨hg,hr⟩
  ·rw[Xd (fun j w d _ _=>hs.tmps d) hg];simp only[if_true];refine Zcx hT hop hr E w a _ _ hs.heap (fun x _=>Zdp hs.tmps x) ?_ cx.φ.ro;rintro E' w' cv v H1 ⟨L',H',rfl,ho,hF⟩ hcv hh hx';refine ZgR hT hop hd r (i+1) _ hi' hF E' w' _ ⟨by rw[size_put];exact hs.size,by rw[X8];exact hs.defs.ext hx',fun t=>?_,hh,Yn.Wx hs.out ho⟩ (hx.trans (hx'.mono (Uj _)));rw[JE,VN hs.size (hd o hmem)];split
   ·exact hcv
   ·exact(hs.tmps t).mono hs.heap.norm hx'.le
  ·rw[Xd (fun j w d _ _=>hs.tmps d) hg];simp only[QT,if_false];refine⟨fun _ _=>trivial,?_⟩;refine ZgR hT hop hd r (i+1) _ hi' hr E w _ ⟨by rw[size_put];exact hs.size,by rw[X8];exact hs.defs,fun t=>?_,hs.heap,hs.out⟩ hx;rw[JE,VN hs.size (hd o hmem)];split
   ·exact VY E
   ·exact hs.tmps t
theorem ZhS(hT:TOK cx.P cx.T){id:Nat}{ops:Array Oper}{k:List Itm}(hd:X4 cx.N ops.toList=true)
  (op:Opt) (hop:op.dr=false) (h:Y2 cx op ops.toList k Q ops.toList s):AK cx.P cx.φ cx.n cx.N (.code (.region id ops false)::k) Q s:=fun E w a hs=>by
 refine wpIn_region ?_;have:=ZgR hT hop (WH hd) ops.toList 0 s rfl h E w a hs (.refl _ _ _);simpa using this
variable {A B:Nat→Bool}
theorem Kd.Zot(hAB:∀s,B s=true→A s=true)(h:κ.sem P m n A o ρ H v H'):κ.sem P m n B o ρ H v H':=by
 cases κ with
 |p=>exact h
 |t=>exact⟨fun G hG=>h.1 G (fun l s hs=>hG l s (fun hl=>by
   cases hb:B s with
   |false=>rfl
   |true=>have:=hAB s hb;rw[hs hl]at this;cases this)),h.2⟩
 |w=>exact h
 |a d=>exact h
 |b l d=>exact h
theorem J4.mono(hAB:∀s,B s=true→A s=true){i:Nat}{l:List Oper}{tm tm':List (Nat×AV)}(h:J4 P m n A all kd i l tm H tm' H'):J4 P m n B all kd i l tm H tm' H':=by
 induction h with
 |nil i tm H=>exact .nil i tm H
 |run i o r tm tm' H H1 H' v hg h _ ih=>exact .run i o r tm tm' H H1 H' v hg (Kd.Zot hAB h) ih
 |pass i o r tm tm' H H' hg _ ih=>exact .pass i o r tm tm' H H' hg ih
def Zdj(op:Opt)(ops:List Oper)(i:Nat):Kd:=match ops[i]? with
 |some o=>XA op o
 |none=>.p
def Ze2(op:Opt)(ops:List Oper):Bool:=(List.range ops.length).all fun i=>match Zdj op ops i with
 | .a d=>op.lay.contains d
 |_=>true
theorem ZfT(h:Ze2 op ops=true):∀s,ZeD ops.length (Zdj op ops) s=true→op.lay.contains s=true:=by
 intro s hs;simp only[ZeD,GR,Gg,beq_iff_eq]at hs;obtain⟨i,hi,hk⟩:=hs;simp only[Ze2,QA,Gg]at h;have:=h i hi;rw[hk]at this;exact this
theorem ZfV(hT:TOK cx.P cx.T)(hm:cx.P.follows .mixedOrders=true)(op:Opt)(hop:op.dr=true){id:Nat}{ops:Array Oper}{k:List Itm}(hd:X4 cx.N ops.toList=true)
  (hok:(VH ops.toList (Zdj op ops.toList)&&Ze2 op ops.toList)=true)
  (h:Y2 cx op ops.toList k Q ops.toList s):AK cx.P cx.φ cx.n cx.N (.code (.region id ops true)::k) Q s:=fun E w a hs=>by
 obtain⟨hok,hlay⟩:=QaG.1 hok;obtain⟨tm',L',H',hr,ho,hk⟩:=Zlm hT (kd:=Zdj op ops.toList) hop (fun i o hi=>by simp only[Zdj,hi]) ops.toList 0 s rfl h;obtain⟨T,G,V,t0,g0,t1,g1,hc⟩:=(hr.mono (ZfT hlay)).course;refine wpIn_region_any hm ?_;have hlen:ops.toList.length=ops.size:=by simp
 have hu:unl (Array.replicate ops.size false)≤ops.size:=by
  unfold unl;exact Uw Qbk sm
 have hL:∀i,(Array.replicate ops.size false).getD i false=false:=fun i=>by
  rw[Ua];by_cases hi:i<ops.size<;>simp[hi]
 have hva:∀n t,va ops.toList (lkv (T 0)) V ((Array.replicate ops.size false).getD · false) n t=lkv (T 0) t:=by
  intro n t;induction n with
  |zero=>rfl
  |succ n ih=>rw[va,if_neg (fun c=>by rw[hL]at c;cases c.1),ih]
 have hhv:∀n,hv cx.n (Zdj op ops.toList) G ((Array.replicate ops.size false).getD · false) n=G 0:=by
  intro n;induction n with
  |zero=>rfl
  |succ n ih=>
   funext l s;rw[Zcn,if_neg (fun c=>by rw[hL]at c;cases c.1),ih]
 refine ZiK cx.φ.ro a.defers (m:=cx.n+1) (N:=cx.N) (WH hd) hc (Zcu hok) E {w with drawn:=w.drawn+1} ?_ ops.size _ E {w with drawn:=w.drawn+1} a hu sm (fun i o _ hi=>by have:=hL i;simp only at hi;rw[this]at hi;cases hi) hs.size rfl ?_ ?_ (.refl _ _ _)
 ·intro E' w' a' h1 h2 h3 h4 h5;rw[←hlen,t1]at h3;rw[←hlen,g1]at h4;exact⟨⟨tm',L',H'⟩,E',hk,⟨h1,by rw[h2];exact(hs.defs.ext (Env.Za9 cx.n E w)).ext h5,h3,h4,Yn.Wx hs.out ho⟩,(Env.Za9 cx.n E w).trans (h5.mono (Uj _))⟩
 ·intro t;rw[hva,t0];exact hs.tmps t
 ·rw[hhv,g0];exact hs.heap.drew
end
inductive Inside (n:Nat) (p:Nat→Prop):AV→Prop
 |int (k:IntKind) (i:Int):Inside n p (.int k i)
 |bool (b:Bool):Inside n p (.bool b)
 |str (l:List UInt8):Inside n p (.str l)
 |nilp:Inside n p .nilp
 |ptr (l k off:Nat) (h:l<n∨(l=n∧p k)):Inside n p (.ptr l k off)
 |iptr (cs:List AV) (hv:∀j (h:j<cs.length),Inside n p cs[j]):Inside n p (.iptr cs)
 |sl (k:Nat) (xs:List AV) (o:Own) (hv:∀i (h:i<xs.length) j (h':j<xs[i].cells.length),Inside n p xs[i].cells[j])
   (ho:∀l j,o= .buf l j→l<n∨(l=n∧p j)):Inside n p (.sl k xs o)
 |nilf:Inside n p .nilf
 |fn (f:Fn) (caps:List AV) (hv:∀i (h:i<caps.length),Inside n p caps[i]):Inside n p (.fn f caps)
 |bfn (f:Fn) (caps:List AV) (hv:∀i (h:i<caps.length),Inside n p caps[i]):Inside n p (.bfn f caps)
 |nilm:Inside n p .nilm
 |map (l k:Nat) (h:l<n∨(l=n∧p k)):Inside n p (.map l k)
 |msl (sz l k i:Nat) (h:l<n∨(l=n∧p k)):Inside n p (.msl sz l k i)
 |eptr (l k i off:Nat) (h:l<n∨(l=n∧p k)):Inside n p (.eptr l k i off)
 |ssl (k:Nat) (xs ys:List AV) (hv:∀i (h:i<(xs++ys).length) j (h':j<(xs++ys)[i].cells.length),Inside n p (xs++ys)[i].cells[j]):Inside n p (.ssl k xs ys)
 |nili:Inside n p .nili
 |Xg:Inside n p .Xg
 |sln (k:Nat):Inside n p (.sln k)
 |sub (sz l k i off m:Nat) (h:l<n∨(l=n∧p k)):Inside n p (.sub sz l k i off m)
 |ifc (t:TypeId) (a:AV) (h:Inside n p a):Inside n p (.ifc t a)
 |agg (cs:List AV) (hv:∀i (h:i<cs.length),Inside n p cs[i]):Inside n p (.agg cs)
 |tup (cs:List AV) (hv:∀i (h:i<cs.length),Inside n p cs[i]):Inside n p (.tup cs)
 |dead:Inside n p .dead
section
variable {p:Nat→Prop} {n:Nat}
theorem Below.inside{v:AV}(h:Below n v):Inside n p v:=by
 induction h with
 |int k i=>exact .int k i
 |bool b=>exact .bool b
 |str l=>exact .str l
 |nilp=>exact .nilp
 |ptr l k off h=>exact .ptr l k off (.inl h)
 |iptr cs _ ih=>exact .iptr cs ih
 |sl k xs o _ ho ih=>exact .sl k xs o ih (fun l j e=>.inl (ho l j e))
 |nilf=>exact .nilf
 |fn f caps _ ih=>exact .fn f caps ih
 |bfn f caps _ ih=>exact .bfn f caps ih
 |nilm=>exact .nilm
 |map l k h=>exact .map l k (.inl h)
 |msl sz l k i h=>exact .msl sz l k i (.inl h)
 |eptr l k i off h=>exact .eptr l k i off (.inl h)
 |ssl k xs ys _ ih=>exact .ssl k xs ys ih
 |nili=>exact .nili
 |Xg=>exact .Xg
 |sln k=>exact .sln k
 |sub sz l k i off m h=>exact .sub sz l k i off m (.inl h)
 |ifc t a _ ih=>exact .ifc t a ih
 |agg cs _ ih=>exact .agg cs ih
 |tup cs _ ih=>exact .tup cs ih
 |dead=>exact .dead
def keeps(n:Nat)(q:Nat→Bool)(l k:Nat):Bool:=l !=n||q k
def Env.only(E:Env)(n:Nat)(q:Nat→Bool):Env:=
 {F:=E.F,m:=fun l k=>if keeps n q l k=true then E.m l k else none,hist:=fun l k j=>if keeps n q l k=true then E.hist l k j else none,g:=fun l k=>if keeps n q l k=true then E.g l k else none,qd:=E.qd}
theorem Xu{q:Nat→Bool}{l k:Nat}(h:l<n∨(l=n∧q k=true)):keeps n q l k=true:=by
 unfold keeps;rcases h with h|⟨_,h⟩
 ·have:(l !=n)=true:=by simp;omega
  simp[this]
 ·simp[h]
theorem VR.only{n:Nat}{q:Nat→Bool}{E:Env}{a:AV}{v:Value}(hv:VR E a v)(hb:Inside n (fun k=>q k=true) a):VR (E.only n q) a v:=by
 induction hv with
 |int k n=>exact .int k n
 |bool b=>exact .bool b
 |str l=>exact .str l
 |nilp=>exact .nilp
 |ptr l k off b hm=>cases hb with|ptr _ _ _ hl=>exact .ptr l k off b (by simp only[Env.only,if_pos (Xu hl)];exact hm)
 |iptr cs b off c hc _ ih=>cases hb with|iptr _ hb=>exact .iptr cs b off c hc (fun j h=>ih j h (hb j h))
 |slnil k o a ho ha=>
  cases hb with
  |sl _ _ _ _ hb=>
   refine .slnil k o a ?_ ha;cases o with
   |any=>trivial
   |full=>exact ho
   |buf l j=>simp only[Zaj,Env.only,if_pos (Xu (hb l j rfl))];exact ho
 |sl k xs o b off cap c hk hc _ hcap hm ho ih=>
  cases hb with
  |sl _ _ _ hx hb=>
   refine .sl k xs o b off cap c hk hc (fun i h j h'=>ih i h j h' (hx i h j h')) hcap hm ?_;cases o with
   |any=>trivial
   |full=>exact ho
   |buf l j=>simp only[Zaj,Env.only,if_pos (Xu (hb l j rfl))];exact ho
 |nilf=>exact .nilf
 |fn f caps vs hl _ ih=>cases hb with|fn _ _ hb=>exact .fn f caps vs hl (fun i h h'=>ih i h h' (hb i h))
 |bfn f caps vs hl _ ih=>cases hb with|bfn _ _ hb=>exact .bfn f caps vs hl (fun i h h'=>ih i h h' (hb i h))
 |nilm=>exact .nilm
 |map l k b hm=>cases hb with|map _ _ hl=>exact .map l k b (by simp only[Env.only,if_pos (Xu hl)];exact hm)
 |mnil sz l k a hh ha=>cases hb with|msl _ _ _ _ hl=>exact .mnil _ _ _ _ (by simp only[Env.only,if_pos (Xu hl)];exact hh) ha
 |msl sz l k i g cap hh=>cases hb with|msl _ _ _ _ hl=>exact .msl _ _ _ _ _ _ (by simp only[Env.only,if_pos (Xu hl)];exact hh)
 |eptr l k i off g cap hh=>cases hb with|eptr _ _ _ _ hl=>exact .eptr _ _ _ _ _ _ (by simp only[Env.only,if_pos (Xu hl)];exact hh)
 |ssl k xs ys b off cap c hk hc _ hcap hm ih=>cases hb with|ssl _ _ _ hx=>exact .ssl k xs ys b off cap c hk hc (fun i h j h'=>ih i h j h' (hx i h j h')) hcap hm
 |nili=>exact .nili
 |Xg=>exact .Xg
 |sln k a cap hc=>exact .sln k a cap hc
 |sub sz l k i off m g cap hh hm=>cases hb with|sub _ _ _ _ _ _ hl=>exact .sub _ _ _ _ _ _ _ _ (by simp only[Env.only,if_pos (Xu hl)];exact hh) hm
 |ifc t a v _ ih=>cases hb with|ifc _ _ hb=>exact .ifc t a v (ih hb)
 |agg cs vs hl _ ih=>cases hb with|agg _ hb=>exact .agg cs vs hl (fun i h h'=>ih i h h' (hb i h))
 |tup cs vs hl _ ih=>cases hb with|tup _ hb=>exact .tup cs vs hl (fun i h h'=>ih i h h' (hb i h))
 |dead v=>exact .dead v
def Ze.Inside(n:Nat)(p:Nat→Prop)(b:Ze):Prop:=(∀a∈b.avs,Abs.Inside n p a)∧ ∀q∈b.at_,q.1<n∨(q.1=n∧p q.2)
theorem Ze.Below.inside{n:Nat}{p:Nat→Prop}{b:Ze}(h:b.Below n):b.Inside n p:=⟨fun a ha=>(h.1 a ha).inside,fun q hq=>.inl (h.2 q hq)⟩
theorem lkb_mem:∀{L:List (Nat×Ze)} {t:Nat} {b:Ze},lkb L t=some b→(t,b)∈L
 |[],t,b,h=>by simp[lkb]at h
 |(i,v)::r,t,b,h=>by
  simp only[lkb]at h;split at h
  ·rename_i hi;subst hi;cases h;simp
  ·exact Qx _ (lkb_mem h)
variable {H:Za} {L:List (Nat×Ze)} {tm tm':List (Nat×AV)} {N:Nat}
theorem ZpS{L':List (Nat×Ze)}(h1:∀p∈tm',Wk (lkv tm p.1) p.2)(h2:∀p∈L',lkb L p.1=some p.2)
  (h3:∀p∈tm',Inside n (fun k=>(lkb L' k).isSome=true) p.2) (h4:∀p∈L',p.2.Inside n (fun k=>(lkb L' k).isSome=true)):AWk n N ⟨tm,L,H⟩ ⟨tm',L',H⟩:=fun B E w a hs=>by
 have h:=hs.heap;have hq:∀l k,keeps n (fun k=>(lkb L' k).isSome) l k=true∨(l=n∧lkb L' k=none):=fun l k=>by
  by_cases hl:l=n
  ·subst hl;cases hb:lkb L' k with
   |none=>exact .inr ⟨rfl,rfl⟩
   |some b=>exact .inl (Xu (.inr ⟨rfl,by simp[hb]⟩))
  ·refine .inl ?_;unfold keeps;have:(l !=n)=true:=by simpa using hl
   simp[this]
 have hfull:∀l k b,full n L' H l k=some b→full n L H l k=some b∧keeps n (fun k=>(lkb L' k).isSome) l k=true∧b.Inside n (fun k=>(lkb L' k).isSome=true)∨n<l:=fun l k b hb=>by
  by_cases hl:l=n
  ·subst hl;simp only[full,if_true]at hb⊢;have hm:=lkb_mem hb;exact .inl ⟨h2 _ hm,Xu (.inr ⟨rfl,by simp[hb]⟩),h4 _ hm⟩
  ·rcases Qg l n with hlt|hge
   ·simp only[full,if_neg hl]at hb⊢;exact .inl ⟨hb,Xu (.inl hlt),(hs.out l k b hlt hb).inside⟩
   ·exact .inr om
 have hle:E.le n (E.only n (fun k=>(lkb L' k).isSome)):=by
  refine⟨fun _ _ _ h=>h,fun l k b hl hm=>?_,fun l k j v hl hm=>?_,rfl⟩
  ·simp only[Env.only];rw[if_pos (Xu (.inl hl))];exact hm
  ·simp only[Env.only];rw[if_pos (Xu (.inl hl))];exact hm
 have hom:∀l k b,(E.only n (fun k=>(lkb L' k).isSome)).m l k=some b→E.m l k=some b:=fun l k b hm=>by
  simp only[Env.only]at hm;split at hm
  ·exact hm
  ·cases hm
 have hog:∀l k b,(E.only n (fun k=>(lkb L' k).isSome)).g l k=some b→E.g l k=some b:=fun l k b hm=>by
  simp only[Env.only]at hm;split at hm
  ·exact hm
  ·cases hm
 refine⟨E.only n (fun k=>(lkb L' k).isSome),⟨hs.size,hs.defs.sub (fun b ho=>ho.elim (fun⟨l,k,hm⟩=>.inl ⟨l,k,hom l k b hm⟩) (fun⟨l,k,hm⟩=>.inr ⟨l,k,hog l k b hm⟩)),fun t=>?_,{norm:=?_,F:=h.F,blk:=?_,dom:=?_,nobuf:=?_,inj:=?_,injg:=?_,mg:=?_,mF:=?_,lt:=?_},hs.out⟩,
  ⟨hle,rfl,rfl,rfl,fun _=>Qe _,Qe _,fun _ _ _=>rfl,fun b _ ho=>?_⟩⟩
 ·show VR _ (lkv tm' t) _;rcases lkv_mem (tm:=tm') (t:=t)with hd|hm
  ·rw[hd];exact .dead _
  ·exact((h1 _ hm).vr (hs.tmps t)).only (h3 _ hm)
 ·refine⟨fun l k hl=>?_,fun l k hl=>?_,fun l k j hl=>?_⟩
  ·simp only[Env.only];rw[h.norm.m l k hl];split<;>rfl
  ·simp only[Env.only];rw[h.norm.g l k hl];split<;>rfl
  ·simp only[Env.only];rw[h.norm.hist l k j hl];split<;>rfl
 ·intro l k b hl hH;rcases hfull l k _ hH with⟨a1,a2,a3⟩|a1
  ·refine(h.blk l k b hl a1).keep (by simp only[Env.only];rw[if_pos a2]) (by simp only[Env.only];rw[if_pos a2]) (fun j=>by simp only[Env.only];rw[if_pos a2]) (fun q hq r hr=>?_) (fun _ _=>rfl) (fun _ _ _ h=>h) (fun a ha v hv=>hv.only (a3.1 a ha));simp only[Env.only];rw[if_pos (Xu (a3.2 q hq))];exact hr
  ·omega
 ·intro l k hl hH;rcases hq l k with hk|⟨rfl,hk⟩
  ·have:full n L H l k=none:=by
    by_cases hln:l=n
    ·subst hln;simp only[full,if_true]at hH;unfold keeps at hk;simp[hH]at hk
    ·simp only[full,if_neg hln]at hH⊢;exact hH
   obtain⟨d1,d2,d3⟩:=h.dom l k hl this;simp only[Env.only,if_pos hk];exact⟨d1,d2,d3⟩
  ·have:¬keeps l (fun k=>(lkb L' k).isSome) l k=true:=by unfold keeps;simp[hk]
   refine⟨if_neg this,if_neg this,fun _=>if_neg this⟩
 ·intro l k hg;cases hx:(E.only n (fun k=>(lkb L' k).isSome)).g l k with
  |none=>exact absurd hx hg
  |some b=>
   have hg':=hog l k b hx;obtain⟨bb,hb,hbi⟩:=h.nobuf l k (by rw[hg'];simp);rcases hq l k with hk|⟨rfl,hk⟩
   ·refine⟨bb,?_,hbi⟩;by_cases hln:l=n
    ·subst hln;simp only[full,if_true]at hb⊢;unfold keeps at hk;simp only[bne_self_eq_false,Gt]at hk;obtain⟨b',hb'⟩:=Qa4.1 hk;rw[hb'];have:=h2 _ (lkb_mem hb');simp only[]at this;rw[hb]at this;exact this.symm
    ·simp only[full,if_neg hln]at hb⊢;exact hb
   ·have:¬keeps l (fun k=>(lkb L' k).isSome) l k=true:=by unfold keeps;simp[hk]
    simp only[Env.only]at hx;rw[if_neg this]at hx;cases hx
 ·intro l k l' k' b x1 x2;exact h.inj _ _ _ _ _ (hom _ _ _ x1) (hom _ _ _ x2)
 ·intro l k l' k' b x1 x2;exact h.injg _ _ _ _ _ (hog _ _ _ x1) (hog _ _ _ x2)
 ·intro l k l' k' b x1 x2;exact h.mg _ _ _ _ _ (hom _ _ _ x1) (hog _ _ _ x2)
 ·intro l k b o x1;exact h.mF _ _ _ _ (hom _ _ _ x1)
 ·intro b hb;rcases hb with⟨l,k,hm⟩|⟨l,k,hg⟩
  ·exact h.lt b (.inl ⟨l,k,hom _ _ _ hm⟩)
  ·exact h.lt b (.inr ⟨l,k,hog _ _ _ hg⟩)
 ·rcases ho with⟨l,k,hm⟩|⟨l,k,hg⟩
  ·exact .inl ⟨l,k,hom _ _ _ hm⟩
  ·exact .inr ⟨l,k,hog _ _ _ hg⟩
theorem least(h:∃m,p m):∃m,p m∧ ∀k,p k→m≤k:=by
 obtain⟨m,hm⟩:=h;induction m using Nat.strongRecOn with
 |_ m ih=>
  by_cases hx:∃k,k<m∧p k
  ·obtain⟨k,hk,hp⟩:=hx;exact ih k hk hp
  ·exact⟨m,hm,fun k hk=>Nat.le_of_not_lt fun hlt=>hx ⟨k,hlt,hk⟩⟩
theorem Zmm{P:Program}{φ:Fm}{n N:Nat}{c:Code}{k:List Itm}{Q:Exit→Zb→Prop}{s:Zb}(I:Nat→Zb→Prop){m0:Nat}{s0:Zb}(hw:AWk n N s s0)(h0:I m0 s0)
  (round:∀m s,I m s→AK P φ n N [.code c] (fun e s'=>match e with| .normal=>∃m' s'',m'<m∧AWk n N s' s''∧I m' s''|e=>AX P φ n N Q k e s') s):
  AK P φ n N (.code (.loop c)::k) Q s:=fun E w a hs=>by
 classical
 let M (a:Act) (w':World) (m:Nat):Prop:=∃s' E',I m s'∧Yn φ.B n N s' E' a w'∧Ext n E w E' w'
 let μ (a:Act) (w':World):Nat:=if h:∃m,M a w' m then Classical.choose (least h)else 0
 obtain⟨E0,hs0,hx0⟩:=hw _ E w a hs;refine wpIn_loop (fun a w'=>∃m,M a w' m) μ ⟨m0,s0,E0,h0,hs0,hx0⟩ ?_;intro a' w' hM;have hμ:μ a' w'=Classical.choose (least hM):=dif_pos hM;obtain⟨s',E',hI,hs',hx'⟩:=(G7 (least hM)).1;refine wpIn_mono (round _ s' hI E' w' a' hs') ?_;rintro e a2 w2 ⟨s2,E2,hQ,hs2,hx2⟩;cases e with
 |normal=>
  obtain⟨m',s3,hm',hwk,hI3⟩:=hQ;obtain⟨E3,hs3,hx3⟩:=hwk _ E2 w2 a2 hs2;have hM2:M a2 w2 m':=⟨s3,E3,hI3,hs3,hx'.trans (hx2.trans hx3)⟩
  have hex:∃m,M a2 w2 m:=⟨m',hM2⟩
  refine⟨hex,?_⟩;have:μ a2 w2=Classical.choose (least hex):=dif_pos hex;rw[this,hμ];exact Nat.lt_of_le_of_lt ((G7 (least hex)).2 _ hM2) hm'
 |_=>exact⟨s2,E2,hQ,hs2,hx'.trans hx2⟩
variable {Q:Exit→Zb→Prop}
theorem ZlM{P:Program}{φ:Fm}{c:Code}{k:List Itm}{s:Zb}(S:Nat→Zb)(M:Nat)(hw:AWk n N s (S 0))
  (round:∀i,i≤M→AK P φ n N [.code c] (fun e s'=>match e with| .normal=>i<M∧AWk n N s' (S (i+1))|e=>AX P φ n N Q k e s') (S i)):
  AK P φ n N (.code (.loop c)::k) Q s:=by
 refine Zmm (fun m s=>∃i,i≤M∧m=M - i∧s=S i) hw ⟨0,Un _,rfl,rfl⟩ ?_;rintro m s ⟨i,hi,rfl,rfl⟩;refine Zad ?_ (round i hi);intro e s' hq;cases e with
 |normal=>exact⟨M - (i+1),S (i+1),om,hq.2,i+1,om,rfl,rfl⟩
 |_=>exact hq
theorem AWk.refl(n N:Nat)(s:Zb):AWk n N s s:=fun B E w a hs=>⟨E,hs,.refl n E w⟩
theorem AWk.trans{n N:Nat}{s t u:Zb}(h:AWk n N s t)(h':AWk n N t u):AWk n N s u:=fun B E w a hs=>by
 obtain⟨E1,h1,x1⟩:=h B E w a hs;obtain⟨E2,h2,x2⟩:=h' B E1 w a h1;exact⟨E2,h2,x1.trans x2⟩
theorem ZqC{P:Program}{φ:Fm}{c:Code}{k:List Itm}{s s':Zb}(hw:AWk n N s s')(h:AK P φ n N (.code c::k) Q s'):AK P φ n N (.code c::k) Q s:=Zrd hw h
theorem Zpe(i:Nat)(v:AV)(r:List (Nat×AV))(t:Nat):lkv ((i,v)::r) t=if i=t then v else lkv r t:=rfl
variable {j:Nat}
theorem Zcb{t l k0:Nat}(e k:Nat)(mb:Bool)(hl:l≤n)(ht:lkv tm t= .sl k0 [] .full)(hj:full n L H l j=none):
  AWk n N ⟨tm,L,H⟩ ⟨(t,if mb then .msl k l j 0 else .sl k [] (.buf l j))::tm,Zdf n L l j (if mb then .Zg e k [] 0 else .buf e k 0),setH n H l j (if mb then .Zg e k [] 0 else .buf e k 0)⟩:=fun B E w a hs=>by
 have h:=hs.heap;have hval:∃ad,a.tmps.getD t undef= .slice ad 0 0∧ ∀x,ad=some x→x.spot=none:=by
  have:=hs.tmps t;simp only[ht]at this;generalize a.tmps.getD t undef=x at this;cases this with
  |slnil _ _ a ho ha=>obtain rfl:=ha sm;exact⟨none,rfl,fun _ e=>by cases e⟩
  |sl _ _ _ b off cap c hk hc hv hcap hm ho=>
   have:cap=0:=ho;subst this;exact⟨_,rfl,fun _ e=>by cases e;rfl⟩
 obtain⟨ad,hval,hsp⟩:=hval;obtain⟨hh,hx⟩:=h.adopt (show l<n+1 by omega) hj ad e k mb;refine⟨E.Yw l j (.slice ad 0 0),⟨hs.size,hs.defs.ext hx,fun t'=>?_,?_,?_⟩,hx.mono (Uj n)⟩
 ·show VR _ (lkv (_::tm) t') _;rw[Zpe];by_cases hc:t=t'
  ·subst hc;rw[if_pos rfl,hval];cases mb with
   |true=>exact .mnil _ _ _ _ (by simp[Env.Yw]) hsp
   |false=>
    have:=hs.tmps t;simp only[ht,hval]at this;cases this with
    |slnil _ _ _ ho ha=>exact .slnil k _ _ (by simp[Zaj,Env.Yw]) (fun _=>ha sm)
    |sl _ _ _ b off cap c hk hc hv hcap hm ho=>exact .sl k [] _ b off 0 c (fun i h=>absurd h (Qm _)) (fun i j h=>absurd h (Qm _)) (fun i h=>absurd h (Qm _)) (Qe _) hm (by simp[Zaj,Env.Yw])
  ·rw[if_neg hc];exact(hs.tmps t').mono h.norm hx.le
 ·show Zt (n+1) (full n (Zdf n L l j _) (setH n H l j _)) _ _;rw[Jt];exact hh
 ·intro l' k' b hl' hb;simp only[setH]at hb;split at hb
  ·exact hs.out l' k' b hl' hb
  ·simp only[Za.upd]at hb;split at hb
   ·simp only[Qq]at hb;subst hb;cases mb<;>exact⟨by simp[Ze.avs],by simp[Ze.at_]⟩
   ·exact hs.out l' k' b hl' hb
def delb:List (Nat×Ze)→Nat→List (Nat×Ze)
 |[],_=>[]
 |(i,b)::r,j=>if i=j then delb r j else(i,b)::delb r j
theorem lkb_delb:∀(L:List (Nat×Ze)) (j t:Nat),lkb (delb L j) t=if t=j then none else lkb L t
 |[],j,t=>by simp[delb,lkb]
 |(i,b)::r,j,t=>by
  simp only[delb];by_cases hi:i=j
  ·subst hi;rw[if_pos rfl,lkb_delb r i t];by_cases ht:t=i
   ·rw[if_pos ht,if_pos ht]
   ·rw[if_neg ht,if_neg ht];simp only[lkb];rw[if_neg (fun e=>ht e.symm)]
  ·rw[if_neg hi];simp only[lkb];rw[lkb_delb r j t];by_cases ht:i=t
   ·subst ht;rw[if_pos rfl,if_pos rfl,if_neg hi]
   ·rw[if_neg ht,if_neg ht]
def Env.freeze(E:Env)(n j:Nat)(r:Option (Nat×List Value)):Env where
 F:=fun b o=>match r with
  |some (b0,c)=>if b=b0 then c[o]? else E.F b o
  |none=>E.F b o
 m:=fun l k=>if l=n∧k=j then none else E.m l k
 hist:=fun l k i=>if l=n∧k=j then none else E.hist l k i
 g:=fun l k=>if l=n∧k=j then none else E.g l k
 qd:=E.qd
theorem Zt.freeze{n:Nat}{L:List (Nat×Ze)}{H:Za}{E:Env}{w:World}(h:Zt (n+1) (full n L H) E w){j:Nat}(r:Option (Nat×List Value))(hL:∀p∈delb L j,p.2.Inside n (fun k=>k≠j))
  (hH:∀l k b,l<n→H l k=some b→b.Below n) (hr:∀b0 c,r=some (b0,c)→(E.m n j=some b0∨E.g n j=some b0)∧(∀o,E.F b0 o=none)∧ ∀o u,c[o]? =some u→w.cell? ⟨b0,o,none⟩=some u)
  (hvr:∀a v,Inside n (fun k=>k≠j) a→VR E a v→VR (E.freeze n j r) a v):
  Zt (n+1) (full n (delb L j) H) (E.freeze n j r) w∧Ext n E w (E.freeze n j r) w:=by
 have hm':∀l k b,(E.freeze n j r).m l k=some b→ ¬(l=n∧k=j)∧E.m l k=some b:=fun l k b hm=>by
  simp only[Env.freeze]at hm;split at hm
  ·cases hm
  ·exact⟨‹_›,hm⟩
 have hg':∀l k b,(E.freeze n j r).g l k=some b→ ¬(l=n∧k=j)∧E.g l k=some b:=fun l k b hm=>by
  simp only[Env.freeze]at hm;split at hm
  ·cases hm
  ·exact⟨‹_›,hm⟩
 have hF':∀b o u,E.F b o=some u→(E.freeze n j r).F b o=some u:=fun b o u hu=>by
  simp only[Env.freeze];cases r with
  |none=>exact hu
  |some q=>
   obtain⟨b0,c⟩:=q;dsimp only;split
   ·rename_i e;subst e;rw[(hr b c rfl).2.1 o]at hu;cases hu
   ·exact hu
 have hne:∀b0 c,r=some (b0,c)→ ∀l k b,(E.m l k=some b∨E.g l k=some b)→ ¬(l=n∧k=j)→b≠b0:=fun b0 c e l k b hb hc e'=>by
  subst e';rcases hb with hb|hb<;>rcases(hr b c e).1 with h0|h0
  ·exact hc (h.inj _ _ _ _ _ hb h0)
  ·exact h.mg _ _ _ _ _ hb h0
  ·exact h.mg _ _ _ _ _ h0 hb
  ·exact hc (h.injg _ _ _ _ _ hb h0)
 have hFn:∀l k g,(E.m l k=some g∨E.g l k=some g)→ ¬(l=n∧k=j)→ ∀o,(E.freeze n j r).F g o=E.F g o:=fun l k g hg hc o=>by
  simp only[Env.freeze];cases r with
  |none=>rfl
  |some q=>
   obtain⟨b0,c⟩:=q;dsimp only;rw[if_neg (hne b0 c rfl l k g hg hc)]
 have hfull:∀l k,¬(l=n∧k=j)→full n (delb L j) H l k=full n L H l k:=fun l k hc=>by
  simp only[full];by_cases hl:l=n
  ·rw[if_pos hl,if_pos hl,lkb_delb,if_neg (fun e=>hc ⟨hl,e⟩)]
  ·rw[if_neg hl,if_neg hl]
 have hgone:full n (delb L j) H n j=none:=by simp only[full,if_true,lkb_delb]
 have hin:∀l k b,l<n+1→ ¬(l=n∧k=j)→full n (delb L j) H l k=some b→b.Inside n (fun k=>k≠j):=fun l k b hl hc hb=>by
  simp only[full]at hb;split at hb
  ·exact hL _ (lkb_mem hb)
  ·exact(hH l k b om hb).inside
 refine⟨{norm:=⟨fun l k hl=>?_,fun l k hl=>?_,fun l k i hl=>?_⟩,F:=fun b o u hu=>?_,blk:=fun l k b hl hb=>?_,dom:=fun l k hl hb=>?_,nobuf:=fun l k hg=>?_,inj:=?_,injg:=?_,mg:=?_,mF:=fun l k b o x1=>?_,lt:=fun b hb=>?_},
  ⟨⟨hF',fun l k b hl hm=>?_,fun l k i u hl hu=>?_,rfl⟩,rfl,rfl,rfl,fun _=>Qe _,Qe _,fun _ _ _=>rfl,fun b _ ho=>?_⟩⟩
 ·simp only[Env.freeze];split
  ·rfl
  ·exact h.norm.m l k hl
 ·simp only[Env.freeze];split
  ·rfl
  ·exact h.norm.g l k hl
 ·simp only[Env.freeze];split
  ·rfl
  ·exact h.norm.hist l k i hl
 ·simp only[Env.freeze]at hu;cases r with
  |none=>exact h.F b o u hu
  |some q=>
   obtain⟨b0,c⟩:=q;dsimp only at hu;split at hu
   ·rename_i e;subst e;exact(hr b c rfl).2.2 o u hu
   ·exact h.F b o u hu
 ·by_cases hc:l=n∧k=j
  ·obtain⟨rfl,rfl⟩:=hc;rw[hgone]at hb;cases hb
  ·have hi:=hin l k b hl hc hb;rw[hfull l k hc]at hb;refine(h.blk l k b hl hb).keep (by simp only[Env.freeze];rw[if_neg hc]) (by simp only[Env.freeze];rw[if_neg hc]) (fun i=>by simp only[Env.freeze];rw[if_neg hc]) (fun q hq r hr=>?_) (fun _ _=>rfl) (fun g o hg hf=>by rw[hFn l k g (.inr hg) hc];exact hf) (fun a ha v hv=>hvr a v (hi.1 a ha) hv);simp only[Env.freeze];rw[if_neg];exact hr;rintro⟨e1,e2⟩;rcases hi.2 q hq with h'|h'
   ·omega
   ·exact h'.2 e2
 ·by_cases hc:l=n∧k=j
  ·simp only[Env.freeze,if_pos hc];exact⟨trivial,trivial,fun _=>trivial⟩
  ·rw[hfull l k hc]at hb;simp only[Env.freeze,if_neg hc];exact h.dom l k hl hb
 ·cases hx:(E.freeze n j r).g l k with
  |none=>exact absurd hx hg
  |some b=>
   obtain⟨hc,hgg⟩:=hg' l k b hx;rw[hfull l k hc];exact h.nobuf l k (by rw[hgg];simp)
 ·exact fun l k l' k' b x1 x2=>h.inj _ _ _ _ _ (hm' _ _ _ x1).2 (hm' _ _ _ x2).2
 ·exact fun l k l' k' b x1 x2=>h.injg _ _ _ _ _ (hg' _ _ _ x1).2 (hg' _ _ _ x2).2
 ·exact fun l k l' k' b x1 x2=>h.mg _ _ _ _ _ (hm' _ _ _ x1).2 (hg' _ _ _ x2).2
 ·obtain⟨hc,hm⟩:=hm' _ _ _ x1;rw[hFn l k b (.inl hm) hc];exact h.mF _ _ _ _ hm
 ·rcases hb with⟨l,k,hm⟩|⟨l,k,hm⟩
  ·exact h.lt b (.inl ⟨l,k,(hm' _ _ _ hm).2⟩)
  ·exact h.lt b (.inr ⟨l,k,(hg' _ _ _ hm).2⟩)
 ·simp only[Env.freeze];rw[if_neg (fun hc=>by omega)];exact hm
 ·simp only[Env.freeze];rw[if_neg (fun hc=>by omega)];exact hu
 ·rcases ho with⟨l,k,hm⟩|⟨l,k,hm⟩
  ·exact .inl ⟨l,k,(hm' _ _ _ hm).2⟩
  ·exact .inr ⟨l,k,(hg' _ _ _ hm).2⟩
theorem VR.freeze{n j:Nat}{E:Env}{r:Option (Nat×List Value)}(hF:∀b o u,E.F b o=some u→(E.freeze n j r).F b o=some u){a:AV}{v:Value}(hv:VR E a v)(hb:Inside n (fun k=>k≠j) a):VR (E.freeze n j r) a v:=by
 have keep:∀l k,(l<n∨(l=n∧k≠j))→ ¬(l=n∧k=j):=fun l k h hc=>by
  rcases h with h|h
  ·omega
  ·exact h.2 hc.2
 induction hv with
 |int k n=>exact .int k n
 |bool b=>exact .bool b
 |str l=>exact .str l
 |nilp=>exact .nilp
 |ptr l k off b hm=>cases hb with|ptr _ _ _ hl=>exact .ptr l k off b (by simp only[Env.freeze,if_neg (keep _ _ hl)];exact hm)
 |iptr cs b off c hc _ ih=>cases hb with|iptr _ hb=>exact .iptr cs b off c (fun j hj=>hF _ _ _ (hc j hj)) (fun j h=>ih j h (hb j h))
 |slnil k o a ho ha=>
  cases hb with
  |sl _ _ _ _ hb=>
   refine .slnil k o a ?_ ha;cases o with
   |any=>trivial
   |full=>exact ho
   |buf l i=>simp only[Zaj,Env.freeze,if_neg (keep _ _ (hb l i rfl))];exact ho
 |sl k xs o b off cap c hk hc _ hcap hm ho ih=>
  cases hb with
  |sl _ _ _ hx hb=>
   refine .sl k xs o b off cap c hk (fun i j hi hj=>hF _ _ _ (hc i j hi hj)) (fun i h j h'=>ih i h j h' (hx i h j h')) hcap hm ?_;cases o with
   |any=>trivial
   |full=>exact ho
   |buf l i=>simp only[Zaj,Env.freeze,if_neg (keep _ _ (hb l i rfl))];exact ho
 |nilf=>exact .nilf
 |fn f caps vs hl _ ih=>cases hb with|fn _ _ hb=>exact .fn f caps vs hl (fun i h h'=>ih i h h' (hb i h))
 |bfn f caps vs hl _ ih=>cases hb with|bfn _ _ hb=>exact .bfn f caps vs hl (fun i h h'=>ih i h h' (hb i h))
 |nilm=>exact .nilm
 |map l k b hm=>cases hb with|map _ _ hl=>exact .map l k b (by simp only[Env.freeze,if_neg (keep _ _ hl)];exact hm)
 |mnil sz l k a hh ha=>cases hb with|msl _ _ _ _ hl=>exact .mnil _ _ _ _ (by simp only[Env.freeze,if_neg (keep _ _ hl)];exact hh) ha
 |msl sz l k i g cap hh=>cases hb with|msl _ _ _ _ hl=>exact .msl _ _ _ _ _ _ (by simp only[Env.freeze,if_neg (keep _ _ hl)];exact hh)
 |eptr l k i off g cap hh=>cases hb with|eptr _ _ _ _ hl=>exact .eptr _ _ _ _ _ _ (by simp only[Env.freeze,if_neg (keep _ _ hl)];exact hh)
 |ssl k xs ys b off cap c hk hc _ hcap hm ih=>cases hb with|ssl _ _ _ hx=>exact .ssl k xs ys b off cap c hk (fun i j hi hj=>hF _ _ _ (hc i j hi hj)) (fun i h j h'=>ih i h j h' (hx i h j h')) hcap hm
 |nili=>exact .nili
 |Xg=>exact .Xg
 |sln k a cap hc=>exact .sln k a cap hc
 |sub sz l k i off m g cap hh hm=>cases hb with|sub _ _ _ _ _ _ hl=>exact .sub _ _ _ _ _ _ _ _ (by simp only[Env.freeze,if_neg (keep _ _ hl)];exact hh) hm
 |ifc t a v _ ih=>cases hb with|ifc _ _ hb=>exact .ifc t a v (ih hb)
 |agg cs vs hl _ ih=>cases hb with|agg _ hb=>exact .agg cs vs hl (fun i h h'=>ih i h h' (hb i h))
 |tup cs vs hl _ ih=>cases hb with|tup _ hb=>exact .tup cs vs hl (fun i h h'=>ih i h h' (hb i h))
 |dead v=>exact .dead v
variable {cs:List AV}
theorem ZfS(hb:lkb L j=some (.box cs))(hcs:∀c∈cs,Inside n (fun k=>k≠j) c)
  (h1:∀p∈tm',(Wk (lkv tm p.1) p.2∧Inside n (fun k=>k≠j) (lkv tm p.1))∨ ∃off,lkv tm p.1= .ptr n j off∧p.2= .iptr (cs.drop off)) (hL:∀p∈delb L j,p.2.Inside n (fun k=>k≠j)):AWk n N ⟨tm,L,H⟩ ⟨tm',delb L j,H⟩:=fun B E w a hs=>by
 have h:=hs.heap;obtain⟨b0,hm0,c,t,hc,hv⟩:=h.box n j cs (Qr n) (by simp only[full,if_true];exact hb);have hcell:∀o u,c.toList[o]? =some u→w.cell? ⟨b0,o,none⟩=some u:=fun o u hu=>by simp only[World.cell?,hc];simpa using hu
 have hF':∀b o u,E.F b o=some u→(E.freeze n j (some (b0,c.toList))).F b o=some u:=fun b o u hu=>by
  simp only[Env.freeze];split
  ·rename_i e;subst e;rw[h.mF _ _ _ o hm0]at hu;cases hu
  ·exact hu
 obtain⟨hh,hx⟩:=h.freeze (j:=j) (some (b0,c.toList)) hL hs.out (fun b c' e=>by cases e;exact⟨.inl hm0,fun o=>h.mF _ _ _ o hm0,hcell⟩) (fun a v ha hv=>hv.freeze hF' ha);refine⟨_,⟨hs.size,hs.defs.ext hx,fun t'=>?_,hh,hs.out⟩,hx⟩;show VR _ (lkv tm' t') _;rcases lkv_mem (tm:=tm') (t:=t')with hd|hmm
 ·rw[hd];exact .dead _
 ·have ht:=hs.tmps t';rcases h1 _ hmm with⟨w1,w2⟩|⟨off,w1,w2⟩
  ·exact w1.vr (ht.freeze hF' w2)
  ·dsimp only at w1 w2 ht;rw[w1]at ht;rw[w2];generalize a.tmps.getD t' undef=x at ht;cases ht with|ptr _ _ _ b hm=>
   rw[hm0]at hm;cases hm;refine .iptr _ b0 off (fun i=>(c.toList.getD (off+i) undef)) (fun i hi=>?_) (fun i hi=>?_)
   ·simp only[QL]at hi;have hlt:off+i<c.toList.length:=by rw[hv.1];omega
    simp only[Env.freeze,if_true,Qp,Qd hlt,Um]
   ·simp only[QL]at hi;have hlt:off+i<c.toList.length:=by rw[hv.1];omega
    simp only[Qaa,Qp,Qd hlt,Um];exact(hv.2 (off+i) om hlt).freeze hF' (hcs _ (Qa _))
theorem VR.part{E:Env}{k:Nat}{xs:List AV}{b cap:Nat}{cs:List Value}(hk:∀x∈xs,x.cells.length=k)(hv:VRs E (flat xs) cs)(hF:∀j u,cs[j]? =some u→E.F b j=some u)(hcap:xs.length≤cap)(hm:xs.length≤maxLen)(o m:Nat)(hom:o+m≤xs.length):
  VR E (.sl k ((xs.drop o).take m) .any) (.slice (some ⟨b,o*k,none⟩) m (cap - o)):=by
 have hlen:((xs.drop o).take m).length=m:=by simp;omega
 have hx:∀y∈(xs.drop o).take m,y.cells.length=k:=fun y hy=>hk y (U8 (UM hy))
 have hflat:flat ((xs.drop o).take m)=((flat xs).drop (o*k)).take (m*k):=by rw[Zez (fun y hy=>hk y (U8 hy)),Zca hk]
 have:=VR.WW (E:=E) (k:=k) (xs:=(xs.drop o).take m) (o:=.any) (b:=b) (off:=o*k) (cap:=cap - o) (cs:=(cs.drop (o*k)).take (m*k)) hx (by rw[hflat];exact(hv.drop _).take _) (fun j u hj=>by
  rw[UG]at hj;split at hj
  ·rw[UC]at hj;exact hF _ _ hj
  ·cases hj) om om trivial
 rw[hlen]at this;exact this
variable {e sz i:Nat}
theorem ZfC(xs:List AV)(hb:lkb L j=some (.Zg e sz cs i))(hfl:flat xs=cs)(hxl:xs.length=i)(hxk:∀x∈xs,x.cells.length=sz)(hcs:∀c∈cs,Inside n (fun k=>k≠j) c)
  (h1:∀p∈tm',(Wk (lkv tm p.1) p.2∧Inside n (fun k=>k≠j) (lkv tm p.1))∨(∃sz0,lkv tm p.1= .msl sz0 n j i∧p.2= .sl sz xs .any)∨(∃o m,lkv tm p.1= .sub sz n j i o m∧p.2= .sl sz ((xs.drop o).take m) .any)) (hL:∀p∈delb L j,p.2.Inside n (fun k=>k≠j)):∀B E w a,Yn B n N ⟨tm,L,H⟩ E a w→ ∃o,Yn B n N ⟨tm',delb L j,H⟩ (E.freeze n j o) a w∧Ext n E w (E.freeze n j o) w:=fun B E w a hs=>by
 have h:=hs.heap;obtain⟨⟨h0,v0,hv0,hj0,hr0⟩,hm0⟩:=h.Zg n j e sz cs i (Qr n) (by simp only[full,if_true];exact hb);subst hxl;rcases hr0 with⟨ad,q1,q2,q3⟩|⟨g,cap,cur,q1,q2,q3,q4,q5,q6,q7,q8⟩
 ·have hF':∀b o u,E.F b o=some u→(E.freeze n j none).F b o=some u:=fun b o u hu=>hu
  obtain⟨hh,hx⟩:=h.freeze (j:=j) none hL hs.out (fun b c' e=>by cases e) (fun a v ha hv=>hv.freeze hF' ha);refine⟨_,⟨hs.size,hs.defs.ext hx,fun t'=>?_,hh,hs.out⟩,hx⟩;show VR _ (lkv tm' t') _;rcases lkv_mem (tm:=tm') (t:=t')with hd|hmm
  ·rw[hd];exact .dead _
  ·have ht:=hs.tmps t';rcases h1 _ hmm with⟨w1,w2⟩|⟨sz0,w1,w2⟩|⟨o,m,w1,w2⟩
   ·exact w1.vr (ht.freeze hF' w2)
   ·dsimp only at w1 w2 ht;rw[w1]at ht;rw[w2];have ex:xs=[]:=Uc q2;subst ex;generalize a.tmps.getD t' undef=x at ht;cases ht with
    |mnil _ _ _ a' hh' hsp=>
     cases a' with
     |none=>exact .slnil _ _ none trivial (fun _=>rfl)
     |some ad'=>
      obtain⟨b',off',sp⟩:=ad';have hsp':sp=none:=hsp _ rfl;subst hsp';exact VR.sl sz [] .any b' off' 0 (fun _ _=>undef) (fun i h=>absurd h (Qm _)) (fun i j h=>absurd h (Qm _)) (fun i h=>absurd h (Qm _)) (Qe _) (Un _) trivial
    |msl _ _ _ _ g cap hh'=>
     simp only[QB]at hv0 hh'⊢;rw[hv0,q1]at hh';simp only[Qq,Value.slice.injEq]at hh';obtain⟨_,_,rfl⟩:=hh';exact VR.sl sz [] .any g 0 0 (fun _ _=>undef) (fun i h=>absurd h (Qm _)) (fun i j h=>absurd h (Qm _)) (fun i h=>absurd h (Qm _)) (Qe _) (Un _) trivial
   ·dsimp only at w1 w2 ht;rw[w1]at ht;rw[w2];have ex:xs=[]:=Uc q2;subst ex;generalize a.tmps.getD t' undef=x at ht;cases ht with
    |sub _ _ _ _ _ _ g cap hh' hm=>
     simp only[QB]at hv0 hh' hm⊢;rw[hv0,q1]at hh';simp only[Qq,Value.slice.injEq]at hh';obtain⟨_,_,rfl⟩:=hh';have h1:o=0:=by omega
     have h2:m=0:=by omega
     subst h1 h2;simp only[List.drop_nil,List.take_nil,Gq];exact VR.sl sz [] .any g 0 0 (fun _ _=>undef) (fun i h=>absurd h (Qm _)) (fun i j h=>absurd h (Qm _)) (fun i h=>absurd h (Qm _)) (Qe _) (Un _) trivial
 ·have hle:xs.length*sz≤cap*sz:=QD _ q4;have hcell:∀o u,(cur.toList.take (xs.length*sz))[o]? =some u→w.cell? ⟨g,o,none⟩=some u:=fun o u hu=>by
   simp only[World.cell?,q3];rcases Qg o (xs.length*sz)with h|h
   ·rw[QV h]at hu;simpa using hu
   ·rw[UG,if_neg om]at hu;cases hu
  have hF':∀b o u,E.F b o=some u→(E.freeze n j (some (g,cur.toList.take (xs.length*sz)))).F b o=some u:=fun b o u hu=>by
   simp only[Env.freeze];split
   ·rename_i e;subst e;rw[q7 o]at hu;cases hu
   ·exact hu
  obtain⟨hh,hx⟩:=h.freeze (j:=j) (some (g,cur.toList.take (xs.length*sz))) hL hs.out (fun b c' e=>by cases e;exact⟨.inr q2,q7,hcell⟩) (fun a v ha hv=>hv.freeze hF' ha);refine⟨_,⟨hs.size,hs.defs.ext hx,fun t'=>?_,hh,hs.out⟩,hx⟩;show VR _ (lkv tm' t') _;rcases lkv_mem (tm:=tm') (t:=t')with hd|hmm
  ·rw[hd];exact .dead _
  ·have ht:=hs.tmps t';rcases h1 _ hmm with⟨w1,w2⟩|⟨sz0,w1,w2⟩|⟨o,m,w1,w2⟩
   ·exact w1.vr (ht.freeze hF' w2)
   ·dsimp only at w1 w2 ht;rw[w1]at ht;rw[w2];have hval:a.tmps.getD t' undef=v0:=by
     generalize a.tmps.getD t' undef=x at ht;generalize hi0:xs.length=i0 at ht hv0;cases ht with
     |mnil _ _ _ a' hh' _=>rw[hv0]at hh';exact(UO hh').symm
     |msl _ _ _ _ g' cap' hh'=>rw[hv0]at hh';exact(UO hh').symm
    rw[hval,q1];have hv2:VRs (E.freeze n j (some (g,cur.toList.take (xs.length*sz)))) (flat xs) (cur.toList.take (xs.length*sz)):=by
     rw[hfl];exact⟨q8.1,fun i x y=>(q8.2 i x y).freeze hF' (hcs _ (Qa _))⟩
    exact VR.WW (o:=.any) (b:=g) (off:=0) (cap:=cap) hxk hv2 (fun i u hi=>by simp only[Env.freeze,if_true,QF];exact hi) q4 om trivial
   ·dsimp only at w1 w2 ht;rw[w1]at ht;rw[w2];generalize a.tmps.getD t' undef=x at ht;generalize hi0:xs.length=i0 at ht hv0;cases ht with
    |sub _ _ _ _ _ _ g' cap' hh' hm=>
     subst hi0;rw[hv0,q1]at hh';simp only[Qq,Value.slice.injEq,Addr.mk.injEq]at hh';obtain⟨⟨rfl,_,_⟩,_,rfl⟩:=hh';have hv2:VRs (E.freeze n j (some (g,cur.toList.take (xs.length*sz)))) (flat xs) (cur.toList.take (xs.length*sz)):=by
      rw[hfl];exact⟨q8.1,fun i x y=>(q8.2 i x y).freeze hF' (hcs _ (Qa _))⟩
     exact VR.part (b:=g) (cap:=cap) hxk hv2 (fun i u hi=>by simp only[Env.freeze,if_true];exact hi) q4 om o m hm
theorem JR(xs:List AV)(hb:lkb L j=some (.Zg e sz cs i))(hfl:flat xs=cs)(hxl:xs.length=i)(hxk:∀x∈xs,x.cells.length=sz)(hcs:∀c∈cs,Inside n (fun k=>k≠j) c)
  (h1:∀p∈tm',(Wk (lkv tm p.1) p.2∧Inside n (fun k=>k≠j) (lkv tm p.1))∨(∃sz0,lkv tm p.1= .msl sz0 n j i∧p.2= .sl sz xs .any)∨(∃o m,lkv tm p.1= .sub sz n j i o m∧p.2= .sl sz ((xs.drop o).take m) .any)) (hL:∀p∈delb L j,p.2.Inside n (fun k=>k≠j)):AWk n N ⟨tm,L,H⟩ ⟨tm',delb L j,H⟩:=fun B E w a hs=>by
 obtain⟨o,h⟩:=ZfC xs hb hfl hxl hxk hcs h1 hL B E w a hs;exact⟨_,h⟩
theorem Xp(xs:List AV)(hb:lkb L j=some (.Zg e sz cs i))(hfl:flat xs=cs)(hxl:xs.length=i)(hxk:∀x∈xs,x.cells.length=sz)(hcs:∀c∈cs,Inside n (fun k=>k≠j) c)
  (h1:∀p∈tm',(Wk (lkv tm p.1) p.2∧Inside n (fun k=>k≠j) (lkv tm p.1))∨(∃sz0,lkv tm p.1= .msl sz0 n j i∧p.2= .sl sz xs .any)) (hL:∀p∈delb L j,p.2.Inside n (fun k=>k≠j)):AWk n N ⟨tm,L,H⟩ ⟨tm',delb L j,H⟩:=
 JR xs hb hfl hxl hxk hcs (fun p hp=>(h1 p hp).imp id .inl) hL
end
def AKc(cx:Cx)(k:List Itm)(Q:Exit→Zb→Prop)(s:Zb):Prop:=AK cx.P cx.φ cx.n cx.N k Q s
def ZQ(fn:Func):Code:=match fn.body with
 |some c=>c
 |none=>.skip
theorem Zf {P : Program} {f : FuncId} {fn : Func} (h : P.funcs[f]? = some fn) (hb : fn.body.isSome = true) (hn : (fn.name == "runtime.NumGoroutine") = false) : Fun P f fn (ZQ fn) :=
 ⟨h,by unfold ZQ;cases hx:fn.body with
  |none=>rw[hx]at hb;cases hb
  |some c=>rfl,hn⟩
def _root_.Go.Code.fst:Code→Code
 | .seq a _=>a
 | .cond _ a _=>a
 | .block _ a=>a
 | .loop a=>a
 | .scope a=>a
 | .rangeFunc _ _ a _=>a
 |c=>c
def _root_.Go.Code.snd:Code→Code
 | .seq _ b=>b
 | .rangeFunc _ _ _ b=>b
 | .cond _ _ b=>b
 |c=>c
def plainO:Opt:=⟨false,false,fun _=>.auto,[]⟩
def drawO:Opt:=⟨true,false,fun _=>.auto,[]⟩
theorem Zod(cx:Cx)(op:Opt)(all:List Oper)(k:List Itm)(Q:Exit→Zb→Prop)(s:Zb):Y2 cx op all k Q [] s=AKc cx k Q s:=rfl
theorem ZlB(cx:Cx)(op:Opt)(all:List Oper)(k:List Itm)(Q:Exit→Zb→Prop)(o:Oper)(r:List Oper)(s:Zb):Y2 cx op all k Q (o::r) s=match o.guard with
  |none=>VT cx op o s (Y2 cx op all k Q r)
  |some (j,want)=>match X3 all j with
   |none=>Y2 cx op all k Q r ⟨Yl s.tmps o.dst (.tup []),s.L,s.H⟩
   |some d=>vcG cx op o s (Y2 cx op all k Q r) want (lkv s.tmps d):=rfl
theorem ZrK(cx:Cx)(op:Opt)(o:Oper)(s:Zb)(F:Zb→Prop):vcG cx op o s F true (.bool true)=VT cx op o s F:=rfl
theorem Zsr(cx:Cx)(op:Opt)(o:Oper)(s:Zb)(F:Zb→Prop):vcG cx op o s F false (.bool false)=VT cx op o s F:=rfl
theorem ZsB(cx:Cx)(op:Opt)(o:Oper)(s:Zb)(F:Zb→Prop):vcG cx op o s F true (.bool false)=F ⟨Yl s.tmps o.dst (.tup []),s.L,s.H⟩:=rfl
theorem Zsk(cx:Cx)(op:Opt)(o:Oper)(s:Zb)(F:Zb→Prop):vcG cx op o s F false (.bool true)=F ⟨Yl s.tmps o.dst (.tup []),s.L,s.H⟩:=rfl
theorem Zso(cx:Cx)(op:Opt)(o:Oper)(s:Zb)(F:Zb→Prop)(w:Bool):vcG cx op o s F w (.tup [])=F ⟨Yl s.tmps o.dst (.tup []),s.L,s.H⟩:=rfl
section
variable {F:Zb→Prop} {s:Zb} {o:Oper} {cx:Cx}
theorem VW{op:Opt}{want:Bool}(b:Bool)(ht:b=true→vcG cx op o s F want (.bool b))(hf:b=false→vcG cx op o s F want (.bool b)):vcG cx op o s F want (.bool b):=by
 cases b
 ·exact hf rfl
 ·exact ht rfl
section
variable {cx:Cx} {k k':List Itm} {Q:Exit→Zb→Prop} {s:Zb} {c:Code}
theorem Zuk(h:Q .normal s):AKc cx [] Q s:=h
theorem ZbZ(hc:c= .seq c.fst c.snd)(h:AKc cx (.code c.fst:: .code c.snd::k) Q s):AKc cx (.code c::k) Q s:=by rw[hc];exact ZrW h
theorem Zqh{id:Nat}(hc:c= .block id c.fst)(h:AKc cx (.code c.fst:: .blk id::k) Q s):AKc cx (.code c::k) Q s:=by rw[hc];exact Zp5 h
theorem Wq(hc:c= .skip)(h:AKc cx k Q s):AKc cx (.code c::k) Q s:=by rw[hc];exact ZqF h
theorem Zs8{id:Nat}(h:AKc cx k Q s):AKc cx (.blk id::k) Q s:=Zsl h
theorem ZsJ{id:Nat}(hc:c= .exit id)(hp:VQ id k=some k')(h:AKc cx k' Q s):AKc cx (.code c::k) Q s:=by rw[hc];exact ZqX hp h
theorem ZgS(hc:c= .ret)(h:Q .ret s):AKc cx (.code c::k) Q s:=by rw[hc];exact ZpC h
theorem Zqb{o:Operand}(hc:c= .cond o c.fst c.snd)(ho:evT s.tmps o= .bool true)(h:AKc cx (.code c.fst::k) Q s):AKc cx (.code c::k) Q s:=by
 rw[hc];exact Zm5 ho (fun _=>h) (fun h=>by cases h)
theorem ZpD{o:Operand}(hc:c= .cond o c.fst c.snd)(ho:evT s.tmps o= .bool false)(h:AKc cx (.code c.snd::k) Q s):AKc cx (.code c::k) Q s:=by
 rw[hc];exact Zm5 ho (fun h=>by cases h) (fun _=>h)
theorem ZoI(hT:TOK cx.P cx.T){id:Nat}{ops:Array Oper}(hc:c= .region id ops false)(hd:X4 cx.N ops.toList=true)(h:Y2 cx plainO ops.toList k Q ops.toList s):AKc cx (.code c::k) Q s:=by
 rw[hc];exact ZhS hT hd plainO rfl h
theorem YK(hT:TOK cx.P cx.T)(op:Opt)(hop:op.dr=false){id:Nat}{ops:Array Oper}(hc:c= .region id ops false)(hd:X4 cx.N ops.toList=true)(h:Y2 cx op ops.toList k Q ops.toList s):AKc cx (.code c::k) Q s:=by
 rw[hc];exact ZhS hT hd op hop h
theorem Zan(hT:TOK cx.P cx.T)(hm:cx.P.follows .mixedOrders=true)(op:Opt)(hop:op.dr=true){id:Nat}{ops:Array Oper}(hc:c= .region id ops true)(hd:X4 cx.N ops.toList=true)
  (hok:(VH ops.toList (Zdj op ops.toList)&&Ze2 op ops.toList)=true) (h:Y2 cx op ops.toList k Q ops.toList s):AKc cx (.code c::k) Q s:=by
 rw[hc];exact ZfV hT hm op hop hd hok h
theorem ZK{s':Zb}(hw:AWk cx.n cx.N s s')(h:AKc cx (.code c::k) Q s'):AKc cx (.code c::k) Q s:=ZqC hw h
theorem Ya{tm:List (Nat×AV)}{L:List (Nat×Ze)}{H:Za}(hs:s=⟨tm,L,H⟩)(h:AKc cx k Q ⟨tm,L,H⟩):AKc cx k Q s:=by rw[hs];exact h
theorem VU(S:Zb)(h1:AKc cx [.code c] (fun e s'=>e= .normal∧AWk cx.n cx.N s' S) s)(h2:AKc cx k Q S):AKc cx (.code c::k) Q s:=fun E w a hs=>by
 refine wpIn_mono (h1 E w a hs) ?_;rintro e a' w' ⟨s',E',⟨he,hw⟩,hs',hx⟩;subst he;obtain⟨E2,hs2,hx2⟩:=hw _ E' w' a' hs';exact⟨S,E2,h2,hs2,hx.trans hx2⟩
def Round(cx:Cx)(k:List Itm)(Q:Exit→Zb→Prop)(R:Zb→Prop):Exit→Zb→Prop:=fun e s'=>match e with
 | .normal=>R s'
 |e=>AX cx.P cx.φ cx.n cx.N Q k e s'
theorem Zr(S:Nat→Zb)(M:Nat)(hc:c= .loop c.fst)(hw:AWk cx.n cx.N s (S 0))
  (round:∀i,i≤M→AKc cx [.code c.fst] (Round cx k Q fun s'=>i<M∧AWk cx.n cx.N s' (S (i+1))) (S i)):AKc cx (.code c::k) Q s:=by
 rw[hc];exact ZlM S M hw round
theorem Zal(I:Nat→Zb→Prop){m0:Nat}{s0:Zb}(hc:c= .loop c.fst)(hw:AWk cx.n cx.N s s0)(h0:I m0 s0)
  (round:∀m s,I m s→AKc cx [.code c.fst] (Round cx k Q fun s'=>∃m' s'',m'<m∧AWk cx.n cx.N s' s''∧I m' s'') s):AKc cx (.code c::k) Q s:=by
 rw[hc];exact Zmm I hw h0 round
theorem Yc(S:Nat→Zb)(p:Nat→Prop)(M:Nat)(hc:c= .loop c.fst)(hw:AWk cx.n cx.N s (S 0))(h0:p 0)
  (round:∀i,i≤M→p i→AKc cx [.code c.fst] (Round cx k Q fun s'=>i<M∧p (i+1)∧AWk cx.n cx.N s' (S (i+1))) (S i)):AKc cx (.code c::k) Q s:=by
 refine Zal (fun m s=>∃i,i≤M∧m=M - i∧p i∧s=S i) hc hw ⟨0,Un _,rfl,h0,rfl⟩ ?_;rintro m s ⟨i,hi,rfl,hp,rfl⟩;refine Zad ?_ (round i hi hp);intro e s' hq;cases e with
 |normal=>
  have h1:i<M:=hq.1;exact⟨M - (i+1),S (i+1),om,hq.2.2,i+1,om,rfl,hq.2.1,rfl⟩
 |_=>exact hq
theorem Zlg{R:Zb→Prop}{id:Nat}(hp:VQ id k=some k')(h:AKc cx k' Q s):Round cx k Q R (.exit id) s:=Zfh hp h
theorem ZjE{kk:List Itm}{R:Zb→Prop}(hc:c= .ret)(h:Q .ret s):AKc cx (.code c::kk) (Round cx k Q R) s:=by
 rw[hc];exact ZpC (ZgU h k)
theorem ZaI{kk:List Itm}{R:Zb→Prop}{id:Nat}(hc:c= .exit id)(hn:VQ id kk=none)(hp:VQ id k=some k')(h:AKc cx k' Q s):AKc cx (.code c::kk) (Round cx k Q R) s:=by
 rw[hc];refine AC.exit ?_;have:∀kk:List Itm,VQ id kk=none→AX cx.P cx.φ cx.n cx.N (Round cx k Q R) kk (.exit id) s:=by
  intro kk;induction kk with
  |nil=>intro _;exact Zlg hp h
  |cons x kk ih=>
   intro hn;cases x with
   |code c=>exact ih hn
   |blk j=>
    simp only[VQ]at hn;by_cases hj:id=j
    ·simp[hj]at hn
    ·simp only[hj,if_false]at hn;simp only[AX,hj,if_false];exact ih hn
 exact this kk hn
end
def Yi{α:Type}(p:α→Prop):List α→Prop
 |[]=>True
 |x::r=>p x∧Yi p r
theorem Yi.mem{α:Type}{p:α→Prop}:∀{l:List α},Yi p l→ ∀x∈l,p x
 |[],_,_,h=>by cases h
 |a::r,h,x,hx=>by
  rcases Qk.1 hx with e|e
  ·subst e;exact h.1
  ·exact Yi.mem h.2 x e
variable {H:Za} {L:List (Nat×Ze)} {tm:List (Nat×AV)} {n:Nat}
theorem Zh{N:Nat}{tm':List (Nat×AV)}{L':List (Nat×Ze)}(h1:Yi (fun p=>Wk (lkv tm p.1) p.2) tm')(h2:Yi (fun p=>lkb L p.1=some p.2) L')
  (h3:Yi (fun p=>Inside n (fun k=>(lkb L' k).isSome=true) p.2) tm') (h4:Yi (fun p=>p.2.Inside n (fun k=>(lkb L' k).isSome=true)) L'):AWk n N ⟨tm,L,H⟩ ⟨tm',L',H⟩:=
 ZpS h1.mem h2.mem h3.mem h4.mem
variable {Q:Exit→Zb→Prop} {k:List Itm} {c:Code}
theorem XB{k0:Nat}(t j e sz:Nat)(ht:lkv tm t= .sl k0 [] .full)(hj:lkb L j=none)
  (h:AKc cx (.code c::k) Q ⟨(t,.sl sz [] (.buf cx.n j))::tm,setb L j (.buf e sz 0),H⟩):AKc cx (.code c::k) Q ⟨tm,L,H⟩:=by
 have:=Zcb (n:=cx.n) (N:=cx.N) (tm:=tm) (L:=L) (H:=H) (l:=cx.n) (j:=j) e sz false (Qe _) ht (by simp only[full,if_true];exact hj);simp only[Zdf,setH,if_true,QT,if_false]at this;exact ZK this h
theorem Zcc{k0:Nat}(t j e sz:Nat)(ht:lkv tm t= .sl k0 [] .full)(hj:lkb L j=none)
  (h:AKc cx (.code c::k) Q ⟨(t,.msl sz cx.n j 0)::tm,setb L j (.Zg e sz [] 0),H⟩):AKc cx (.code c::k) Q ⟨tm,L,H⟩:=by
 have:=Zcb (n:=cx.n) (N:=cx.N) (tm:=tm) (L:=L) (H:=H) (l:=cx.n) (j:=j) e sz true (Qe _) ht (by simp only[full,if_true];exact hj);simp only[Zdf,setH,if_true]at this;exact ZK this h
theorem ZY(j:Nat)(cs:List AV)(tm':List (Nat×AV))(hb:lkb L j=some (.box cs))(hcs:Yi (fun c=>Inside cx.n (fun k=>k≠j) c) cs)
  (h1:Yi (fun p=>(Wk (lkv tm p.1) p.2∧Inside cx.n (fun k=>k≠j) (lkv tm p.1))∨ ∃off,lkv tm p.1= .ptr cx.n j off∧p.2= .iptr (cs.drop off)) tm') (hL:Yi (fun p=>p.2.Inside cx.n (fun k=>k≠j)) (delb L j))
  (h:AKc cx (.code c::k) Q ⟨tm',delb L j,H⟩):AKc cx (.code c::k) Q ⟨tm,L,H⟩:=
 ZK (ZfS hb hcs.mem h1.mem hL.mem) h
variable {cs:List AV} {p:Nat→Prop}
theorem Ze.ZA(h:Yi (fun c=>Abs.Inside n p c) cs):Ze.Inside n p (.box cs):=⟨h.mem,by simp[Ze.at_]⟩
theorem Ze.Zja(h:∀c∈cs,Abs.Below n c):Ze.Inside n p (.box cs):=⟨fun a ha=>(h a ha).inside,by simp[Ze.at_]⟩
theorem Ze.ZjQ{e sz i:Nat}(h:∀c∈cs,Abs.Inside n p c):Ze.Inside n p (.Zg e sz cs i):=⟨h,by simp[Ze.at_]⟩
theorem cellsT:(∀cs,(AV.agg cs).cells=cs)∧(∀k n,(AV.int k n).cells=[.int k n])∧(∀b,(AV.bool b).cells=[.bool b])∧(∀s,(AV.str s).cells=[.str s])∧AV.nilp.cells=[.nilp]∧(∀l k o,(AV.ptr l k o).cells=[.ptr l k o])∧
  (∀cs,(AV.iptr cs).cells=[.iptr cs])∧(∀k xs o,(AV.sl k xs o).cells=[.sl k xs o])∧AV.nilf.cells=[.nilf]∧(∀f c,(AV.fn f c).cells=[.fn f c])∧AV.nilm.cells=[.nilm]∧(∀l k,(AV.map l k).cells=[.map l k])∧(∀s l k n,(AV.msl s l k n).cells=[.msl s l k n]):=
 ⟨fun _=>rfl,fun _ _=>rfl,fun _=>rfl,fun _=>rfl,rfl,fun _ _ _=>rfl,fun _=>rfl,fun _ _ _=>rfl,rfl,fun _ _=>rfl,rfl,fun _ _=>rfl,fun _ _ _ _=>rfl⟩
theorem oneT:(∀k n,(AV.int k n).one=true)∧(∀b,(AV.bool b).one=true)∧(∀s,(AV.str s).one=true)∧AV.nilp.one=true∧(∀l k o,(AV.ptr l k o).one=true)∧
  (∀cs,(AV.iptr cs).one=true)∧(∀k xs o,(AV.sl k xs o).one=true)∧AV.nilf.one=true∧(∀f c,(AV.fn f c).one=true)∧AV.nilm.one=true∧(∀l k,(AV.map l k).one=true)∧(∀s l k n,(AV.msl s l k n).one=true)∧AV.dead.one=false:=
 ⟨fun _ _=>rfl,fun _=>rfl,fun _=>rfl,rfl,fun _ _ _=>rfl,fun _=>rfl,fun _ _ _=>rfl,rfl,fun _ _=>rfl,rfl,fun _ _=>rfl,fun _ _ _ _=>rfl,rfl⟩
theorem cellsU:(∀f c,(AV.bfn f c).cells=[.bfn f c])∧AV.Xg.cells=[.Xg]∧(∀k,(AV.sln k).cells=[.sln k])∧AV.nili.cells=[.nili]∧(∀t v,(AV.ifc t v).cells=[.ifc t v])∧(∀k xs ys,(AV.ssl k xs ys).cells=[.ssl k xs ys])∧(∀s l k n o m,(AV.sub s l k n o m).cells=[.sub s l k n o m]):=
 ⟨fun _ _=>rfl,rfl,fun _=>rfl,rfl,fun _ _=>rfl,fun _ _ _=>rfl,fun _ _ _ _ _ _=>rfl⟩
theorem oneU:(∀f c,(AV.bfn f c).one=true)∧AV.Xg.one=true∧(∀k,(AV.sln k).one=true)∧AV.nili.one=true∧(∀t v,(AV.ifc t v).one=true)∧(∀k xs ys,(AV.ssl k xs ys).one=true)∧(∀s l k n o m,(AV.sub s l k n o m).one=true):=
 ⟨fun _ _=>rfl,rfl,fun _=>rfl,rfl,fun _ _=>rfl,fun _ _ _=>rfl,fun _ _ _ _ _ _=>rfl⟩
variable {fn:Func} {f:FuncId} {T:TT} {P:Program}
theorem Zt8{args:List AV}{Q:AV→Za→Prop}(hT:TOK P T)(hf:Fun P f fn c)(hN:args.length≤fn.ntmps)
  (h:∀B,AKc ⟨P,T,⟨none,B⟩,n,fn.ntmps⟩ [.code c] (PostF P T n fn.results.toList Q) ⟨numbered 0 args,[],H⟩):Zi P n f args H Q:=Znc hT hf hN h
variable {r:AV} {caps:List AV} {ts:List TypeId} {args:List Operand} {g:Operand} {dr:Bool}
theorem ZkL(hf:Fun cx.P f fn c)
  (hg:evT s.tmps g= .fn (.func f) caps) (h:PC cx.P (cx.n+1) f (Yo cx.T (evT s.tmps) args ts++caps) (full cx.n s.L s.H) r) (hF:F ⟨Yl s.tmps o.dst r,s.L,s.H⟩):Vg cx dr o g args ts s F:=
 .inl ⟨f,fn,c,caps,_,hg,hf,h,fun r' H1 ⟨e1,e2⟩=>⟨s.L,s.H,e2,.refl _ _,e1▸hF⟩,fun _=>⟨r,fun _ _ h=>h,hF⟩⟩
variable {avs:List AV}
theorem WM(hf:Fun cx.P f fn c)
  (h:Pure cx.P f avs r) (ha:Yo cx.T (evT s.tmps) args ts=avs) (hF:F ⟨Yl s.tmps o.dst r,s.L,s.H⟩):Vg cx dr o (.func f) args ts s F:=
 ZkL hf rfl (by rw[Qu,ha];exact h _ _) hF
theorem Zgs(hf:Fun cx.P f fn c)
  (h:Pure cx.P f avs r) (ha:Yo cx.T (evT s.tmps) args ts=avs) (hF:F ⟨Yl s.tmps o.dst r,s.L,s.H⟩):Zix cx o (.func f) args ts s F:=
 ⟨f,fn,c,[],r,rfl,hf,by rw[Qu,ha];exact h,hF⟩
theorem ZbR{lay:List Nat}(hf:Fun cx.P f fn c)
  (h:∀G,JD cx.n (fun x=>lay.contains x) G (full cx.n s.L s.H)→PC cx.P (cx.n+1) f avs G r) (ha:Yo cx.T (evT s.tmps) args ts=avs) (hF:F ⟨Yl s.tmps o.dst r,s.L,s.H⟩):Zk8 cx lay o (.func f) args ts s F:=
 ⟨f,fn,c,[],r,rfl,hf,fun G hG=>by rw[Qu,ha];exact h G hG,hF⟩
theorem YD(hg:evT s.tmps g= .fn (.func f) caps)(hf:Fun cx.P f fn c)
  (h:PC cx.P (cx.n+1) f (avs++caps) (full cx.n s.L s.H) r) (ha:Yo cx.T (evT s.tmps) args ts=avs) (hF:F ⟨Yl s.tmps o.dst r,s.L,s.H⟩):Vg cx dr o g args ts s F:=
 ZkL hf hg (by rw[ha];exact h) hF
variable {Qc:AV→Za→Prop}
theorem YW(hg:evT s.tmps g= .fn (.func f) caps)(hf:Fun cx.P f fn c)
  (h:Zi cx.P (cx.n+1) f (avs++caps) (full cx.n s.L s.H) Qc) (ha:Yo cx.T (evT s.tmps) args ts=avs)
  (hk:∀r H1,Qc r H1→ ∃L' H',H1=full cx.n L' H'∧ZL cx.n s.H H'∧F ⟨Yl s.tmps o.dst r,L',H'⟩):Vg cx false o g args ts s F:=
 .inl ⟨f,fn,c,caps,Qc,hg,hf,by rw[ha];exact h,hk,fun e=>by cases e⟩
theorem Zrp{l:Nat}(hg:evT s.tmps g= .fn (.yield l) [])
  (h:VD cx.P (cx.n+1) l avs (full cx.n s.L s.H) Qc) (ha:Yo cx.T (evT s.tmps) args ts=avs)
  (hk:∀r H1,Qc r H1→ ∃L' H',H1=full cx.n L' H'∧ZL cx.n s.H H'∧F ⟨Yl s.tmps o.dst r,L',H'⟩):Vg cx false o g args ts s F:=
 .inr ⟨rfl,.inl ⟨l,Qc,hg,by rw[ha];exact h,hk⟩⟩
theorem ZrP{bs:List AV}(hg:evT s.tmps g= .bfn (.func f) bs)(hf:Fun cx.P f fn c)
  (h:Zi cx.P (cx.n+1) f (bs++avs) (full cx.n s.L s.H) Qc) (ha:Yo cx.T (evT s.tmps) args ts=avs)
  (hk:∀r H1,Qc r H1→ ∃L' H',H1=full cx.n L' H'∧ZL cx.n s.H H'∧F ⟨Yl s.tmps o.dst r,L',H'⟩):Vg cx false o g args ts s F:=
 .inr ⟨rfl,.inr ⟨f,fn,c,bs,Qc,hg,hf,by rw[ha];exact h,hk⟩⟩
theorem ZsU(L':List (Nat×Ze))(H':Za)(hf:Fun cx.P f fn c)
  (h:Zi cx.P (cx.n+1) f avs (full cx.n s.L s.H) (fun r' H1=>r'=r∧H1=full cx.n L' H')) (ha:Yo cx.T (evT s.tmps) args ts=avs) (ho:ZL cx.n s.H H') (hF:F ⟨Yl s.tmps o.dst r,L',H'⟩):Vg cx false o (.func f) args ts s F:=
 YW (caps:=[]) (Qc:=fun r' H1=>r'=r∧H1=full cx.n L' H') rfl hf (by rw[Qu];exact h) ha fun r' H1 ⟨e1,e2⟩=>⟨L',H',e2,ho,e1▸hF⟩
theorem ZjX(hf:Fun cx.P f fn c)
  (h:PC cx.P (cx.n+1) f avs (full cx.n s.L s.H) r) (ha:Yo cx.T (evT s.tmps) args ts=avs) (hF:F ⟨Yl s.tmps o.dst r,s.L,s.H⟩):Vg cx dr o (.func f) args ts s F:=
 ZkL hf rfl (by rw[Qu,ha];exact h) hF
variable {v:AV} {t:Nat}
theorem Zc(hv:Wk (lkv s.tmps t) v)(hb:Below n v)(hH:s.H=H):
  PostF P T n [.tmp t] (fun r' H'=>r'=v∧H'=H) .ret s:=
 ⟨by simp[XW],[v],⟨hv,trivial⟩,by simpa using hb,rfl,hH⟩
theorem ZX{ty:Nat}{e:Exit}(he:e= .ret∨e= .normal)(r:Zv)(l k off:Nat)(cs:List AV)(h1:lkv s.tmps t= .ptr l k off)(h2:full n s.L s.H l k=some (.box cs))(h3:T ty=some r)
  (h4:off+r.size≤cs.length) (h5:r.isAgg=false→off<cs.length) (hv:Wk (if r.isAgg then .agg ((cs.drop off).take r.size)else(cs.drop off).getD 0 .dead) v) (hb:Below n v) (hH:s.H=H):
  PostF P T n [.cell t ty] (fun r' H'=>r'=v∧H'=H) e s:=by
 have:PostF P T n [.cell t ty] (fun r' H'=>r'=v∧H'=H) .ret s:=by
  refine⟨by simp only[Ql,forall_eq,XW];exact⟨l,k,off,cs,r,h1,h2,h3,h4,h5⟩,[v],⟨?_,trivial⟩,by simpa using hb,rfl,hH⟩;simp only[ZdT,h1,h2,h3];rw[if_pos ⟨h4,h5⟩];exact hv
 rcases he with rfl|rfl<;>exact this
theorem ZG{u:Nat}{w:AV}(hv:Wk (lkv s.tmps t) v)(hw:Wk (lkv s.tmps u) w)(hb:Below n v)(hc:Below n w)(hH:s.H=H):
  PostF P T n [.tmp t,.tmp u] (fun r' H'=>r'= .tup [v,w]∧H'=H) .ret s:=
 ⟨by simp[XW],[v,w],⟨hv,hw,trivial⟩,by simp[hb,hc],rfl,hH⟩
theorem Zn(h:n≤1000000000):n≤maxLen:=by unfold maxLen;omega
theorem ZcX(n:Nat)(b:Bool):Below n (.bool b):=.bool b
theorem Below.cells{n:Nat}{a:AV}(h:Below n a):∀c∈a.cells,Below n c:=by
 intro c hc;cases h with
 |agg cs hv=>
  simp only[AV.cells]at hc;obtain⟨i,hi,rfl⟩:=QJ hc;exact hv i hi
 |_=>simp only[AV.cells,Ql]at hc;subst hc;constructor<;>assumption
variable {xs:List AV}
theorem YT{k:Nat}{o:Own}(h:∀x∈xs,Below n x)(ho:∀l j,o= .buf l j→l<n):Below n (.sl k xs o):=
 .sl k xs o (fun i hi j hj=>(h _ (Qa hi)).cells _ (Qa hj)) ho
theorem ZC{k:Nat}(h:∀x∈xs,Below n x):Below n (.sl k xs .any):=YT h (fun _ _ e=>by cases e)
theorem Xb(h:∀x∈cs,Below n x):Below n (.agg cs):=.agg cs fun i hi=>h _ (Qa hi)
def stp:List Itm→Option (List Itm)
 | .code c::k=>match c with
  | .seq _ _=>some (.code c.fst:: .code c.snd::k)
  | .block id _=>some (.code c.fst:: .blk id::k)
  | .skip=>some k
  |_=>none
 | .blk _::k=>some k
 |_=>none
variable {l l':List Itm}
theorem kn(hs:stp l=some l')(h:AKc cx l' Q s):AKc cx l Q s:=by
 unfold stp at hs;split at hs
 ·rename_i c k;split at hs
  ·simp only[Qq]at hs;subst hs;exact ZbZ rfl h
  ·simp only[Qq]at hs;subst hs;exact Zqh rfl h
  ·simp only[Qq]at hs;subst hs;exact Wq rfl h
  ·cases hs
 ·simp only[Qq]at hs;subst hs;exact Zs8 h
 ·cases hs
def norm:Nat→List Itm→List Itm
 |0,l=>l
 |n+1,l=>match stp l with
  |some l'=>norm n l'
  |none=>l
theorem kns{cx:Cx}{Q:Exit→Zb→Prop}{s:Zb}:∀(n:Nat) {l:List Itm},AKc cx (norm n l) Q s→AKc cx l Q s
 |0,_,h=>h
 |n+1,l,h=>by
  unfold norm at h;split at h
  ·rename_i l' hl;exact kn hl (kns n h)
  ·exact h
theorem Zdn(hl:norm 60 l=l')(h:AKc cx l' Q s):AKc cx l Q s:=kns 60 (hl▸h)
section
variable {cx:Cx} {k k' l:List Itm} {Q:Exit→Zb→Prop} {s:Zb} {c:Code}
theorem Zay(hT:TOK cx.P cx.T){id:Nat}{ops:Array Oper}(hl:norm 60 l= .code c::k)(hc:c= .region id ops false)(h:Y2 cx plainO ops.toList k Q ops.toList s)(hd:X4 cx.N ops.toList=true:=by kernel_rfl):AKc cx l Q s:=
 Zdn hl (ZoI hT hc hd h)
theorem Y5(hT:TOK cx.P cx.T)(hm:cx.P.follows .mixedOrders=true)(op:Opt){id:Nat}{ops:Array Oper}(hl:norm 60 l= .code c::k)(hc:c= .region id ops true)(hop:op.dr=true)(h:Y2 cx op ops.toList k Q ops.toList s)
  (hd:X4 cx.N ops.toList=true:=by kernel_rfl) (hok:(VH ops.toList (Zdj op ops.toList)&&Ze2 op ops.toList)=true:=by kernel_rfl):AKc cx l Q s:=
 Zdn hl (Zan hT hm op hop hc hd hok h)
theorem VK{o:Operand}(hl:norm 60 l= .code c::k)(hc:c= .cond o c.fst c.snd)(ho:evT s.tmps o= .bool true)(h:AKc cx (.code c.fst::k) Q s):AKc cx l Q s:=Zdn hl (Zqb hc ho h)
theorem VB{o:Operand}(hl:norm 60 l= .code c::k)(hc:c= .cond o c.fst c.snd)(ho:evT s.tmps o= .bool false)(h:AKc cx (.code c.snd::k) Q s):AKc cx l Q s:=Zdn hl (ZpD hc ho h)
theorem ZkX{id:Nat}(hl:norm 60 l= .code c::k)(hc:c= .exit id)(hp:VQ id k=some k')(h:AKc cx k' Q s):AKc cx l Q s:=Zdn hl (ZsJ hc hp h)
theorem YO(hl:norm 60 l= .code c::k)(hc:c= .ret)(h:Q .ret s):AKc cx l Q s:=Zdn hl (ZgS hc h)
theorem ZtD(hl:norm 60 l=[])(h:Q .normal s):AKc cx l Q s:=Zdn hl (Zuk h)
theorem Zvp{kk:List Itm}{R:Zb→Prop}(hl:norm 60 l= .code c::kk)(hc:c= .ret)(h:Q .ret s):AKc cx l (Round cx k Q R) s:=Zdn hl (ZjE hc h)
theorem ZuM{kk:List Itm}{R:Zb→Prop}{id:Nat}(hl:norm 60 l= .code c::kk)(hc:c= .exit id)(hn:VQ id kk=none)(hp:VQ id k=some k')(h:AKc cx k' Q s):AKc cx l (Round cx k Q R) s:=Zdn hl (ZaI hc hn hp h)
end
def lit:AV→Bool
 | .int _ _| .bool _| .str _| .nilp| .nilf| .nilm| .dead| .fn _ []=>true
 |_=>false
theorem qA(h:lit v=true):Inside n p v:=by
 unfold lit at h;split at h
 ·exact .int _ _
 ·exact .bool _
 ·exact .str _
 ·exact .nilp
 ·exact .nilf
 ·exact .nilm
 ·exact .dead
 ·exact .fn _ _ (fun i h=>absurd h (Qm _))
 ·cases h
section
variable {n:Nat} {p:Nat→Prop}
theorem q0{cs:List AV}(h:Yi (fun c=>Abs.Inside n p c) cs):Ze.Inside n p (.box cs):=Ze.ZA h
theorem q1{v:AV}:Wk v v:=.refl v
theorem q2{k:Nat}{xs:List AV}{o:Own}:Wk (.sl k xs o) (.sl k xs .any):=.any k xs o
theorem q3{v:AV}:Wk v .dead:=.dead v
theorem q4{k:IntKind}{i:Int}:Inside n p (.int k i):=.int k i
theorem q5{b:Bool}:Inside n p (.bool b):=.bool b
theorem q6{l:List UInt8}:Inside n p (.str l):=.str l
theorem q7:Inside n p .nilp:=.nilp
theorem q8:Inside n p .nilf:=.nilf
theorem qd:Inside n p .dead:=.dead
end
end
end Go.Abs
