/- Lookups for the kernel: each step a recursor's own. No program, no condition. -/
import Derived.Test.YthajllbimoodjaaGreatDoorM02
import Derived.TacticsIn
import Derived.LoopNIn
import Derived.Lib.Bytealg
import Derived.Test.YthajllbimoodjaaGreatDoorM01
import Derived.Test.YthajllbimoodjaaGreatDoorProg
import Derived.KernelRfl
import Derived.IntWalk
import Derived.Shelf.Strings.OnBuilder
import Derived.Shelf.Small.Strs
import Derived.Shelf.LaysM
import Derived.Shelf.Strconv.Itoa3
import Derived.Shelf.Strings.Search3
import Derived.Ground.Names2Prog
import Derived.Shelf.Slices.SearchI
import Derived.Test.YthajllbimoodjaaGreatDoorRows
import Derived.Lib.ItoaLen
import Derived.Lib.SlicesCompact
import Derived.Shelf.Sort.Plain
import Derived.Lib.RowBridge
import Derived.Shelf.Slices.CompactS
import Derived.Shelf.Slices.In.SortNone
import Derived.Shelf.Slices.Cells
set_option linter.all false
set_option maxRecDepth 100000
open Go.Proofs.Tryz
noncomputable section
namespace Go.Abs
def Zmc(a:LN)(t:Nat):AV:=List.rec (motive:=fun _=>AV) .dead (fun p _ ih=>Bool.rec ih p.2 (Nat.beq p.1 t)) a
def Za9(S:List (Nat×Ze))(k:Nat):Option Ze:=List.rec (motive:=fun _=>Option Ze) none (fun p _ ih=>Bool.rec ih (some p.2) (Nat.beq p.1 k)) S
def ZqQ(S:List (Nat×Ze))(k:Nat)(b:Ze):List (Nat×Ze):=List.rec (motive:=fun _=>List (Nat×Ze)) [(k,b)] (fun p r ih=>Bool.rec (p::ih) ((k,b)::r) (Nat.beq p.1 k)) S
def Zon(l:List Nat)(k:Nat):Bool:=List.rec (motive:=fun _=>Bool) false (fun p _ ih=>Bool.rec ih true (Nat.beq k p)) l
def evF(a:LN)(x:Operand):AV:=Operand.casesOn (motive:=fun _=>AV) x (fun t=>Zmc a t) (fun v=>.ofValue v) (fun _=>.dead) (fun f=>.fn (.func f) [])
def ZiD{α:Type}(a b:Nat)(x y:α):(Bool.rec x y (Nat.beq a b):α)=if a=b then y else x:=by
 cases h:Nat.beq a b with
 |true=>rw[if_pos (Uo h)]
 |false=>rw[if_neg (Nat.ne_of_beq_eq_false h)]
theorem lkvF_eq:Zmc=lkv:=by
 funext a t;induction a with
 |nil=>rfl
 |cons p r ih=>exact(ZiD p.1 t (Zmc r t) p.2).trans (by rw[ih];rfl)
theorem lkbF_eq:Za9=lkb:=by
 funext a t;induction a with
 |nil=>rfl
 |cons p r ih=>exact(ZiD p.1 t (Za9 r t) (some p.2)).trans (by rw[ih];rfl)
theorem setbF_eq:ZqQ=setb:=by
 funext S k b;induction S with
 |nil=>rfl
 |cons p r ih=>exact(ZiD p.1 k (p::ZqQ r k b) ((k,b)::r)).trans (by rw[ih];rfl)
theorem conF_eq:Zon=fun l k=>l.contains k:=by
 funext l k;induction l with
 |nil=>rfl
 |cons p r ih=>
  refine(ZiD k p (Zon r k) true).trans ?_;rw[ih,QS];by_cases h:k=p
  ·rw[if_pos h,h];simp
  ·rw[if_neg h,show(k==p)=false by simpa using h];rfl
theorem evF_eq:evF=evT:=by
 funext a x;cases x with
 |tmp t=>exact congrFun (congrFun lkvF_eq a) t
 |const v=>rfl
 |global g=>rfl
 |func f=>rfl
def WT(a b:Bool):Bool:=Bool.rec false b a
def orF(a b:Bool):Bool:=Bool.rec b true a
section
variable {b:Bool}
def Yq{a:Bool}(h:WT a b=true):a=true/\b=true:=by cases a<;>cases b<;>first|exact⟨rfl,rfl⟩|cases h
def Zi9{a:Bool}(h:orF a b=true)(c:a=false):b=true:=by subst c;exact h
def gdo{α:Type}(b:Bool)(x:α):Option α:=Bool.rec none (some x) b
def gds{α:Type}{x w:α}(h:gdo b x=some w):b=true/\x=w:=by
 cases b with
 |false=>cases h
 |true=>exact⟨rfl,Uu h⟩
section
variable {α:Type}
def Zb1(l:List α):Nat:=List.rec (motive:=fun _=>Nat) 0 (fun _ _ ih=>Nat.succ ih) l
def ZcK(n:Nat)(l:List α):List α:=Nat.rec (motive:=fun _=>List α->List α) (fun l=>l) (fun _ ih l=>List.rec (motive:=fun _=>List α) [] (fun _ t _=>ih t) l) n l
def Zn0(n:Nat)(l:List α):List α:=Nat.rec (motive:=fun _=>List α->List α) (fun _=>[]) (fun _ ih l=>List.rec (motive:=fun _=>List α) [] (fun h t _=>h::ih t) l) n l
def Zs5(a b:List α):List α:=List.rec (motive:=fun _=>List α) b (fun h _ ih=>h::ih) a
def hdF(d:α)(l:List α):α:=List.rec (motive:=fun _=>α) d (fun h _ _=>h) l
theorem Zai(l:List α):Zb1 l=l.length:=by
 induction l with
 |nil=>rfl
 |cons h t ih=>exact congrArg Nat.succ ih
theorem ZbL(n:Nat)(l:List α):ZcK n l=l.drop n:=by
 induction n generalizing l with
 |zero=>rfl
 |succ n ih=>cases l with
  |nil=>rfl
  |cons h t=>exact ih t
theorem Zg9(n:Nat)(l:List α):Zn0 n l=l.take n:=by
 induction n generalizing l with
 |zero=>rfl
 |succ n ih=>cases l with
  |nil=>rfl
  |cons h t=>exact congrArg (h:: ·) (ih t)
theorem Zry(a b:List α):Zs5 a b=a++b:=by
 induction a with
 |nil=>rfl
 |cons h t ih=>exact congrArg (h:: ·) ih
theorem ZiR(d:α)(l:List α)(n:Nat):hdF d (ZcK n l)=l.getD n d:=by
 rw[ZbL,Qk];induction n generalizing l with
 |zero=>cases l<;>rfl
 |succ n ih=>cases l with
  |nil=>rfl
  |cons h t=>exact ih t
end
def ZjQ{a b:Nat}(h:Nat.ble (Nat.succ a) b=true):a<b:=MH h
def ixB(i:Int)(n:Nat):Bool:=Int.rec (motive:=fun _=>Bool) (fun m=>Nat.ble (Nat.succ m) n) (fun _=>false) i
def Zl2{i:Int}{n:Nat}(h:ixB i n=true):0<=i/\i<n:=by
 cases i with
 |ofNat m=>exact⟨Int.natCast_nonneg m,Int.ofNat_lt.2 (ZjQ h)⟩
 |negSucc m=>cases h
def ldF(r:Zp)(a:Nat)(cs:LA):AV:=Bool.rec (hdF .dead (ZcK a cs)) (.agg (Zn0 r.size (ZcK a cs))) r.isAgg
def Ztx(r:Zp)(a:Nat)(cs:LA):ldF r a cs=ldA r (cs.drop a):=by
 unfold ldF ldA;cases r.isAgg with
 |true=>show AV.agg _=AV.agg _;rw[Zg9,ZbL]
 |false=>
  show hdF _ _=List.getD (cs.drop a) 0 .dead;rw[ZiR];simp[Qk]
def ldB(r:Zp)(a:Nat)(cs:LA):Bool:=WT (Nat.ble (Nat.add a r.size) (Zb1 cs)) (orF r.isAgg (Nat.ble (Nat.succ a) (Zb1 cs)))
variable {cs:LA}
def ZiZ{r:Zp}{a:Nat}(h:ldB r a cs=true):a+r.size<=cs.length/\(r.isAgg=false->a<cs.length):=by
 unfold ldB at h;rw[Zai]at h;exact⟨MH (Yq h).1,fun b=>ZjQ (Zi9 (Yq h).2 b)⟩
def Zlb(a:LA)(b:Nat)(cs:LA):LA:=Zs5 (Zn0 b a) (Zs5 cs (ZcK (Nat.add b (Zb1 cs)) a))
def ZnP(a:LA)(b:Nat)(cs:LA):Zlb a b cs=splice a b cs:=by
 simp only[Zlb,splice,Zry,Zg9,ZbL,Zai];rfl
def ZnH(v:AV):Bool:=List.rec (motive:=fun _=>Bool) true (fun h _ ih=>Bool.rec false ih (AV.one h)) v.cells
theorem ZkL(v:AV):ZnH v=ones v:=by
 unfold ZnH ones;induction v.cells with
 |nil=>rfl
 |cons h t ih=>
  refine Eq.trans (show _=(Bool.rec false (List.rec true (fun h _ ih=>Bool.rec false ih h.one) t) (AV.one h):Bool) from rfl) ?_;rw[Qbi,<-ih];cases AV.one h<;>rfl
def stB(r:Zp)(y:AV)(a:Nat)(cs:LA):Bool:=WT (Nat.beq (Zb1 y.cells) r.size) (WT (ZnH y) (Nat.ble (Nat.add a r.size) (Zb1 cs)))
def ZmK{r:Zp}{y:AV}{a:Nat}(h:stB r y a cs=true):y.cells.length=r.size/\ones y=true/\a+r.size<=cs.length:=by
 unfold stB at h;rw[Zai,Zai,ZkL]at h;obtain⟨c,b⟩:=Yq h;obtain⟨b,d⟩:=Yq b;exact⟨Uo c,b,MH d⟩
def Znq(b:Nat->Option (Nat×Nat))(c:LN):LA->Option LA:=List.rec (motive:=fun _=>LA->Option LA) (fun a=>some a) (fun p _ ih a=>Option.rec (motive:=fun _=>Option LA) none (fun q=>Bool.rec none (ih (Zlb a q.1 p.2.cells)) (WT (Nat.beq (Zb1 p.2.cells) q.2) (Nat.ble (Nat.add q.1 q.2) (Zb1 a)))) (b p.1)) c
def Zj6(b:Nat->Option (Nat×Nat)):∀(j:LN) {a d:LA},Znq b j a=some d->Zbq b a j=some d
 |[],_,_,h=>h
 |(i,v)::r,a,d,h=>by
  have h:(Option.rec (motive:=fun _=>Option LA) none (fun q=>Bool.rec none (Znq b r (Zlb a q.1 v.cells)) (WT (Nat.beq (Zb1 v.cells) q.2) (Nat.ble (Nat.add q.1 q.2) (Zb1 a)))) (b i))=some d:=h;rw[Zbq];cases g:b i with
  |none=>rw[g]at h;cases h
  |some q=>
   rw[g]at h;obtain⟨e,c⟩:=q;have h:(Bool.rec none (Znq b r (Zlb a e v.cells)) (WT (Nat.beq (Zb1 v.cells) c) (Nat.ble (Nat.add e c) (Zb1 a))):Option LA)=some d:=h;cases f:WT (Nat.beq (Zb1 v.cells) c) (Nat.ble (Nat.add e c) (Zb1 a))with
   |false=>rw[f]at h;cases h
   |true=>
    rw[f]at h;obtain⟨l,k⟩:=Yq f;rw[Zai]at l k;show(if v.cells.length=c/\e+c<=a.length then Zbq b (splice a e v.cells) r else none)=_;rw[if_pos ⟨Uo l,MH k⟩,<-ZnP];exact Zj6 b r h
def clashF:Kd->Kd->Bool
 | .f l D W,.f l' D' W'=>!(l==l')||(W.any fun s=>Zon D' s||Zon W' s)||(W'.any fun s=>Zon D s||Zon W s)
 |a,b=>Kd.clash a b
def Zok(a b:Kd):clashF a b=Kd.clash a b:=by
 cases a<;>cases b<;>simp only[clashF,conF_eq]<;>rfl
end
def ifs{a:Type}{c:Prop} [Decidable c]{v w:a}(h:(if c then some v else none)=some w):c/\v=w:=by
 split at h
 ·exact⟨‹_›,Uu h⟩
 ·cases h
def ifp{a:Type}{c:Prop} [Decidable c]{p:Option a}{w:a}(h:(if c then p else none)=some w):c/\p=some w:=by
 split at h
 ·exact⟨‹_›,h⟩
 ·cases h
def xP(T:TT)(o:Op)(e:TypeId)(ρ:Operand->AV):Option AV:=
 (match o with
 | .move x=>fun T e ρ=>some (mv T e x (ρ x))
 | .assign x=>fun T e ρ=>some (mv T e x (ρ x))
 | .pick c x y=>fun T e ρ=>match ρ c with
  | .bool true=>some (mv T e x (ρ x))
  | .bool false=>some (mv T e y (ρ y))
  |_=>none
 | .nilCheck x=>fun T e ρ=>match ρ x with
  | .ptr l k off=>some (.ptr l k off)
  | .iptr cs=>some (.iptr cs)
  | .eptr l k n off=>some (.eptr l k n off)
  |_=>none
 | .fieldAddr t x f=>fun T e ρ=>match ZaX T t f with
  |some (fo,rf)=>match ρ x with
   | .ptr l k off=>gdo (Nat.ble 1 rf.size) (.ptr l k (Nat.add off fo))
   | .iptr cs=>gdo (Nat.ble 1 rf.size) (.iptr (ZcK fo cs))
   | .eptr l k n off=>gdo (Nat.ble 1 rf.size) (.eptr l k n (Nat.add off fo))
   |_=>none
  |none=>none
 | .indexAddr t x ix=>fun T e ρ=>match sliceOf T t with
  |some (_,re)=>match ρ x,ρ ix with
   | .sl k xs _,.int _ i=>gdo (WT (Nat.beq k re.size) (ixB i (Zb1 xs))) (.iptr (hdF .dead (ZcK i.toNat xs)).cells)
   | .msl _ l k n,.int _ i=>gdo (ixB i n) (.eptr l k n (i.toNat*re.size))
   | .sub sz l k n off m,.int _ i=>gdo (WT (Nat.beq sz re.size) (ixB i m)) (.eptr l k n ((off+i.toNat)*re.size))
   |_,_=>none
  |none=>none
 | .field t x f=>fun T e ρ=>match ZaX T t f with
  |some (fo,rf)=>match ρ x with
   | .agg cs=>gdo (orF rf.isAgg (Nat.ble (Nat.succ fo) (Zb1 cs))) (Bool.rec (hdF .dead (ZcK fo cs)) (.agg (Zn0 rf.size (ZcK fo cs))) rf.isAgg)
   |_=>none
  |none=>none
 | .extract x i=>fun T e ρ=>match ρ x with
  | .tup vs=>gdo (Nat.ble (Nat.succ i) (Zb1 vs)) (hdF .dead (ZcK i vs))
  |_=>none
 | .build t ps=>fun T e ρ=>match T t with
  |some r=>match r.td with
   | .struct fs=>match Znq (fun i=>(VN T fs)[i]?.join) (YN ρ ps.toList) r.zero with
    |some out=>gdo (WT (fs.all (fun f=>(T f.2).isSome)) ((YN ρ ps.toList).all (fun p=>ZnH p.2))) (.agg out)
    |none=>none
   |_=>none
  |none=>none
 | .makeFunc f fs cs=>fun T e ρ=>match fs.toList with
  |[]=>some (.fn f (cs.toList.map ρ))
  |_::_=>none
 | .unOp op _ x=>fun T e ρ=>match op,ρ x with
  | .not,.bool b=>some (.bool (!b))
  | .neg,.int k n=>some (.int k (k.wrap (0 - n)))
  |_,_=>none
 | .convert s d x=>fun T e ρ=>match Wx T s,Wx T d,ρ x with
  |some (.int _),some (.int k),.int _ n=>some (.int k (k.wrap n))
  |some .str,some .str,.str s=>some (.str s)
  |_,_,_=>none
 | .binOp op t x y _=>fun T e ρ=>match Zqr y (ρ x)with
  |some b=>match Wx T t with
   |some (.slice _)=>if isEq op=true then some (.bool (eqB op b))else none
   |_=>none
  |none=>match ρ x,ρ y with
  | .int k a,.int k' b=>match op with
   | .quo=>if k=k'/\b≠0 then some (.int k (k.wrap (a.tdiv b)))else none
   | .rem=>if k=k'/\b≠0 then some (.int k (a.tmod b))else none
   | .shr=>if 0<=b then some (.int k (a.fdiv (2^(min b.toNat k.bits))))else none
   |op=>match Zkk op k a b with
    |some v=>if k=k' then some v else none
    |none=>none
  | .str a,.str b=>match op with
   | .add=>if a.length+b.length<=9223372036854775807 then some (.str (a++b))else none
   |op=>Zli op a b
  | .bool a,.bool b=>if Wx T t=some .bool/\isEq op=true then some (.bool (if op= .eql then a==b else !(a==b)))else none
  | .nilp,.nilp=>if Wx T t=some .ptr/\isEq op=true then some (.bool (eqB op true))else none
  | .ptr _ _ _,.nilp=>if Wx T t=some .ptr/\isEq op=true then some (.bool (eqB op false))else none
  |_,_=>none
 | .index t x ix=>fun T e ρ=>match Wx T t,ρ x,ρ ix with
  |some .str,.str s,.int _ i=>if 0<=i/\i<s.length then some (.int .u8 (s.getD i.toNat 0).toNat)else none
  |_,_,_=>none
 | .slice t x lo hi mx=>fun T e ρ=>match mx,ρ x with
  |none,.sl k xs ow=>match sliceOf T t,bnd ρ lo 0,bnd ρ hi xs.length with
   |some (_,re),some l,some h=>if k=re.size/\0<=l/\l<=h/\h<=xs.length then some (.sl k ((xs.take h.toNat).drop l.toNat) (fullOwn xs ow))else none
   |_,_,_=>none
  |_,_=>none
 | .buildSlice t n ps=>fun T e ρ=>match sliceOf T t with
  |some (_,re)=>if(inOrder 0 ps.toList=true/\n=ps.size/\0<re.size/\n*re.size<=2^24)/\(ps.toList.all fun p=>(ρ p.2).cells.length==re.size&&ones (ρ p.2))=true then some (.sl re.size (ps.toList.map fun p=>ρ p.2) .full)else none
  |none=>none
 | .call c=>fun T e ρ=>match c.callee,c.args.toList,c.argTypes.toList with
  | .builtin .len,[x],[t]=>match ρ x with
   | .sl _ xs _=>if(sliceOf T t).isSome then some (.int .i64 xs.length)else none
   | .msl _ _ _ n=>if(sliceOf T t).isSome then some (.int .i64 n)else none
   | .sub _ _ _ _ _ m=>if(sliceOf T t).isSome then some (.int .i64 m)else none
   | .str s=>if Wx T t=some .str then some (.int .i64 s.length)else none
   |_=>none
  |_,_,_=>none
 |_=>fun _ _ _=>none:TT->TypeId->(Operand->AV)->Option AV) T e ρ
def nzs{n:Nat}{x w:AV}(h:gdo (Nat.ble 1 n) x=some w):n≠0/\x=w:=⟨fun e=>by have:=ZjQ (gds h).1;omega,(gds h).2⟩
section
variable {ρ:Operand->AV} {T:TT}
def ZvY{o:Op}{r:TypeId}{v:AV}(h:xP T o r ρ=some v):(evP T o r ρ).1/\(evP T o r ρ).2=v:=by
 unfold xP at h;split at h
 ·cases h;exact⟨trivial,rfl⟩
 ·cases h;exact⟨trivial,rfl⟩
 ·split at h
  ·rename_i e;cases h;simp only[evP,e];exact⟨trivial,trivial⟩
  ·rename_i e;cases h;simp only[evP,e];exact⟨trivial,trivial⟩
  ·cases h
 ·split at h
  ·rename_i e;cases h;simp only[evP,e];exact⟨trivial,trivial⟩
  ·rename_i e;cases h;simp only[evP,e];exact⟨trivial,trivial⟩
  ·rename_i e;cases h;simp only[evP,e];exact⟨trivial,trivial⟩
  ·cases h
 ·split at h
  ·rename_i a;split at h
   ·rename_i e;simp only[evP,a,e];exact nzs h
   ·rename_i e;rw[ZbL]at h;simp only[evP,a,e];exact nzs h
   ·rename_i e;simp only[evP,a,e];exact nzs h
   ·cases h
  ·cases h
 ·split at h
  ·rename_i a;split at h
   ·rename_i e m;rw[ZiR,Zai]at h;simp only[evP,a,e,m];exact⟨⟨Uo (Yq (gds h).1).1,Zl2 (Yq (gds h).1).2⟩,(gds h).2⟩
   ·rename_i e m;simp only[evP,a,e,m];exact⟨Zl2 (gds h).1,(gds h).2⟩
   ·rename_i e m;simp only[evP,a,e,m];exact⟨⟨Uo (Yq (gds h).1).1,Zl2 (Yq (gds h).1).2⟩,(gds h).2⟩
   ·cases h
  ·cases h
 ·split at h
  ·rename_i a;split at h
   ·rename_i e;rw[ZiR,Zg9,ZbL,Zai]at h;simp only[evP,a,e];refine⟨fun l=>ZjQ (Zi9 (gds h).1 l),?_⟩;rw[<-(gds h).2];split
    ·rename_i l;rw[l]
    ·rename_i l;rw[Me]at l;rw[l]
   ·cases h
  ·cases h
 ·split at h
  ·rename_i e;rw[ZiR,Zai]at h;simp only[evP,e];exact⟨ZjQ (gds h).1,(gds h).2⟩
  ·cases h
 ·split at h
  ·rename_i a;split at h
   ·rename_i c;split at h
    ·rename_i i;have i:=Zj6 _ _ i;obtain⟨g,j⟩:=gds h;have g:=Yq g;simp only[Qw,ZkL]at g;simp only[evP,a,c,i];exact⟨⟨fun f s e=>(by have:=g.1 f s;rw[e]at this;cases this),fun p n=>g.2 p n⟩,j⟩
    ·cases h
   ·cases h
  ·cases h
 ·split at h
  ·rename_i e;cases h;simp only[evP,e];exact⟨trivial,trivial⟩
  ·cases h
 ·split at h
  ·rename_i e;cases h;simp only[evP,e];exact⟨trivial,trivial⟩
  ·rename_i e;cases h;simp only[evP,e];exact⟨trivial,trivial⟩
  ·cases h
 ·split at h
  ·rename_i a c e;cases h;simp only[evP,a,c,e];exact⟨trivial,trivial⟩
  ·rename_i a c e;cases h;simp only[evP,a,c,e];exact⟨trivial,trivial⟩
  ·cases h
 ·split at h
  ·rename_i b d;split at h
   ·rename_i a;obtain⟨g,j⟩:=ifs h;simp only[evP,d];exact⟨⟨⟨_,a⟩,g⟩,j⟩
   ·cases h
  rename_i d;split at h
  ·rename_i a c;rw[a]at d;split at h
   ·simp only[evP,d,a,c];exact ifs h
   ·simp only[evP,d,a,c];exact ifs h
   ·simp only[evP,d,a,c];exact ifs h
   ·split at h
    ·rename_i i;simp only[evP,d,a,c,i];exact ifs h
    ·cases h
  ·rename_i a c;rw[a]at d;split at h
   ·simp only[evP,d,a,c];exact ifs h
   ·simp only[evP,d,a,c,h];exact⟨trivial,trivial⟩
  ·rename_i a c;rw[a]at d;simp only[evP,d,a,c];exact ifs h
  ·rename_i a c;rw[a]at d;simp only[evP,d,a,c];exact ifs h
  ·rename_i a c;rw[a]at d;simp only[evP,d,a,c];exact ifs h
  ·cases h
 ·split at h
  ·rename_i a c e;simp only[evP,a,c,e];exact ifs h
  ·cases h
 ·split at h
  ·rename_i e;split at h
   ·rename_i a c i;simp only[evP,e,a,c,i];exact ifs h
   ·cases h
  ·cases h
 ·split at h
  ·rename_i a;obtain⟨⟨g,j,y,u⟩,w⟩:=(ifs h).1;simp only[evP,a];refine⟨⟨g,j,y,u,fun x z=>?_⟩,(ifs h).2⟩;obtain⟨p,n,rfl⟩:=Qg.1 z;have:=Qw.1 w p n;simpa using this
  ·cases h
 ·split at h
  ·rename_i a c i;have k:∀{t:TypeId},(sliceOf T t).isSome=true-> ∃q,sliceOf T t=some q:=fun h=>Qaw.1 h
   split at h
   ·rename_i e;obtain⟨g,j⟩:=ifs h;simp only[evP,a,c,i,e];exact⟨k g,j⟩
   ·rename_i e;obtain⟨g,j⟩:=ifs h;simp only[evP,a,c,i,e];exact⟨k g,j⟩
   ·rename_i e;obtain⟨g,j⟩:=ifs h;simp only[evP,a,c,i,e];exact⟨k g,j⟩
   ·rename_i e;simp only[evP,a,c,i,e];exact ifs h
   ·cases h
  ·cases h
 ·cases h
def Zua{P:Program}(c:TOK P T){o:Oper}{v:AV}(h:xP T o.op o.type ρ=some v):Zpk P o ρ v:=by
 obtain⟨a,b⟩:=ZvY h;rw[<-b];exact ZhP c _ rfl a
abbrev Hp:=List (Nat×Ze)
structure XR where
 v:AV
 S:Hp
 c:Nat
 D:List Nat
 W:List Nat
abbrev Caller:=FuncId->Nat->LA->Hp->Nat->Option (AV×Hp×Nat×List Nat)
def hnt(a:Nat->Nat):Option Nat->Nat
 |some d=>a d
 |none=>0
def Zfz(v:AV)(S:Hp)(c k:Nat)(b:Ze):XR:=⟨v,ZqQ S k b,c,[k],[k]⟩
def Zsy(v:AV)(S:Hp)(c k:Nat)(b:Ze):Zfz v S c k b=⟨v,setb S k b,c,[k],[k]⟩:=by unfold Zfz;rw[setbF_eq]
def xNew(v:AV)(S:Hp)(c:Nat)(b:Ze):Option XR:=match Za9 S c with
 |none=>some ⟨v,(c,b)::S,c+1,[c],[c]⟩
 |some _=>none
def Zrf(T:TT)(l0:Nat)(t:TypeId)(x:AV)(S:Hp)(c:Nat):Option XR:=match T t with
 |some r=>match x with
  | .iptr cs=>gdo (ldB r 0 cs) ⟨ldF r 0 cs,S,c,[],[]⟩
  | .ptr l k off=>match Za9 S k with
   |some (.box cs)=>gdo (WT (Nat.beq l l0) (ldB r off cs)) ⟨ldF r off cs,S,c,[k],[]⟩
   |some (.tbox _ cs)=>gdo (WT (Nat.beq l l0) (ldB r off cs)) ⟨ldF r off cs,S,c,[k],[]⟩
   |_=>none
  | .eptr l k i off=>match Za9 S k with
   |some (.Zg _ _ cs i')=>gdo (WT (Nat.beq l l0) (WT (Nat.beq i' i) (WT (Nat.ble 1 i) (ldB r off cs)))) ⟨ldF r off cs,S,c,[k],[]⟩
   |_=>none
  |_=>none
 |none=>none
def ZmY(T:TT)(l0:Nat)(t:TypeId)(x y:AV)(S:Hp)(c:Nat):Option XR:=match T t with
 |some r=>match x with
  | .ptr l k off=>match Za9 S k with
   |some (.box cs)=>gdo (WT (Nat.beq l l0) (stB r y off cs)) (Zfz (.tup []) S c k (.box (Zlb cs off y.cells)))
   |some (.tbox tb cs)=>gdo (WT (Nat.beq l l0) (stB r y off cs)) (Zfz (.tup []) S c k (.tbox tb (Zlb cs off y.cells)))
   |_=>none
  | .eptr l k i off=>match Za9 S k with
   |some (.Zg e sz cs i')=>gdo (WT (Nat.beq l l0) (WT (Nat.beq i' i) (WT (Nat.ble 1 i) (stB r y off cs)))) (Zfz (.tup []) S c k (.Zg e sz (Zlb cs off y.cells) i))
   |_=>none
  |_=>none
 |none=>none
def Zc2(a:Nat):Nat->LA->LA
 |0,_=>[]
 |n+1,cs=>.agg (cs.take a)::Zc2 a n (cs.drop a)
def Zgl(b:Nat):∀(n:Nat) (a:LA),a.length=n*b->flat (Zc2 b n a)=a/\(Zc2 b n a).length=n/\ ∀y∈Zc2 b n a,y.cells.length=b
 |0,a,h=>by
  have:a=[]:=MZ.1 om;subst this;exact⟨rfl,rfl,fun y hy=>by cases hy⟩
 |n+1,a,h=>by
  rw[G7]at h;obtain⟨c,d,e⟩:=Zgl b n (a.drop b) (by rw[QL];omega);refine⟨?_,by simp only[Zc2,Qm,d],fun y hy=>?_⟩
  ·simp only[Zc2,flat,Uk,AV.cells]at c⊢;rw[c,Q8]
  ·rcases Ql.1 hy with rfl|hy
   ·simp only[AV.cells,QJ];omega
   ·exact e y hy
def Zt6(T:TT)(l0:Nat)(d:Bool)(t a:TypeId)(x y:AV)(S:Hp)(c:Nat):Option XR:=match sliceOf T t with
 |some (e,re)=>match x,y with
  | .sl _ [] .full,.sl k' ys _=>if a=t/\0<re.size/\(ys=[]\/k'=re.size)/\ys.all ones=true/\ys.length<=1000000/\ys.length*re.bytes<=140737488355328
    then xNew (if d then .msl re.size l0 c ys.length else .sl re.size ys (.buf l0 c)) S c (if d then .Zg e re.size (flat ys) ys.length else .buf e re.size ys.length)else none
  | .sl _ [] .full,.msl sz q j n=>match Za9 S j with
   |some (.Zg e' sz' cs n')=>if(a=t/\q=l0/\e'=e/\sz'=sz/\sz=re.size/\n'=n)/\0<sz/\0<n/\cs.length=n*sz/\n<=1000000/\n*re.bytes<=140737488355328 then some ⟨.sl sz (Zc2 sz n cs) .any,S,c,[j],[]⟩else none
   |_=>none
  | .sl _ [] .full,.str b=>match T a with
   |some rx=>if rx.td= .str/\re.size=1/\0<re.bytes/\0<b.length/\b.length<=1000000/\b.length*re.bytes<=140737488355328 then xNew (.msl re.size l0 c b.length) S c (.Zg e re.size (b.map JF) b.length)else none
   |none=>none
  | .msl sz0 l j i,.str b=>match T a,Za9 S j with
   |some rx,some (.Zg e' sz cs i')=>if b=[]then(if rx.td= .str/\l=l0/\e'=e/\i'=i/\0<i then some ⟨.msl sz0 l j i,S,c,[j],[]⟩else none)
     else if(rx.td= .str/\l=l0/\e'=e/\sz=re.size/\i'=i)/\re.size=1/\0<re.bytes/\0<b.length/\i+b.length<=1000000/\(i+b.length)*re.bytes<=140737488355328
     then some (Zfz (.msl sz0 l j (i+b.length)) S c j (.Zg e re.size (cs++b.map JF) (i+b.length)))else none
   |_,_=>none
  | .sl k xs (.buf l j),.sl k' ys _=>match Za9 S j with
   |some (.buf e' sz fr)=>if(a=t/\l=l0/\e'=e/\sz=re.size/\fr=xs.length/\k=re.size)/\0<re.size/\(ys=[]\/k'=re.size)/\ys.all ones=true/\xs.length+ys.length<=1000000/\(xs.length+ys.length)*re.bytes<=140737488355328
     then some (Zfz (.sl k (xs++ys) (.buf l j)) S c j (.buf e re.size (xs.length+ys.length)))else none
   |_=>none
  | .msl sz0 l j i,.sl k' ys _=>match Za9 S j with
   |some (.Zg e' sz cs i')=>if(a=t/\l=l0/\e'=e/\sz=re.size/\i'=i)/\0<re.size/\(ys=[]\/k'=re.size)/\ys.all ones=true/\i+ys.length<=1000000/\(i+ys.length)*re.bytes<=140737488355328
     then some (Zfz (.msl sz0 l j (i+ys.length)) S c j (.Zg e re.size (cs++flat ys) (i+ys.length)))else none
   |_=>none
  |_,_=>none
 |none=>none
def unB:LA->Option Bs
 |[]=>some []
 | .int .u8 n::r=>match unB r with
  |some b=>if 0<=n/\n<256 then some (UInt8.ofNat n.toNat::b)else none
  |none=>none
 |_=>none
def unB_ok:∀{a:LA} {b:Bs},unB a=some b->a=b.map JF
 |[],b,h=>by cases h;rfl
 |x::r,b,h=>by
  unfold unB at h;split at h
  ·rename_i e;cases e
  ·rename_i n g e;cases e;split at h
   ·rename_i j f;obtain⟨⟨k,i⟩,rfl⟩:=(fun{d:Type} {c:Prop} [Decidable c] {v w:d} (h:(if c then some v else none)=some w)=>ifs h) h;rw[Qs,<-unB_ok f,JF];congr 2
    have:(UInt8.ofNat n.toNat).toNat=n.toNat:=by
     rw[UInt8.toNat_ofNat'];omega
    rw[this];omega
   ·cases h
  ·cases h
def xO(T:TT)(l0:Nat)(m:TypeId×TypeId)(a:Caller)(i:Nat->Nat)(o:Oper)(h:LN)(S:Hp)(c:Nat):Option XR:=
 (match o.op with
 | .load t x=>fun T l0 m a i d h S c=>Zrf T l0 t (evF h x) S c
 | .store t x y=>fun T l0 m a i d h S c=>ZmY T l0 t (mv T t x (evF h x)) (mv T t y (evF h y)) S c
 | .box t x=>fun T l0 m a i d h S c=>if ones (mv T t x (evF h x))=true then xNew (.ptr l0 c 0) S c (.box (mv T t x (evF h x)).cells)else none
 | .alloc t=>fun T l0 m a i d h S c=>match T t with
  |some r=>xNew (.ptr l0 c 0) S c (if hnt i d=2 then .tbox t r.zero else .box r.zero)
  |none=>none
 | .makeMap _ none=>fun T l0 m a i d h S c=>xNew (.map l0 c) S c (.map [])
 | .lookup t x y ok=>fun T l0 m a i d h S c=>match mapOf T t,evF h x with
  |some (kt,_,re),.map l k=>match Za9 S k with
   |some (.map es)=>if l=l0/\(re.isAgg=false->re.size=1)/\Yv T kt (evF h y)=true/\(es.all fun p=>Yv T kt p.1)=true then some ⟨lookA re (evF h y) es ok,S,c,[k],[]⟩else none
   |_=>none
  |_,_=>none
 | .mapUpdate t x y z=>fun T l0 m a i d h S c=>match mapOf T t,evF h x with
  |some (kt,_,_),.map l k=>match Za9 S k with
   |some (.map es)=>if l=l0/\Yv T kt (evF h y)=true/\(es.all fun p=>Yv T kt p.1)=true then some (Zfz (.tup []) S c k (.map (Zat (evF h y) (evF h z) es)))else none
   |_=>none
  |_,_=>none
 | .call cl=>fun T l0 m a i d h S c=>match cl.callee with
  | .value g=>match evF h g with
   | .fn (.func f) caps=>match a f (hnt i d) (Yo T (evF h) cl.args.toList cl.argTypes.toList++caps) S c with
    |some (v,S',c',W)=>some ⟨v,S',c',S.map Prod.fst,W⟩
    |none=>none
   |_=>none
  | .builtin .append=>match cl.args.toList,cl.argTypes.toList with
   |[x,y],[t,t']=>Zt6 T l0 (hnt i d==1) t t' (mv T t x (evF h x)) (mv T t y (evF h y)) S c
   |_,_=>none
  | .builtin .unsafeSliceData=>match cl.args.toList with
   |[x]=>match evF h x with
    | .msl _ l j n=>match Za9 S j with
     |some (.Zg _ _ _ n')=>if l=l0/\n'=n/\0<n then some ⟨.eptr l j n 0,S,c,[j],[]⟩else none
     |_=>none
    |_=>none
   |_=>none
  | .builtin .unsafeString=>match cl.args.toList,cl.argTypes.toList with
   |[x,y],[pt,_]=>match evF h x,evF h y with
    | .eptr l j n 0,.int .i64 n2=>match Za9 S j with
     |some (.Zg e 1 cs n')=>match unB cs with
      |some b=>if l=l0/\n'=n/\n2=n/\0<n/\pt=m.1/\e=m.2 then some (Zfz (.str b) S c j .gone)else none
      |none=>none
     |_=>none
    |_,_=>none
   |_,_=>none
  |_=>none
 |_=>fun _ _ _ _ _ _ _ _ _=>none:TT->Nat->TypeId×TypeId->Caller->(Nat->Nat)->Option Nat->LN->Hp->Nat->Option XR) T l0 m a i o.dst h S c
def VL(G:Za)(l:Nat)(B:Nat->Option Ze):ovB G l [] B=G:=by
 funext a s;simp[ovB]
variable {B:Nat->Option Ze}
def ZfM(G:Za)(l k:Nat)(b:Ze)(h:B k=some b):ovB G l [k] B=G.upd l k b:=by
 funext c s;simp only[ovB,Za.upd,QS,GZ,Uj,beq_iff_eq];by_cases a:c=l/\s=k
 ·obtain⟨rfl,rfl⟩:=a;simp[h]
 ·rw[if_neg a,if_neg a]
theorem Zcy{G:Za}{l:Nat}{W c:List Nat}{d:Nat->Option Ze}(h:∀s,c.contains s=false->d s=B s):ovB (ovB G l W B) l c d=ovB G l (W++c) d:=by
 funext f s;simp only[ovB];by_cases a:f=l/\c.contains s=true
 ·rw[if_pos a,if_pos ⟨a.1,by simp at a⊢;exact .inr a.2⟩]
 ·rw[if_neg a];by_cases b:f=l/\W.contains s=true
  ·rw[if_pos b,if_pos ⟨b.1,by simp at b⊢;exact .inl b.2⟩];refine(h s ?_).symm;cases hc:c.contains s with
   |false=>rfl
   |true=>exact absurd ⟨b.1,hc⟩ a
  ·rw[if_neg b,if_neg];rintro⟨e,hc⟩;simp only[QaU,Qr,decide_eq_true_eq]at hc b a;rcases hc with hc|hc
   ·exact b ⟨e,hc⟩
   ·exact a ⟨e,hc⟩
def Bas(l0:Nat)(H0 G:Za):Prop:=∀l s,l<l0->G l s=H0 l s
def Bas.ov{l0:Nat}{H0 G:Za}(h:Bas l0 H0 G)(W:List Nat)(B:Nat->Option Ze):Bas l0 H0 (ovB G l0 W B):=fun l s a=>by
 simp only[ovB];rw[if_neg (fun e=>by omega)];exact h l s a
structure Zej (P:Program) (l0:Nat) (H0:Za) (o:Oper) (ρ:Operand->AV) (S:Hp) (r:XR):Prop where
 sem:∀m,l0<m-> ∀G:Za,Bas l0 H0 G->(∀s,(r.D.contains s=true\/r.W.contains s=true)->G l0 s=lkb S s)->Xh P m o ρ G r.v (ovB G l0 r.W (lkb r.S))
 off:∀s,r.W.contains s=false->lkb r.S s=lkb S s
 dom:∀s,r.D.contains s=true->r.W.contains s=true\/lkb S s≠none
structure WW (P:Program) (l0:Nat) (H0:Za) (call:Caller):Prop where
 ok:∀f md args S c v S' c' W,call f md args S c=some (v,S',c',W)->(∃fn cd,Fun P f fn cd)/\
  (∀m,l0<m-> ∀G:Za,Bas l0 H0 G->(∀s,(lkb S s≠none\/W.contains s=true)->G l0 s=lkb S s)->Zh P m f args G (fun r H=>r=v/\H=ovB G l0 W (lkb S')))/\
  (∀s,W.contains s=false->lkb S' s=lkb S s)
section
variable {P:Program} {l0:Nat} {H0:Za} {o:Oper} {ρ:Operand->AV} {S:Hp}
def WS{v:AV}{c:Nat}(D:List Nat)(e:∀s,D.contains s=true->lkb S s≠none)(h:∀m,l0<m-> ∀G:Za,(∀s,D.contains s=true->G l0 s=lkb S s)->Z5 P m o ρ G v G):Zej P l0 H0 o ρ S ⟨v,S,c,D,[]⟩:=
 ⟨fun m b G _ d=>by rw[VL];exact(h m b G fun s a=>d s (.inl a)).sem,fun _ _=>rfl,fun s a=>.inr (e s a)⟩
def V9{v:AV}{c k:Nat}{d b:Ze}(g:lkb S k=some d)(h:∀m,l0<m-> ∀G:Za,G l0 k=some d->Z5 P m o ρ G v (G.upd l0 k b)):Zej P l0 H0 o ρ S (Zfz v S c k b):=Zsy v S c k b▸
 ⟨fun m f G _ i=>by
  show Xh P m o ρ G v (ovB G l0 [k] (lkb (setb S k b)));rw[ZfM G l0 k b (by rw[lkb_setb,if_pos rfl])];exact(h m f G ((i k (.inl (by simp[Zfz]))).trans g)).sem,fun s a=>by
  have a:[k].contains s=false:=a;show lkb (setb S k b) s=lkb S s;rw[lkb_setb,if_neg (fun e=>by subst e;simp at a)],fun s a=>.inl a⟩
def ZaN{v:AV}{c:Nat}{b:Ze}{r:XR}(a:xNew v S c b=some r)(h:∀m,l0<m-> ∀G:Za,G l0 c=none->Z5 P m o ρ G v (G.upd l0 c b)):Zej P l0 H0 o ρ S r:=by
 unfold xNew at a;rw[lkbF_eq]at a;split at a
 ·rename_i i;cases a;refine⟨fun m f G _ g=>?_,fun s d=>?_,fun s d=>.inl d⟩
  ·show Xh P m o ρ G v (ovB G l0 [c] (lkb ((c,b)::S)));rw[ZfM G l0 c b (by simp[lkb])];exact(h m f G ((g c (.inl sm)).trans i)).sem
  ·have d:[c].contains s=false:=d;show lkb ((c,b)::S) s=lkb S s;rw[lkb,if_neg (fun e=>by subst e;simp at d)]
 ·cases a
def Zej.app{T:TT}{r:XR}(t:TypeId)(h:Zej P l0 H0 o (fun z=>mv T t z (ρ z)) S r):Zej P l0 H0 o ρ S r:=
 ⟨fun m hm G c e=>fun E w a Q K hr b=>h.sem m hm G c e E w a Q K hr (fun z d=>Zf4 (b z d)),h.off,h.dom⟩
def Zib{n:Nat}(h:n<=1000000):n<=maxLen:=by unfold maxLen;omega
def Zf9{a:LA}(h:a.all ones=true):∀y∈a,∀c∈y.cells,c.one=true:=fun y b=>Yi (Qw.1 h y b)
def Zpc{T:TT}(q:TOK P T){t:TypeId}{x:Operand}(p:o.op= .load t x){c:Nat}{r:XR}(h:Zrf T l0 t (ρ x) S c=some r):Zej P l0 H0 o ρ S r:=by
 unfold Zrf at h;simp only[lkbF_eq,Ztx]at h;split at h
 ·rename_i u;split at h
  ·rename_i i;obtain⟨d,rfl⟩:=gds h;obtain⟨f,g⟩:=ZiZ d;rw[Qy]at f;exact WS [] (fun s e=>by simp at e) fun m v G j=>Zba q p u i f g
  ·rename_i i;split at h
   ·rename_i d;obtain⟨a,rfl⟩:=gds h;obtain⟨k,b⟩:=Yq a;clear a;cases Uo k;obtain⟨f,g⟩:=ZiZ b;exact WS [_] (fun s e=>by simp at e;subst e;rw[d];simp) fun m v G j=>Zfe q p u i ((j _ sm).trans d) f g
   ·rename_i d;obtain⟨a,rfl⟩:=gds h;obtain⟨k,b⟩:=Yq a;clear a;cases Uo k;obtain⟨f,g⟩:=ZiZ b;exact WS [_] (fun s e=>by simp at e;subst e;rw[d];simp) fun m v G j=>Zja q p u i ((j _ sm).trans d) f g
   ·cases h
  ·rename_i i;split at h
   ·rename_i d;obtain⟨a,rfl⟩:=gds h;obtain⟨k,n⟩:=Yq a;obtain⟨z,l⟩:=Yq n;obtain⟨y,b⟩:=Yq l;clear a n l;cases Uo k;cases Uo z;have w:=ZjQ y;obtain⟨f,g⟩:=ZiZ b;exact WS [_] (fun s e=>by simp at e;subst e;rw[d];simp) fun m v G j=>ZdX q p u i ((j _ sm).trans d) w f g
   ·cases h
  ·cases h
 ·cases h
def ZmZ{T:TT}(l:TOK P T){t:TypeId}{x y:Operand}(ho:o.op= .store t x y){c:Nat}{r:XR}(h:ZmY T l0 t (ρ x) (ρ y) S c=some r):Zej P l0 H0 o ρ S r:=by
 unfold ZmY at h;simp only[lkbF_eq,ZnP]at h;split at h
 ·rename_i hr;split at h
  ·rename_i hx;split at h
   ·rename_i hb;obtain⟨a,rfl⟩:=gds h;obtain⟨e,b⟩:=Yq a;clear a;cases Uo e;obtain⟨f,d,j⟩:=ZmK b;exact V9 hb fun m hm G k=>ZgY l ho hr hx rfl k f (Yi d) j
   ·rename_i hb;obtain⟨a,rfl⟩:=gds h;obtain⟨e,b⟩:=Yq a;clear a;cases Uo e;obtain⟨f,d,j⟩:=ZmK b;exact V9 hb fun m hm G k=>Zhv l ho hr hx rfl k f (Yi d) j
   ·cases h
  ·rename_i hx;split at h
   ·rename_i hb;obtain⟨a,rfl⟩:=gds h;obtain⟨e,i⟩:=Yq a;obtain⟨q,g⟩:=Yq i;obtain⟨p,b⟩:=Yq g;clear a i g;cases Uo e;cases Uo q;have n:=ZjQ p;obtain⟨f,d,j⟩:=ZmK b;exact V9 hb fun m hm G k=>Zas l ho hr hx rfl k n f (Yi d) j
   ·cases h
  ·cases h
 ·cases h
def Zrd{T:TT}(p:TOK P T){t z:TypeId}{x y:Operand}(ho:o.op= .call {callee:=.builtin .append,args:=#[x,y],argTypes:=#[t,z]}){mb:Bool}{c:Nat}{r:XR}(h:Zt6 T l0 mb t z (ρ x) (ρ y) S c=some r):Zej P l0 H0 o ρ S r:=by
 unfold Zt6 at h;simp only[lkbF_eq]at h;split at h
 ·rename_i e re u;obtain⟨F,l,q,n⟩:=ZQ u;split at h
  ·rename_i hx b;obtain⟨⟨rfl,a,g,i,f,j⟩,hn⟩:=ifp h;refine ZaN hn fun m hm G d=>?_
   have A:=Jc (m:=m) (H:=G) p ho l q n a hx b hm d g (Zf9 i) (Zib f) j;cases mb with
   |false=>exact A.1
   |true=>exact A.2
  ·rename_i hx b;split at h
   ·rename_i hb;obtain⟨⟨⟨rfl,rfl,rfl,rfl,rfl,rfl⟩,a,g,i,f,j⟩,rfl⟩:=ifs h;obtain⟨B,E,C⟩:=Zgl _ _ _ i;exact WS [_] (fun s hs=>by simp at hs;subst hs;rw[hb];simp) fun m hm G d=>ZcP p ho l q n rfl a hx b ((d _ sm).trans (hb.trans (by rw[B]))) C E g (Zib f) j
   ·cases h
  ·rename_i hx b;split at h
   ·rename_i D k;obtain⟨⟨a,g,i,f,j,w⟩,h⟩:=ifp h;exact ZaN h fun m hm G d=>ZeH p ho l q n k a g i hx b hm d f (Zib j) w
   ·cases h
  ·rename_i hx b;split at h
   ·rename_i D k hb;split at h
    ·rename_i v;obtain⟨⟨a,rfl,rfl,rfl,f⟩,rfl⟩:=ifs h;rw[v]at b;exact WS [_] (fun s hs=>by simp at hs;subst hs;rw[hb];simp) fun m hm G d=>ZgV p ho l q n k a hx b ((d _ sm).trans hb) f
    ·obtain⟨⟨⟨a,rfl,rfl,rfl,rfl⟩,g,i,f,j,w⟩,rfl⟩:=ifs h;exact V9 hb fun m hm G d=>Zfs p ho l q n k a g i hx b hm d f (Zib j) w
   ·cases h
  ·rename_i hx b;split at h
   ·rename_i hb;obtain⟨⟨⟨rfl,rfl,rfl,rfl,rfl,rfl⟩,a,g,i,f,j⟩,rfl⟩:=ifs h;exact V9 hb fun m hm G d=>Zar p ho l q n a hx b hm d rfl g (Zf9 i) (Zib f) j
   ·cases h
  ·rename_i hx b;split at h
   ·rename_i hb;obtain⟨⟨⟨rfl,rfl,rfl,rfl,rfl⟩,a,g,i,f,j⟩,rfl⟩:=ifs h;exact V9 hb fun m hm G d=>JV p ho l q n a hx b hm d g (Zf9 i) (Zib f) j
   ·cases h
  ·cases h
 ·cases h
end
structure Zf3 (P:Program) (us:TypeId×TypeId):Prop where
 und:P.underlying us.1=some (.pointer us.2)
 one:P.cellsOf us.2=1
variable {S:Hp}
def mem_keys{s:Nat}(h:(S.map Prod.fst).contains s=true):lkb S s≠none:=by
 induction S with
 |nil=>simp at h
 |cons p r ih=>
  simp only[lkb];split
  ·simp
  ·rename_i a;refine ih ?_;simp only[Qs,QS,Md,beq_iff_eq]at h;exact h.resolve_left fun e=>a e.symm
def ZrW{s:Nat}(h:lkb S s≠none):(S.map Prod.fst).contains s=true:=by
 induction S with
 |nil=>exact absurd rfl h
 |cons p r ih=>
  simp only[lkb]at h;simp only[Qs,QS,Md,beq_iff_eq];split at h
  ·rename_i e;exact .inl e.symm
  ·exact .inr (ih h)
def ZmW{P:Program}(B:TOK P T){l0:Nat}{H0:Za}{V:TypeId×TypeId}(R:Zf3 P V){u:Caller}(hc:WW P l0 H0 u){hn:Nat->Nat}{o:Oper}{D:LN}{c:Nat}{r:XR}(h:xO T l0 V u hn o D S c=some r):Zej P l0 H0 o (evT D) S r:=by
 unfold xO at h;rw[lkbF_eq,evF_eq]at h;generalize j:o.op=q at h;split at h
 ·exact Zpc B j h
 ·rename_i t x y;exact Zej.app (T:=T) t (ZmZ (ρ:=fun z=>mv T t z (evT D z)) B j h)
 ·rename_i t x;obtain⟨H,A⟩:=ifp h;refine Zej.app (T:=T) t (ZaN A fun m i G e=>Zqu (P:=P) j rfl (Yi H) i e)
 ·rename_i t;split at h
  ·rename_i U;split at h
   ·exact ZaN h fun m i G e=>Zhs B j U i e
   ·exact ZaN h fun m i G e=>ZkN B j U i e
  ·cases h
 ·exact ZaN h fun m i G e=>ZgX j i e
 ·rename_i t x y ok;split at h
  ·rename_i i n;split at h
   ·rename_i k;obtain⟨⟨rfl,H,A,O⟩,rfl⟩:=ifs h;exact WS [_] (fun s l=>by simp at l;subst l;rw[k];simp) fun m K G e=>Zih B j i H n rfl ((e _ sm).trans k) A (fun p N=>Qw.1 O p N)
   ·cases h
  ·cases h
 ·rename_i t x y z;split at h
  ·rename_i i n;split at h
   ·rename_i k;obtain⟨⟨rfl,A,O⟩,rfl⟩:=ifs h;exact V9 k fun m K G e=>Zbb B (.inl j) i n rfl rfl e A (fun p N=>Qw.1 O p N)
   ·cases h
  ·cases h
 ·rename_i cl;obtain⟨ax,d,I⟩:=cl;simp only at h;split at h
  ·rename_i g;split at h
   ·rename_i f X Y;split at h
    ·rename_i v S' c' W C;cases h;obtain⟨⟨fn,cd,Z⟩,H,A⟩:=hc.ok _ _ _ _ _ _ _ _ _ C;have Q:∀E (a:Act),(∀x∈d,VR E (evT D x) (a.eval x))->VRs E (Yo T (evT D) d.toList I.toList) (d.toList.map a.eval):=fun E a n=>XU _ _ (fun x J=>n x (by simpa using J))
     refine⟨fun m i G hB e=>?_,A,fun s l=>.inr (mem_keys l)⟩;exact Zb3 Z j Y _ Q (H m i G hB fun s l=>e s (l.imp ZrW id))
    ·cases h
   ·cases h
  ·split at h
   ·rename_i x y t t' w F;obtain⟨d⟩:=d;obtain⟨I⟩:=I;simp only at w F;subst w F;exact Zej.app (T:=T) t (Zrd (ρ:=fun z=>mv T t z (evT D z)) B j h)
   ·cases h
  ·split at h
   ·rename_i x w;obtain⟨d⟩:=d;simp only at w;subst w;split at h
    ·rename_i n;split at h
     ·rename_i k;obtain⟨⟨rfl,rfl,M⟩,rfl⟩:=ifs h;exact WS [_] (fun s l=>by simp at l;subst l;rw[k];simp) fun m i G e=>Zjc j n ((e _ sm).trans k) M
     ·cases h
    ·cases h
   ·cases h
  ·split at h
   ·rename_i x y pt it w F;obtain⟨d⟩:=d;obtain⟨I⟩:=I;simp only at w F;subst w F;split at h
    ·rename_i n hy;split at h
     ·rename_i k;split at h
      ·rename_i b L;obtain⟨⟨rfl,rfl,rfl,M,rfl,rfl⟩,rfl⟩:=ifs h;rw[unB_ok L]at k;exact V9 k fun m i G e=>Zfu j R.und R.one n hy e M
      ·cases h
     ·cases h
    ·cases h
   ·cases h
  ·cases h
 ·cases h
end
def xN(T:TT)(o:Op)(b:TypeId)(a:Operand->AV):Option AV:=match xP T o b a with
 |some v=>some v
 |none=>match o with
  | .binOp .eql t x (.const .nilIface) _=>match a x,Wx T t with
   | .nili,some .iface=>some (.bool true)
   |_,_=>none
  |_=>none
def Zrg{P:Program}{T:TT}(i:TOK P T){o:Oper}{k:Operand->AV}{v:AV}(h:xN T o.op o.type k=some v):Zpk P o k v:=by
 unfold xN at h;split at h
 ·rename_i e;cases h;exact Zua i e
 ·split at h
  ·rename_i t x G ho;split at h
   ·rename_i B m;cases h;refine YQ.YL fun E a C=>?_
    have f:=C x sO;rw[B]at f;obtain⟨r,l,y⟩:=YB m;obtain⟨d,s,z,j⟩:=Zd (i t r l);have u:=j.und;have c:=j.fits;rw[y]at c;generalize F:a.eval x=xv at f;cases f;refine⟨.bool true,fun w=>?_,.bool _⟩;cases d<;>(try(cases c;done));have g:∀n,(Op.equalIn (n+1) t .nilIface .nilIface).run P w= .ok true w:=fun n=>by simp[Op.equalIn,run_underlying u]
    have D:(Op.equal t .nilIface .nilIface).run P w= .ok true w:=g 9999;have q:∀b,(eqGuard .eql t x (.const .nilIface) .nilIface b).run P w= .ok () w:=fun b=>by cases b<;>cases x<;>rfl
    have p:(binOp .eql t .nilIface .nilIface).run P w= .ok (.bool true) w:=by simp[binOp,D]
    have A:execOp a.eval o=(do let v<-(do eqGuard .eql t x (.const .nilIface) (a.eval x) (a.eval (.const .nilIface));binOp .eql t (a.eval x) (a.eval (.const .nilIface)));pure (Next.value v)):=by simp only[execOp,ho]
    rw[A,F];simp only[Sem.run_bind,q,Result.andThen_ok,show a.eval (.const .nilIface)= .nilIface from rfl,p,Sem.run_pure]
   ·cases h
  ·cases h
structure XS where
 tm:LN
 S:Hp
 c:Nat
 W:List Nat
 ks:List Kd
def XS.add(x:Option XS)(W:List Nat)(k:Kd):Option XS:=match x with
 |some y=>some ⟨y.tm,y.S,y.c,W++y.W,k::y.ks⟩
 |none=>none
def ZvX(T:TT)(l0:Nat)(us:TypeId×TypeId)(call:Caller)(d:Nat->Nat)(b:List Oper)(o:Oper)(ih:LN->Hp->Nat->Option XS)(a:LN)(S:Hp)(c:Nat):Option XS:=match Yk b a o with
  |some true=>match xN T o.op o.type (evF a)with
   |some v=>XS.add (ih (Yf a o.dst v) S c) [] .p
   |none=>match xO T l0 us call d o a S c with
    |some x=>XS.add (ih (Yf a o.dst x.v) x.S x.c) x.W (.f l0 x.D x.W)
    |none=>none
  |some false=>XS.add (ih (Yf a o.dst (.tup [])) S c) [] .p
  |none=>none
def Zjz(T:TT)(l0:Nat)(us:TypeId×TypeId)(call:Caller)(b:Nat->Nat)(a l:List Oper):LN->Hp->Nat->Option XS:=
 List.rec (motive:=fun _=>LN->Hp->Nat->Option XS) (fun d S c=>some ⟨d,S,c,[],[]⟩) (fun o _ ih=>ZvX T l0 us call b a o ih) l
def ZeX(T:TT)(l0:Nat)(us:TypeId×TypeId)(call:Caller)(d:Nat->Nat)(a:List Oper)(o:Oper)(r:List Oper)(b:LN)(S:Hp)(c:Nat):Zjz T l0 us call d a (o::r) b S c=(match Yk a b o with
  |some true=>match xN T o.op o.type (evT b)with
   |some v=>XS.add (Zjz T l0 us call d a r (Yf b o.dst v) S c) [] .p
   |none=>match xO T l0 us call d o b S c with
    |some x=>XS.add (Zjz T l0 us call d a r (Yf b o.dst x.v) x.S x.c) x.W (.f l0 x.D x.W)
    |none=>none
  |some false=>XS.add (Zjz T l0 us call d a r (Yf b o.dst (.tup [])) S c) [] .p
  |none=>none):=by rw[<-evF_eq];rfl
def XS.Xz{x:Option XS}{W:List Nat}{k:Kd}{y:XS}(h:XS.add x W k=some y):∃z,x=some z/\y=⟨z.tm,z.S,z.c,W++z.W,k::z.ks⟩:=by
 cases x with
 |none=>cases h
 |some z=>exact⟨z,rfl,(Uu h).symm⟩
def Agr(l0:Nat)(S:Hp)(W:List Nat)(G:Za):Prop:=∀s,(lkb S s≠none\/W.contains s=true)->G l0 s=lkb S s
def Agr.step{l0:Nat}{S a:Hp}{W1 W2:List Nat}{G:Za}(h:Agr l0 S (W1++W2) G)(c:∀s,W1.contains s=false->lkb a s=lkb S s):Agr l0 a W2 (ovB G l0 W1 (lkb a)):=fun s b=>by
 simp only[ovB,true_and];cases d:W1.contains s with
 |true=>simp
 |false=>
  simp only[QE,if_false];rw[c s d]at b⊢;refine h s (b.imp id fun h=>?_);simp only[QaU,Qr,decide_eq_true_eq]at h⊢;exact .inr h
section
variable {W1 W2:List Nat} {l0:Nat}
def Agr.first{S:Hp}{G:Za}(h:Agr l0 S (W1++W2) G):Agr l0 S W1 G:=fun s a=>h s (a.imp id fun h=>by
 simp only[QaU,Qr,decide_eq_true_eq]at h⊢;exact .inl h)
def Js{S c b:Hp}(e:∀s,W1.contains s=false->lkb c s=lkb S s)(d:∀s,W2.contains s=false->lkb b s=lkb c s):∀s,(W1++W2).contains s=false->lkb b s=lkb S s:=fun s f=>by
 have a:¬(s∈W1\/s∈W2):=by simpa using f
 rw[d s (by simpa using fun h=>a (.inr h)),e s (by simpa using fun h=>a (.inl h))]
variable {n:Nat}
def ZgD(b:l0<n)(G:Za)(W:List Nat)(B:Nat->Option Ze):ovB (full n [] G) l0 W B=full n [] (ovB G l0 W B):=by
 funext l s;simp only[ovB,full];by_cases a:l=n
 ·subst a;rw[if_neg (fun e=>by omega),if_pos rfl,if_pos rfl]
 ·rw[if_neg a,if_neg a]
def ZdI(a:l0<n)(G:Za)(s:Nat):full n [] G l0 s=G l0 s:=by
 simp only[full];rw[if_neg om]
def Bas.full{n l0:Nat}{H0 G:Za}(h:Bas l0 H0 G)(b:l0<n):Bas l0 H0 (full n [] G):=fun l s a=>by
 simp only[Abs.full];rw[if_neg om];exact h l s a
def Zo.low{G:Za}{E:Env}{w:World}(h:Zo (n+1) (full n [] G) E w):E.norm n/\ ∀l k b,l<n->G l k=some b->b.Below n:=by
 have a:=fun k=>h.dom n k (Qq n) (by simp[full,lkb])
 have c:E.norm n:=by
  refine⟨fun l k hl=>?_,fun l k hl=>?_,fun l k j hl=>?_⟩
  ·rcases GV hl with rfl|hl
   ·exact(a k).1
   ·exact h.norm.m l k hl
  ·rcases GV hl with rfl|hl
   ·exact(a k).2.1
   ·exact h.norm.g l k hl
  ·rcases GV hl with rfl|hl
   ·exact(a k).2.2 j
   ·exact h.norm.hist l k j hl
 exact⟨c,fun l k b hl d=>(h.blk l k b om (by simp only[full];rw[if_neg om];exact d)).lvl c⟩
section
variable {P:Program} {T:TT} {l0 n N:Nat} {H0:Za} {us:TypeId×TypeId} {call:Caller} {η:Nat->Nat} {φ:Fm}
theorem ZaM(b:TOK P T)(d:Zf3 P us)(e:WW P l0 H0 call){f:List Oper}:∀(l:List Oper) {i:LN} {S:Hp} {c:Nat} {x:XS},Zjz T l0 us call η f l i S c=some x-> ∀s,x.W.contains s=false->lkb x.S s=lkb S s
 |[],_,_,_,_,h=>by cases h;exact fun _ _=>rfl
 |o::r,i,S,c,x,h=>by
  rw[ZeX]at h;split at h
  ·split at h
   ·obtain⟨z,a,rfl⟩:=XS.Xz h;exact fun s g=>ZaM b d e r a s g
   ·split at h
    ·rename_i q j;obtain⟨z,a,rfl⟩:=XS.Xz h;exact Js (ZmW b d e j).off (ZaM b d e r a)
    ·cases h
  ·obtain⟨z,a,rfl⟩:=XS.Xz h;exact fun s g=>ZaM b d e r a s g
  ·cases h
def Zn6(y:TOK P T)(J:Zf3 P us)(hc:WW P l0 H0 call)(hn:l0<n){ops:Array Oper}(hd:∀o∈ops.toList,∀x,o.dst=some x->x<N){E0:Env}{w0:World}:
  ∀(l:List Oper) (i:Nat) (tm:LN) (S:Hp) (c:Nat) (x:XS),ops.toList.drop i=l->Zjz T l0 us call η ops.toList l tm S c=some x-> ∀G,Bas l0 H0 G->Agr l0 S x.W G-> ∀E w a,Yd φ.B n N ⟨tm,[],G⟩ E a w->Ext n E0 w0 E w->
   wpOpsIn (fr φ.ro) 0 P ops (fun e a' w'=>∃s' E',(e= .normal/\s'=⟨x.tm,[],ovB G l0 x.W (lkb x.S)⟩)/\Yd φ.B n N s' E' a' w'/\Ext n E0 w0 E' w') ((List.range ops.size).drop i) a w
 |[],i,tm,S,c,x,hi,h,G,hB,hG,E,w,a,hs,hx=>by
  cases h;have p:ops.size<=i:=by have:=congrArg List.length hi;simp at this;omega
  rw[Ux (by simpa using p)];exact⟨_,E,⟨rfl,by rw[VL]⟩,hs,hx⟩
 |o::r,i,tm,S,c,x,hi,h,G,hB,hG,E,w,a,hs,hx=>by
  have C:i<ops.size:=by
   rcases Qd i ops.size with h|h
   ·exact h
   ·rw[Ux (by simpa using h)]at hi;cases hi
  have Q:ops[i]? =some o:=by
   have:=congrArg (·[0]?) hi;simpa[Uy]using this
  have u:o∈ops.toList:=UU (by rw[hi];simp);have I:ops.toList.drop (i+1)=r:=by rw[<-List.drop_drop,hi];rfl
  rw[QB (by simpa using C)];simp only[MK,wpOpsIn,Q];rw[ZeX]at h;have next:∀(v:AV) (A:Hp) (K:Nat) (z:XS) (m L:Za),Zjz T l0 us call η ops.toList r (Yf tm o.dst v) A K=some z->Bas l0 H0 m->Agr l0 A z.W m->ovB m l0 z.W (lkb z.S)=L-> ∀E' w' F,VR E' v F->Zo (n+1) (full n [] m) E' w'->Ext (n+1) E w E' w'->
    wpOpsIn (fr φ.ro) 0 P ops (fun e a' w'=>∃s' E',(e= .normal/\s'=⟨z.tm,[],L⟩)/\Yd φ.B n N s' E' a' w'/\Ext n E0 w0 E' w') ((List.range ops.size).drop (i+1)) (a.put o.dst F) w':=by
   intro v A K z m L b H D M E' w' F O R f;subst M;refine Zn6 y J hc hn hd r (i+1) _ A K z I b m H D E' w' _ ⟨by rw[size_put];exact hs.size,by rw[XJ];exact hs.defs.ext f,fun t=>?_,R,(Zo.low R).2⟩ (hx.trans (f.mono (Uc _)));rw[VZ,Vd hs.size (hd o u)];split
   ·exact O
   ·exact(hs.tmps t).mono hs.heap.norm f.le
  split at h
  ·rename_i hg;rw[YE (fun j w d _ _=>hs.tmps d) hg];simp only[if_true];split at h
   ·rename_i v hv;obtain⟨z,b,rfl⟩:=XS.Xz h;exact Zrg y hv (n+1) (full n [] G) E w a _ _ hs.heap (fun x _=>Zaw hs.tmps x) (next v S c z G _ b hB hG rfl) φ.ro
   ·split at h
    ·rename_i q U;obtain⟨z,b,rfl⟩:=XS.Xz h;have k:=ZmW y J hc U;have g:Agr l0 S (q.W++z.W) G:=hG;refine k.sem (n+1) om (full n [] G) (hB.full hn) (fun s hs=>?_) E w a _ _ hs.heap (fun x _=>Zaw hs.tmps x) ?_ φ.ro
     ·rw[ZdI hn];rcases hs with hs|hs
      ·exact g.first s ((k.dom s hs).symm)
      ·exact g.first s (.inr hs)
     ·rw[ZgD hn];exact next q.v q.S q.c z _ _ b (hB.ov _ _) (g.step k.off) (Zcy (ZaM y J hc r b))
    ·cases h
  ·rename_i hg;rw[YE (fun j w d _ _=>hs.tmps d) hg];simp only[QE,if_false];refine⟨fun _ _=>trivial,?_⟩;obtain⟨z,b,rfl⟩:=XS.Xz h;exact next _ S c z G _ b hB hG rfl E w _ (XP E) hs.heap (.refl _ _ _)
  ·cases h
def ZcD(g:TOK P T)(w:Zf3 P us)(hc:WW P l0 H0 call)(hn:l0<n){A:Nat->Bool}{all:List Oper}{kd:Nat->Kd}:
  ∀(l:List Oper) (i:Nat) (tm:LN) (S:Hp) (c:Nat) (x:XS),Zjz T l0 us call η all l tm S c=some x->(∀j,j<l.length->kd (i+j)=x.ks.getD j .p)-> ∀G,Bas l0 H0 G->Agr l0 S x.W G->
   JB P (n+1) n A all kd i l tm (full n [] G) x.tm (full n [] (ovB G l0 x.W (lkb x.S)))
 |[],i,tm,S,c,x,h,_,G,_,_=>by
  cases h;rw[VL];exact .nil _ _ _
 |o::r,i,tm,S,c,x,h,hk,G,hB,hG=>by
  rw[ZeX]at h;have u:=hk 0 sm;have a:∀(z:XS) k W,x=⟨z.tm,z.S,z.c,W,k::z.ks⟩-> ∀j,j<r.length->kd (i+1+j)=z.ks.getD j .p:=fun z k W e j B=>by
   subst e;have:=hk (j+1) (by simp;omega);rw[show i+1+j=i+(j+1) by omega,this];rfl
  split at h
  ·rename_i hg;split at h
   ·rename_i v hv;obtain⟨z,m,rfl⟩:=XS.Xz h;refine .run i o r tm _ _ (full n [] G) _ v hg ?_ (ZcD g w hc hn r (i+1) _ S c z m (a z _ _ rfl) G hB hG);rw[show kd i= .p from u];exact⟨fun G'=>Zrg g hv (n+1) G',rfl⟩
   ·split at h
    ·rename_i q y;obtain⟨z,m,rfl⟩:=XS.Xz h;have d:=ZmW g w hc y;have b:Agr l0 S (q.W++z.W) G:=hG;have hr:=ZcD (A:=A) g w hc hn r (i+1) _ q.S q.c z m (a z _ _ rfl) _ (hB.ov _ _) (b.step d.off);rw[Zcy (ZaM g w hc r m)]at hr;refine .run i o r tm _ _ (full n [] (ovB G l0 q.W (lkb q.S))) _ q.v hg ?_ hr;rw[show kd i= .f l0 q.D q.W from u];refine⟨lkb q.S,fun G' t=>d.sem (n+1) om G' (fun l s hl=>?_) fun s hs=>?_,(ZgD hn _ _ _).symm⟩
     ·rw[t l s (fun e=>by omega)];exact hB.full hn l s hl
     rw[t l0 s (fun _=>hs),ZdI hn];rcases hs with hs|hs
     ·exact b.first s ((d.dom s hs).symm)
     ·exact b.first s (.inr hs)
    ·cases h
  ·rename_i hg;obtain⟨z,m,rfl⟩:=XS.Xz h;exact .pass i o r tm _ _ _ hg (ZcD g w hc hn r (i+1) _ S c z m (a z _ _ rfl) G hB hG)
  ·cases h
def nonP:Nat->List Kd->List (Nat×Kd)
 |_,[]=>[]
 |i,.p::r=>nonP (i+1) r
 |i,k::r=>(i,k)::nonP (i+1) r
def nonP_mem:∀(a:List Kd) (i j:Nat),a.getD j .p≠ .p->(i+j,a.getD j .p)∈nonP i a
 |[],i,j,h=>absurd rfl h
 |k::r,i,0,h=>by cases k<;>first|exact absurd rfl h|exact .head _
 |k::r,i,j+1,h=>by
  have:=nonP_mem r (i+1) j h;rw[show i+1+j=i+(j+1) by omega]at this;cases k<;>first|exact this|exact .tail _ this
def ZuG(a:List Nat)(l:List (Nat×Kd)):Bool:=l.all fun y=>l.all fun x=>Nat.ble y.1 x.1||((a.getD y.1 0).testBit x.1|| !clashF x.2 y.2)
def ZjA(a:List Oper)(b:List Kd):Bool:=Wv a (fun _=>.p)&&ZuG (ancL a []) (nonP 0 b)
def Kd.ZrB{a b:Kd}(h:Kd.clash a b=true):a≠ .p/\b≠ .p:=by
 cases a<;>cases b<;>first|exact absurd h Gu|exact⟨(fun e=>by cases e),(fun e=>by cases e)⟩
theorem Zlx{a:List Oper}{b:List Kd}(h:ZjA a b=true):Ordered a (fun i=>b.getD i .p):=by
 unfold ZjA at h;rw[Qb]at h;obtain⟨u,q⟩:=h;have k:=Zau u;refine⟨k.back,fun i j x y g v r f D n c=>?_⟩;cases d:Kd.clash (b.getD i .p) (b.getD j .p)with
 |false=>
  refine k.cmp i j x y g v r ?_ D n c;unfold clash at f⊢;rw[d,Uj]at f;rw[f];rfl
 |true=>
  obtain⟨s,t⟩:=Kd.ZrB d;have m:=nonP_mem b 0 i s;have l:=nonP_mem b 0 j t;rw[Qy]at m l;have:=Qw.1 (Qw.1 q _ l) _ m;rw[Zok,d]at this;have e:Nat.ble j i=false:=by
   cases e:Nat.ble j i with
   |false=>rfl
   |true=>exact absurd (MH e) om
  simp only[e,Qav,Gg,Uj]at this;exact ZcZ n a [] rfl (fun i _ j o=>by simp at o) j c i this
def Zub(T:TT)(l0:Nat)(us:TypeId×TypeId)(call:Caller)(d:Nat->Nat)(a:List Oper)(b:Bool)(e:LN)(S:Hp)(c:Nat):Option XS:=
 match Zjz T l0 us call d a a e S c with
 |some x=>match b with
  |true=>if ZjA a x.ks=true then some x else none
  |false=>some x
 |none=>none
theorem Zly(q:TOK P T)(hm:P.follows .mixedOrders=true)(r:Zf3 P us)(hc:WW P l0 H0 call)(hn:l0<n){id:Nat}{ops:Array Oper}{dr:Bool}(hd:Xu N ops.toList=true){tm:LN}{S:Hp}{c:Nat}{x:XS}
  (h:Zub T l0 us call η ops.toList dr tm S c=some x) {G:Za} (L:Bas l0 H0 G) (K:Agr l0 S x.W G):
  (∀s,x.W.contains s=false->lkb x.S s=lkb S s)/\AC P φ n N (.region id ops dr) (fun e s'=>e= .normal/\s'=⟨x.tm,[],ovB G l0 x.W (lkb x.S)⟩) ⟨tm,[],G⟩:=by
 unfold Zub at h;split at h
 ·rename_i y B;have z:x=y:=by
   split at h
   ·split at h
    ·exact(Uu h).symm
    ·cases h
   ·exact(Uu h).symm
  subst z;refine⟨ZaM q r hc _ B,?_⟩;cases dr with
  |false=>
   intro E w a hs;refine wpIn_region ?_;have:=Zn6 (φ:=φ) q r hc hn (XK hd) ops.toList 0 tm S c x rfl B G L K E w a hs (.refl _ _ _);simpa using this
  |true=>
   have C:ZjA ops.toList x.ks=true:=by
    simp only at h;split at h
    ·assumption
    ·cases h
   intro E w a hs;have hr:=ZcD (A:=Zdb ops.toList.length fun i=>x.ks.getD i .p) (kd:=fun i=>x.ks.getD i .p) q r hc hn ops.toList 0 tm S c x B (fun j _=>by rw[Qy]) G L K;obtain⟨I,F,V,R,O,U,X,f⟩:=hr.course;refine wpIn_region_any hm ?_;have b:ops.toList.length=ops.size:=sm;have Y:unl (Array.replicate ops.size false)<=ops.size:=by
    unfold unl;exact UA QaK sm
   have u:∀i,(Array.replicate ops.size false).getD i false=false:=fun i=>by
    rw[QD];by_cases d:i<ops.size<;>simp[d]
   have v:∀n t,va ops.toList (lkv (I 0)) V ((Array.replicate ops.size false).getD · false) n t=lkv (I 0) t:=by
    intro n t;induction n with
    |zero=>rfl
    |succ n ih=>rw[va,if_neg (fun c=>by rw[u]at c;cases c.1),ih]
   have D:∀k,hv n (fun i=>x.ks.getD i .p) F ((Array.replicate ops.size false).getD · false) k=F 0:=by
    intro k;induction k with
    |zero=>rfl
    |succ k ih=>
     funext l s;rw[Za3,if_neg (fun c=>by rw[u]at c;cases c.1),ih]
   refine Zea φ.ro a.defers (m:=n+1) (N:=N) (XK hd) f (Zlx C) E {w with drawn:=w.drawn+1} ?_ ops.size _ E {w with drawn:=w.drawn+1} a Y sm (fun i o _ d=>by have:=u i;simp only at d;rw[this]at d;cases d) hs.size rfl ?_ ?_ (.refl _ _ _)
   ·intro E' w' a' Q M J g H;rw[<-b,U]at J;rw[<-b,X]at g;exact⟨_,E',⟨rfl,rfl⟩,⟨Q,by rw[M];exact(hs.defs.ext (Env.Vz n E w)).ext H,J,g,(Zo.low g).2⟩,(Env.Vz n E w).trans (H.mono (Uc _))⟩
   ·intro t;rw[v,R];exact hs.tmps t
   ·rw[D,O];exact hs.heap.drew
 ·cases h
end
end
def dedup(l:LN):Nat->LN:=List.rec (motive:=fun _=>Nat->LN) (fun _=>[]) (fun p _ ih m=>Bool.rec (p::ih (Nat.lor m (Nat.shiftLeft 1 p.1))) (ih m) (Nat.beq (Nat.land (Nat.shiftRight m p.1) 1) 1)) l
structure XC where
 e:Exit
 tm:LN
 S:Hp
 c:Nat
 W:List Nat
def XC.add(x:Option XC)(W:List Nat):Option XC:=match x with
 |some y=>some ⟨y.e,y.tm,y.S,y.c,W++y.W⟩
 |none=>none
def XC.Xz{x:Option XC}{W:List Nat}{y:XC}(h:XC.add x W=some y):∃z,x=some z/\y=⟨z.e,z.tm,z.S,z.c,W++z.W⟩:=by
 cases x with
 |none=>cases h
 |some z=>exact⟨z,rfl,(Uu h).symm⟩
abbrev CodeX:=Code->LN->Hp->Nat->Option XC
def Zre(a:Nat):Option XC->Option XC
 |some y=>some ⟨match y.e with| .exit j=>if j=a then .normal else .exit j|e=>e,y.tm,y.S,y.c,y.W⟩
 |none=>none
def Ziw(ih:CodeX)(b:Code):Option XC->Option XC
 |some y=>match y.e with
  | .normal=>XC.add (ih b y.tm y.S y.c) y.W
  |_=>some y
 |none=>none
def ZmX(f r:LN->Hp->Nat->Option XC)(a:LN)(S:Hp)(c:Nat):Option XC:=match f a S c with
 |some y=>match y.e with
  | .normal=>XC.add (r (dedup y.tm 0) y.S y.c) y.W
  |_=>some y
 |none=>none
def ZjB(f:LN->Hp->Nat->Option XC)(m:Nat):LN->Hp->Nat->Option XC:=Nat.rec (fun _ _ _=>none) (fun _ r=>ZmX f r) m
def Zrj(T:TT)(l0:Nat)(us:TypeId×TypeId)(call:Caller)(e:Nat->Nat)(ih:CodeX):CodeX:=fun k d S c=>(match k with
 | .skip=>fun T l0 us call e ih d S c=>some ⟨.normal,d,S,c,[]⟩
 | .exit id=>fun T l0 us call e ih d S c=>some ⟨.exit id,d,S,c,[]⟩
 | .ret=>fun T l0 us call e ih d S c=>some ⟨.ret,d,S,c,[]⟩
 | .seq a b=>fun T l0 us call e ih d S c=>Ziw ih b (ih a d S c)
 | .block id b=>fun T l0 us call e ih d S c=>Zre id (ih b d S c)
 | .loop b=>fun T l0 us call e ih d S c=>ZjB (ih b) 10000 d S c
 | .cond x a b=>fun T l0 us call e ih d S c=>match evF d x with
  | .bool true=>ih a d S c
  | .bool false=>ih b d S c
  |_=>none
 | .region _ ops dr=>fun T l0 us call e ih d S c=>match Zub T l0 us call e ops.toList dr d S c with
  |some x=>some ⟨.normal,x.tm,x.S,x.c,x.W⟩
  |none=>none
 |_=>fun _ _ _ _ _ _ _ _ _=>none:TT->Nat->TypeId×TypeId->Caller->(Nat->Nat)->CodeX->LN->Hp->Nat->Option XC) T l0 us call e ih d S c
def Ziv(T:TT)(l0:Nat)(us:TypeId×TypeId)(call:Caller)(a:Nat->Nat)(k:Nat):CodeX:=Nat.rec (fun _ _ _ _=>none) (fun _ ih=>Zrj T l0 us call a ih) k
def YX(N:Nat):Code->Bool
 | .seq a b=>YX N a&&YX N b
 | .block _ b=>YX N b
 | .loop b=>YX N b
 | .cond _ a b=>YX N a&&YX N b
 | .region _ ops _=>Xu N ops.toList
 |_=>true
section
variable {P:Program} {T:TT} {l0 n N:Nat} {H0:Za} {us:TypeId×TypeId} {call:Caller} {η:Nat->Nat} {φ:Fm}
def Jz(P:Program)(l0:Nat)(H0:Za)(φ:Fm)(n N:Nat)(ih:CodeX):Prop:=∀k a S c x,YX N k=true->ih k a S c=some x->(∀s,x.W.contains s=false->lkb x.S s=lkb S s)/\
 ∀G,Bas l0 H0 G->Agr l0 S x.W G->AC P φ n N k (fun e b=>e=x.e/\b=⟨x.tm,[],ovB G l0 x.W (lkb x.S)⟩) ⟨a,[],G⟩
theorem Zta(m i:Nat):Nat.beq (Nat.land (Nat.shiftRight m i) 1) 1=m.testBit i:=by
 have h:(Nat.land (Nat.shiftRight m i) 1)=(m>>>i) % 2:=Nat.and_one_is_mod _;rw[h,Nat.testBit_eq_decide_div_mod_eq,Nat.shiftRight_eq_div_pow];by_cases e:m / 2^i % 2=1
 ·rw[e];rfl
 ·rw[decide_eq_false e];cases a:Nat.beq (m / 2^i % 2) 1 with
  |false=>rfl
  |true=>exact absurd (Uo a) e
def ZeD(t:Nat):∀(l:LN) (m:Nat),lkv (dedup l m) t=if m.testBit t=true then .dead else lkv l t
 |[],m=>by simp[dedup,lkv]
 |(i,v)::r,m=>by
  show lkv (Bool.rec ((i,v)::dedup r (Nat.lor m (Nat.shiftLeft 1 i))) (dedup r m) (Nat.beq (Nat.land (Nat.shiftRight m i) 1) 1)) t=_;rw[Zta];have b:(Nat.lor m (Nat.shiftLeft 1 i)).testBit t=(m.testBit t||decide (i=t)):=by
   show(m|||1<<<i).testBit t=_;rw[Nat.testBit_or,Nat.one_shiftLeft,Nat.testBit_two_pow]
  cases a:m.testBit i with
  |true=>
   show lkv (dedup r m) t=_;rw[ZeD t r m];split
   ·rfl
   ·rw[lkv,if_neg];rintro rfl;rename_i h;exact h a
  |false=>
   show lkv ((i,v)::dedup r _) t=_;rw[lkv,ZeD t r _,b,lkv];by_cases h:i=t
   ·subst h;simp[a]
   ·simp[h]
def Yd.Zxe{B:Base}{c b:LN}{L:List (Nat×Ze)}{H:Za}{E:Env}{a:Act}{w:World}(h:Yd B n N ⟨c,L,H⟩ E a w)(d:∀t,lkv b t=lkv c t):Yd B n N ⟨b,L,H⟩ E a w:=
 ⟨h.size,h.defs,fun t=>by show VR E (lkv b t) _;rw[d];exact h.tmps t,h.heap,h.out⟩
def Zhh{ih:CodeX}(i:Jz P l0 H0 φ n N ih){b:Code}(hd:YX N b=true):∀(m:Nat) {tm:LN} {S:Hp} {c:Nat} {x:XC},ZjB (ih b) m tm S c=some x->(∀s,x.W.contains s=false->lkb x.S s=lkb S s)/\
 ∀G,Bas l0 H0 G->Agr l0 S x.W G-> ∀E0 w0 E w a,Yd φ.B n N ⟨tm,[],G⟩ E a w->Ext n E0 w0 E w->Code.roundsIn (fr φ.ro) 0 P b (fun e a' w'=>∃s' E',(e=x.e/\s'=⟨x.tm,[],ovB G l0 x.W (lkb x.S)⟩)/\Yd φ.B n N s' E' a' w'/\Ext n E0 w0 E' w') m a w
 |0,_,_,_,_,h=>by cases h
 |m+1,tm,S,c,x,h=>by
  have h:ZmX (ih b) (ZjB (ih b) m) tm S c=some x:=h;unfold ZmX at h;split at h
  ·rename_i y v;obtain⟨p,q⟩:=i b tm S c y hd v;split at h
   ·rename_i he;obtain⟨z,A,rfl⟩:=XC.Xz h;obtain⟨r,u⟩:=Zhh i hd m A;refine⟨Js p r,fun G l o E0 w0 E w a hs hx=>?_⟩;refine wpIn_mono (q G l o.first E w a hs) ?_;rintro e a' w' ⟨s',E',⟨rfl,rfl⟩,f,d⟩;rw[he];have:=u _ (l.ov _ _) (o.step p) E0 w0 E' w' a' (f.Zxe fun t=>by rw[ZeD];simp) (hx.trans d);rw[Zcy r]at this;exact this
   ·rename_i he;cases h;refine⟨p,fun G l o E0 w0 E w a hs hx=>?_⟩;refine wpIn_mono (q G l o E w a hs) ?_;rintro e a' w' ⟨s',E',⟨rfl,rfl⟩,f,d⟩;have g:∃k j,(x.e=x.e/\k=(⟨x.tm,[],ovB G l0 x.W (lkb x.S)⟩:Zc))/\Yd φ.B n N k j a' w'/\Ext n E0 w0 j w':=⟨_,E',⟨rfl,rfl⟩,f,hx.trans d⟩
    revert g he;cases x.e<;>intro he g<;>first|exact g|exact absurd rfl he
  ·cases h
def Zrl{ih:CodeX}(f:Jz P l0 H0 φ n N ih){a b k:Code}(r:YX N b=true)(t:YX N a=true){g:LN}{S:Hp}{c:Nat}{x:XC}(h:Ziw ih b (ih a g S c)=some x)
  (o:∀Q s,AC P φ n N a (fun e d=>match e with| .normal=>AC P φ n N b Q d|e=>Q e d) s->AC P φ n N k Q s):(∀s,x.W.contains s=false->lkb x.S s=lkb S s)/\
 ∀G,Bas l0 H0 G->Agr l0 S x.W G->AC P φ n N k (fun e d=>e=x.e/\d=⟨x.tm,[],ovB G l0 x.W (lkb x.S)⟩) ⟨g,[],G⟩:=by
 unfold Ziw at h;split at h
 ·rename_i y v;obtain⟨m,p⟩:=f a g S c y t v;split at h
  ·rename_i l;obtain⟨z,A,rfl⟩:=XC.Xz h;obtain⟨q,u⟩:=f b _ _ _ z r A;refine⟨Js m q,fun G i j=>o _ _ ((p G i j.first).mono ?_)⟩;rintro e d ⟨rfl,rfl⟩;rw[l];refine(u _ (i.ov _ _) (j.step m)).mono ?_;rintro e d ⟨rfl,rfl⟩;exact⟨rfl,by rw[Zcy q]⟩
  ·rename_i l;cases h;refine⟨m,fun G i j=>o _ _ ((p G i j).mono ?_)⟩;rintro e d ⟨rfl,rfl⟩;split
   ·rename_i w;exact absurd w l
   ·exact⟨rfl,rfl⟩
 ·cases h
def Zrk(D:TOK P T)(I:P.follows .mixedOrders=true)(F:Zf3 P us)(J:WW P l0 H0 call)(H:l0<n){ih:CodeX}(f:Jz P l0 H0 φ n N ih):Jz P l0 H0 φ n N (Zrj T l0 us call η ih):=fun k C S c x i h=>by
 unfold Zrj at h;rw[evF_eq]at h;split at h
 ·cases h;exact⟨fun _ _=>rfl,fun G _ d=>.skip ⟨rfl,by rw[VL]⟩⟩
 ·cases h;exact⟨fun _ _=>rfl,fun G _ d=>.exit ⟨rfl,by rw[VL]⟩⟩
 ·cases h;exact⟨fun _ _=>rfl,fun G _ d=>.ret ⟨rfl,by rw[VL]⟩⟩
 ·simp only[YX,Qb]at i;exact Zrl f i.2 i.1 h fun Q s h=>AC.seq h
 ·rename_i id b;unfold Zre at h;split at h
  ·rename_i y A;cases h;obtain⟨p,o⟩:=f b C S c y i A;refine⟨p,fun G m d=>.block ((o G m d).mono ?_)⟩;rintro e L ⟨rfl,rfl⟩;split
   ·rename_i j u;rw[u];split
    ·rename_i z;exact⟨(if_pos z).symm,rfl⟩
    ·rename_i z;exact⟨(if_neg z).symm,rfl⟩
   ·rename_i u;exact⟨by
     split
     ·rename_i j e;exact absurd e (u j)
     ·rfl,rfl⟩
  ·cases h
 ·rename_i b;obtain⟨p,o⟩:=Zhh (b:=b) f i 10000 h;exact⟨p,fun G m d E w a r=>wpIn_loop_rounds _ (o G m d E w E w a r (.refl _ _ _))⟩
 ·rename_i q a b;simp only[YX,Qb]at i;split at h
  ·rename_i u;obtain⟨p,o⟩:=f a C S c x i.1 h;exact⟨p,fun G m d E w g r=>wpIn_cond_split (t:=true) (by
    have v:=Zaw r.tmps q;rw[u]at v;cases B:g.eval q<;>rw[B]at v<;>cases v;rfl) (fun _=>o G m d E w g r) (fun e=>by cases e)⟩
  ·rename_i u;obtain⟨p,o⟩:=f b C S c x i.2 h;exact⟨p,fun G m d E w g r=>wpIn_cond_split (t:=false) (by
    have v:=Zaw r.tmps q;rw[u]at v;cases B:g.eval q<;>rw[B]at v<;>cases v;rfl) (fun e=>by cases e) (fun _=>o G m d E w g r)⟩
  ·cases h
 ·rename_i id K O;split at h
  ·rename_i y A;cases h;exact⟨(Zly (φ:=⟨none,⟨0,[]⟩⟩) (id:=0) D I F J H i A (G:=fun l s=>if l=l0 then lkb S s else H0 l s) (fun l s M=>by simp only;rw[if_neg om]) (fun s _=>by simp)).1,fun G m d=>(Zly D I F J H i A m d).2⟩
  ·cases h
 ·cases h
def ZaL(a:TOK P T)(hm:P.follows .mixedOrders=true)(b:Zf3 P us)(hc:WW P l0 H0 call)(hn:l0<n):∀k,Jz P l0 H0 φ n N (Ziv T l0 us call η k)
 |0=>fun _ _ _ _ _ _ h=>by cases h
 |k+1=>Zrk a hm b hc hn (ZaL a hm b hc hn k)
end
def Zrh(T:TT)(l0:Nat)(a:LN)(S:Hp):ResultVar->Option AV
 | .tmp t=>some (Zmc a t)
 | .cell t ty=>match Zmc a t,T ty with
  | .ptr l k off,some r=>match Za9 S k with
   |some (.box cs)=>if l=l0/\off+r.size<=cs.length/\(r.isAgg=false->off<cs.length)then some (ldA r (cs.drop off))else none
   |_=>none
  |_,_=>none
def Zcd(T:TT)(l0:Nat)(a:LN)(S:Hp):List ResultVar->Option LA
 |[]=>some []
 |x::r=>match Zrh T l0 a S x,Zcd T l0 a S r with
  |some v,some vs=>some (v::vs)
  |_,_=>none
abbrev FTbl:=FuncId->Nat->Option (Func×List (Nat×Nat))
def hof:List (Nat×Nat)->Nat->Nat
 |[],_=>0
 |(i,v)::r,d=>if i=d then v else hof r d
def ZvV(T:TT)(l0:Nat)(a:Func):Option XC->Option (AV×Hp×Nat×List Nat)
 |some x=>match x.e with
  | .normal| .ret=>match Zcd T l0 x.tm x.S a.results.toList with
   |some vs=>some (tupR vs,x.S,x.c,x.W)
   |none=>none
  |_=>none
 |none=>none
def xFn(T:TT)(l0:Nat)(us:TypeId×TypeId)(b:FTbl)(ext:Caller)(ih:Caller):Caller:=fun f d a S c=>match ext f d a S c with
 |some r=>some r
 |none=>match b f d with
  |some (fn,hs)=>if a.length<=fn.ntmps then ZvV T l0 fn (Ziv T l0 us ih (hof hs) 1000 (Zz fn) (numbered 0 a) S c)else none
  |none=>none
def Zpn(P:Program)(b:FTbl):Prop:=∀f d a c,b f d=some (a,c)->Fun P f a (Zz a)/\YX a.ntmps (Zz a)=true
section
variable {P:Program} {T:TT} {l0:Nat} {H0:Za} {us:TypeId×TypeId}
def ZsV{f:Fm}{n N:Nat}{c:Code}{Q:Exit->Zc->Prop}{s:Zc}(h:AC P f n N c Q s)(i:∀e d,Q e d->d.L=[]):
  AC P f n N c (fun e d=>Q e d/\(∀t,Below n (lkv d.tmps t))/\ ∀l k b,l<n->d.H l k=some b->b.Below n) s:=fun E w a o=>wpIn_mono (h E w a o) fun e a' w' ⟨d,E',hQ,hr,hx⟩=>by
 have g:=hr.heap;rw[i e d hQ]at g;obtain⟨m,j⟩:=Zo.low g;exact⟨d,E',⟨hQ,fun t=>(hr.tmps t).lvl m,j⟩,hr,hx⟩
def wks_refl:∀l:LA,Wks l l
 |[]=>trivial
 |v::r=>⟨.refl v,wks_refl r⟩
def Zhg{n:Nat}(m:l0<n){e:LN}{S:Hp}{G:Za}(C:∀s,lkb S s≠none->G l0 s=lkb S s)(u:∀t,Below n (lkv e t))(w:∀l k b,l<n->G l k=some b->b.Below n):
  ∀{j:List ResultVar} {f:LA},Zcd T l0 e S j=some f->(∀x∈j,Y7 e G n [] T x)/\j.map (Zbx e G n [] T)=f/\ ∀v∈f,Below n v
 |[],f,h=>by cases h;exact⟨sm,rfl,sm⟩
 |x::j,f,h=>by
  simp only[Zcd]at h;split at h
  ·rename_i v us a F;cases h;obtain⟨H,J,I⟩:=Zhg m C u w F;have d:Y7 e G n [] T x/\Zbx e G n [] T x=v/\Below n v:=by
    unfold Zrh at a;simp only[lkvF_eq,lkbF_eq]at a;split at a
    ·cases a;exact⟨trivial,rfl,u _⟩
    ·rename_i t K;split at a
     ·rename_i l k g r D z;split at a
      ·rename_i p E;obtain⟨⟨rfl,A,B⟩,rfl⟩:=ifs a;have o:full n [] G l k=some (.box p):=by rw[ZdI m,C k (by rw[E];simp),E]
       have i:=(w l k _ m ((ZdI m G k).symm.trans o)).1;refine⟨⟨l,k,g,p,r,D,o,z,A,B⟩,?_,?_⟩
       ·simp only[Zbx,D,o,z,if_pos (show _/\_ from⟨A,B⟩),ldA]
       ·unfold ldA;split
        ·exact Yt fun c q=>i c (UU (UW q))
        ·rw[Qk];cases q:(p.drop g)[0]? with
         |none=>exact .dead
         |some c=>exact i c (UU (Gf q))
      ·cases a
     ·cases a
   refine⟨fun y hy=>?_,by rw[Qs,d.2.1,J],fun y hy=>?_⟩
   ·rcases Ql.1 hy with rfl|hy
    ·exact d.1
    ·exact H y hy
   ·rcases Ql.1 hy with rfl|hy
    ·exact d.2.2
    ·exact I y hy
  ·cases h
def Zt9(A:TOK P T)(X:P.follows .mixedOrders=true)(O:Zf3 P us){o:FTbl}(z:Zpn P o){ext ih:Caller}(t:WW P l0 H0 ext)(w:WW P l0 H0 ih):WW P l0 H0 (xFn T l0 us o ext ih):=⟨fun f J k S c v S' c' W h=>by
 unfold xFn at h;split at h
 ·rename_i r U;cases h;exact t.ok _ _ _ _ _ _ _ _ _ U
 ·split at h
  ·rename_i i q p;obtain⟨C,E⟩:=z f J i q p;obtain⟨Z,h⟩:=ifp h;unfold ZvV at h;split at h
   ·rename_i x V;have a:=fun(φ:Fm) (m:Nat) (g:l0<m)=>ZaL (φ:=φ) (n:=m) (N:=i.ntmps) (η:=hof q) A X O w g 1000 _ _ _ _ _ E V
    have j:=(a ⟨none,⟨0,[]⟩⟩ (l0+1) om).1;have l:(x.e= .normal\/x.e= .ret)-> ∀d,Zcd T l0 x.tm x.S i.results.toList=some d->(∃i R,Fun P f i R)/\
      (∀m,l0<m-> ∀G:Za,Bas l0 H0 G->(∀s,(lkb S s≠none\/x.W.contains s=true)->G l0 s=lkb S s)->Zh P m f k G (fun r H=>r=tupR d/\H=ovB G l0 x.W (lkb x.S)))/\
      (∀s,x.W.contains s=false->lkb x.S s=lkb S s):=by
     intro he d b;refine⟨⟨_,_,C⟩,fun m g G Y D=>?_,j⟩;refine ZhC A C Z fun B=>?_
     show AC P ⟨none,B⟩ m i.ntmps (Zz i) _ _;refine(ZsV ((a ⟨none,B⟩ m g).2 G Y D) (by rintro e F ⟨_,rfl⟩;rfl)).mono ?_;rintro e F ⟨⟨rfl,rfl⟩,L,I⟩;have u:∀s,lkb x.S s≠none->ovB G l0 x.W (lkb x.S) l0 s=lkb x.S s:=fun s q=>by
      simp only[ovB,true_and];cases hc:x.W.contains s with
      |true=>simp
      |false=>
       simp only[QE,if_false];rw[j s hc]at q⊢;exact D s (.inl q)
     obtain⟨K,q2,M⟩:=Zhg g u L I b;have Q:(∀y∈i.results.toList,Y7 x.tm (ovB G l0 x.W (lkb x.S)) m [] T y)/\ ∃r,Wks (i.results.toList.map (Zbx x.tm (ovB G l0 x.W (lkb x.S)) m [] T)) r/\(∀v∈r,Below m v)/\(tupR r=tupR d/\ovB G l0 x.W (lkb x.S)=ovB G l0 x.W (lkb x.S)):=
      ⟨K,d,by rw[q2];exact wks_refl d,M,rfl,rfl⟩
     rcases he with he|he<;>rw[he]<;>exact Q
    split at h
    ·rename_i he;split at h
     ·rename_i d b;cases h;exact l (.inl he) d b
     ·cases h
    ·rename_i he;split at h
     ·rename_i d b;cases h;exact l (.inr he) d b
     ·cases h
    ·cases h
   ·cases h
  ·cases h⟩
end
def Zbz.mono{P:Program}{m f:Nat}{args:LA}{H:Za}{u:FrameMode}{Q b:Za->Prop}(h:Zbz P m f args H u Q)(d:∀a,Q a->b a):Zbz P m f args H u b:=fun E w c i g=>
 (h E w c i g).mono fun e u' w' ⟨h1,h2,a,E',h3,h4⟩=>⟨h1,h2,a,E',d _ h3,h4⟩
def Zo.Zr1{n:Nat}{G:Za}{E:Env}{w:World}(h:Zo (n+1+1) (full (n+1) [] (full n [] G)) E w):E.norm n/\ ∀l k b,l<n->G l k=some b->b.Below n:=by
 obtain⟨c,_⟩:=Zo.low h;have a:=fun k=>h.dom n k om (by simp only[full];rw[if_neg om];simp[lkb])
 have d:E.norm n:=by
  refine⟨fun l k hl=>?_,fun l k hl=>?_,fun l k j hl=>?_⟩
  ·rcases GV hl with rfl|hl
   ·exact(a k).1
   ·exact c.m l k hl
  ·rcases GV hl with rfl|hl
   ·exact(a k).2.1
   ·exact c.g l k hl
  ·rcases GV hl with rfl|hl
   ·exact(a k).2.2 j
   ·exact c.hist l k j hl
 exact⟨d,fun l k b hl e=>(h.blk l k b om (by simp only[full];rw[if_neg om,if_neg om];exact e)).lvl d⟩
section
variable {args:LA}
def Zhl{P:Program}{T:TT}{n:Nat}{f f':FuncId}{fn fn':Func}{c':Code}{caps:LA}{H G3:Za}{Q:AV->Prop}(X:TOK P T)(hf:Fun P f fn (Zz fn))(hN:args.length<=fn.ntmps)(M:Fun P f' fn' c'){a R:Code}{id:Nat}{ops:Array Oper}{o1 o:Oper}{g:Operand}{tm' tm3:LN}{s1 S2:Zc}
  (hb:Zz fn= .seq a (.seq (.region id ops false) R)) (hl:ops.toList=[o1]++[o]) (hg:o.guard=none) (ho:o.op= .defer {callee:=.value g,args:=#[],argTypes:=#[]}) (x:o.dst=none) (hd:Xu fn.ntmps ops.toList=true)
  (A:∀B,AC P ⟨none,B⟩ n fn.ntmps a (fun e s'=>e= .normal/\s'=s1) ⟨numbered 0 args,[],H⟩)
  (G:∀B,Xi ⟨P,T,⟨none,B⟩,n,fn.ntmps⟩ plainO ops.toList (fun K=>evT K.tmps g= .fn (.func f') caps/\K=S2) [o1] s1)
  (h3:∀B,AC P ⟨none,B⟩ (n+1) fn.ntmps R (fun e s'=>(e= .normal\/e= .ret)/\s'=⟨tm3,[],full n [] G3⟩) ⟨S2.tmps,[],full n S2.L S2.H⟩)
  (s:∀c∈caps,Below (n+1) c) (W:∀p∈tm',lkv tm3 p.1=lkv tm' p.1/\Below (n+1) (lkv tm' p.1))
  (z:Zbz P (n+1) f' caps (full n [] G3) .returning (fun H1=>H1=full n [] G3))
  (y:(∀t,Below n (lkv tm3 t))->(∀l k b,l<n->G3 l k=some b->b.Below n)->PostF P T n fn.results.toList (fun r H'=>Q r/\H'=G3) .ret ⟨tm',[],G3⟩):
  Zh P n f args H fun r H'=>Q r/\H'=G3:=by
 have key:ZY P 0 n f args H (fun r H'=>Q r/\H'=G3) (fun _=>False):=fun E w vs hr hv=>by
  have q:fn.body=some (.seq a (.seq (.region id ops false) R)):=hb▸hf.body;refine(callsIn_wide (n:=0)).1 (callsIn_of_wp_marks hf.get q trivial ?_);refine wpIn_seq (wpIn_mono (A ⟨w.heap.size,[]⟩ E w _ (Yd.start hr hv hN)) ?_);rintro e a1 w1 ⟨s',E1,⟨rfl,rfl⟩,O,N⟩;refine wpIn_seq (wpIn_mono (Zlu X hl hg ho x (G _) hd O) ?_);rintro e2 a2 Z ⟨K,E2,J,l0,rfl,rfl,v,C,D,V,U,F⟩;refine wpIn_mono (h3 ⟨Z.heap.size,dfr f' J::l0.map mark⟩ E2 Z a2 U) ?_;rintro e3 Y w3 ⟨s3,E3,⟨he,rfl⟩,j,d⟩;have S:=(N.trans F).trans (d.mono (Uc n));obtain⟨u,m⟩:=Zo.Zr1 j.heap;have I:LeavesInM Fence.wide 0 P fn Y.tmps (Zf1 0 n E w (fun r H'=>Q r/\H'=G3) fun _=>False) Y.defers .returning w3:=
   Zic X sm M j S (C.ext d) D V ⟨v.1,fun i A G=>(v.2 i A G).ZuA (s _ (Qa A)) d.le⟩ s W m
    (Zbz.mono z fun H1 e=>⟨[],⟨tm',[],G3⟩,e,.refl _ _ _,y (fun t=>(j.tmps t).lvl u) m⟩)
  rcases he with rfl|rfl<;>exact I
 exact key.ret fun _ h=>h
structure Zrr where
 fn:Func
 a:Code
 R:Code
 d1:Nat
 f':FuncId
 cs:List Operand
 hs:List (Nat×Nat)
def isP(a:Nat):AV->Bool
 | .ptr l _ _=>l==a
 |_=>false
def Zh3{a m:Nat}(b:a<m){v:AV}(h:isP a v=true):Below m v:=by
 unfold isP at h;split at h
 ·simp only[beq_iff_eq]at h;subst h;exact .ptr _ _ _ b
 ·cases h
def rtmp:ResultVar->Nat
 | .tmp t=>t
 | .cell t _=>t
def Zn5(T:TT)(b:Nat)(a:Func)(W:List Nat):Option XC->Option (AV×Hp×Nat×List Nat)
 |some x=>if(a.results.toList.all fun r=>isP b (lkv x.tm (rtmp r)))=true then match x.e with
  | .normal| .ret=>match Zcd T b x.tm x.S a.results.toList with
   |some vs=>some (tupR vs,x.S,x.c,W++x.W)
   |none=>none
  |_=>none else none
 |none=>none
def Zt7(T:TT)(b:Nat)(d:TypeId×TypeId)(ih:Caller)(r:Zrr)(args:LA)(S:Hp)(c:Nat):Option (AV×Hp×Nat×List Nat):=
 if args.length<=r.fn.ntmps then match Ziv T b d ih (hof r.hs) 1000 r.a (numbered 0 args) S c with
 |some x=>match x.e with
  | .normal=>if((r.cs.map (evT x.tm)).all (isP b))=true then Zn5 T b r.fn x.W (Ziv T b d ih (hof r.hs) 1000 r.R (Yf x.tm (some r.d1) (.fn (.func r.f') (r.cs.map (evT x.tm)))) x.S x.c)else none
  |_=>none
 |none=>none else none
structure ZsD (P:Program) (f:FuncId) (r:Zrr):Prop where
 fn:Fun P f r.fn (Zz r.fn)
 clos:∃fn' c',Fun P r.f' fn' c'
 code:∃id ops o1 o,Zz r.fn= .seq r.a (.seq (.region id ops false) r.R)/\ops.toList=[o1]++[o]/\o1.guard=none/\(∃cs,o1.op= .makeFunc (.func r.f') #[] cs/\cs.toList=r.cs)/\o1.dst=some r.d1/\o.guard=none/\o.op= .defer {callee:=.value (.tmp r.d1),args:=#[],argTypes:=#[]}/\o.dst=none
 dst:YX r.fn.ntmps (Zz r.fn)=true
 def_:∀n H caps,0<n->caps.length=r.cs.length->Zbz P n r.f' caps H .returning (fun H1=>H1=H)
def Zqi{b:LN}{a:List ResultVar}{r:ResultVar}(h:r∈a):lkv (a.map fun r=>(rtmp r,lkv b (rtmp r))) (rtmp r)=lkv b (rtmp r):=by
 induction a with
 |nil=>cases h
 |cons x a ih=>
  simp only[Qs,lkv];split
  ·rename_i e;rw[e]
  ·rename_i e;rcases Ql.1 h with rfl|h
   ·exact absurd rfl e
   ·exact ih h
theorem Zfl{T:TT}{c:Nat}{d a:LN}{S:Hp}:∀{b:List ResultVar},(∀r∈b,lkv a (rtmp r)=lkv d (rtmp r))->Zcd T c a S b=Zcd T c d S b
 |[],_=>rfl
 |x::b,h=>by
  have f:Zrh T c a S x=Zrh T c d S x:=by
   have:=h x sm;cases x<;>simp only[rtmp]at this<;>simp only[Zrh,lkvF_eq,lkbF_eq,this]
  simp only[Zcd,f,Zfl fun r e=>h r (Qx _ e)]
def Zsw{P:Program}{T:TT}(X:TOK P T)(hm:P.follows .mixedOrders=true){a:Nat}{R:Za}{us:TypeId×TypeId}(hU:Zf3 P us){ih:Caller}(I:WW P a R ih){f:FuncId}{r:Zrr}(A:ZsD P f r){S S':Hp}{c c':Nat}{v:AV}{W:List Nat}(h:Zt7 T a us ih r args S c=some (v,S',c',W)):
  (∃d cd,Fun P f d cd)/\(∀m,a<m-> ∀G:Za,Bas a R G->(∀s,(lkb S s≠none\/W.contains s=true)->G a s=lkb S s)->Zh P m f args G (fun r H=>r=v/\H=ovB G a W (lkb S')))/\(∀s,W.contains s=false->lkb S' s=lkb S s):=by
 unfold Zt7 at h;obtain⟨hN,h⟩:=ifp h;obtain⟨id,av,o1,o,hb,hl,Z,⟨cs,az,aw⟩,ay,hg,ho,F⟩:=A.code;have l:=A.dst;rw[hb]at l;simp only[YX,Qb]at l;obtain⟨da,D,dR⟩:=l;split at h
 ·rename_i x hx;have O:=fun(φ:Fm) (m:Nat) (b:a<m)=>ZaL (φ:=φ) (n:=m) (N:=r.fn.ntmps) (η:=hof r.hs) X hm hU I b 1000 _ _ _ _ _ da hx
  split at h
  ·rename_i he;obtain⟨J,h⟩:=ifp h;unfold Zn5 at h;split at h
   ·rename_i y hy;have M:=fun(φ:Fm) (m:Nat) (b:a<m)=>ZaL (φ:=φ) (n:=m) (N:=r.fn.ntmps) (η:=hof r.hs) X hm hU I b 1000 _ _ _ _ _ dR hy
    obtain⟨V,h⟩:=ifp h;have z:=(O ⟨none,⟨0,[]⟩⟩ (a+1) om).1;have u:=(M ⟨none,⟨0,[]⟩⟩ (a+1) om).1;have E:(y.e= .normal\/y.e= .ret)-> ∀i,Zcd T a y.tm y.S r.fn.results.toList=some i->(∃d cd,Fun P f d cd)/\
      (∀m,a<m-> ∀G:Za,Bas a R G->(∀s,(lkb S s≠none\/(x.W++y.W).contains s=true)->G a s=lkb S s)->Zh P m f args G (fun r H=>r=tupR i/\H=ovB G a (x.W++y.W) (lkb y.S)))/\
      (∀s,(x.W++y.W).contains s=false->lkb y.S s=lkb S s):=by
     intro k i j;refine⟨⟨_,_,A.fn⟩,fun m b G hB hG=>?_,Js z u⟩;obtain⟨aq,au,Y⟩:=A.clos;have K:Agr a S (x.W++y.W) G:=hG;have ax:=K.step z;have e2:ovB (ovB G a x.W (lkb x.S)) a y.W (lkb y.S)=ovB G a (x.W++y.W) (lkb y.S):=Zcy u;refine Zhl (G3:=ovB G a (x.W++y.W) (lkb y.S)) (Q:=fun r=>r=tupR i) (tm':=r.fn.results.toList.map fun q=>(rtmp q,lkv y.tm (rtmp q))) (tm3:=y.tm) (s1:=⟨x.tm,[],ovB G a x.W (lkb x.S)⟩)
      (S2:=⟨Yf x.tm (some r.d1) (.fn (.func r.f') (r.cs.map (evT x.tm))),[],ovB G a x.W (lkb x.S)⟩) (caps:=r.cs.map (evT x.tm)) (g:=.tmp r.d1) X A.fn hN Y hb hl hg ho F D (fun B=>?_) (fun B=>?_) (fun B=>?_) ?_ ?_ ?_ ?_
     ·refine((O ⟨none,B⟩ m b).2 G hB K.first).mono ?_;rintro e s' ⟨rfl,rfl⟩;exact⟨he,rfl⟩
     ·simp only[Xi,Z,Vu,az,Zca,evP,ay];rw[aw];exact⟨trivial,by simp[evT,Yf,lkv],rfl⟩
     ·refine((M ⟨none,B⟩ (m+1) om).2 (full m [] (ovB G a x.W (lkb x.S))) ((hB.ov _ _).full b) (fun s C=>by rw[ZdI b];exact ax s C)).mono ?_;rintro e s' ⟨rfl,rfl⟩;refine⟨k,?_⟩;rw[ZgD b,e2]
     ·intro q w;exact Zh3 om (Qw.1 J q w)
     ·intro p hp;obtain⟨q,w,rfl⟩:=Qg.1 hp;rw[Zqi w];exact⟨rfl,Zh3 om (Qw.1 V q w)⟩
     ·exact A.def_ _ _ _ (UR _) sm
     ·intro q1 q2;have U:∀s,lkb y.S s≠none->ovB G a (x.W++y.W) (lkb y.S) a s=lkb y.S s:=fun s C=>by
       simp only[ovB,true_and];cases hc:(x.W++y.W).contains s with
       |true=>simp
       |false=>
        simp only[QE,if_false];rw[Js z u s hc]at C⊢;exact hG s (.inl C)
      have L:Zcd T a (r.fn.results.toList.map fun q=>(rtmp q,lkv y.tm (rtmp q))) y.S r.fn.results.toList=some i:=by
       rw[Zfl fun q w=>Zqi w];exact j
      obtain⟨p1,p2,p3⟩:=Zhg b U (fun t=>by
       rcases lkv_mem (tm:=r.fn.results.toList.map fun q=>(rtmp q,lkv y.tm (rtmp q))) (t:=t)with e|e
       ·rw[e];exact .dead
       ·obtain⟨q,w,e⟩:=Qg.1 e;simp only[Qax]at e;rw[<-e.2];exact q1 _) q2 L
      exact⟨p1,i,by rw[p2];exact wks_refl i,p3,rfl,rfl⟩
    split at h
    ·rename_i k;split at h
     ·rename_i i j;cases h;exact E (.inl k) i j
     ·cases h
    ·rename_i k;split at h
     ·rename_i i j;cases h;exact E (.inr k) i j
     ·cases h
    ·cases h
   ·cases h
  ·cases h
 ·cases h
end
def all2(f:AV->AV->Bool):LA->LA->Bool
 |[],[]=>true
 |a::az,b::bs=>f a b&&all2 f az bs
 |_,_=>false
def wkB:Nat->AV->AV->Bool
 |0,_,_=>false
 |d+1,a,b=>match a,b with
  | .int k n,.int k' n'=>k==k'&&n==n'
  | .bool x,.bool y=>x==y
  | .str x,.str y=>x==y
  | .sl k xs _,.sl k' ys .any=>(xs.isEmpty&&ys.isEmpty)||(k==k'&&all2 (wkB d) xs ys)
  | .agg xs,.agg ys=>all2 (wkB d) xs ys
  | .ptr l k o,.ptr l' k' o'=>l==l'&&k==k'&&o==o'
  |_,_=>false
def ZfB{f:AV->AV->Bool}(d:∀a b,f a b=true->WkS a b):∀{c bs:LA},all2 f c bs=true->ZcF c bs
 |[],[],_=>trivial
 |a::c,b::bs,h=>by
  simp only[all2,Qb]at h;exact⟨d _ _ h.1,ZfB d h.2⟩
 |[],_::_,h=>by cases h
 |_::_,[],h=>by cases h
def wkB_ok:∀(d:Nat) (a b:AV),wkB d a b=true->WkS a b
 |0,_,_,h=>by cases h
 |d+1,a,b,h=>by
  unfold wkB at h;split at h
  ·simp only[Qb,beq_iff_eq]at h;obtain⟨rfl,rfl⟩:=h;exact .refl _
  ·simp only[beq_iff_eq]at h;subst h;exact .refl _
  ·simp only[beq_iff_eq]at h;subst h;exact .refl _
  ·simp only[Md,Qb,Qbl,beq_iff_eq]at h;rcases h with⟨rfl,rfl⟩|⟨rfl,h⟩
   ·exact .nil _ _ _
   ·exact .slL (ZfB (wkB_ok d) h)
  ·exact .ZlK (ZfB (wkB_ok d) h)
  ·simp only[Qb,beq_iff_eq]at h;obtain⟨⟨rfl,rfl⟩,rfl⟩:=h;exact .refl _
  ·cases h
def Zdn(a bs:LA):Bool:=all2 (wkB 40) a bs
def wks_of:∀{a bs:LA},ZcF a bs->Wks a bs
 |[],[],_=>trivial
 |_::_,_::_,h=>⟨.deep h.1,wks_of h.2⟩
 |[],_::_,h=>h.elim
 |_::_,[],h=>h.elim
section
variable {bs:LA}
def Zsu{a:LA}(h:Zdn a bs=true):Wks a bs:=wks_of (ZfB (wkB_ok 40) h)
def XB{P:Program}{l0:Nat}{H0:Za}{f:FuncId}{fn:Func}{c:Code}{args:LA}{S:Hp}{v:AV}(hf:Fun P f fn c)(hw:Zdn args bs=true)(h:∀m,l0<m-> ∀G:Za,Bas l0 H0 G->(∀s,lkb S s≠none->G l0 s=lkb S s)->PC P m f bs G v):
  (∃fn cd,Fun P f fn cd)/\(∀m,l0<m-> ∀G:Za,Bas l0 H0 G->(∀s,(lkb S s≠none\/([]:List Nat).contains s=true)->G l0 s=lkb S s)->Zh P m f args G (fun r H=>r=v/\H=ovB G l0 [] (lkb S)))/\(∀s,([]:List Nat).contains s=false->lkb S s=lkb S s):=
 ⟨⟨_,_,hf⟩,fun m hm G a b=>by
  rw[VL];exact Zh.wk (h m hm G a fun s hs=>b s (.inl hs)) (Zsu hw),fun _ _=>rfl⟩
end
end Go.Abs

namespace Go.Abs
inductive Tm where
 |mk (kind num:Int) (name:Bs) (args:List Tm)
abbrev LT:=List Tm
section
variable {u t:Tm} {n:Nat} {p:Nat->Prop}
namespace Tm
def kind:Tm->Int|mk k _ _ _=>k
def num:Tm->Int|mk _ n _ _=>n
def name:Tm->Bs|mk _ _ s _=>s
def args:Tm->LT|mk _ _ _ l=>l
def enc:Tm->AV
 |mk k n s l=>.agg [.int .u8 k,.int .i64 n,.str s,.sl 4 (encs l) .any]
where encs:LT->LA
 |[]=>[]
 |t::r=>enc t::encs r
abbrev encs(l:LT):LA:=l.map enc
theorem encs_eq:∀l:LT,enc.encs l=l.map enc
 |[]=>rfl
 |t::r=>by rw[enc.encs,encs_eq r];rfl
def ZbN(t:Tm):t.enc= .agg [.int .u8 t.kind,.int .i64 t.num,.str t.name,.sl 4 (t.args.map enc) .any]:=by
 cases t;rw[enc,encs_eq];rfl
def cs(t:Tm):LA:=[.int .u8 t.kind,.int .i64 t.num,.str t.name,.sl 4 (t.args.map enc) .any]
def Zc3(t:Tm):t.enc= .agg t.cs:=t.ZbN
def Zep(t:Tm):t.enc.cells=t.cs:=by rw[Zc3];rfl
def Xp(h:u∈t.args):SizeOf.sizeOf u<SizeOf.sizeOf t:=by
 cases t with
 |mk k n s l=>have:=QU (show u∈l from h);simp;omega
def blw(n:Nat):∀t:Tm,Below n t.enc
 |mk k m s l=>by
  have b:∀u∈l,Below n u.enc:=fun u a=>by
   have:=QU a;exact blw n u
  rw[ZbN];refine Yt ?_;simp only[Ql,QA,or_false,forall_eq_or_imp,forall_eq];refine⟨.int _ _,.int _ _,.str _,Zl fun x c=>?_⟩;obtain⟨u,a,rfl⟩:=Qg.1 c;exact b u a
termination_by t=>SizeOf.sizeOf t
def _root_.Go.Abs.Zj{cs:LA}(h:ZW (fun c=>Below n c) cs):Below n (.iptr cs):=.iptr cs fun j a=>h.mem _ (Qa a)
def bcs(t:Tm):ZW (fun c=>Below n c) t.cs:=⟨.int _ _,.int _ _,.str _,Zl (fun x a=>by obtain⟨u,_,rfl⟩:=Qg.1 a;exact blw n u),trivial⟩
def Zhq(l:LT)(k:Nat):Inside n p (.sl k (l.map enc) .any):=Below.inside (Zl fun x a=>by obtain⟨u,_,rfl⟩:=Qg.1 a;exact blw n u)
def Yu(t:Tm):t.enc.cells=[.int .u8 t.kind,.int .i64 t.num,.str t.name,.sl 4 (t.args.map enc) .any]:=Zep t
def fold(t:Tm):AV.agg [.int .u8 t.kind,.int .i64 t.num,.str t.name,.sl 4 (t.args.map enc) .any]=t.enc:=t.ZbN.symm
def sz:Tm->Nat
 |mk _ _ _ l=>1+szs l
where szs:LT->Nat
 |[]=>0
 |t::r=>sz t+szs r
def ZeT{u:Tm}:∀{l:LT},u∈l->u.sz<=sz.szs l
 |t::r,h=>by
  simp only[sz.szs];rcases Ql.1 h with rfl|h
  ·omega
  ·have:=ZeT h;omega
def Zdk(t:Tm):1<=t.sz:=by cases t;simp only[sz];omega
def sz_len:∀l:LT,l.length<=sz.szs l
 |[]=>Qi _
 |t::r=>by have:=sz_len r;have:=Zdk t;simp only[sz.szs,Qm];omega
def ZnZ(t:Tm):t.sz=1+sz.szs t.args:=by cases t;rfl
def ZtX(h:u∈t.args):u.sz<t.sz:=by rw[ZnZ t];have:=ZeT h;omega
inductive Nm:Tm->Prop
 |mk (k n:Int) (s:Bs) (l:LT) (h:s.length<=140737488355328) (hk:0<=k/\k<=255) (hn:-9223372036854775808<=n/\n<=9223372036854775807) (ha:l.length<=1000000) (hl:∀u∈l,Nm u):Nm (.mk k n s l)
def Nm.arg(h:Nm t):∀u∈t.args,Nm u:=by cases h with|mk _ _ _ _ _ _ _ _ h=>exact h
def Nm.kd(h:Nm t):0<=t.kind:=by cases h with|mk _ _ _ _ _ h=>exact h.1
structure Good (t:Tm):Prop where
 sz:t.sz<=3000000000000
 nm:Nm t
def Good.name{t:Tm}(h:Good t):t.name.length<=140737488355328:=by
 obtain⟨_,h⟩:=h;cases h;assumption
def Good.arg(h:Good t)(a:u∈t.args):Good u:=by
 refine⟨MI (Um (ZtX a) h.sz),?_⟩;obtain⟨_,h⟩:=h;cases h with|mk k n s l _ _ _ _ hl=>exact hl u a
def Good.kind{t:Tm}(h:Good t):0<=t.kind/\t.kind<=255:=by obtain⟨_,h⟩:=h;cases h;assumption
def Good.num{t:Tm}(h:Good t):-9223372036854775808<=t.num/\t.num<=9223372036854775807:=by obtain⟨_,h⟩:=h;cases h;assumption
def Good.len(h:Good t):t.args.length<=1000000:=by obtain⟨_,h⟩:=h;cases h;assumption
def all(p:Tm->Bool):Tm->Bool
 |mk k n s l=>p (mk k n s l)&&alls p l
where alls (p:Tm->Bool):LT->Bool
 |[]=>true
 |t::r=>all p t&&alls p r
def all_eq(p:Tm->Bool)(t:Tm):all p t=(p t&&all.alls p t.args):=by cases t;rfl
theorem VQ(p:Tm->Bool):∀l:LT,all.alls p l=l.all (all p)
 |[]=>rfl
 |t::r=>by rw[all.alls,VQ p r];rfl
def Zw(l:LT)(i:Nat)(h:i<l.length)(d:AV):(l.map enc).getD i d=(l[i]).enc:=by
 rw[Qk,Ub,Qe h];rfl
end Tm
structure Am where
 pred:Bs
 args:LT
namespace Am
def cs(a:Am):LA:=[.str a.pred,.sl 4 (a.args.map Tm.enc) .any]
def enc(a:Am):AV:=.agg a.cs
theorem Yu(a:Am):a.enc.cells=[.str a.pred,.sl 4 (a.args.map Tm.enc) .any]:=rfl
theorem fold(a:Am):AV.agg [.str a.pred,.sl 4 (a.args.map Tm.enc) .any]=a.enc:=rfl
def bcs(a:Am):ZW (fun c=>Below n c) a.cs:=⟨.str _,Zl (fun x b=>by obtain⟨u,_,rfl⟩:=Qg.1 b;exact u.blw n),trivial⟩
def blw(n:Nat)(a:Am):Below n a.enc:=Yt a.bcs.mem
def Zhq(l:List Am)(k:Nat):Inside n p (.sl k (l.map enc) .any):=Below.inside (Zl fun x a=>by obtain⟨u,_,rfl⟩:=Qg.1 a;exact blw n u)
def Zw(l:List Am)(i:Nat)(h:i<l.length)(d:AV):(l.map enc).getD i d=(l[i]).enc:=by
 rw[Qk,Ub,Qe h];rfl
def sz(a:Am):Nat:=1+Tm.sz.szs a.args
structure Good (a:Am):Prop where
 pred:a.pred.length<=140737488355328
 sz:a.sz<=1000000
 nm:∀t∈a.args,Tm.Nm t
def Good.arg{a:Am}(h:Good a)(b:t∈a.args):t.Good:=by
 refine⟨?_,h.nm t b⟩;have:=Tm.ZeT b;have:=h.sz;simp only[Am.sz]at this;omega
def Good.len{a:Am}(h:Good a):a.args.length<=1000000:=by
 have:=Tm.sz_len a.args;have:=h.sz;simp only[Am.sz]at this;omega
end Am
variable {k:Nat}
def YF{j:Nat}{xs:LA}(hx:∀x∈xs,Below n x)(h:p j):Inside n p (.sl k xs (.buf n j)):=
 .sl k xs _ (fun i a c hc=>(((hx _ (Qa a)).cells _ (Qa hc))).inside) (fun l b e=>by cases e;exact .inr ⟨rfl,h⟩)
def Ze6{j:Nat}{l:List Bs}(h:p j):Inside n p (.sl k (l.map .str) (.buf n j)):=YF (fun x a=>by obtain⟨u,_,rfl⟩:=Qg.1 a;exact .str _) h
def Tm.YF{n k j:Nat}{p:Nat->Prop}{l:LT}(h:p j):Inside n p (.sl k (l.map Tm.enc) (.buf n j)):=Abs.YF (fun x hx=>by obtain⟨u,_,rfl⟩:=Qg.1 hx;exact u.blw n) h
def Am.YF{n k j:Nat}{p:Nat->Prop}{l:List Am}(h:p j):Inside n p (.sl k (l.map Am.enc) (.buf n j)):=Abs.YF (fun x hx=>by obtain⟨u,_,rfl⟩:=Qg.1 hx;exact u.blw n) h
def ZlN(l:List Bs):Below n (.sl k (l.map .str) .any):=Zl fun x a=>by obtain⟨u,_,rfl⟩:=Qg.1 a;exact .str _
def ZB(l:LT):Below n (.sl k (l.map Tm.enc) .any):=Zl fun x a=>by obtain⟨u,_,rfl⟩:=Qg.1 a;exact u.blw n
def Xj(l:List Am):Below n (.sl k (l.map Am.enc) .any):=Zl fun x a=>by obtain⟨u,_,rfl⟩:=Qg.1 a;exact u.blw n
end
end Go.Abs

namespace Go.Abs
def thn(c d:Int):Int:=if c=0 then d else c
theorem YD(d:Int):thn 0 d=d:=rfl
def J3{c:Int}(h:c≠0)(d:Int):thn c d=c:=if_neg h
def YC{c d:Int}(h:thn c d=0):c=0/\d=0:=by
 unfold thn at h;split at h
 ·exact⟨by assumption,h⟩
 ·exact absurd h (by assumption)
def WR(a b c:Int):thn (thn a b) c=thn a (thn b c):=by unfold thn;split<;>simp_all
def VH(a:Int):thn a 0=a:=by unfold thn;split<;>simp_all
def Yh(a b:Int):Int:=if a<b then -1 else if b<a then 1 else 0
def VB(a:Int):Yh a a=0:=by simp[Yh]
def WO{a b:Int}(h:Yh a b=0):a=b:=by
 unfold Yh at h;split at h
 ·cases h
 ·split at h
  ·cases h
  ·omega
def ZoN(a b:Int):Yh b a= -Yh a b:=by
 unfold Yh;split<;>split<;>first|omega|(split<;>omega)|rfl
def lexI:List Int->List Int->Int
 |[],[]=>0
 |[],_::_=>-1
 |_::_,[]=>1
 |a::x,b::y=>thn (Yh a b) (lexI x y)
theorem lexI_self:∀x:List Int,lexI x x=0
 |[]=>rfl
 |a::x=>by rw[lexI,VB,YD,lexI_self x]
theorem lexI_anti:∀x y:List Int,lexI y x= -lexI x y
 |[],[]=>rfl
 |[],_::_=>rfl
 |_::_,[]=>rfl
 |a::x,b::y=>by
  rw[lexI,lexI,ZoN a b,lexI_anti x y];unfold thn;split<;>split<;>first|rfl|omega
def lexI_trans:∀x y z:List Int,lexI x y<=0->lexI y z<=0->lexI x z<=0
 |[],[],[],_,_=>by decide
 |[],[],_::_,_,_=>by show(-1:Int)<=0;decide
 |[],_::_,[],_,_=>by decide
 |[],_::_,_::_,_,_=>by show(-1:Int)<=0;decide
 |_::_,[],_,h,_=>by exact absurd h (by show¬(1:Int)<=0;decide)
 |_::_,_::_,[],_,h=>by exact absurd h (by show¬(1:Int)<=0;decide)
 |a::x,b::y,c::z,h,h'=>by
  have ih:=lexI_trans x y z;rw[lexI]at h h'⊢;unfold thn at*;unfold Yh at*;rcases Int.lt_trichotomy a b with h1|h1|h1<;>rcases Int.lt_trichotomy b c with h2|h2|h2
  all_goals
   first
   |subst h1
   |skip
   first
   |subst h2
   |skip
   repeat' split at h
   all_goals repeat' split at h'
   all_goals repeat' split
   all_goals first|omega|(exact ih h h')|skip
def rank(k:Int):Int:=if k=1 then 0 else if k=2 then 1 else if k=4 then 2 else if k=3 then 3 else if k=5 then 4 else if k=6 then 5 else 6+k
def Zg5{a b:Int}(c:0<=a)(d:0<=b)(h:rank a=rank b):a=b:=by
 unfold rank at h;repeat' split at h
 all_goals omega
def cmpT:Tm->Tm->Int
 | .mk k n s l,.mk k' n' s' l'=>thn (Yh (rank k) (rank k')) (thn (if k=1 then Yh n n' else 0) (thn (Yh l.length l'.length) (thn (Lib.compareBytes s s') (thn (cmps l l') (Yh n n')))))
where cmps:LT->LT->Int
 |[],[]=>0
 |[],_::_=>-1
 |_::_,[]=>1
 |a::x,b::y=>thn (cmpT a b) (cmps x y)
def ZaU(a b:Tm):cmpT a b=thn (Yh (rank a.kind) (rank b.kind)) (thn (if a.kind=1 then Yh a.num b.num else 0) (thn (Yh a.args.length b.args.length) (thn (Lib.compareBytes a.name b.name) (thn (cmpT.cmps a.args b.args) (Yh a.num b.num))))):=by
 cases a;cases b;rw[cmpT];rfl
def Zfy(s:Bs):List Int:=s.map (fun b=>(b.toNat:Int)+1)++[0]
def lex_serS:∀(s t:Bs) (x y:List Int),lexI (Zfy s++x) (Zfy t++y)=thn (Lib.compareBytes s t) (lexI x y)
 |[],[],x,y=>by simp[Zfy,lexI,Lib.compareBytes,VB,YD]
 |[],b::t,x,y=>by
  simp only[Zfy,UJ,QG,Qs,QN,lexI,Lib.compareBytes];have:Yh 0 ((b.toNat:Int)+1)= -1:=by unfold Yh;rw[if_pos om]
  rw[this];rfl
 |a::s,[],x,y=>by
  simp only[Zfy,UJ,QG,Qs,QN,lexI,Lib.compareBytes];have:Yh ((a.toNat:Int)+1) 0=1:=by unfold Yh;rw[if_neg om,if_pos om]
  rw[this];rfl
 |a::s,b::t,x,y=>by
  have ih:=lex_serS s t x y;simp only[Zfy,Q5,QN,QG]at ih;simp only[Zfy,Qs,QN,lexI,Lib.compareBytes,Q5,QG];rw[ih];by_cases c:a<b
  ·have:Yh ((a.toNat:Int)+1) ((b.toNat:Int)+1)= -1:=by unfold Yh;rw[if_pos (by have:=UInt8.lt_iff_toNat_lt.1 c;omega)]
   rw[this,if_pos c];rfl
  ·rw[if_neg c];by_cases d:b<a
   ·have:Yh ((a.toNat:Int)+1) ((b.toNat:Int)+1)=1:=by
     have:=UInt8.lt_iff_toNat_lt.1 d;unfold Yh;rw[if_neg om,if_pos om]
    rw[this,if_pos d];rfl
   ·have:Yh ((a.toNat:Int)+1) ((b.toNat:Int)+1)=0:=by
     have f:¬a.toNat<b.toNat:=fun h=>c (UInt8.lt_iff_toNat_lt.2 h)
     have e:¬b.toNat<a.toNat:=fun h=>d (UInt8.lt_iff_toNat_lt.2 h)
     unfold Yh;rw[if_neg om,if_neg om]
    rw[this,if_neg d,YD]
def ser:Tm->List Int
 | .mk k n s l=>rank k::(if k=1 then n else 0)::(l.length:Int)::(Zfy s++(sers l++[n]))
where sers:LT->List Int
 |[]=>[]
 |t::r=>ser t++sers r
def ZtM(t:Tm):ser t=rank t.kind::(if t.kind=1 then t.num else 0)::(t.args.length:Int)::(Zfy t.name++(ser.sers t.args++[t.num])):=by cases t;rw[ser];rfl
def lex_ser:∀(a b:Tm) (_:a.Nm) (_:b.Nm) (x y:List Int),lexI (ser a++x) (ser b++y)=thn (cmpT a b) (lexI x y)
 | .mk k n s l,b,ha,hb,x,y=>by
  have B:∀(p q:LT),(∀u∈p,u∈l)->(∀u∈q,u.Nm)->p.length=q.length-> ∀x y:List Int,lexI (ser.sers p++x) (ser.sers q++y)=thn (cmpT.cmps p q) (lexI x y):=by
   intro p;induction p with
   |nil=>
    intro q _ _ c x y;have:q=[]:=Ua c.symm;subst this;rfl
   |cons t p ih=>
    intro q f o c x y;cases q with
    |nil=>cases c
    |cons u q=>
     have E:=lex_ser t u (ha.arg t (f t sm)) (o u sm);simp only[ser.sers,Q5,cmpT.cmps];rw[E,ih q (fun v i=>f v (Qx _ i)) (fun v i=>o v (Qx _ i)) (by simpa using c),WR]
  have w:0<=k:=ha.kd;have g:0<=b.kind:=hb.kd;have j:∀u∈b.args,u.Nm:=hb.arg;have C:(Tm.mk k n s l).kind=k:=rfl;have z:(Tm.mk k n s l).num=n:=rfl;have A:(Tm.mk k n s l).args=l:=rfl;have D:(Tm.mk k n s l).name=s:=rfl;rw[ZtM b,ser,ZaU,C,z,A,D];simp only[QN,Q5,QG,lexI];rw[lex_serS];by_cases r:Yh (rank k) (rank b.kind)=0
  ·have e:=Zg5 w g (WO r);by_cases m:Yh (l.length:Int) (b.args.length:Int)=0
   ·have c:=WO m;rw[B l b.args (fun u h=>h) j om,lexI];subst e;simp only[WR];by_cases d:b.kind=1
    ·simp[d,WR,lexI]
    ·simp[d,WR,lexI,VB,YD]
   ·subst e;by_cases d:b.kind=1
    ·simp[d,WR,J3 m]
    ·simp[d,WR,J3 m,VB,YD]
  ·simp only[J3 r]
termination_by a=>SizeOf.sizeOf a
decreasing_by
 have:=QU (f t sm);simp only[Tm.mk.sizeOf_spec];omega
theorem cmpBytes_zero:∀{s t:Bs},Lib.compareBytes s t=0->s=t
 |[],[],_=>rfl
 |[],_::_,h=>by cases h
 |_::_,[],h=>by cases h
 |a::s,b::t,h=>by
  rw[Lib.compareBytes]at h;split at h
  ·cases h
  ·split at h
   ·cases h
   ·rename_i c d;have:a=b:=UInt8.le_antisymm (UInt8.not_lt.1 d) (UInt8.not_lt.1 c);rw[this,cmpBytes_zero h]
theorem cmpBytes_self:∀s:Bs,Lib.compareBytes s s=0
 |[]=>rfl
 |a::s=>by rw[Lib.compareBytes,if_neg (UInt8.lt_irrefl a),if_neg (UInt8.lt_irrefl a),cmpBytes_self s]
def cmpBytes_val:∀s t:Bs,Lib.compareBytes s t= -1\/Lib.compareBytes s t=0\/Lib.compareBytes s t=1
 |[],[]=>.inr (.inl rfl)
 |[],_::_=>.inl rfl
 |_::_,[]=>.inr (.inr rfl)
 |a::s,b::t=>by
  rw[Lib.compareBytes];split
  ·exact .inl rfl
  ·split
   ·exact .inr (.inr rfl)
   ·exact cmpBytes_val s t
theorem less_cmp:∀s t:Bs,Op.bytesLess s t=decide (Lib.compareBytes s t= -1)
 |[],[]=>rfl
 |[],_::_=>rfl
 |_::_,[]=>rfl
 |a::s,b::t=>by
  rw[Lib.compareBytes,Op.bytesLess,less_cmp s t];by_cases c:a<b
  ·simp[c]
  ·rw[if_neg c];by_cases d:b<a
   ·have:a≠b:=fun e=>by subst e;exact UInt8.lt_irrefl _ d
    simp[c,d,this]
   ·have:a=b:=UInt8.le_antisymm (UInt8.not_lt.1 d) (UInt8.not_lt.1 c);subst this;simp[c]
def ZjY{a b:Tm}(c:a.Nm)(d:b.Nm):cmpT a b=lexI (ser a) (ser b):=by
 have:=lex_ser a b c d [] [];simp only[Qu,lexI,VH]at this;exact this.symm
theorem cmpT_zero:∀{a b:Tm},a.Nm->b.Nm->cmpT a b=0->a=b
 | .mk k n s l,b,ha,hb,h=>by
  have hl:∀(p q:LT),(∀u∈p,u∈l)->(∀u∈q,u.Nm)->cmpT.cmps p q=0->p=q:=by
   intro p;induction p with
   |nil=>intro q _ _ h;cases q with
    |nil=>rfl
    |cons u q=>cases h
   |cons t p ih=>
    intro q c g h;cases q with
    |nil=>cases h
    |cons u q=>
     simp only[cmpT.cmps]at h;obtain⟨f,i⟩:=YC h;rw[ih q (fun v hv=>c v (Qx _ hv)) (fun v hv=>g v (Qx _ hv)) i];rw[cmpT_zero (a:=t) (b:=u) (ha.arg t (c t sm)) (g u sm) f]
  have hk:0<=k:=ha.kd;have d:0<=b.kind:=hb.kd;have e:∀u∈b.args,u.Nm:=hb.arg;rw[ZaU]at h;obtain⟨f,h⟩:=YC h;obtain⟨i,h⟩:=YC h;obtain⟨y,h⟩:=YC h;obtain⟨o,h⟩:=YC h;obtain⟨w,h⟩:=YC h;cases b with
  |mk k' n' s' l'=>
   have j:k=k':=Zg5 hk d (WO f);have x:n=n':=WO h;have m:s=s':=cmpBytes_zero o;have r:l=l':=hl l l' (fun u h=>h) e w;rw[j,x,m,r]
termination_by a=>SizeOf.sizeOf a
decreasing_by
 have:=QU (c t sm);simp only[Tm.mk.sizeOf_spec];omega
def lex_sers:∀(p q:LT),(∀u∈p,u.Nm)->(∀u∈q,u.Nm)->p.length=q.length->lexI (ser.sers p) (ser.sers q)=cmpT.cmps p q
 |[],q,_,_,h=>by
  have:q=[]:=Ua h.symm;subst this;rfl
 |t::p,[],_,_,h=>by cases h
 |t::p,u::q,hp,hq,h=>by
  simp only[ser.sers,cmpT.cmps];rw[lex_ser t u (hp t sm) (hq u sm),lex_sers p q (fun v a=>hp v (by simp[a])) (fun v a=>hq v (by simp[a])) (by simpa using h)]
theorem cmps_zero:∀{p q:LT},(∀u∈p,u.Nm)->(∀u∈q,u.Nm)->cmpT.cmps p q=0->p=q
 |[],[],_,_,_=>rfl
 |[],_::_,_,_,h=>by cases h
 |_::_,[],_,_,h=>by cases h
 |t::p,u::q,hp,hq,h=>by
  simp only[cmpT.cmps]at h;obtain⟨b,c⟩:=YC h;rw[cmpT_zero (hp t sm) (hq u sm) b,cmps_zero (fun v a=>hp v (by simp[a])) (fun v a=>hq v (by simp[a])) c]
def fl{α:Type}(cs:α->LA)(l:List α):LA:=l.flatMap cs
section
variable {α:Type} {cs:α->LA} (hcs:∀x,(cs x).length=2)
include hcs
theorem ZbV:∀l:List α,(fl cs l).length=l.length*2
 |[]=>rfl
 |x::l=>by
  have:=ZbV l;simp only[fl,Uk,Qh,Qm,hcs]at this⊢;omega
end
section
variable {α:Type} (lt:α->α->Bool)
def ZgB{a:Type}(f:a->α->a)(b:a)(l:List α)(i:Nat)(h:i<l.length):(l.take (i+1)).foldl f b=f ((l.take i).foldl f b) l[i]:=by
 rw[Qn h,Gz];rfl
end
structure Lt where
 kind:Int
 neg:Bool
 at_:Am
 op:Int
 L:Tm
 R:Tm
abbrev Bnd:=List (Bs×Tm)
def ZK(n:Bs):Bnd->Option Tm
 |[]=>none
 |p::r=>if p.1=n then some p.2 else ZK n r
def posB(n:Bs):Bnd->Nat
 |[]=>0
 |p::r=>if Lib.compareBytes p.1 n<0 then posB n r+1 else 0
def WE(n:Bs)(v:Tm):Bnd->Bnd
 |[]=>[(n,v)]
 |p::r=>if Lib.compareBytes p.1 n<0 then p::WE n v r else(n,v)::p::r
def Ye(b:Bnd):Tm->Tm
 | .mk k n s l=>match (if k=3 then ZK s b else none)with
  |some v=>v
  |none=>.mk k n s (apps b l)
where apps (b:Bnd):LT->LT
 |[]=>[]
 |t::r=>Ye b t::apps b r
def matT:Tm->Tm->Bnd->Option Bnd
 | .mk k n s l,v,b=>
  if k=3 then match ZK s b with
   |none=>some (WE s v b)
   |some w=>if cmpT w v=0 then some b else none
  else if k=v.kind/\n=v.num/\s=v.name/\l.length=v.args.length then matL l v.args b else none
where matL:LT->LT->Bnd->Option Bnd
 |[],_,b=>some b
 |t::r,[],b=>some b
 |t::r,v::q,b=>match matT t v b with
  |none=>none
  |some c=>matL r q c
def nmT:Tm->List Bs
 | .mk k _ s l=>(if k=3 then [s]else [])++nms l
where nms:LT->List Bs
 |[]=>[]
 |t::r=>nmT t++nms r
def ZeB{a:Type}(c:a->a->Int)(x:a):List a->List a
 |[]=>[x]
 |y::r=>if c x y=0 then y::r else if c x y<0 then x::y::r else y::ZeB c x r
def X5{a:Type}(c:a->a->Int)(l:List a):List a:=l.foldr (ZeB c) []
def Z8(t:Tm):List Bs:=X5 Lib.compareBytes (nmT t)
def ZX(x:Lt):List Bs:=(if x.kind=2 then [x.L,x.R]else x.at_.args).flatMap Z8
def Wl(c:Int)(a b:Tm):Bool:=
 if c=1 then cmpT a b==0 else if c=2 then !(cmpT a b==0)else if c=3 then decide (cmpT a b<0)
 else if c=4 then decide (cmpT a b<=0)else if c=5 then decide (cmpT a b>0)else if c=6 then decide (cmpT a b ≥ 0)else false
/-! Expansions. -/
def Y6(n:Int):Bool:=decide (-2147483647<=n)&&decide (n<=2147483647)
def VU(c:Bs)(a b:Int):Option Int:=
 let r:=if c=[43]then some (a+b)else if c=[45]then some (a - b)else if c=[42]then some (a*b)
  else if c=[47]then(if b=0 then none else some (a.tdiv b))else if c=[92]then(if b=0 then none else some (a.tmod b))else none
 r.bind fun n=>if Y6 n then some n else none
def X3(b:Bs)(a:List Int):Option Int:=
 if a.all Y6 then match a with
  |[x]=>if b=[45]then some (-x)else none
  |[x,y]=>VU b x y
  |_=>none
 else none
def Yl(l:LT):List Int:=(l.filter fun t=>t.kind==1).map Tm.num
def Z9{a:Type}:List (List a)->List (List a)
 |[]=>[[]]
 |p::r=>p.flatMap fun x=>(Z9 r).map (x:: ·)
def Vp(n:Int):Tm:=.mk 1 n [] []
def ZoK(l:List Int):Option LT:=if(1000:Nat)<l.length then none else some (l.map Vp)
def minS:List Int->Int
 |[]=>0
 |x::r=>r.foldl min x
def maxS:List Int->Int
 |[]=>0
 |x::r=>r.foldl max x
def WG(a b:List Int):Option LT:=
 if a=[]\/b=[]then some []else
 if 1000<maxS b - minS a+1 then none else some ((List.range (maxS b - minS a+1).toNat).map fun i:Nat=>Vp (minS a+(i:Int)))
def Zbt(a:Bs)(b:List LT):Option LT:=ZoK (X5 Yh ((Z9 (b.map Yl)).filterMap (X3 a)))
def Zom(a:List LT):Option Nat:=a.foldlM (fun n p=>if 1000<n*p.length then none else some (n*p.length)) 1
def Zey(s:Bs)(a:List LT):Option LT:=
 if a.any (·.isEmpty)then some []else(Zom a).bind fun _=>some ((Z9 a).map fun r=>.mk 4 0 s r)
def expandS:Tm->Option LT
 | .mk k n s l=>match l with
  |[]=>some [.mk k n s []]
  |t::r=>(expandSs (t::r)).bind fun a=>
   if k=6 then WG (Yl (a.getD 0 [])) (Yl (a.getD 1 []))else if k=5 then Zbt s a else Zey s a
where expandSs:LT->Option (List LT)
 |[]=>some []
 |t::r=>(expandS t).bind fun p=>(expandSs r).bind fun a=>some (p::a)
end Go.Abs

namespace Go.Proofs.YthajllbimoodjaaGreatDoor
open Go.Abs
section
universe u
variable {α:Sort u} (k:TD->Nat->Nat->LA->α)
abbrev y1:=k (.func) 1 8 [.nilf]
abbrev y2:=k (.int .i64) 1 8 [.int .i64 0]
abbrev y4:=k (.bool) 1 1 [.bool false]
abbrev y5:=k (.int .u8) 1 1 [.int .u8 0]
abbrev y7:=k (.struct [(0,2),(1,3),(2,4),(3,6)]) 4 24 [.int .i64 0,.int .i64 0,.bool false,.int .u8 0]
abbrev y9:=k (.str) 1 16 [.str []]
abbrev y12:=k (.int .u64) 1 8 [.int .u64 0]
abbrev y15:=k (.ptr) 1 8 [.nilp]
abbrev y20:=k (.iface) 1 16 [.nili]
abbrev y21:=k (.int .i32) 1 4 [.int .i32 0]
abbrev y22:=k (.slice 114) 1 24 [.sl 3 [] .full]
abbrev y23:=k (.slice 25) 1 24 [.sl 4 [] .full]
abbrev y24:=k (.struct [(0,5),(1,3),(2,9),(3,23)]) 4 56 [.int .u8 0,.int .i64 0,.str [],.sl 4 [] .full]
abbrev y26:=k (.slice 39) 1 24 [.sl 23 [] .full]
abbrev y27:=k (.struct [(0,5),(1,22),(2,25),(6,25),(10,26),(11,25),(15,25),(19,23)]) 20 304 [.int .u8 0,.sl 3 [] .full,.int .u8 0,.int .i64 0,.str [],.sl 4 [] .full,.int .u8 0,.int .i64 0,.str [],.sl 4 [] .full,.sl 23 [] .full,.int .u8 0,.int .i64 0,.str [],.sl 4 [] .full,.int .u8 0,.int .i64 0,.str [],.sl 4 [] .full,.sl 4 [] .full]
abbrev y29:=k (.slice 33) 1 24 [.sl 2 [] .full]
abbrev y33:=k (.struct [(0,9),(1,23)]) 2 40 [.str [],.sl 4 [] .full]
abbrev y35:=k (.struct [(0,5),(1,4),(2,33),(4,5),(5,25),(9,25)]) 13 168 [.int .u8 0,.bool false,.str [],.sl 4 [] .full,.int .u8 0,.int .u8 0,.int .i64 0,.str [],.sl 4 [] .full,.int .u8 0,.int .i64 0,.str [],.sl 4 [] .full]
abbrev y36:=k (.slice 35) 1 24 [.sl 13 [] .full]
abbrev y37:=k (.slice 116) 1 24 [.sl 2 [] .full]
abbrev y39:=k (.struct [(0,5),(1,35),(14,36),(15,4),(16,5),(17,37),(18,5),(19,25)]) 23 296 [.int .u8 0,.int .u8 0,.bool false,.str [],.sl 4 [] .full,.int .u8 0,.int .u8 0,.int .i64 0,.str [],.sl 4 [] .full,.int .u8 0,.int .i64 0,.str [],.sl 4 [] .full,.sl 13 [] .full,.bool false,.int .u8 0,.sl 2 [] .full,.int .u8 0,.int .u8 0,.int .i64 0,.str [],.sl 4 [] .full]
abbrev y40:=k (.slice 51) 1 24 [.sl 8 [] .full]
abbrev y49:=k (.slice 64) 1 24 [.sl 9 [] .full]
abbrev y51:=k (.struct [(0,5),(1,29),(2,3),(3,3),(4,49),(5,3),(6,3),(7,23)]) 8 112 [.int .u8 0,.sl 2 [] .full,.int .i64 0,.int .i64 0,.sl 9 [] .full,.int .i64 0,.int .i64 0,.sl 4 [] .full]
abbrev y61:=k (.struct [(0,4),(1,33)]) 3 48 [.bool false,.str [],.sl 4 [] .full]
abbrev y62:=k (.slice 68) 1 24 [.sl 2 [] .full]
abbrev y64:=k (.struct [(0,5),(1,61),(4,4),(5,5),(6,62),(7,5),(8,3)]) 9 104 [.int .u8 0,.bool false,.str [],.sl 4 [] .full,.bool false,.int .u8 0,.sl 2 [] .full,.int .u8 0,.int .i64 0]
abbrev y66:=k (.slice 61) 1 24 [.sl 3 [] .full]
abbrev y68:=k (.struct [(0,23),(1,66)]) 2 48 [.sl 4 [] .full,.sl 3 [] .full]
abbrev y72:=k (.slice 28) 1 24 [.sl 20 [] .full]
abbrev y73:=k (.slice 219) 1 24 [.sl 5 [] .full]
abbrev y74:=k (.slice 211) 1 24 [.sl 2 [] .full]
abbrev y76:=k (.struct [(0,72),(1,73),(2,74),(3,4)]) 4 80 [.sl 20 [] .full,.sl 5 [] .full,.sl 2 [] .full,.bool false]
abbrev y82:=k (.struct [(0,44),(1,44)]) 2 16 [.nilp,.nilp]
abbrev y84:=k (.struct [(0,82),(2,28),(22,41)]) 23 328 [.nilp,.nilp,.int .u8 0,.sl 3 [] .full,.int .u8 0,.int .i64 0,.str [],.sl 4 [] .full,.int .u8 0,.int .i64 0,.str [],.sl 4 [] .full,.sl 23 [] .full,.int .u8 0,.int .i64 0,.str [],.sl 4 [] .full,.int .u8 0,.int .i64 0,.str [],.sl 4 [] .full,.sl 4 [] .full,.int .i64 0]
abbrev y87:=k (.slice 93) 1 24 [.sl 1 [] .full]
abbrev y91:=k (.map 9 3) 1 8 [.nilm]
abbrev y92:=k (.slice 155) 1 24 [.sl 5 [] .full]
abbrev y114:=k (.struct [(0,33),(2,36)]) 3 64 [.str [],.sl 4 [] .full,.sl 13 [] .full]
abbrev y116:=k (.struct [(0,23),(1,36)]) 2 48 [.sl 4 [] .full,.sl 13 [] .full]
abbrev y121:=k (.struct [(0,29)]) 1 24 [.sl 2 [] .full]
abbrev y122:=k (.map 211 197) 1 8 [.nilm]
abbrev y123:=k (.map 215 197) 1 8 [.nilm]
abbrev y125:=k (.struct [(0,121),(1,91),(2,122),(3,123)]) 4 48 [.sl 2 [] .full,.nilm,.nilm,.nilm]
abbrev y133:=k (.slice 9) 1 24 [.sl 1 [] .full]
abbrev y136:=k (.map 9 166) 1 8 [.nilm]
abbrev y138:=k (.struct [(0,136),(1,3),(2,36)]) 3 40 [.nilm,.int .i64 0,.sl 13 [] .full]
abbrev y151:=k (.slice 156) 1 24 [.sl 1 [] .full]
abbrev y153:=k (.struct [(0,136),(1,44),(2,87),(3,151)]) 4 64 [.nilm,.nilp,.sl 1 [] .full,.sl 1 [] .full]
abbrev y155:=k (.struct [(0,9),(1,25)]) 5 72 [.str [],.int .u8 0,.int .i64 0,.str [],.sl 4 [] .full]
abbrev y166:=k (.struct []) 0 0 []
abbrev y175:=k (.slice 178) 1 24 [.sl 1 [] .full]
abbrev y194:=k (.slice 5) 1 24 [.sl 1 [] .full]
abbrev y196:=k (.struct [(0,193),(1,194)]) 2 32 [.nilp,.sl 1 [] .full]
abbrev y197:=k (.slice 3) 1 24 [.sl 1 [] .full]
abbrev y211:=k (.struct [(0,9),(1,3)]) 2 24 [.str [],.int .i64 0]
abbrev y215:=k (.struct [(0,211),(2,3),(3,9)]) 4 48 [.str [],.int .i64 0,.int .i64 0,.str []]
abbrev y225:=k (.slice 36) 1 24 [.sl 1 [] .full]
abbrev y228:=k (.slice 232) 1 24 [.sl 14 [] .full]
abbrev y230:=k (.struct [(0,28),(20,36),(21,3),(22,228),(23,228),(24,4)]) 25 392 [.int .u8 0,.sl 3 [] .full,.int .u8 0,.int .i64 0,.str [],.sl 4 [] .full,.int .u8 0,.int .i64 0,.str [],.sl 4 [] .full,.sl 23 [] .full,.int .u8 0,.int .i64 0,.str [],.sl 4 [] .full,.int .u8 0,.int .i64 0,.str [],.sl 4 [] .full,.sl 4 [] .full,.sl 13 [] .full,.int .i64 0,.sl 14 [] .full,.sl 14 [] .full,.bool false]
abbrev y232:=k (.struct [(0,36),(1,35)]) 14 192 [.sl 13 [] .full,.int .u8 0,.bool false,.str [],.sl 4 [] .full,.int .u8 0,.int .u8 0,.int .i64 0,.str [],.sl 4 [] .full,.int .u8 0,.int .i64 0,.str [],.sl 4 [] .full]
abbrev y257:=k (.slice 133) 1 24 [.sl 1 [] .full]
abbrev y294:=k (.struct [(0,25)]) 4 56 [.int .u8 0,.int .i64 0,.str [],.sl 4 [] .full]
abbrev y303:=k (.slice 228) 1 24 [.sl 1 [] .full]
abbrev y334:=k (.int .u32) 1 4 [.int .u32 0]
abbrev y364:=k (.array 7 347) 7 56 [.nilf,.nilf,.nilf,.nilf,.nilf,.nilf,.nilf]
abbrev y380:=k (.map 5 30) 1 8 [.nilm]
abbrev y397:=k (.array 256 4) 256 256 (List.replicate 256 (.bool false))
abbrev y428:=k (.slice 23) 1 24 [.sl 1 [] .full]
abbrev y445:=k (.slice 197) 1 24 [.sl 1 [] .full]
abbrev y446:=k (.map 3 3) 1 8 [.nilm]
abbrev y460:=k (.array 32 5) 32 32 (List.replicate 32 (.int .u8 0))
abbrev y461:=k (.array 64 5) 64 64 (List.replicate 64 (.int .u8 0))
abbrev y478:=k (.map 9 477) 1 8 [.nilm]
end
def dat:List (Zp×List Nat):=[(y1 .mk,[1,30,47,53,65,69,79,101,103,105,107,127,129,140,141,145,156,159,161,163,165,171,182,184,186,187,189,192,203,206,207,208,216,227,234,236,238,243,244,245,250,252,255,260,272,277,281,308,319,322,338,342,347,354,361,366,377,434,447,448,453,454,467,477]),(y2 .mk,[2,3,41,327,343]),(y4 .mk,[4]),(y5 .mk,[5,6]),(y7 .mk,[7,8]),(y9 .mk,[9,10,11]),(y12 .mk,[12,270,336]),(y15 .mk,[15,16,17,44,80,131,134,150,177,178,193,282,295,401,432]),(y20 .mk,[20,199]),(y21 .mk,[21]),(y22 .mk,[22]),(y23 .mk,[23]),(y24 .mk,[24,25]),(y26 .mk,[26]),(y27 .mk,[27,28]),(y29 .mk,[29]),(y33 .mk,[33]),(y35 .mk,[35]),(y36 .mk,[36,169]),(y37 .mk,[37]),(y39 .mk,[39]),(y40 .mk,[40]),(y49 .mk,[49]),(y51 .mk,[51]),(y61 .mk,[61]),(y62 .mk,[62]),(y64 .mk,[64]),(y66 .mk,[66]),(y68 .mk,[68]),(y72 .mk,[72]),(y73 .mk,[73]),(y74 .mk,[74]),(y76 .mk,[76]),(y82 .mk,[82]),(y84 .mk,[84]),(y87 .mk,[87]),(y91 .mk,[91]),(y92 .mk,[92,93]),(y114 .mk,[114]),(y116 .mk,[116]),(y121 .mk,[121]),(y122 .mk,[122]),(y123 .mk,[123]),(y125 .mk,[125]),(y133 .mk,[133]),(y136 .mk,[136]),(y138 .mk,[138]),(y151 .mk,[151]),(y153 .mk,[153]),(y155 .mk,[155,219]),(y166 .mk,[166,167,402]),(y175 .mk,[175]),(y194 .mk,[194]),(y196 .mk,[196]),(y197 .mk,[197]),(y211 .mk,[211]),(y215 .mk,[215]),(y225 .mk,[225]),(y228 .mk,[228]),(y230 .mk,[230]),(y232 .mk,[232]),(y257 .mk,[257]),(y294 .mk,[294]),(y303 .mk,[303]),(y334 .mk,[334]),(y364 .mk,[364]),(y380 .mk,[380]),(y397 .mk,[397]),(y428 .mk,[428]),(y445 .mk,[445]),(y446 .mk,[446]),(y460 .mk,[460]),(y461 .mk,[461]),(y478 .mk,[478])]
def rows:List (TypeId×Zp):=dat.flatMap fun p=>p.2.map fun t=>(t,p.1)
def tt:TT:=fun t=>(rows.find? (·.1==t)).map (·.2)
def tok:TOK prog tt:=Zjv (by kernel_rfl)
theorem mixed:prog.follows .mixedOrders=true:=by kernel_rfl
def cxP(P:Program)(a:Fm)(n N:Nat):Cx:=⟨P,tt,a,n,N⟩
abbrev tb3(f:Nat->Prop)(a b c:Nat):Prop:=f a/\f b/\f c
abbrev tb9(f:Nat->Prop)(a b c d e g h i j:Nat):Prop:=tb3 f a b c/\tb3 f d e g/\tb3 f h i j
abbrev Rw:=(TD->Nat->Nat->LA->Prop)->Prop
abbrev tbT(r:Rw)(t:Nat):Prop:=r fun a b c d=>tt t=some ⟨a,b,c,d⟩
abbrev tbD(d:TD)(t:Nat):Prop:=Wx tt t=some d
abbrev tbF(t i o:Nat)(r:Rw):Prop:=r fun a b c d=>ZaX tt t i=some (o,⟨a,b,c,d⟩)
abbrev tbS(t e:Nat)(r:Rw):Prop:=r fun a b c d=>sliceOf tt t=some (e,⟨a,b,c,d⟩)
abbrev tbM(t k e:Nat)(r:Rw):Prop:=r fun a b c d=>mapOf tt t=some (k,e,⟨a,b,c,d⟩)
def ttT:tb9 (tbT y1) 1 30 47 53 65 69 79 101 103/\tb9 (tbT y1) 105 107 127 129 140 141 145 156 159/\tb9 (tbT y1) 161 163 165 171 182 184 186 187 189/\tb9 (tbT y1) 192 203 206 207 208 216 227 234 236/\tb9 (tbT y1) 238 243 244 245 250 252 255 260 272/\tb9 (tbT y1) 277 281 308 319 322 338 342 347 354/\tb9 (tbT y1) 361 366 377 434 447 448 453 454 467/\tbT y1 477/\tb3 (tbT y2) 2 3 41/\tbT y2 327/\tbT y2 343/\tbT y4 4/\tbT y5 5/\tbT y5 6/\tbT y7 7/\tbT y7 8/\tb3 (tbT y9) 9 10 11/\tb3 (tbT y12) 12 270 336/\tb9 (tbT y15) 15 16 17 44 80 131 134 150 177/\tb3 (tbT y15) 178 193 282/\tb3 (tbT y15) 295 401 432/\tbT y20 20/\tbT y20 199/\tbT y21 21/\tbT y22 22/\tbT y23 23/\tbT y24 24/\tbT y24 25/\tbT y26 26/\tbT y27 27/\tbT y27 28/\tbT y29 29/\tbT y33 33/\tbT y35 35/\tbT y36 36/\tbT y36 169/\tbT y37 37/\tbT y39 39/\tbT y40 40/\tbT y49 49/\tbT y51 51/\tbT y61 61/\tbT y62 62/\tbT y64 64/\tbT y66 66/\tbT y68 68/\tbT y72 72/\tbT y73 73/\tbT y74 74/\tbT y76 76/\tbT y82 82/\tbT y84 84/\tbT y87 87/\tbT y91 91/\tbT y92 92/\tbT y92 93/\tbT y114 114/\tbT y116 116/\tbT y121 121/\tbT y122 122/\tbT y123 123/\tbT y125 125/\tbT y133 133/\tbT y136 136/\tbT y138 138/\tbT y151 151/\tbT y153 153/\tbT y155 155/\tbT y155 219/\tb3 (tbT y166) 166 167 402/\tbT y175 175/\tbT y194 194/\tbT y196 196/\tbT y197 197/\tbT y211 211/\tbT y215 215/\tbT y225 225/\tbT y228 228/\tbT y230 230/\tbT y232 232/\tbT y257 257/\tbT y294 294/\tbT y303 303/\tbT y334 334/\tbT y364 364/\tbT y380 380/\tbT y397 397/\tbT y428 428/\tbT y445 445/\tbT y446 446/\tbT y460 460/\tbT y461 461/\tbT y478 478:=by
 repeat' first|exact rfl|refine Qa2 ?_ ?_
def ttF:tbF 7 0 0 y2/\tbF 7 1 1 y2/\tbF 7 2 2 y4/\tbF 7 3 3 y5/\tbF 8 0 0 y2/\tbF 8 1 1 y2/\tbF 8 2 2 y4/\tbF 8 3 3 y5/\tbF 24 0 0 y5/\tbF 24 1 1 y2/\tbF 24 2 2 y9/\tbF 24 3 3 y23/\tbF 25 0 0 y5/\tbF 25 1 1 y2/\tbF 25 2 2 y9/\tbF 25 3 3 y23/\tbF 27 0 0 y5/\tbF 27 1 1 y22/\tbF 27 2 2 y24/\tbF 27 3 6 y24/\tbF 27 4 10 y26/\tbF 27 5 11 y24/\tbF 27 6 15 y24/\tbF 27 7 19 y23/\tbF 28 0 0 y5/\tbF 28 1 1 y22/\tbF 28 2 2 y24/\tbF 28 3 6 y24/\tbF 28 4 10 y26/\tbF 28 5 11 y24/\tbF 28 6 15 y24/\tbF 28 7 19 y23/\tbF 33 0 0 y9/\tbF 33 1 1 y23/\tbF 35 0 0 y5/\tbF 35 1 1 y4/\tbF 35 2 2 y33/\tbF 35 3 4 y5/\tbF 35 4 5 y24/\tbF 35 5 9 y24/\tbF 39 0 0 y5/\tbF 39 1 1 y35/\tbF 39 2 14 y36/\tbF 39 3 15 y4/\tbF 39 4 16 y5/\tbF 39 5 17 y37/\tbF 39 6 18 y5/\tbF 39 7 19 y24/\tbF 51 0 0 y5/\tbF 51 1 1 y29/\tbF 51 2 2 y2/\tbF 51 3 3 y2/\tbF 51 4 4 y49/\tbF 51 5 5 y2/\tbF 51 6 6 y2/\tbF 51 7 7 y23/\tbF 61 0 0 y4/\tbF 61 1 1 y33/\tbF 64 0 0 y5/\tbF 64 1 1 y61/\tbF 64 2 4 y4/\tbF 64 3 5 y5/\tbF 64 4 6 y62/\tbF 64 5 7 y5/\tbF 64 6 8 y2/\tbF 68 0 0 y23/\tbF 68 1 1 y66/\tbF 76 0 0 y72/\tbF 76 1 1 y73/\tbF 76 2 2 y74/\tbF 76 3 3 y4/\tbF 82 0 0 y15/\tbF 82 1 1 y15/\tbF 84 0 0 y82/\tbF 84 1 2 y27/\tbF 84 2 22 y2/\tbF 114 0 0 y33/\tbF 114 1 2 y36/\tbF 116 0 0 y23/\tbF 116 1 1 y36/\tbF 121 0 0 y29/\tbF 125 0 0 y121/\tbF 125 1 1 y91/\tbF 125 2 2 y122/\tbF 125 3 3 y123/\tbF 138 0 0 y136/\tbF 138 1 1 y2/\tbF 138 2 2 y36/\tbF 153 0 0 y136/\tbF 153 1 1 y15/\tbF 153 2 2 y87/\tbF 153 3 3 y151/\tbF 155 0 0 y9/\tbF 155 1 1 y24/\tbF 196 0 0 y15/\tbF 196 1 1 y194/\tbF 211 0 0 y9/\tbF 211 1 1 y2/\tbF 215 0 0 y211/\tbF 215 1 2 y2/\tbF 215 2 3 y9/\tbF 219 0 0 y9/\tbF 219 1 1 y24/\tbF 230 0 0 y27/\tbF 230 1 20 y36/\tbF 230 2 21 y2/\tbF 230 3 22 y228/\tbF 230 4 23 y228/\tbF 230 5 24 y4/\tbF 232 0 0 y36/\tbF 232 1 1 y35/\tbF 294 0 0 y24:=by
 repeat' first|exact rfl|refine Qa2 ?_ ?_
def ttS:tbS 22 114 y114/\tbS 23 25 y24/\tbS 26 39 y39/\tbS 29 33 y33/\tbS 36 35 y35/\tbS 37 116 y116/\tbS 40 51 y51/\tbS 49 64 y64/\tbS 62 68 y68/\tbS 66 61 y61/\tbS 72 28 y27/\tbS 73 219 y155/\tbS 74 211 y211/\tbS 87 93 y92/\tbS 92 155 y155/\tbS 93 155 y155/\tbS 133 9 y9/\tbS 151 156 y1/\tbS 169 35 y35/\tbS 175 178 y15/\tbS 194 5 y5/\tbS 197 3 y2/\tbS 225 36 y36/\tbS 228 232 y232/\tbS 257 133 y133/\tbS 303 228 y228/\tbS 428 23 y23/\tbS 445 197 y197:=by
 repeat' first|exact rfl|refine Qa2 ?_ ?_
def ttD:tb9 (tbD (.func)) 1 30 47 53 65 69 79 101 103/\tb9 (tbD (.func)) 105 107 127 129 140 141 145 156 159/\tb9 (tbD (.func)) 161 163 165 171 182 184 186 187 189/\tb9 (tbD (.func)) 192 203 206 207 208 216 227 234 236/\tb9 (tbD (.func)) 238 243 244 245 250 252 255 260 272/\tb9 (tbD (.func)) 277 281 308 319 322 338 342 347 354/\tb9 (tbD (.func)) 361 366 377 434 447 448 453 454 467/\tbD (.func) 477/\tb3 (tbD (.int .i64)) 2 3 41/\tbD (.int .i64) 327/\tbD (.int .i64) 343/\tbD (.bool) 4/\tbD (.int .u8) 5/\tbD (.int .u8) 6/\tb3 (tbD (.str)) 9 10 11/\tb3 (tbD (.int .u64)) 12 270 336/\tb9 (tbD (.ptr)) 15 16 17 44 80 131 134 150 177/\tb3 (tbD (.ptr)) 178 193 282/\tb3 (tbD (.ptr)) 295 401 432/\tbD (.iface) 20/\tbD (.iface) 199/\tbD (.int .i32) 21/\tbD (.map 9 3) 91/\tbD (.map 211 197) 122/\tbD (.map 215 197) 123/\tbD (.map 9 166) 136/\tbD (.int .u32) 334/\tbD (.map 5 30) 380/\tbD (.map 3 3) 446/\tbD (.map 9 477) 478:=by
 repeat' first|exact rfl|refine Qa2 ?_ ?_
def ttM:tbM 91 9 3 y2/\tbM 122 211 197 y197/\tbM 123 215 197 y197/\tbM 136 9 166 y166/\tbM 380 5 30 y1/\tbM 446 3 3 y2/\tbM 478 9 477 y1:=by
 repeat' first|exact rfl|refine Qa2 ?_ ?_
end Go.Proofs.YthajllbimoodjaaGreatDoor

namespace Go.Abs
section
variable {cx:Cx} {k k' l:List Itm} {Q:Exit->Zc->Prop} {s:Zc} {c:Code} {p:Prop}
def nR{id:Nat}{ops:Array Oper}(h:p)(hl:norm 60 l= .code c::k:=by exact rfl)(hc:c= .region id ops false:=by exact rfl)(hT:TOK cx.P cx.T:=by exact tok)(e:YT cx plainO ops.toList k Q ops.toList s=p:=by simp only[go_sem,simprocAttr];exact rfl)(hd:Xu cx.N ops.toList=true:=by kernel_rfl):AKc cx l Q s:=
 V3 hT hl hc (e▸h) hd
def nr{id:Nat}{ops:Array Oper}(h:YT cx plainO ops.toList k Q ops.toList s)(hl:norm 60 l= .code c::k:=by exact rfl)(hc:c= .region id ops false:=by exact rfl)(hT:TOK cx.P cx.T:=by exact tok)(hd:Xu cx.N ops.toList=true:=by kernel_rfl):AKc cx l Q s:=
 V3 hT hl hc h hd
def nq{r:Prop}{id:Nat}{ops:Array Oper}(x:r)(h:p)(hl:norm 60 l= .code c::k:=by exact rfl)(hc:c= .region id ops false:=by exact rfl)(hT:TOK cx.P cx.T:=by exact tok)(e:r->YT cx plainO ops.toList k Q ops.toList s=p:=by intro zz;simp only[go_sem,simprocAttr,zz];exact rfl)(hd:Xu cx.N ops.toList=true:=by kernel_rfl):AKc cx l Q s:=
 V3 hT hl hc ((e x).mpr h) hd
def nq2{r r':Prop}{id:Nat}{ops:Array Oper}(x:r)(y:r')(h:p)(hl:norm 60 l= .code c::k:=by exact rfl)(hc:c= .region id ops false:=by exact rfl)(hT:TOK cx.P cx.T:=by exact tok)(e:r->r'->YT cx plainO ops.toList k Q ops.toList s=p:=by intro zz zy;simp only[go_sem,simprocAttr,zz,zy];exact rfl)(hd:Xu cx.N ops.toList=true:=by kernel_rfl):AKc cx l Q s:=
 V3 hT hl hc ((e x y).mpr h) hd
def nq3{r r' r'':Prop}{id:Nat}{ops:Array Oper}(x:r)(y:r')(z:r'')(h:p)(hl:norm 60 l= .code c::k:=by exact rfl)(hc:c= .region id ops false:=by exact rfl)(hT:TOK cx.P cx.T:=by exact tok)(e:r->r'->r''->YT cx plainO ops.toList k Q ops.toList s=p:=by intro zz zy zx;simp only[go_sem,simprocAttr,zz,zy,zx];exact rfl)(hd:Xu cx.N ops.toList=true:=by kernel_rfl):AKc cx l Q s:=
 V3 hT hl hc ((e x y z).mpr h) hd
def nq4{r r' r'' r3:Prop}{id:Nat}{ops:Array Oper}(x:r)(y:r')(z:r'')(u:r3)(h:p)(hl:norm 60 l= .code c::k:=by exact rfl)(hc:c= .region id ops false:=by exact rfl)(hT:TOK cx.P cx.T:=by exact tok)(e:r->r'->r''->r3->YT cx plainO ops.toList k Q ops.toList s=p:=by intro zz zy zx zw;simp only[go_sem,simprocAttr,zz,zy,zx,zw];exact rfl)(hd:Xu cx.N ops.toList=true:=by kernel_rfl):AKc cx l Q s:=
 V3 hT hl hc ((e x y z u).mpr h) hd
def nt0{id:Nat}{ops:Array Oper}(h:p)(hl:norm 60 l= .code c::k:=by exact rfl)(hc:c= .region id ops false:=by exact rfl)(hT:TOK cx.P cx.T:=by exact tok)(e:YT cx plainO ops.toList k Q ops.toList s=p:=by simp only[go_sem,simprocAttr,QV];exact rfl)(hd:Xu cx.N ops.toList=true:=by kernel_rfl):AKc cx l Q s:=
 V3 hT hl hc (e.mpr h) hd
def dR{id:Nat}{ops:Array Oper}(h:p)(hl:norm 60 l= .code c::k:=by exact rfl)(hc:c= .region id ops true:=by exact rfl)(hT:TOK cx.P cx.T:=by exact tok)(hm:cx.P.follows .mixedOrders=true:=by exact mixed)(e:YT cx drawO ops.toList k Q ops.toList s=p:=by simp only[go_sem,simprocAttr];exact rfl)
  (hd:Xu cx.N ops.toList=true:=by kernel_rfl) (hok:(Wv ops.toList (Zc9 drawO ops.toList)&&ZdO drawO ops.toList)=true:=by kernel_rfl):AKc cx l Q s:=XD hT hm drawO hl hc rfl (e.mpr h) hd hok
def dq4{r r' r'' r3:Prop}{id:Nat}{ops:Array Oper}(x:r)(y:r')(z:r'')(u:r3)(h:p)(hl:norm 60 l= .code c::k:=by exact rfl)(hc:c= .region id ops true:=by exact rfl)(hT:TOK cx.P cx.T:=by exact tok)(hm:cx.P.follows .mixedOrders=true:=by exact mixed)(e:r->r'->r''->r3->YT cx drawO ops.toList k Q ops.toList s=p:=by intro zz zy zx zw;simp only[go_sem,simprocAttr,zz,zy,zx,zw];exact rfl)
  (hd:Xu cx.N ops.toList=true:=by kernel_rfl) (hok:(Wv ops.toList (Zc9 drawO ops.toList)&&ZdO drawO ops.toList)=true:=by kernel_rfl):AKc cx l Q s:=XD hT hm drawO hl hc rfl ((e x y z u).mpr h) hd hok
def kK(h:p)(e:p->AKc cx l Q s:=by intro zz;(repeat refine kn rfl ?_);exact zz):AKc cx l Q s:=e h
def nD{id:Nat}{ops:Array Oper}(op:Opt)(h:YT cx op ops.toList k Q ops.toList s)(hl:norm 60 l= .code c::k:=by exact rfl)(hc:c= .region id ops true:=by exact rfl)(hT:TOK cx.P cx.T:=by exact tok)(hm:cx.P.follows .mixedOrders=true:=by exact mixed)(hop:op.dr=true:=by exact rfl)
  (hd:Xu cx.N ops.toList=true:=by kernel_rfl) (hok:(Wv ops.toList (Zc9 op ops.toList)&&ZdO op ops.toList)=true:=by kernel_rfl):AKc cx l Q s:=XD hT hm op hl hc hop h hd hok
def nT{o:Operand}(h:AKc cx (.code c.fst::k) Q s)(hl:norm 60 l= .code c::k:=by exact rfl)(hc:c= .cond o c.fst c.snd:=by exact rfl)(ho:evT s.tmps o= .bool true:=by exact rfl):AKc cx l Q s:=ZoM hl hc ho h
def nF{o:Operand}(h:AKc cx (.code c.snd::k) Q s)(hl:norm 60 l= .code c::k:=by exact rfl)(hc:c= .cond o c.fst c.snd:=by exact rfl)(ho:evT s.tmps o= .bool false:=by exact rfl):AKc cx l Q s:=Zr6 hl hc ho h
def nTq{o:Operand}{r:Prop}(x:r)(h:AKc cx (.code c.fst::k) Q s)(hl:norm 60 l= .code c::k:=by exact rfl)(hc:c= .cond o c.fst c.snd:=by exact rfl)(ho:r->evT s.tmps o= .bool true:=by intro zz;simp only[go_sem,simprocAttr,zz]):AKc cx l Q s:=ZoM hl hc (ho x) h
def nFq{o:Operand}{r:Prop}(x:r)(h:AKc cx (.code c.snd::k) Q s)(hl:norm 60 l= .code c::k:=by exact rfl)(hc:c= .cond o c.fst c.snd:=by exact rfl)(ho:r->evT s.tmps o= .bool false:=by intro zz;simp only[go_sem,simprocAttr,zz]):AKc cx l Q s:=Zr6 hl hc (ho x) h
def nV(h:Q .ret s)(hl:norm 60 l= .code c::k:=by exact rfl)(hc:c= .ret:=by exact rfl):AKc cx l Q s:=Zk hl hc h
def nN(h:Q .normal s)(hl:norm 60 l=[]:=by exact rfl):AKc cx l Q s:=Zu9 hl h
def nX{kk:List Itm}{R:Zc->Prop}{id:Nat}(h:AKc cx k' Q s)(hl:norm 60 l= .code c::kk:=by exact rfl)(hc:c= .exit id:=by exact rfl)(hn:V4 id kk=none:=by exact rfl)(hp:V4 id k=some k':=by exact rfl):AKc cx l (Round cx k Q R) s:=Zw5 hl hc hn hp h
def nW{kk:List Itm}{R:Zc->Prop}(h:Q .ret s)(hl:norm 60 l= .code c::kk:=by exact rfl)(hc:c= .ret:=by exact rfl):AKc cx l (Round cx k Q R) s:=Zw6 hl hc h
end
def isFun(P:Program)(f:FuncId):Bool:=match P.funcs[f]? with
 | some fn => fn.body.isSome && !(fn.name == "runtime.NumGoroutine")
 |none=>false
section
variable {f:FuncId}
def ZgH{P:Program}(h:isFun P f=true):∃fn c,Fun P f fn c:=by
 unfold isFun at h;split at h
 ·rename_i fn hf;rw[Qb]at h;exact⟨fn,_,Zf hf h.1 (by simpa using h.2)⟩
 ·cases h
variable {p:Prop} {avs:LA} {cx:Cx}
def cP{dr:Bool}{o:Oper}{args:List Operand}{ts:List TypeId}{s:Zc}{F:Zc->Prop}{r:AV}(h:Pure cx.P f avs r)(hk:p)(hx:isFun cx.P f=true:=by kernel_rfl)(ha:Yo cx.T (evT s.tmps) args ts=avs:=by exact rfl)(e:F ⟨Yf s.tmps o.dst r,s.L,s.H⟩=p:=by simp only[go_sem,simprocAttr];exact rfl):WV cx dr o (.func f) args ts s F:=by
 obtain⟨fn,c,hf⟩:=ZgH hx;exact XY hf h ha (e▸hk)
variable {H:Za} {n:Nat}
def aF {P : Program} {T : TT} {fn : Func} {args : LA} {Q : AV → Za → Prop} (h0 : P.funcs[f]? = some fn) (h : ∀ B, AKc ⟨P, T, ⟨none, B⟩, n, fn.ntmps⟩ [.code (Zz fn)] (PostF P T n fn.results.toList Q) ⟨numbered 0 args, [], H⟩) (hN : args.length ≤ fn.ntmps := by simp) (hb : fn.body.isSome = true := by exact rfl) (hn : (fn.name == "runtime.NumGoroutine") = false := by exact rfl) (hT : TOK P T := by exact tok) : Zh P n f args H Q :=
 ZsK hT (Zf h0 hb hn) hN h
def xx(h:p:=by first|exact trivial|exact qb|exact q1|exact q2|exact q3|exact rfl|exact qA rfl|exact Inside.ptr _ _ _ (.inr ⟨rfl,rfl⟩)|exact Tm.ins _|exact Tm.Zhq _ _|exact Am.ins _|exact Am.Zhq _ _|exact Ze6 rfl|exact Tm.YF rfl|exact Am.YF rfl):p:=h
variable {F:Zc->Prop} {s:Zc} {ts:List TypeId} {args:List Operand}
def cQ{dr:Bool}{o:Oper}{r:AV}(h:PC cx.P (cx.n+1) f avs (full cx.n s.L s.H) r)(hF:F ⟨Yf s.tmps o.dst r,s.L,s.H⟩)(ha:Yo cx.T (evT s.tmps) args ts=avs:=by first|exact rfl|simp only[go_sem,simprocAttr])(hx:isFun cx.P f=true:=by kernel_rfl):WV cx dr o (.func f) args ts s F:=by
 obtain⟨fn,c,hf⟩:=ZgH hx;exact ZjT hf h ha hF
def iw{x:Int}(h:-9223372036854775808<=x/\x<=9223372036854775807:=by omega):IntKind.i64.wrap x=x:=IntWalk.i64_in x h
def pB{cx:Cx}{k l:List Itm}{c:Code}{P:Program}{T:TT}{n t:Nat}{b:Bool}{H:Za}(hv:Wk (lkv s.tmps t) (.bool b):=by(try simp only[go_sem,simprocAttr]);exact .refl _)(hl:norm 60 l= .code c::k:=by exact rfl)(hc:c= .ret:=by exact rfl)(hH:s.H=H:=by exact rfl):AKc cx l (PostF P T n [.tmp t] (fun r' H'=>r'= .bool b/\H'=H)) s:=
 Zk hl hc (Zb hv (.bool _) hH)
def mB{α β:Type}{f:α->β}{p:β->Prop}{l:List α}(h:∀u,p (f u)):∀x∈l.map f,p x:=fun x hx=>by obtain⟨u,_,e⟩:=Qg.1 hx;subst e;exact h u
variable {L L':List (Nat×Ze)} {tm tm':LN}
def kZ{N:Nat}(h:ZW (fun p=>Wk (lkv tm p.1) p.2) tm'/\ZW (fun p=>lkb L p.1=some p.2) L'/\ZW (fun p=>Inside n (fun k=>(lkb L' k).isSome=true) p.2) tm'/\ZW (fun p=>p.2.Inside n (fun k=>(lkb L' k).isSome=true)) L'):AWk n N ⟨tm,L,H⟩ ⟨tm',L',H⟩:=Zdp h.1 h.2.1 h.2.2.1 h.2.2.2
def KK{N:Nat}{H:Za}(h:ZW (fun p=>Wk (lkv tm p.1) p.2) tm'/\ZW (fun p=>lkb L p.1=some p.2) L'/\ZW (fun p=>Inside n (fun k=>(lkb L' k).isSome=true) p.2) tm'/\ZW (fun p=>p.2.Inside n (fun k=>(lkb L' k).isSome=true)) L':=by repeat' first|exact trivial|refine q0 ?_|exact qb|exact q1|exact q2|exact q3|exact rfl|refine Qa2 ?_ ?_|exact qA rfl|exact Inside.ptr _ _ _ (.inr ⟨rfl,rfl⟩)|exact Tm.ins _|exact Tm.Zhq _ _|exact Am.ins _|exact Am.Zhq _ _|refine Ze6 ?_|refine Tm.YF ?_|refine Am.YF ?_|exact(Ym _).inside|exact inZ|exact Zez rfl|exact Zki _|exact(ZH n _).inside|exact hfi _|exact .ptr _ _ _ (.inl hl)|exact Zh1 (.inr ⟨rfl,rfl⟩)|exact(ZI _).inside|exact .msl _ _ _ _ (.inr ⟨rfl,rfl⟩)|exact(ZB _).inside|exact(hall _).2|exact(hall _).1|exact hbi _|exact Inside.ptr _ _ _ (.inl hls)|exact ZsN rfl|exact ZbW _|exact ZpZ rfl|exact(hin _).1|exact(hin _).2.1|exact(hin _).2.2|exact hmi _|exact hfi _ _|exact ho _ _ rfl|exact ho _ [] rfl|exact Zfr hl|exact(ZhK _).inside|exact Zbs hl rfl|exact(Zcj _).inside|exact ZgF _|exact hxi _|exact ZiV rfl|exact hai _|exact(Xj _).inside|exact Zkh _|exact Inside.map _ _ (.inl hl)|exact(VT _).inside|exact(ZaT (caps:=[]) trivial).inside|exact hpi _|exact hmb _ _|exact hms _ rfl|exact hal _|exact hms _ _ _|exact ZeA _|exact hso _ [] rfl|exact hso _ _ rfl|exact .ptr _ _ _ (.inl (Qq n))|exact(hall _).2.1|exact(hall _).2.2|exact hsl _ _|exact hstr _|exact(hin _).2|exact hall _|exact hbuf _ _ rfl|exact hbuf _ [] rfl|exact hsl _ l'|exact ho _ U rfl|exact hoi _|exact Inside.map _ _ (.inr ⟨rfl,rfl⟩)|exact hbs _ _ rfl|exact hob _ rfl|exact Znx _|exact Zmf _ _ _|exact XA _|exact Tm.YF rfl|exact(ZeO _).inside|exact hbs [] _ rfl|exact hmb _ [] _|exact Xn (fun x hx=>by cases hx)|exact .any _ _ _|(refine Znz ?_ D;rfl)|(subst hk0;rfl)|(intro a ha;simp[Ze.avs]at ha;done)|(intro q hq;simp only[Ze.at_,Qo]at hq;subst hq;exact .inr ⟨rfl,rfl⟩)|(simp only[go_sem,simprocAttr];rw[IntWalk.i64_in _ om];exact .refl _)|(simp only[go_sem,simprocAttr];exact .refl _)|(simp only[go_sem,simprocAttr];rw[he,IntWalk.i64_in _ om];exact .refl _)|(simp only[go_sem,simprocAttr];exact .any _ _ _)|(simp only[go_sem,simprocAttr];exact Tm.Zhq _ _)):AWk n N ⟨tm,L,H⟩ ⟨tm',L',H⟩:=kZ h
def aI{a b:Prop}(h:a)(k:b):a/\b:=⟨h,k⟩
variable {q:Prop}
def aS(h:q)(e:p=q:=by simp only[go_sem,simprocAttr];exact rfl):p:=e.mpr h
def aq{r:Prop}(x:r)(h:q)(e:r->p=q:=by intro zz;simp only[go_sem,simprocAttr,zz];exact rfl):p:=(e x).mpr h
def aq2{r r':Prop}(x:r)(y:r')(h:q)(e:r->r'->p=q:=by intro zz zy;simp only[go_sem,simprocAttr,zz,zy];exact rfl):p:=(e x y).mpr h
def sT(h:p:=by simp only[go_sem,simprocAttr]):p:=h
def xS{a b:AV}(h:Wk a b:=by simp only[go_sem,simprocAttr];exact .refl _):Wk a b:=h
def xI{a b:AV}(h:Wk a b:=by simp only[go_sem,simprocAttr];rw[iw];exact .refl _):Wk a b:=h
variable {P:Prop}
def gc(h:p)(e:p->P:=by intro zz;refine nR ?_;refine nR ?_;exact zz):P:=e h
def gd(h:p)(e:p->P:=by intro zz;refine nR ?_;refine nN ?_;exact zz):P:=e h
def ge(h:p)(e:p->P:=by intro zz;refine nR ?_;refine nV ?_;exact zz):P:=e h
def gg(h:p)(e:p->P:=by intro zz;refine nF ?_;refine nX ?_;exact zz):P:=e h
def gh(h:p)(e:p->P:=by intro zz;refine nR ?_;refine kK ?_;exact zz):P:=e h
def gi(h:p)(e:p->P:=by intro zz;refine nT ?_;refine nR ?_;exact zz):P:=e h
def gj(h:p)(e:p->P:=by intro zz;refine nT ?_;refine ge ?_;exact zz):P:=e h
def gk(h:p)(e:p->P:=by intro zz;refine gc ?_;refine kK ?_;exact zz):P:=e h
def gm(h:p)(e:p->P:=by intro zz;refine nF ?_;refine gd ?_;exact zz):P:=e h
def gn(h:p)(e:p->P:=by intro zz;refine gi ?_;refine nW ?_;exact zz):P:=e h
def gt(h:p)(e:p->P:=by intro zz;refine gg ?_;refine ge ?_;exact zz):P:=e h
def gu(h:p)(e:p->P:=by intro zz;refine nF ?_;refine kK ?_;exact zz):P:=e h
def gv(h:p)(e:p->P:=by intro zz;refine nF ?_;refine nR ?_;exact zz):P:=e h
def gw(h:p)(e:p->P:=by intro zz;refine aS ?_;refine nV ?_;exact zz):P:=e h
def gz(h:p)(e:p->P:=by intro zz;refine gc ?_;refine gh ?_;exact zz):P:=e h
def gE(h:p)(e:p->P:=by intro zz;refine nt0 ?_;refine nV ?_;exact zz):P:=e h
def gF(h:p)(e:p->P:=by intro zz;refine nF ?_;refine ge ?_;exact zz):P:=e h
def gG(h:p)(e:p->P:=by intro zz;refine gg ?_;refine nR ?_;exact zz):P:=e h
def gH(h:p)(e:p->P:=by intro zz;refine nT ?_;refine nr ?_;exact zz):P:=e h
def gI(h:p)(e:p->P:=by intro zz;refine aS ?_;refine gm ?_;exact zz):P:=e h
def gJ(h:p)(e:p->P:=by intro zz;refine gg ?_;refine nN ?_;exact zz):P:=e h
def gK(h:p)(e:p->P:=by intro zz;refine gc ?_;refine nV ?_;exact zz):P:=e h
def gM(h:p)(e:p->P:=by intro zz;refine aS ?_;refine kK ?_;exact zz):P:=e h
def gN(h:p)(e:p->P:=by intro zz;refine nF ?_;refine gh ?_;exact zz):P:=e h
def gO(h:p)(e:p->P:=by intro zz;refine aS ?_;refine nN ?_;exact zz):P:=e h
def gP(h:p)(e:p->P:=by intro zz;refine aS ?_;refine nR ?_;exact zz):P:=e h
end
end Go.Abs

namespace Go.Proofs.YthajllbimoodjaaGreatDoor
open Go.Abs
theorem Zu3(n:Int):Yv tt 5 (.int .u8 n)=true:=rfl
theorem ZeC(l:Bs):Yv tt 9 (.str l)=true:=rfl
def Zl9(l:Bs)(n:Int):Yv tt 211 (.agg [.str l,.int .i64 n])=true:=by
 simp only[Yv,show tt 211=some ⟨.struct [(0,9),(1,3)],2,24,[.str [],.int .i64 0]⟩ from rfl,AV.cells,klAll,AV.kl];rfl
attribute [go_sem] Zq2 evO amT ZmN evS Zjy fullOwn zeroV Am.fold Am.cs Am.Yu Ql Qo forall_eq_or_imp forall_eq QA or_false delb Zu3 ZeC Zl9 Tm.cs cxP Zpb ZmT Vu Zt3 Zt0 Zt2 Zt1 Zt4 Zcc ZbE plainO drawO X4 Zca Zlf stepW Zd6 Zq9 Zn2 evP evR evW evA evT avoids lookOpd Zd5 setH AV.ofValue AV.ofCell mv Zhb lkv lkb Yf setb full Yo ldA isBuf isEq eqB Zr5 Zkk Zli Zbq YN VN splice bnd inOrder ones numbered Zp.isAgg cellsT oneT List.drop_succ_cons Qab Qat Qam MF QaZ Qm Qz Qbi List.all_nil Qs UJ Uf QX Bool.and_self QW QY and_true true_and and_self Qy Qi Us UC ne_eq not_true_eq_false not_false_eq_true Qp exists_eq' exists_eq forall_const false_implies implies_true QE Bool.true_eq_false Qv GH U1 GZ QG Qu QN List.drop_nil List.take_nil true_or or_true Int.natCast_nonneg Int.toNat_natCast Int.natCast_one Int.natCast_zero Int.cast_ofNat_Int gt_iff_lt ge_iff_le beq_self_eq_true List.isEmpty_cons List.isEmpty_nil Qav QaE Int.ofNat_lt Int.ofNat_le decide_true decide_false Ut UY Option.join_some Tm.fold Tm.Yu ttT ttF ttS ttD ttM Zqr nilA XI cellsU oneU Zq1 evL
def isLow(b:Int):Bool:=decide (b ≥ 97)&&decide (b<=122)
def isUp(b:Int):Bool:=decide (b ≥ 65)&&decide (b<=90)
def Ze8(b:Int):Bool:=decide (b ≥ 48)&&decide (b<=57)
def isIn(b:Int):Bool:=isLow b||isUp b||Ze8 b||b==95
def a79(b:Int):Pure prog 241 [.int .u8 b] (.bool (isLow b)):=by
 intro n H;refine aF func241 fun B=>?_
 refine ZbY rfl ?_;refine nR ?_;refine ZbY rfl ?_;refine nR ?_;refine V8 _ (fun a=>?_) (fun a=>?_)<;>simp only[go_sem,simprocAttr,a];all_goals
  refine ZgK rfl (Zb ?_ (.bool _) rfl);simp only[go_sem,simprocAttr,isLow,a];exact .refl _
def a160(b:Int):Pure prog 373 [.int .u8 b] (.bool (isUp b)):=by
 intro n H;refine aF func373 fun B=>?_
 refine ZbY rfl ?_;refine nR ?_;refine ZbY rfl ?_;refine nR ?_;refine V8 _ (fun a=>?_) (fun a=>?_)<;>simp only[go_sem,simprocAttr,a];all_goals
  refine ZgK rfl (Zb ?_ (.bool _) rfl);simp only[go_sem,simprocAttr,isUp,a];exact .refl _
def Zuu(b:Int):Pure prog 374 [.int .u8 b] (.bool (Ze8 b)):=by
 intro n H;refine aF func374 fun B=>?_
 refine ZbY rfl ?_;refine nR ?_;refine ZbY rfl ?_;refine nR ?_;refine V8 _ (fun a=>?_) (fun a=>?_)<;>simp only[go_sem,simprocAttr,a];all_goals
  refine ZgK rfl (Zb ?_ (.bool _) rfl);simp only[go_sem,simprocAttr,Ze8,a];exact .refl _
def Zv3(b:Int):Pure prog 312 [.int .u8 b] (.bool (isIn b)):=by
 intro n H;refine aF func312 fun B=>?_
 refine ZbY rfl ?_;refine nR ?_;refine ZbY rfl ?_;refine nR ?_;refine cP (a79 b) ?_;refine V8 _ (fun c=>?_) (fun c=>?_)<;>simp only[go_sem,simprocAttr,c]
 ·refine ZgK rfl (Zb ?_ (.bool _) rfl);simp only[go_sem,simprocAttr,isIn,c,GY];exact .refl _
 refine cP (a160 b) ?_;refine V8 _ (fun a=>?_) (fun a=>?_)<;>simp only[go_sem,simprocAttr,a]
 ·refine ZgK rfl (Zb ?_ (.bool _) rfl);simp only[go_sem,simprocAttr,isIn,a,GY,QaF];exact .refl _
 refine cP (Zuu b) ?_;refine V8 _ (fun d=>?_) (fun d=>?_)<;>simp only[go_sem,simprocAttr,d];all_goals
  refine ZgK rfl (Zb ?_ (.bool _) rfl);simp only[go_sem,simprocAttr,isIn,c,a,d,GY,QaF,Gg];exact .refl _
abbrev bt(s:Bs)(i:Nat):Int:=((s.getD i 0).toNat:Int)
def und:Bs->Nat
 |[]=>0
 |b::r=>if((b.toNat:Int)==95)=true then und r+1 else 0
def und_le:∀s:Bs,und s<=s.length
 |[]=>Qi _
 |b::r=>by
  simp only[und];split
  ·have:=und_le r;simp;omega
  ·simp
def und_lt:∀{s:Bs} {i:Nat},i<und s->(bt s i==95)=true
 |[],i,h=>by simp[und]at h
 |b::r,i,h=>by
  simp only[und]at h;split at h
  ·rename_i hb;cases i with
   |zero=>exact hb
   |succ i=>exact und_lt (s:=r) om
  ·omega
def und_at:∀{s:Bs},und s<s.length->(bt s (und s)==95)=false
 |[],h=>by simp at h
 |b::r,h=>by
  simp only[und]at h⊢;split
  ·rename_i hb;rw[if_pos hb]at h;exact und_at (s:=r) (by simpa using h)
  ·rename_i hb;exact Me _▸hb
def wd(s:Bs)(f:Nat):Bool:=(s.drop f).all (fun b=>isIn (b.toNat:Int))&&decide (s.length<=32)
def sNot:Bs:=[110,111,116]
def sym(s:Bs):Bool:=decide (und s<s.length)&&isLow (bt s (und s))&&wd s (und s)&& !(s==sNot)
def Zvu(s:Bs)(H:Za)(i:Nat):Zc:=⟨[(0,.str (s.drop i)),(1,.int .u8 95)],[],H⟩
def Zm9(s:Bs)(i j:Nat):bt (s.drop i) j=bt s (i+j):=by
 simp[bt,Qk,Uy]
def a156(s:Bs):Pure prog 369 [.str s,.int .u8 95] (.str (s.drop (und s))):=by
 intro n H;have o:=und_le s;refine aF func369 fun B=>?_
 refine gh ?_;refine Zx (Zvu s H) (und s) rfl ?_ ?_
 ·exact KK
 intro i k;refine ZV rfl ?_;have a:(s.drop i).length=s.length - i:=QL;have b:bt (s.drop i) 0=bt s i:=Zm9 s i 0;rcases Qd i (und s)with h|h
 ·have c:(decide (0<((s.drop i).length:Int)))=true:=by rw[a];simp;omega
  have f:(0:Int)<((s.drop i).length:Int):=by rw[a];omega
  have g:(bt (s.drop i) 0==95)=true:=by rw[b];exact und_lt h
  refine nq3 c f g ?_;refine nT ?_;refine nt0 ?_;refine⟨om,?_⟩;refine nN ?_;refine⟨h,?_⟩;apply kZ;repeat' first|apply q0|exact xx|apply aI
  simp only[go_sem,simprocAttr,UN,Nat.add_comm];exact .refl _
 ·have k:i=und s:=om;subst k;have d:∀e,lkv e 0= .str (s.drop (und s))->AKc (cxP prog ⟨none,B⟩ n Tryz.f369.ntmps) [.code (Zz Tryz.f369).snd.snd] (PostF prog tt n Tryz.f369.results.toList fun l m=>l= .str (s.drop (und s))/\m=H) ⟨e,[],H⟩:=by
   intro e j;refine nq j ?_;refine nV ?_;refine Zb ?_ (.str _) rfl;exact xS
  rcases Qd (und s) s.length with hl|hl
  ·have c:(decide (0<((s.drop (und s)).length:Int)))=true:=by rw[a];simp;omega
   have f:(0:Int)<((s.drop (und s)).length:Int):=by rw[a];omega
   have g:(bt (s.drop (und s)) 0==95)=false:=by rw[b];exact und_at hl
   refine nq3 c f g ?_;refine nF ?_;refine Za6 rfl rfl rfl (d _ ?_);exact sT
  ·have c:(decide (0<((s.drop (und s)).length:Int)))=false:=by rw[a];simp;omega
   refine nq c ?_;refine nF ?_;refine Za6 rfl rfl rfl (d _ ?_);exact sT
def Zv2(s:Bs):Pure prog 310 [.str s,.str [95]] (.str (s.drop (und s))):=by
 intro n H;refine aF func310 fun B=>?_
 refine nR ?_;cases h:s.isEmpty with
 |true=>
  have:s=[]:=by simpa using h
  subst this;refine nr ?_;simp only[go_sem,simprocAttr,QaX,List.isEmpty_nil];refine gj ?_;refine Zb ?_ (.str _) rfl;exact xS
 |false=>
  refine nr ?_;simp only[go_sem,simprocAttr,h,QaX,List.isEmpty_cons];refine gv ?_;refine gi ?_;refine cP (a156 s) ?_;refine nV ?_;exact Zb (.refl _) (.str _) rfl
def Zcg(f:Nat)(p:Int->Bool):Prop:=(∃a c,Fun prog f a c)/\ ∀b:Int,Pure prog f [.int .u8 b] (.bool (p b))
def cls79:Zcg 241 isLow:=⟨⟨_,_,Zf func241 rfl rfl⟩,a79⟩
def cls160:Zcg 373 isUp:=⟨⟨_,_,Zf func373 rfl rfl⟩,a160⟩
def cls161:Zcg 374 Ze8:=⟨⟨_,_,Zf func374 rfl rfl⟩,Zuu⟩
def cls114:Zcg 312 isIn:=⟨⟨_,_,Zf func312 rfl rfl⟩,Zv3⟩
def Zvn(s:Bs)(f:Nat)(H:Za)(i:Nat):Zc:=⟨[(8,.int .i64 i),(7,.int .i64 s.length),(1,.fn (.func f) []),(0,.str s)],[],H⟩
def Zut(s:Bs)(f:Nat)(p:Int->Bool)(e:Zcg f p)(o:s.length<=9223372036854775807):Pure prog 311 [.str s,.fn (.func f) []] (.bool (s.all fun b=>p (b.toNat:Int))):=by
 intro n H;obtain⟨⟨l,c,g⟩,e⟩:=e;refine aF func311 fun B=>?_
 refine gk ?_;refine ZG (Zvn s f H) (fun i=>∀j,j<i->p (bt s j)=true) s.length rfl ?_ (fun j h=>absurd h (Qj _)) ?_
 ·exact KK
 intro i q hq;refine ZV rfl ?_;have hall:(s.all fun b=>p (b.toNat:Int))=true↔ ∀j,j<s.length->p (bt s j)=true:=by
  rw[Qw];constructor
  ·intro h j a;have:=h s[j] (Qa a);simpa[bt,Qk,Qe a]using this
  ·intro h b m;obtain⟨j,a,rfl⟩:=QK m;have:=h j a;simpa[bt,Qk,Qe a]using this
 rcases Qd i s.length with h|h
 ·refine nq h ?_;refine gi ?_;refine nq h ?_;refine Yp (avs:=[.int .u8 (bt s i)]) sS g (e (bt s i) _ _) sS ?_;cases d:p (bt s i)with
  |false=>
   refine aq d ?_;refine gn ?_;refine Zb ?_ (.bool _) rfl;have:(s.all fun b=>p (b.toNat:Int))=false:=by
    rw[<-Me,hall];intro k;have:=k i h;rw[d]at this;cases this
   rw[this];exact .refl _
  |true=>
   refine aq d ?_;refine gm ?_;refine⟨fun j a=>?_,?_⟩
   ·rcases Qd j i with h'|h'
    ·exact hq j h'
    ·have:j=i:=om;subst this;exact d
   ·apply kZ;repeat' first|apply q0|exact xx|apply aI
    ·refine aS ?_;rw[iw];exact .refl _
 ·refine nq (QC.2 h) ?_;refine gt ?_;refine Zb ?_ (.bool _) rfl;rw[hall.2 (fun j a=>hq j om)];exact .refl _
def a78(s:Bs)(f:Nat)(p:Int->Bool)(g:Zcg f p)(t:s.length<=9223372036854775807):
  Pure prog 240 [.str s,.fn (.func f) []] (.bool (decide (und s<s.length)&&p (bt s (und s))&&wd s (und s))):=by
 intro n H;have r:=und_le s;obtain⟨⟨o,c,l⟩,g⟩:=g;have a:(s.drop (und s)).length=s.length - und s:=QL;have i:bt (s.drop (und s)) 0=bt s (und s):=Zm9 s (und s) 0;refine aF func240 fun B=>?_
 refine gc ?_;refine cP (Zv2 s) ?_;rcases Qd (und s) s.length with h|h
 ·have j:(s.drop (und s)).isEmpty=false:=by
   rw[<-Me,Qbl,<-MZ,a];omega
  have m:(0:Int)<((s.drop (und s)).length:Int):=by rw[a];omega
  have q:0<(s.drop (und s)).length:=by rw[a];omega
  refine nr ?_;simp only[go_sem,simprocAttr,j,m,q,QaX];refine Yp (avs:=[.int .u8 (bt s (und s))]) sS l (g (bt s (und s)) _ _) (by simp only[go_sem,simprocAttr,i]) ?_;cases k:p (bt s (und s))with
  |false=>
   refine aq k ?_;refine nV ?_;refine Zb ?_ (.bool _) rfl;refine aq h ?_;exact .refl _
  |true=>
   refine aq k ?_;refine cP (Zut (s.drop (und s)) _ isIn cls114 (by rw[a];omega)) ?_;cases d:(s.drop (und s)).all (fun b=>isIn (b.toNat:Int))with
   |false=>
    refine aq d ?_;refine nV ?_;refine Zb ?_ (.bool _) rfl;simp only[go_sem,simprocAttr,h,wd,d];exact .refl _
   |true=>
    refine aq d ?_;refine nV ?_;refine Zb ?_ (.bool _) rfl;simp only[go_sem,simprocAttr,h,wd,d];have e:decide ((s.length:Int)<=32)=decide (s.length<=32):=by congr 1;simp;omega
    first|exact .refl _|(rw[e];exact .refl _)
 ·have j:(s.drop (und s)).isEmpty=true:=by
   rw[Qbl,<-MZ,a];omega
  refine nr ?_;simp only[go_sem,simprocAttr,j,QaX];refine nV ?_;refine Zb ?_ (.bool _) rfl;refine aq (QC.2 h) ?_;exact .refl _
def a45(s:Bs)(b:s.length<=9223372036854775807):Pure prog 173 [.str s] (.bool (sym s)):=by
 intro n H;refine aF func173 fun B=>?_
 refine gc ?_;refine cP (a78 s _ isLow cls79 b) ?_;refine V8 _ (fun a=>?_) (fun a=>?_)<;>simp only[go_sem,simprocAttr,a];all_goals
  refine nV ?_;refine Zb ?_ (.bool _) rfl;simp only[go_sem,simprocAttr,sym,a];exact .refl _
def hpre(s p:Bs):Bool:=decide (p.length<=s.length)&&(s.take p.length==p)
def a198(s p:Bs):Pure prog 368 [.str s,.str p] (.bool (hpre s p)):=by
 intro n H;refine aF func368 fun B=>?_
 refine nR ?_;rcases Qd s.length p.length with h|h
 ·refine nr ?_;refine aq (QbG.2 h) ?_;refine nV ?_;refine Zb ?_ (.bool _) rfl;simp only[go_sem,simprocAttr,hpre,QbG.2 h];exact .refl _
 ·refine nr ?_;simp only[go_sem,simprocAttr,h,Qab];refine nV ?_;refine Zb ?_ (.bool _) rfl;simp only[go_sem,simprocAttr,hpre,h];exact .refl _
def Zmq{P:Program}{T:TT}{n:Nat}{t u:Nat}{v w:AV}{H:Za}{s:Zc}(c:Wk (lkv s.tmps t) v)(a:Wk (lkv s.tmps u) w)(f:Below n v)(g:Below n w)(d:s.H=H):
  PostF P T n [.tmp t,.tmp u] (fun b e=>b= .tup [v,w]/\e=H) .ret s:=ZF c a f g d
def Zwb(s p:Bs):Pure prog 426 [.str s,.str p] (.tup [.str (if hpre s p then s.drop p.length else s),.bool (hpre s p)]):=by
 intro n H;refine aF func426 fun B=>?_
 refine gc ?_;refine cP (a198 s p) ?_;cases h:hpre s p with
 |false=>
  refine gj ?_;refine Zmq ?_ ?_ (.str _) (.bool _) rfl
  ·exact xS
  ·exact xS
 |true=>
  have a:p.length<=s.length:=by
   simp only[hpre,Qb,decide_eq_true_eq]at h;exact h.1
  refine nF ?_;refine nr ?_;simp only[go_sem,simprocAttr,a,QV];refine nV ?_;refine Zmq ?_ ?_ (.str _) (.bool _) rfl
  ·exact xS
  ·exact xS
def Zwa(s p:Bs):Pure prog 393 [.str s,.str p] (.tup [.str (if hpre s p then s.drop p.length else s),.bool (hpre s p)]):=by
 intro n H;refine aF func393 fun B=>?_
 refine gc ?_;refine cP (Zwb s p) ?_;refine nV ?_;refine Zmq ?_ ?_ (.str _) (.bool _) rfl
 ·exact xS
 ·exact xS
def Zfk(s:Bs):Bool:=
 (decide (und s<s.length)&&isUp (bt s (und s))&&wd s (und s))||(hpre s [95]&&(s.drop 1).all (fun b=>Ze8 (b.toNat:Int))&&decide (s.length<=32))
def Zv7(s:Bs)(f:s.length<=9223372036854775807):Pure prog 340 [.str s] (.bool (Zfk s)):=by
 intro n H;refine aF func340 fun B=>?_
 refine gc ?_;refine cP (Zwa s [95]) ?_;refine nR ?_;refine cP (a78 s _ isUp cls160 f) ?_;refine V8 _ (fun a=>?_) (fun a=>?_)<;>simp only[go_sem,simprocAttr,a]
 ·refine nV ?_;refine Zb ?_ (.bool _) rfl;simp only[go_sem,simprocAttr,Zfk,a,GY];exact .refl _
 ·cases c:hpre s [95]with
  |false=>
   refine aq c ?_;refine nV ?_;refine Zb ?_ (.bool _) rfl;simp only[go_sem,simprocAttr,Zfk,a,c,UE];exact .refl _
  |true=>
   refine aq c ?_;refine cP (Zut (s.drop 1) _ Ze8 cls161 (by rw[QL];omega)) ?_;cases d:(s.drop 1).all (fun b=>Ze8 (b.toNat:Int))with
   |false=>
    refine aq d ?_;refine nV ?_;refine Zb ?_ (.bool _) rfl;simp only[go_sem,simprocAttr,Zfk,a,c,d,UE];exact .refl _
   |true=>
    refine aq d ?_;refine nV ?_;refine Zb ?_ (.bool _) rfl;simp only[go_sem,simprocAttr,Zfk,a,c,d,Gg];have e:decide ((s.length:Int)<=32)=decide (s.length<=32):=by congr 1;simp;omega
    first|exact .refl _|(rw[e];exact .refl _)

def _root_.Go.Abs.Za.YP(H:Za)(x:Nat)(S:Nat->Option Ze):Za:=fun l k=>if l=x then S k else H l k
section
variable {n x:Nat}
def Vx(h:x≠n)(L:List (Nat×Ze))(H:Za)(S:Nat->Option Ze):full n L (H.YP x S)=(full n L H).YP x S:=by
 funext l k;simp only[full,Za.YP];by_cases a:l=n
 ·subst a;rw[if_pos rfl,if_neg (fun e=>h e.symm),if_pos rfl]
 ·rw[if_neg a,if_neg a]
variable {S:Nat->Option Ze} {H:Za}
def Jt(h:x<n)(d:∀k b,S k=some b->b.Below (x+1)):ZL n H (H.YP x S):=fun l k b hl hb=>by
 simp only[Za.YP]at hb;split at hb
 ·have:=d k b hb;exact .inr ⟨fun a ha=>(this.1 a ha).mono h,fun p c=>Um (this.2 p c) h⟩
 ·exact .inl hb
def ZsH(P:Program)(x l:Nat)(p:Tm->Bool)(S:Nat->Option Ze)(b:Za):Prop:=
 ∀m H (t:Tm),t.Good->x<m->(∀a k,a<=x->H a k=b a k)->VJ P m l [t.enc] H fun r c=>r= .bool (p t)/\c=if p t then H else H.YP x S
def Zvt(t:Tm)(l n:Nat)(H:Za)(i:Nat):Zc:=
 ⟨[(14,.int .i64 i),(13,.int .i64 t.args.length),(12,.sl 4 (t.args.map Tm.enc) .any),(1,.fn (.yield l) []),(2,.ptr n 2 0)],[(2,.box t.cs)],H⟩
def a145{x l:Nat}{p:Tm->Bool}{S:Nat->Option Ze}{d:Za}(w:ZsH prog x l p S d)(q:∀k b,S k=some b->b.Below (x+1))(t:Tm)(e:t.Good)(n:Nat)(H:Za)(hx:x<n)(D:∀l' k,l'<=x->H l' k=d l' k):
  Zh prog n 236 [t.enc,.fn (.yield l) []] H fun r g=>r= .bool (t.all p)/\g=if t.all p then H else H.YP x S:=by
 have v:=e.len;refine aF func236 fun B=>?_
 have y:∀(L:List (Nat×Ze)) (l' k:Nat),l'<=x->full n L H l' k=d l' k:=fun L l' k h=>by
  simp only[full];rw[if_neg om];exact D l' k h
 refine gc ?_;refine ZsM sS (w _ _ t e (show x<n+1 by omega) (y _)) sS ?_;rintro _ _ ⟨rfl,rfl⟩;have a:∀(L:List (Nat×Ze)) (c:LN),t.all p=false->lkv c 4= .bool false->PostF prog tt n Tryz.f236.results.toList (fun r g=>r= .bool (t.all p)/\g=if t.all p then H else H.YP x S) .ret ⟨c,L,H.YP x S⟩:=by
  intro L c hall z;refine⟨by simp[Y7],[.bool false],⟨?_,trivial⟩,by simp[Zc1],by rw[hall];rfl,by rw[hall];rfl⟩;show Wk (lkv c 4) _;rw[z];exact .refl _
 cases f:p t with
 |false=>
  have hall:t.all p=false:=by rw[Tm.all_eq,f];rfl
  refine⟨[(2,.box t.cs)],H.YP x S,by rw[Vx (show x≠n by omega)];rfl,Jt hx q,?_⟩;refine aS ?_;refine gj ?_;exact a _ _ hall sS
 |true=>
  refine⟨[(2,.box t.cs)],H,rfl,.refl _ _,?_⟩;refine aS ?_;refine gN ?_;refine ZG (Zvt t l n H) (fun i=>∀j (h:j<t.args.length),j<i->(t.args[j]).all p=true) t.args.length rfl ?_ (fun j _ h=>absurd h (Qj _)) ?_
  ·exact KK
  intro i E hq;refine ZV rfl ?_;rcases Qd i t.args.length with h|h
  ·refine nq h ?_;refine nT ?_;refine nq2 (Tm.Zw _ _ h) h ?_;refine nR ?_;have m:=e.arg (Qa h);refine YS (caps:=[]) (avs:=[t.args[i].enc,.fn (.yield l) []]) rfl (Zf func236 rfl rfl) (by rw[Qu];exact a145 w q t.args[i] m (n+1) _ (show x<n+1 by omega) (y _)) sS ?_;rintro _ _ ⟨rfl,rfl⟩;cases s:(t.args[i]).all p with
   |false=>
    refine⟨[(2,.box t.cs),(6,.box t.args[i].cs)],H.YP x S,by rw[Vx (show x≠n by omega)];rfl,Jt hx q,?_⟩;refine aS ?_;refine gn ?_;refine a _ _ ?_ sS;rw[Tm.all_eq,f,Tm.VQ,QX,<-Me,Qw];intro C;have:=C _ (Qa h);rw[s]at this;cases this
   |true=>
    refine⟨[(2,.box t.cs),(6,.box t.args[i].cs)],H,rfl,.refl _ _,?_⟩;refine gI ?_;refine⟨fun j o A=>?_,?_⟩
    ·rcases Qd j i with h'|h'
     ·exact hq j o h'
     ·have:j=i:=om;subst this;exact s
    ·apply kZ;repeat' first|apply q0|exact xx|apply aI
     ·refine aS ?_;rw[iw];exact .refl _
  ·refine nq (QC.2 h) ?_;refine gt ?_;have hall:t.all p=true:=by
    rw[Tm.all_eq,f,Tm.VQ,QX,Qw];intro u m;obtain⟨j,o,rfl⟩:=QK m;exact hq j o om
   refine⟨by simp[Y7],[.bool true],⟨?_,trivial⟩,by simp[Zc1],by rw[hall];rfl,by rw[hall];rfl⟩;exact xS
termination_by SizeOf.sizeOf t
decreasing_by exact Tm.Xp (Qa h)
def Zv4{l:Nat}{p:Tm->Bool}{H0:Za}(e:ZsH prog x l p S H0)(a:∀k b,S k=some b->b.Below (x+1))(t:Tm)(d:t.Good)(n:Nat)(H:Za)(hx:x<n)(c:∀l' k,l'<=x->H l' k=H0 l' k):
  Zh prog n 235 [.fn (.yield l) [],.iptr t.cs] H fun r H1=>H1=if t.all p then H else H.YP x S:=by
 refine aF func235 fun B=>?_
 have hf:∀(L:List (Nat×Ze)) (l' k:Nat),l'<=x->full n L H l' k=H0 l' k:=fun L l' k h=>by
  simp only[full];rw[if_neg om];exact c l' k h
 refine nR ?_;refine YS (caps:=[]) (avs:=[t.enc,.fn (.yield l) []]) rfl (Zf func236 rfl rfl) (by rw[Qu];exact a145 e a t d (n+1) _ (show x<n+1 by omega) (hf _)) sS ?_;rintro _ _ ⟨rfl,rfl⟩;refine⟨[],if t.all p then H else H.YP x S,?_,?_,?_⟩
 ·split
  ·rfl
  ·rw[Vx (show x≠n by omega)]
 ·split
  ·exact .refl _ _
  ·exact Jt hx a
 refine gO ?_;exact⟨by simp[Y7],[],trivial,sm,rfl⟩
def Zus(t:Tm):Pure prog 162 [t.enc] (.fn (.func 235) [.iptr t.cs]):=by
 intro n H;refine aF func162 fun B=>?_
 refine nR ?_;refine ZT 1 t.cs [(1,.iptr t.cs)] rfl ?_ ?_ trivial ?_
 ·exact⟨.int _ _,.int _ _,.str _,Tm.Zhq _ _,trivial⟩
 ·exact⟨.inr ⟨0,rfl,rfl⟩,trivial⟩
 refine ge ?_;refine Zb ?_ (.fn _ _ fun i b=>?_) rfl
 ·exact xS
 ·have:i=0:=by simp at b;exact b
  subst this;have a:=(t.blw n)
  rw[Tm.ZbN]at a;cases a with
  |agg _ a=>exact .iptr _ a
def Zj2{G:Za}(a:∀k,G n k=S k)(b:∀l k,l≠n->G l k=H l k):G=H.YP n S:=by
 funext l k;simp only[Za.YP];split
 ·rename_i e;subst e;exact a k
 ·rename_i e;exact b l k e
def Zlp{y:Nat}{b a:Ze}(h:H n y=some b):(H.upd n y a).upd n y b=H:=by
 funext l k;simp only[Za.upd];split
 ·rename_i e;rw[e.1,e.2,h]
 ·rfl
def ZrV{B:Base}{N:Nat}{g:Operand}{v:Nat}{c d:Code}{k:List Itm}{Q:Exit->Zc->Prop}{tm:LN}{L:List (Nat×Ze)}(y:Nat)(t:Tm)(F:t.Good)(p:Tm->Bool)(u:List (Nat×Ze))
  (hc:c= .rangeFunc g #[v] c.fst c.snd) (hg:evT tm g= .fn (.func 235) [.iptr t.cs]) (E:lkb L y=none) (hv:v<N)
  (hb:∀l,ZW (fun q=>q.2.Below (n+1)) (setb u y (.lrec l N 0 tm #[v] c.fst c.snd .done (some d))))
  (i:∀l m A (o:Tm) H',o.Good->n<m->(∀j,H' n j=lkb (setb L y (.lrec l N 0 tm #[v] c.fst c.snd .ready none)) j)->(∀l' j,l'<n->H' l' j=H l' j)->
   AKc ⟨prog,tt,⟨some l,A⟩,m,N⟩ [.code c.fst] (fun e s=>e= .normal/\s.H n y=some (.lrec l N 0 tm #[v] c.fst c.snd .ready none)/\
    AKc ⟨prog,tt,⟨some l,A⟩,m,N⟩ [.code c.snd] (ZiA (fun r H1=>r= .bool (p o)/\H1=if p o then H' else H'.YP n (lkb (setb u y (.lrec l N 0 tm #[v] c.fst c.snd .done (some d))))) n y l N 0 tm #[v] c.fst c.snd)
     ⟨s.tmps,s.L,s.H.upd n y (.lrec l N 0 tm #[v] c.fst c.snd .busy none)⟩) ⟨(v,o.enc)::tm,[],H'⟩)
  (D:∀l,t.all p=true->AKc ⟨prog,tt,⟨none,B⟩,n,N⟩ k Q ⟨tm,setb L y (.lrec l N 0 tm #[v] c.fst c.snd .exhausted none),H⟩)
  (f:∀l,t.all p=false->AKc ⟨prog,tt,⟨none,B⟩,n,N⟩ (.code d::k) Q ⟨tm,setb u y (.lrec l N 0 tm #[v] c.fst c.snd .exhausted (some d)),H⟩):
  AKc ⟨prog,tt,⟨none,B⟩,n,N⟩ (.code c::k) Q ⟨tm,L,H⟩:=by
 refine Ze9 (caps:=[.iptr t.cs]) y hc hg (Zf func235 rfl rfl) E fun l=>?_
 refine⟨_,Zv4 (x:=n) (l:=l) (p:=p) (S:=lkb (setb u y (.lrec l N 0 tm #[v] c.fst c.snd .done (some d)))) (H0:=full n (setb L y (.lrec l N 0 tm #[v] c.fst c.snd .ready none)) H) ?_ (fun j b h=>(hb l).mem _ (lkb_mem h)) t F (n+1) _ (Qq n) (fun _ _ _=>rfl),?_⟩
 ·intro m H' o C hm z;have w:∀j,H' n j=lkb (setb L y (.lrec l N 0 tm #[v] c.fst c.snd .ready none)) j:=fun j=>by
   rw[z n j (Qi _)];simp only[full,if_true]
  refine Zh7 tt (x:=n) (y:=y) (by rw[w y,lkb_setb,if_pos rfl]) hm rfl (by simpa using hv) fun A=>i l m A o H' C hm w (fun l' j h=>by rw[z l' j (MI h)];simp only[full];rw[if_neg om])
 ·rintro r H1 rfl;cases a:t.all p with
  |true=>exact⟨_,H,.ready,none,rfl,.refl _ _,by rw[lkb_setb,if_pos rfl],sm,by
    have:setb (setb L y (.lrec l N 0 tm #[v] c.fst c.snd .ready none)) y (.lrec l N 0 tm #[v] c.fst c.snd .exhausted none)=setb L y (.lrec l N 0 tm #[v] c.fst c.snd .exhausted none):=setb_setb _ _ _ _;simp only[this];exact D l a⟩
  |false=>
   refine⟨setb u y (.lrec l N 0 tm #[v] c.fst c.snd .done (some d)),H,.done,some d,?_,.refl _ _,by rw[lkb_setb,if_pos rfl],sm,by
    simp only[setb_setb];exact f l a⟩
   simp only[QE,if_false];funext l' j;simp only[Za.YP,full];by_cases e:l'=n
   ·rw[if_pos e,if_pos e]
   ·rw[if_neg e,if_neg e,if_neg e]
end
def nargs(t:Tm)(a b:Int):Bool:=decide (a<=(t.args.length:Int))&&decide ((t.args.length:Int)<=b)
def ZlH(t:Tm)(a b:Int):Pure prog 290 [t.enc,.int .i64 a,.int .i64 b] (.bool (nargs t a b)):=by
 intro n H;refine aF func290 fun B=>?_
 refine nR ?_;cases h:decide (a<=(t.args.length:Int));all_goals
  refine nr ?_;refine aq h ?_;refine nV ?_;refine Zb ?_ (.bool _) rfl;simp only[go_sem,simprocAttr,nargs,h];exact .refl _
def named(t:Tm):Bool:=(t.num==0)&& !(t.name==[])
def Zv5(t:Tm):Pure prog 337 [.iptr t.cs] (.bool (decide (-2147483647<=t.num)&&decide (t.num<=2147483647)&&(t.name==[])&&nargs t 0 0)):=by
 intro n H;refine aF func337 fun B=>?_
 refine nR ?_;cases a:decide (-2147483647<=t.num)with
 |false=>
  refine nq a ?_;exact pB
 |true=>
  cases b:decide (t.num<=2147483647)with
  |false=>
   refine nq2 a b ?_;exact pB
  |true=>
   cases c:(t.name==[])with
   |false=>
    refine nq3 a b c ?_;exact pB
   |true=>
    refine nq3 a b c ?_;refine cP (ZlH t 0 0) ?_;exact pB
def a148(t:Tm)(b:t.Good):Pure prog 338 [.iptr [.bool (named t)],.iptr t.cs] (.bool (named t&&sym t.name&&nargs t 0 0)):=by
 intro n H;have d:=b.name;refine aF func338 fun B=>?_
 refine nR ?_;cases a:named t with
 |false=>
  refine nq a ?_;exact pB
 |true=>
  refine nq a ?_;refine cP (a45 t.name om) ?_;cases c:sym t.name with
  |false=>
   refine aS ?_;exact pB
  |true=>
   refine aS ?_;refine cP (ZlH t 0 0) ?_;exact pB
def Zv6(t:Tm)(b:t.Good):Pure prog 339 [.iptr [.bool (named t)],.iptr t.cs] (.bool (named t&&Zfk t.name&&nargs t 0 0)):=by
 intro n H;have d:=b.name;refine aF func339 fun B=>?_
 refine nR ?_;cases a:named t with
 |false=>
  refine nq a ?_;exact pB
 |true=>
  refine nq a ?_;refine cP (Zv7 t.name om) ?_;cases c:Zfk t.name with
  |false=>
   refine aS ?_;exact pB
  |true=>
   refine aS ?_;refine cP (ZlH t 0 0) ?_;exact pB
def Zv8(t:Tm)(b:t.Good):Pure prog 341 [.iptr [.bool (named t)],.iptr t.cs] (.bool (named t&&sym t.name&&nargs t 1 8)):=by
 intro n H;have d:=b.name;refine aF func341 fun B=>?_
 refine nR ?_;cases a:named t with
 |false=>
  refine nq a ?_;exact pB
 |true=>
  refine nq a ?_;refine cP (a45 t.name om) ?_;cases c:sym t.name with
  |false=>
   refine aS ?_;exact pB
  |true=>
   refine aS ?_;refine cP (ZlH t 1 8) ?_;exact pB
def sMinus:Bs:=[45]
def a152(t:Tm)(o:Bool):Pure prog 342 [.iptr [.bool (named t)],.iptr [.bool o],.iptr t.cs] (.bool (named t&&o&&(nargs t 2 2||(t.name==sMinus)&&nargs t 1 1))):=by
 intro n H;refine aF func342 fun B=>?_
 refine nR ?_;cases a:named t with
 |false=>
  refine nq a ?_;exact pB
 |true=>
  cases b:o with
  |false=>
   refine nq2 a b ?_;exact pB
  |true=>
   refine nq2 a b ?_;refine cP (ZlH t 2 2) ?_;cases d:nargs t 2 2 with
   |true=>
    refine aS ?_;refine Zk rfl rfl ?_;refine Zb ?_ (.bool _) rfl;try simp only[go_sem,simprocAttr,GY]
    exact .refl _
   |false=>
    cases c:(t.name==sMinus)with
    |false=>
     refine aq (show(t.name==[45])=false from c) ?_;refine Zk rfl rfl ?_;refine Zb ?_ (.bool _) rfl;try simp only[go_sem,simprocAttr,Gg]
     exact .refl _
    |true=>
     refine aq (show(t.name==[45])=true from c) ?_;refine cP (ZlH t 1 1) ?_;refine Zk rfl rfl ?_;refine Zb ?_ (.bool _) rfl;try simp only[go_sem,simprocAttr,Gg]
     exact .refl _
def Zv9(t:Tm):Pure prog 343 [.iptr t.cs] (.bool ((t.num==0)&&(t.name==[])&&nargs t 2 2)):=by
 intro n H;refine aF func343 fun B=>?_
 refine nR ?_;cases a:(t.num==0)with
 |false=>
  refine nq a ?_;exact pB
 |true=>
  cases b:(t.name==[])with
  |false=>
   refine nq2 a b ?_;exact pB
  |true=>
   refine nq2 a b ?_;refine cP (ZlH t 2 2) ?_;exact pB
end Go.Proofs.YthajllbimoodjaaGreatDoor

namespace Go.Proofs
open Go.Shelf
def Tryz.lays156_ren:Go.Shelf.Ren:=⟨fun|156=>123|165=>218|166=>120|169=>127|240=>216|241=>288|276=>286|277=>357|n=>n,fun|31=>133|9=>9|3=>3|4=>4|0=>0|20=>20|72=>196|76=>200|70=>193|37=>194|75=>199|127=>295|164=>348|5=>5|80=>209|n=>n,fun|n=>n⟩
def Tryz.lays156:Go.Proofs.Lays.n156 prog Tryz.lays156_ren:=by
 repeat' first|kernel_rfl|exact bO|(intro w;kernel_rfl)|constructor
def Tryz.Builder_Extra_156:Builder.Extra prog Tryz.lays156_ren:={
 sizeBuilder:=by kernel_rfl
 liesBuilder:=by kernel_rfl
 t5:=Tryz.underlying5
 a5:=Tryz.isAgg5
 z5:=Tryz.sizeOf5
 v5:=Tryz.zeroValue5
 infoByte:=by kernel_rfl
 cellsByte:=by kernel_rfl
 sizeByte:=by kernel_rfl
 neB5:=by decide}
def Tryz.lays106_ren:Go.Shelf.Ren:=⟨fun|106=>213|213=>284|265=>352|n=>n,fun|9=>9|3=>3|n=>n,fun|n=>n⟩
def Tryz.lays106:Go.Proofs.Lays.n106 prog Tryz.lays106_ren:=by
 repeat' first|kernel_rfl|exact bO|(intro w;kernel_rfl)|constructor
def Tryz.laysM171_ren:Go.Shelf.Ren:=⟨fun|171=>121|243=>217|246=>287|283=>353|284=>354|285=>355|286=>356|129=>265|317=>397|318=>398|319=>399|320=>400|337=>428|338=>429|n=>n,fun|3=>3|9=>9|2=>2|4=>4|171=>386|0=>0|53=>336|37=>194|5=>5|173=>388|212=>421|51=>334|20=>20|213=>422|46=>270|232=>460|233=>461|n=>n,fun|17=>1|18=>2|19=>3|n=>n⟩
def Tryz.laysM171:Go.Proofs.LaysM.n171 prog Tryz.laysM171_ren:=by
 repeat' first|kernel_rfl|exact bO|(intro w;kernel_rfl)|constructor
def Tryz.lays144_ren:Go.Shelf.Ren:=⟨fun|144=>336|143=>392|219=>425|217=>447|225=>448|224=>449|267=>450|266=>466|314=>467|n=>n,fun|9=>9|4=>4|3=>3|5=>5|46=>270|146=>474|51=>334|n=>n,fun|1=>0|n=>n⟩
def Tryz.lays144:Go.Proofs.Lays.n144 prog Tryz.lays144_ren:=by
 repeat' first|kernel_rfl|exact bO|(intro w;kernel_rfl)|constructor
end Go.Proofs

namespace Go.Proofs.YthajllbimoodjaaGreatDoor
open Go.Abs
section
variable {E:Env}
def _root_.Go.Abs.Zo.below{n:Nat}{H:Za}{w w':World}(h:Zo n H E w)(hb:Go.RowKit.Below w.heap.size w w')(hd:E.qd=true->w.drawn<=w'.drawn):Zo n H E w'/\Ext n E w E w':=
 h.grow (F':=E.F) hb.os hb.tape hb.output hd hb.size (fun b a=>hb.block b a) (fun _ _ _ h=>h) (fun b o v hf=>by
  have a:=h.ZbC hf;have:=h.F b o v hf;simp only[World.cell?,hb.block b a]at this⊢;exact this) (fun _ _ _=>rfl)
variable {r:AV} {args:LA} {f:FuncId}
def Zo1{P:Program}(h:∀E w a,VRs E args a-> ∃v,VR E r v/\Calls P f a.toArray w fun e b=>e= .returned v/\b=w):Pure P f args r:=fun n H E w a g c=>by
 obtain⟨v,i,d⟩:=h E w a c;refine d.mono ?_;rintro e b ⟨rfl,rfl⟩;exact⟨r,v,H,E,rfl,⟨rfl,rfl⟩,i,g,.refl _ _ _⟩
def Tabs(H:Za):Prop:=∃m t a,H 0 0=some (.var 0 t [.int .i64 m])/\H 0 1=some (.var 1 a (Lib.pow10Tab.map (.int .u64)))
def Yb(P:Program)(f:FuncId)(args:LA)(r:AV):Prop:=∀n H,0<n->Tabs H->PC P n f args H r
def Abs.Pure.tabs{P:Program}(h:Pure P f args r):Yb P f args r:=fun n H _ _=>h n H
def Tabs.full{n:Nat}{L:List (Nat×Ze)}{H:Za}(h:Tabs H)(c:0<n):Tabs (full n L H):=by
 obtain⟨m,t,a,d,b⟩:=h;refine⟨m,t,a,?_,?_⟩<;>simp only[Abs.full]<;>rw[if_neg om]<;>assumption
variable {avs:LA} {F:Zc->Prop} {ts:List TypeId}
def Znb{a:Cx}{i:Bool}{o:Oper}{args:List Operand}{s:Zc}{e:Func}{c:Code}(b:Fun a.P f e c)
  (h:Yb a.P f avs r) (j:0<a.n) (g:Tabs s.H) (d:Yo a.T (evT s.tmps) args ts=avs) (k:F ⟨Yf s.tmps o.dst r,s.L,s.H⟩):WV a i o (.func f) args ts s F:=
 ZjS b rfl (by rw[Qu,d];exact h _ _ (UR _) (g.full j)) k
def cT{cx:Cx}{dr:Bool}{o:Oper}{args:List Operand}{ts:List TypeId}{s:Zc}{F:Zc->Prop}{p:Prop}(h:Yb cx.P f avs r)(hk:p)(h0:0<cx.n:=by first|exact hn|exact UR _)(h1:Tabs s.H:=by first|exact hT|exact hTW)(hx:isFun cx.P f=true:=by kernel_rfl)(ha:Yo cx.T (evT s.tmps) args ts=avs:=by exact rfl)(e:F ⟨Yf s.tmps o.dst r,s.L,s.H⟩=p:=by simp only[go_sem,simprocAttr];exact rfl):WV cx dr o (.func f) args ts s F:=by
 obtain⟨fn,c,hf⟩:=ZgH hx;exact Znb hf h h0 h1 ha (e▸hk)
def a50(a b:Bs):Pure prog 213 [.str a,.str b] (.int .i64 (Lib.compareBytes a b)):=Zo1 fun E w g c=>by
 obtain⟨j,h,rfl,e,c⟩:=c.Yw;obtain⟨i,f,rfl,d,c⟩:=c.Yw;rw[c.of_nil];cases e;cases d;exact⟨_,.int _ _,Any.strings_Compare Tryz.lays106 ⟨a.toArray⟩ ⟨b.toArray⟩ w⟩
def ZeI{n:Nat}{H:Za}{w:World}{l k b:Nat}{t:TypeId}{a:LA}(f:Zo n H E w)(d:l<n)(h:H l k=some (.var b t a)):E.qd=false/\ ∃c,w.heap[b]? =some (.cells c t (0,0))/\VRs E a c.toList:=by
 obtain⟨g,_,e⟩:=f.blk l k _ d h;exact⟨g,e⟩
def a146(s b:Bs)(p:s.length<4294967281):Yb prog 336 [.str s,.str b] (.bool (Lib.contains s b)):=fun n H q l E w B i d=>by
 obtain⟨m,t,A,u,_⟩:=l;obtain⟨C,z,rfl,o,d⟩:=d.Yw;obtain⟨D,F,rfl,k,d⟩:=d.Yw;rw[d.of_nil];cases o;cases k;obtain⟨_,c,v,h⟩:=ZeI i q u;obtain⟨x,r,j,g,f⟩:=h.Yw;have a:w.cell? ⟨0,0,none⟩=some (.int .i64 m):=by
  cases g;simp only[World.cell?,v];have:c= #[.int .i64 m]:=by
   rw[f.of_nil]at j;exact Qaa.1 j
  rw[this];rfl
 refine(Any.strings_Contains Tryz.lays144 ⟨s.toArray⟩ ⟨b.toArray⟩ m w (by show s.toArray.size<_;simpa using p) a).mono ?_;rintro e y ⟨rfl,rfl⟩;exact⟨_,_,H,E,rfl,⟨rfl,rfl⟩,.bool _,i,.refl _ _ _⟩
def VRs.ZtY{E:Env}:∀{l:List Int} {a:List Value},VRs E (l.map (.int .u64)) a->a=l.map (Value.int .u64)
 |[],a,h=>h.of_nil
 |x::l,a,h=>by
  obtain⟨v,r,rfl,b,c⟩:=VRs.Yw h;cases b;rw[VRs.ZtY c];rfl
def Zrt(i:Int)(l:-9223372036854775808<=i)(u:i<=9223372036854775807):Yb prog 121 [.int .i64 i] (.str (Lib.itoa i)):=fun n H y s E w D j g=>by
 obtain⟨m,t,C,_,z⟩:=s;obtain⟨F,B,rfl,f,g⟩:=g.Yw;rw[g.of_nil];cases f;obtain⟨q,c,A,h⟩:=ZeI j y z;have p:prog.globalNamed (Rows.instanceSameRow.named.getD 3 default)=some 1:=by kernel_rfl
 have a:Lib.TabIs prog w (Rows.instanceSameRow.named.getD 3 default) .u64 Lib.pow10Tab:=by
  simp only[Lib.TabIs,World.var?,p,UY,A];exact congrArg some (Qaa.1 (VRs.ZtY h))
 refine(Any.strconv_Itoa Tryz.laysM171 i l u w a).mono ?_;rintro e w' ⟨rfl,k,r,rfl⟩;obtain⟨v,x⟩:=j.below (w':=Sort.grow (w.drewN k) r) ⟨rfl,rfl,rfl,by simp[Sort.grow,World.drewN],fun b o=>by simp[Sort.grow,World.drewN,Qbz,o]⟩ (fun d=>by rw[q]at d;cases d);exact⟨_,_,H,E,rfl,⟨rfl,rfl⟩,.str _,v,x⟩
def Zsq{b off:Nat}:∀(xs:List Bs) (c:Nat->Nat->Value),(∀i (h:i<(xs.map AV.str).length) j (h':j<((xs.map AV.str)[i]).cells.length),VR E ((xs.map AV.str)[i]).cells[j] (c i j))->
  ∀j x,(xs.map fun s=>(⟨s.toArray⟩:ByteArray))[j]? =some x->c j 0= .string x:=fun xs c h j x hx=>by
 rw[Ub,Ur]at hx;obtain⟨s,hs,rfl⟩:=hx;obtain⟨a,rfl⟩:=Q7.1 hs;have:=h j (by simpa using a) 0 (by simp[AV.cells]);simp only[QZ,AV.cells,Ui]at this;generalize c j 0=y at this;cases this;rfl
def a92(z:List Bs)(d:Bs)(o:Own)(U:z.length<=140737488355328)(Q:(Lib.join z d).length<=140737488355328):Yb prog 123 [.sl 1 (z.map .str) o,.str d] (.str (Lib.join z d)):=fun n H hn X E w vs J G=>by
 obtain⟨m,t,t',_,hm⟩:=X;obtain⟨v1,r1,rfl,f,G⟩:=G.Yw;obtain⟨v2,r2,rfl,O,G⟩:=G.Yw;rw[G.of_nil];cases O;obtain⟨W,_⟩:=ZeI J hn hm;have l:∀k,Go.RowKit.Below w.heap.size w k-> ∃r v I q,Ending.returned (.string ⟨(Lib.join z d).toArray⟩)= .returned v/\(r= .str (Lib.join z d)/\I=H)/\VR q r v/\Zo n I q k/\Ext n E w q k:=fun k M=>by
  obtain⟨Y,K⟩:=J.below M (fun D=>by rw[W]at D;cases D);exact⟨_,_,H,E,rfl,⟨rfl,rfl⟩,.str _,Y,K⟩
 cases K:z with
 |nil=>
  subst K;have h:∀a c,Calls prog 123 #[.slice a 0 c,.string ⟨d.toArray⟩] w fun e k=>∃r v I q,e= .returned v/\(r= .str (Lib.join [] d)/\I=H)/\VR q r v/\Zo n I q k/\Ext n E w q k:=fun a c=>
   (Any.strings_Join_none Tryz.lays156 Tryz.Builder_Extra_156 a c ⟨d.toArray⟩ w).mono fun e k ⟨he,hw⟩=>by
    subst hw;rw[he];exact l _ (Go.RowKit.Below.refl _ _)
  generalize p:AV.sl 1 (List.map AV.str []) o=av at f;cases f<;>cases p
  ·exact h _ _
  ·exact h _ _
 |cons x r=>
  rw[K]at f U Q l;generalize p:AV.sl 1 (List.map AV.str (x::r)) o=av at f;cases f<;>cases p;rename_i b off P c N B Z hk V ho;have u:∀i,i<(x::r).length->w.cell? ⟨b,off+i,none⟩=some (c i 0):=fun i hi=>by
   have:=J.F _ _ _ (V i 0 (by simpa using hi) om);simpa using this
  have C:(List.map AV.str (x::r)).length=((x::r).map fun s=>(⟨s.toArray⟩:ByteArray)).length:=sm;have A:((x::r).map fun s=>(⟨s.toArray⟩:ByteArray)).map (·.data.toList)=x::r:=by
   rw[QbH];exact(MG (g:=fun s=>s) (fun s _=>by simp)).trans (QaI _)
  have S:=Any.strings_Join Tryz.lays156 Tryz.Builder_Extra_156 b off P ((x::r).map fun s=>(⟨s.toArray⟩:ByteArray)) ⟨d.toArray⟩ w (fun j y R=>by
   have L:j<(x::r).length:=by
    have:=(Q7.1 R).1;simpa using this
   rw[u j L,Zsq (b:=b) (off:=off) _ c N j y R]) (J.ZbC (V 0 0 sm om)) (by simpa using U) (by simpa using B) (by rw[A];exact Q)
  rw[A]at S;rw[C];refine Calls.mono S ?_;rintro e k ⟨rfl,M⟩;exact l k M
end
def sOps:Bs:=[43,45,42,47,92]
def oper(t:Tm):Bool:=Lib.contains sOps t.name&&((t.name.length:Int)==1)
def shape(t:Tm):Bool:=
 if t.kind=1 then decide (-2147483647<=t.num)&&decide (t.num<=2147483647)&&(t.name==[])&&nargs t 0 0
 else if t.kind=2 then named t&&sym t.name&&nargs t 0 0
 else if t.kind=4 then named t&&sym t.name&&nargs t 1 8
 else if t.kind=3 then named t&&Zfk t.name&&nargs t 0 0
 else if t.kind=5 then named t&&oper t&&(nargs t 2 2||(t.name==sMinus)&&nargs t 1 1)
 else if t.kind=6 then(t.num==0)&&(t.name==[])&&nargs t 2 2
 else false
def a107(t:Tm)(h:t.Good):Yb prog 282 [t.enc] (.bool (shape t)):=by
 intro n H hn hT;have i:=h.name;refine aF func282 fun B=>?_
 refine gh ?_;refine Zah ⟨[(3,.ptr n 3 0),(2,.bool false),(1,.ptr n 1 0)],[(1,.box t.cs),(3,.box [.bool (named t)])],H⟩ ?_ ?_
 ·cases f:(t.num==0);all_goals
   refine nq f ?_;refine nN ?_;refine⟨rfl,?_⟩;apply kZ;repeat' first|apply q0|exact xx|apply aI
   simp only[go_sem,simprocAttr,named,f,bne]
 refine kK ?_;refine Zah ⟨[(4,.ptr n 4 0),(3,.ptr n 3 0),(2,.bool false),(1,.ptr n 1 0)],[(1,.box t.cs),(3,.box [.bool (named t)]),(4,.box [.bool (oper t)])],H⟩ ?_ ?_
 ·refine nR ?_;refine cT (a146 [43,45,42,47,92] t.name dc) ?_;cases f:Lib.contains [43,45,42,47,92] t.name;all_goals
   try simp only[go_sem,simprocAttr]
   refine nN ?_;refine⟨rfl,?_⟩;apply kZ;repeat' first|apply q0|exact xx|apply aI
   simp only[go_sem,simprocAttr,oper,sOps,f]
 refine kK ?_;refine ZT 1 t.cs [(4,.ptr n 4 0),(3,.ptr n 3 0),(2,.bool false),(1,.iptr t.cs)] rfl ?_ ?_ ?_ ?_
 ·exact⟨.int _ _,.int _ _,.str _,Tm.Zhq _ _,trivial⟩
 ·exact⟨.inl ⟨.refl _,.ptr _ _ _ (.inr ⟨rfl,dc⟩)⟩,.inl ⟨.refl _,.ptr _ _ _ (.inr ⟨rfl,dc⟩)⟩,.inl ⟨.refl _,.bool _⟩,.inr ⟨0,rfl,rfl⟩,trivial⟩
 ·exact⟨Ze.Zv ⟨.bool _,trivial⟩,Ze.Zv ⟨.bool _,trivial⟩,trivial⟩
 refine ZT 3 [.bool (named t)] [(4,.ptr n 4 0),(3,.iptr [.bool (named t)]),(2,.bool false),(1,.iptr t.cs)] rfl ?_ ?_ ?_ ?_
 ·exact⟨.bool _,trivial⟩
 ·exact⟨.inl ⟨.refl _,.ptr _ _ _ (.inr ⟨rfl,dc⟩)⟩,.inr ⟨0,rfl,rfl⟩,.inl ⟨.refl _,.bool _⟩,.inl ⟨.refl _,Below.inside (Zj t.bcs)⟩,trivial⟩
 ·exact⟨Ze.Zv ⟨.bool _,trivial⟩,trivial⟩
 refine ZT 4 [.bool (oper t)] [(4,.iptr [.bool (oper t)]),(3,.iptr [.bool (named t)]),(2,.bool false),(1,.iptr t.cs)] rfl ?_ ?_ trivial ?_
 ·exact⟨.bool _,trivial⟩
 ·exact⟨.inr ⟨0,rfl,rfl⟩,.inl ⟨.refl _,Below.inside (Zj ⟨.bool _,trivial⟩)⟩,.inl ⟨.refl _,.bool _⟩,.inl ⟨.refl _,Below.inside (Zj t.bcs)⟩,trivial⟩
 refine nr ?_;simp only[go_sem,simprocAttr,Zat,Xv,XQ,AV.kls,klAll,AV.kl,Ul,Ql,forall_eq_or_imp,QA,KL.int.injEq,Ug,Qs,Int.reduceEq,false_and,and_false,not_false_eq_true];by_cases a:t.kind=1
 ·refine nr ?_;simp only[go_sem,simprocAttr,lookA,Xv,XQ,AV.kls,klAll,AV.kl,Ul,Ql,forall_eq_or_imp,QA,KL.int.injEq,Ug,Qs,eq_true a,true_and,and_true,false_and];refine nr ?_;simp only[go_sem,simprocAttr,bne];refine Yp (avs:=[]) rfl (Zf func337 rfl rfl) (Zv5 t _ _) rfl ?_;simp only[go_sem,simprocAttr];refine nV ?_;refine Zb ?_ (.bool _) rfl;rw[shape];simp only[a,reduceIte,Int.reduceEq];simp only[go_sem,simprocAttr]
  first|exact .refl _|(simp;exact .refl _)
 by_cases b:t.kind=2
 ·refine nr ?_;simp only[go_sem,simprocAttr,lookA,Xv,XQ,AV.kls,klAll,AV.kl,Ul,Ql,forall_eq_or_imp,QA,KL.int.injEq,Ug,Qs,eq_false a,eq_true b,true_and,and_true,false_and];refine nr ?_;simp only[go_sem,simprocAttr,bne];refine Yp (avs:=[]) rfl (Zf func338 rfl rfl) (a148 t h _ _) rfl ?_;simp only[go_sem,simprocAttr];refine nV ?_;refine Zb ?_ (.bool _) rfl;rw[shape];simp only[a,b,reduceIte,Int.reduceEq];simp only[go_sem,simprocAttr]
  first|exact .refl _|(simp;exact .refl _)
 by_cases c:t.kind=3
 ·refine nr ?_;simp only[go_sem,simprocAttr,lookA,Xv,XQ,AV.kls,klAll,AV.kl,Ul,Ql,forall_eq_or_imp,QA,KL.int.injEq,Ug,Qs,eq_false a,eq_false b,eq_true c,true_and,and_true,false_and];refine nr ?_;simp only[go_sem,simprocAttr,bne];refine Yp (avs:=[]) rfl (Zf func339 rfl rfl) (Zv6 t h _ _) rfl ?_;simp only[go_sem,simprocAttr];refine nV ?_;refine Zb ?_ (.bool _) rfl;rw[shape];simp only[a,b,c,reduceIte,Int.reduceEq];simp only[go_sem,simprocAttr]
  first|exact .refl _|(simp;exact .refl _)
 by_cases d:t.kind=4
 ·refine nr ?_;simp only[go_sem,simprocAttr,lookA,Xv,XQ,AV.kls,klAll,AV.kl,Ul,Ql,forall_eq_or_imp,QA,KL.int.injEq,Ug,Qs,eq_false a,eq_false b,eq_false c,eq_true d,true_and,and_true,false_and];refine nr ?_;simp only[go_sem,simprocAttr,bne];refine Yp (avs:=[]) rfl (Zf func341 rfl rfl) (Zv8 t h _ _) rfl ?_;simp only[go_sem,simprocAttr];refine nV ?_;refine Zb ?_ (.bool _) rfl;rw[shape];simp only[a,b,c,d,reduceIte,Int.reduceEq];simp only[go_sem,simprocAttr]
  first|exact .refl _|(simp;exact .refl _)
 by_cases e:t.kind=5
 ·refine nr ?_;simp only[go_sem,simprocAttr,lookA,Xv,XQ,AV.kls,klAll,AV.kl,Ul,Ql,forall_eq_or_imp,QA,KL.int.injEq,Ug,Qs,eq_false a,eq_false b,eq_false c,eq_false d,eq_true e,true_and,and_true,false_and];refine nr ?_;simp only[go_sem,simprocAttr,bne];refine Yp (avs:=[]) rfl (Zf func342 rfl rfl) (a152 t (oper t) _ _) rfl ?_;simp only[go_sem,simprocAttr];refine nV ?_;refine Zb ?_ (.bool _) rfl;rw[shape];simp only[a,b,c,d,e,reduceIte,Int.reduceEq];simp only[go_sem,simprocAttr]
  first|exact .refl _|(simp;exact .refl _)
 by_cases g:t.kind=6
 ·refine nr ?_;simp only[go_sem,simprocAttr,lookA,Xv,XQ,AV.kls,klAll,AV.kl,Ul,Ql,forall_eq_or_imp,QA,KL.int.injEq,Ug,Qs,eq_false a,eq_false b,eq_false c,eq_false d,eq_false e,eq_true g,true_and,and_true,false_and];refine nr ?_;simp only[go_sem,simprocAttr,bne];refine Yp (avs:=[]) rfl (Zf func343 rfl rfl) (Zv9 t _ _) rfl ?_;simp only[go_sem,simprocAttr];refine nV ?_;refine Zb ?_ (.bool _) rfl;rw[shape];simp only[a,b,c,d,e,g,reduceIte,Int.reduceEq];simp only[go_sem,simprocAttr]
  first|exact .refl _|(simp;exact .refl _)
 refine nr ?_;simp only[go_sem,simprocAttr,lookA,Xv,XQ,AV.kls,klAll,AV.kl,Ul,Ql,forall_eq_or_imp,QA,KL.int.injEq,Ug,Qs,eq_false a,eq_false b,eq_false c,eq_false d,eq_false e,eq_false g,XI];refine nr ?_;simp only[go_sem,simprocAttr,bne];refine nV ?_;refine Zb ?_ (.bool _) rfl;rw[shape];simp only[a,b,c,d,e,g,reduceIte];simp only[go_sem,simprocAttr];exact .refl _
def Tabs.up{G H:Za}(h:Tabs H)(a:∀k,G 0 k=H 0 k):Tabs G:=by
 obtain⟨m,t,b,d,c⟩:=h;exact⟨m,t,b,(a 0).trans d,(a 1).trans c⟩
def ZlE(f:Nat)(a:LA)(p:Tm->Bool):Prop:=(∃b c,Fun prog f b c)/\ ∀t:Tm,t.Good->Yb prog f (t.enc::a) (.bool (p t))
def a71(t:Tm)(r:t.Good)(f:Nat)(p:Tm->Bool)(x:ZlE f [] p):Yb prog 203 [t.enc,.fn (.func f) []] (.bool (t.all p)):=by
 intro n H J G;obtain⟨⟨q,c,I⟩,x⟩:=x;refine aF func203 fun B=>?_
 refine gc ?_;refine cP (Zus t) ?_;refine kK ?_;refine ZrV (d:=.ret) 100 t r p [(2,.box t.cs),(3,.box [.fn (.func f) []]),(4,.box [.bool false])] rfl rfl rfl sm (fun l=>?_) ?_ ?_ ?_
 ·have C:∀k,Below k (.fn (.func f) []):=fun k=>.fn _ _ fun i h=>absurd h (Qj _)
  have r:∀k,ZW (fun c=>Below k c) t.cs:=fun k=>⟨.int _ _,.int _ _,.str _,Zl (mB fun u=>u.blw k),trivial⟩
  refine⟨Ze.Zy (r _),Ze.Zy ⟨C _,trivial⟩,Ze.Zy ⟨.bool _,trivial⟩,Ze.ZaS ?_,trivial⟩;refine⟨.fn _ _ (fun i F=>?_),t.blw _,.ptr _ _ _ (Qq n),.ptr _ _ _ (Qq n),.ptr _ _ _ (Qq n),t.blw _,C _,trivial⟩;have:i=0:=by simp at F;exact F
  subst this;exact .iptr _ (fun j K=>(r _).mem _ (Qa K))
 ·intro l m L s O w M g o;have a:¬n=m:=om;have y:=g 3;have D:=g 4;have b:=g 100;simp only[go_sem,simprocAttr]at y D b;refine gd ?_;refine⟨rfl,b,?_⟩;refine gM ?_;refine nr ?_;simp only[go_sem,simprocAttr,a,y,full,Za.upd,(show¬m=n by omega)];refine Yp (avs:=[s.enc]) (by simp only[go_sem,simprocAttr,a,y,full,Za.upd]) I (x s w _ _ (UR _) (G.up (by intro k;simp only[full,Za.upd];rw[if_neg om,if_neg om,o 0 k J]))) sS ?_;have A:Ze.Below m (.box [.bool false]):=Ze.Zy ⟨.bool _,trivial⟩;refine aS ?_;cases E:p s with
  |false=>
   refine nTq E ?_;refine nr ?_;simp only[go_sem,simprocAttr,a,D,full,Za.upd,Zd5,setH,(show¬m=n by omega)];refine⟨.inr A,?_⟩;refine nV ?_;refine⟨by simp[Za.upd],rfl,Zj2 (fun j=>?_) (fun N j a=>?_)⟩
   ·by_cases z:j=100
    ·subst z;simp[Za.upd]
    ·by_cases v:j=4
     ·subst v;simp[Za.upd]
     ·simp[Za.upd,z,v,g j,setb,lkb,Ne.symm z,Ne.symm v]
   ·simp[Za.upd,a]
  |true=>
   refine nFq E ?_;refine kK ?_;refine nN ?_;exact⟨by simp[Za.upd],rfl,by simp only[if_true];exact Zlp b⟩
 ·intro l e;refine kK ?_;refine ge ?_;refine YH (.inl rfl) _ n 4 0 [.bool true] sS sF rfl sm sm ?_ (.bool _) rfl;rw[e];exact .refl _
 ·intro l e;refine nV ?_;refine YH (.inl rfl) _ n 4 0 [.bool false] sS sF rfl sm sm ?_ (.bool _) rfl;rw[e];exact .refl _
def Zv1(t:Tm)(a:t.Good):Yb prog 281 [t.enc] (.bool (shape t)):=by
 intro n H hn hT;refine aF func281 fun B=>?_
 refine gc ?_;refine cT (a107 t a) ?_;exact pB
def pred106:ZlE 281 [] shape:=⟨⟨_,_,Zf func281 rfl rfl⟩,fun t a=>Zv1 t a⟩
def plain(t:Tm):Bool:=(t.kind==1)||(t.kind==2)||(t.kind==4)
def a70(t:Tm):Pure prog 202 [t.enc] (.bool (plain t)):=by
 intro n H;refine aF func202 fun B=>?_
 refine nR ?_;cases a:(t.kind==1)<;>cases b:(t.kind==2)<;>cases c:(t.kind==4);all_goals
  refine nq3 a b c ?_;refine Zk rfl rfl ?_;refine Zb ?_ (.bool _) rfl;try simp only[go_sem,simprocAttr,plain,a,b,c,GY,QaF,Gg,Uj]
  exact .refl _
def pred70:ZlE 202 [] plain:=⟨⟨_,_,Zf func202 rfl rfl⟩,fun t _=>Abs.Pure.tabs (a70 t)⟩
def dep:Tm->Int
 | .mk _ _ _ l=>deps l 0+1
where deps:LT->Int->Int
 |[],m=>m
 |t::r,m=>deps r (if dep t>m then dep t else m)
theorem Zoo(l:LT):∀(i:Nat) (m:Int) (h:i<l.length),dep.deps (l.take (i+1)) m=(if dep l[i]>dep.deps (l.take i) m then dep l[i]else dep.deps (l.take i) m):=by
 induction l with
 |nil=>intro i m h;exact absurd h (Qj _)
 |cons t r ih=>
  intro i m h;cases i with
  |zero=>rfl
  |succ i=>simp only[Qat,dep.deps,Mc];exact ih i _ (by simpa using h)
def ZlQ(t:Tm):dep t=dep.deps t.args 0+1:=by cases t;rfl
def dep_sz:∀t:Tm,1<=dep t/\dep t<=t.sz
 | .mk k n s l=>by
  have d:∀(r:LT),(∀u∈r,u∈l)-> ∀m:Int,0<=m->0<=dep.deps r m/\dep.deps r m<=max m (Tm.sz.szs r):=by
   intro r;induction r with
   |nil=>intro _ m c;simp only[dep.deps,Tm.sz.szs];omega
   |cons t r ih=>
    intro a m c;have f:=dep_sz t;have:=ih (fun u e=>a u (Qx _ e)) (if dep t>m then dep t else m) (by split<;>omega);simp only[dep.deps,Tm.sz.szs];by_cases b:dep t>m
    ·rw[if_pos b]at this⊢;omega
    ·rw[if_neg b]at this⊢;omega
  have:=d l (fun u h=>h) 0 (QaT _);simp only[dep,Tm.sz];omega
termination_by t=>SizeOf.sizeOf t
decreasing_by
 have:=QU (a t sm);simp only[Tm.mk.sizeOf_spec];omega
def Ztk{t:Tm}(a:t.Good):dep t<=3000000000000:=by have:=(dep_sz t).2;have:=a.sz;omega
def Zvh(n:Nat)(t:Tm)(H:Za)(i:Nat):Zc:=
 ⟨[(9,.int .i64 i),(8,.int .i64 t.args.length),(7,.sl 4 (t.args.map Tm.enc) .any),(3,.int .i64 (dep.deps (t.args.take i) 0)),(1,.ptr n 1 0)],[(1,.box t.cs)],H⟩
def a105(t:Tm)(a:t.Good):Pure prog 280 [t.enc] (.int .i64 (dep t)):=by
 intro n H;have c:=ZlQ t;have e:=dep_sz t;have d:=Ztk a;have hl:=a.len;refine aF func280 fun B=>?_
 refine gz ?_;refine Zx (Zvh n t H) t.args.length rfl ?_ ?_
 ·exact KK
 intro i b;refine ZV rfl ?_;rcases Qd i t.args.length with h|h
 ·refine nq h ?_;refine nT ?_;refine nq2 (Tm.Zw _ _ h) h ?_;refine nR ?_;refine cP (a105 t.args[i] (a.arg (Qa h))) ?_;refine gd ?_;apply kZ;repeat' first|apply q0|exact xx|apply aI
  ·refine aS ?_;rw[iw];exact Wk.refl _
  ·refine aS ?_;rw[Zoo _ _ _ h];exact Wk.refl _
 ·refine nq (QC.2 h) ?_;refine gt ?_;have b:i=t.args.length:=om;subst b;refine Zb ?_ (.int _ _) rfl;rw[c];simp only[go_sem,simprocAttr,QV];rw[iw];exact Wk.refl _
termination_by SizeOf.sizeOf t
decreasing_by exact Tm.Xp (Qa h)
def Xr(t:Tm):Bool:=decide (dep t<=12)&&t.all shape
def a72(t:Tm)(b:t.Good):Yb prog 204 [t.enc] (.bool (Xr t)):=by
 intro n H hn hT;refine aF func204 fun B=>?_
 refine gc ?_;refine cP (a105 t b) ?_;cases a:decide (dep t<=12)with
 |false=>
  refine aS ?_;refine Zk rfl rfl ?_;refine Zb ?_ (.bool _) rfl;try simp only[go_sem,simprocAttr,Xr,a]
  exact .refl _
 |true=>
  refine aS ?_;refine cT (a71 t b _ shape pred106) ?_;refine Zk rfl rfl ?_;refine Zb ?_ (.bool _) rfl;try simp only[go_sem,simprocAttr,Xr,a]
  exact .refl _
def Zt(t:Tm):Bool:=t.all plain&&Xr t
def a37(t:Tm)(b:t.Good):Yb prog 109 [t.enc] (.bool (Zt t)):=by
 intro n H hn hT;refine aF func109 fun B=>?_
 refine gc ?_;refine nR ?_;refine cT (a71 t b _ plain pred70) ?_;cases a:t.all plain with
 |false=>
  refine aS ?_;refine Zk rfl rfl ?_;refine Zb ?_ (.bool _) rfl;try simp only[go_sem,simprocAttr,Zt,a]
  exact .refl _
 |true=>
  refine aS ?_;refine cT (a72 t b) ?_;refine Zk rfl rfl ?_;refine Zb ?_ (.bool _) rfl;try simp only[go_sem,simprocAttr,Zt,a]
  exact .refl _
def txt:Tm->Bs
 | .mk k n s l=>if k=1 then Lib.itoa n else if k=4 then((s++[40])++Lib.join (txts l) [44])++[41]else s
where txts:LT->List Bs
 |[]=>[]
 |t::r=>txt t::txts r
theorem txts_eq:∀l:LT,txt.txts l=l.map txt
 |[]=>rfl
 |t::r=>by rw[txt.txts,txts_eq r];rfl
def Zcb(t:Tm):txt t=if t.kind=1 then Lib.itoa t.num else if t.kind=4 then((t.name++[40])++Lib.join (t.args.map txt) [44])++[41]else t.name:=by
 cases t;rw[txt,txts_eq];rfl
def okv(t:Tm):Bool:=plain t&&shape t
def Zch(p q:Tm->Bool):∀t:Tm,t.all (fun u=>p u&&q u)=(t.all p&&t.all q)
 | .mk k n s l=>by
  have b:∀r:LT,(∀u∈r,u∈l)->Tm.all.alls (fun u=>p u&&q u) r=(Tm.all.alls p r&&Tm.all.alls q r):=by
   intro r;induction r with
   |nil=>intro _;rfl
   |cons t r ih=>
    intro a;have d:=Zch p q t;simp only[Tm.all.alls,d,ih (fun u c=>a u (Qx _ c))];cases t.all p<;>cases t.all q<;>simp
  simp only[Tm.all,b l (fun u h=>h)];cases p (.mk k n s l)<;>cases q (.mk k n s l)<;>simp
termination_by t=>SizeOf.sizeOf t
decreasing_by
 have:=QU (a t sm);simp only[Tm.mk.sizeOf_spec];omega
section
variable {t:Tm} {p:Tm->Bool}
def YZ(h:t.all p=true):p t=true:=by
 rw[Tm.all_eq,Qb]at h;exact h.1
def Xx{u:Tm}(h:t.all p=true)(a:u∈t.args):u.all p=true:=by
 rw[Tm.all_eq,Qb,Tm.VQ,Qw]at h;exact h.2 u a
def Zd7{s:Bs}(h:sym s=true):s.length<=32:=by
 simp only[sym,wd,Qb,decide_eq_true_eq]at h;exact h.1.2.2
def VD(h:okv t=true):(t.kind=1/\ -2147483647<=t.num/\t.num<=2147483647/\t.name=[]/\t.args=[])\/
  (t.kind=2/\t.num=0/\sym t.name=true/\t.args=[])\/(t.kind=4/\t.num=0/\sym t.name=true/\1<=t.args.length/\t.args.length<=8):=by
 simp only[okv,plain,Qb,Md,beq_iff_eq]at h;obtain⟨(h1|h1)|h1,a⟩:=h
 ·refine .inl ⟨h1,?_⟩;simp[shape,h1,nargs]at a;exact⟨a.1.1.1,a.1.1.2,a.1.2,a.2⟩
 ·refine .inr (.inl ⟨h1,?_⟩);simp[shape,h1,nargs,named]at a;exact⟨a.1.1.1,a.1.2,a.2⟩
 ·refine .inr (.inr ⟨h1,?_⟩);simp[shape,h1,nargs,named]at a;refine⟨a.1.1.1,a.1.2,?_,?_⟩<;>omega
def txt_len:∀t:Tm,t.all okv=true->(txt t).length<=42*t.sz
 | .mk k n s l=>fun h=>by
  have o:∀r:LT,(∀u∈r,u∈l)->Lib.lens (r.map txt)<=42*Tm.sz.szs r:=by
   intro r;induction r with
   |nil=>intro _;simp[Lib.lens]
   |cons t r ih=>
    intro d;have:=txt_len t (Xx (t:=.mk k n s l) h (d t sm));have:=ih (fun u q=>d u (Qx _ q));simp only[Qs,Lib.lens,Tm.sz.szs,QaO]at*;omega
  rw[Zcb];rcases VD (YZ h)with⟨b,f,c,a,e⟩|⟨b,f,c,a⟩|⟨b,f,c,a,e⟩
  ·rw[if_pos b];have:=Lib.itoa_length_le (Tm.mk k n s l).num om om;have:=(Tm.mk k n s l).Zdk;omega
  ·rw[if_neg om,if_neg om];have:=Zd7 c;have:=(Tm.mk k n s l).Zdk;omega
  ·rw[if_neg om,if_pos b];have i:=Zd7 c;have p:=o l (fun u h=>h);have m:(Tm.mk k n s l).args=l:=rfl;have j:(Tm.mk k n s l).name=s:=rfl;rw[m]at a e⊢;rw[j]at i⊢;simp only[Qh,Qm,Qz,Tm.sz];cases g:l with
   |nil=>rw[g]at a;simp at a
   |cons x r=>
    rw[g]at p e;rw[Qs,Lib.join_length];simp only[Qs,Qm,Qz,Qv]at*;omega
termination_by t=>SizeOf.sizeOf t
decreasing_by
 have:=QU (d t sm);simp only[Tm.mk.sizeOf_spec];omega
def Zxr(t:Tm)(n:Nat)(H:Za)(i:Nat):Zc:=
 ⟨[(21,.int .i64 i),(20,.int .i64 t.args.length),(19,.sl 4 (t.args.map Tm.enc) .any),(3,.sl 1 (((t.args.take i).map txt).map .str) (.buf n 200)),(1,.ptr n 1 0)],[(1,.box t.cs),(200,.buf 9 1 i)],H⟩
def a94(t:Tm)(d:t.Good)(f:t.all okv=true):Yb prog 219 [t.enc] (.str (txt t)):=by
 intro n H hn hT;have s:=d.name;have m:=d.len;refine aF func219 fun B=>?_
 refine gk ?_;rcases VD (YZ f)with⟨a,j,l,k,q⟩|⟨a,j,l,k⟩|⟨a,j,l,k,q⟩
 ·have c:(t.kind==1)=true:=by simp[a]
  refine nq c ?_;refine gi ?_;refine cT (Zrt t.num om om) ?_;refine nV ?_;refine Zb ?_ (.str _) rfl;rw[Zcb,if_pos a];exact .refl _
 ·have c:(t.kind==1)=false:=by simp[a]
  have g:(t.kind==4)=false:=by simp[a]
  have p:(t.kind==6)=false:=by simp[a]
  have o:(t.kind==5)=false:=by simp[a]
  refine nq c ?_;refine nF ?_;refine nq g ?_;refine nF ?_;refine nq p ?_;refine nF ?_;refine nq o ?_;refine gu ?_;refine ge ?_;refine Zb ?_ (.str _) rfl;rw[Zcb,if_neg om,if_neg om];exact .refl _
 ·have c:(t.kind==1)=false:=by simp[a]
  have g:(t.kind==4)=true:=by simp[a]
  refine nq c ?_;refine nF ?_;refine nq g ?_;refine nT ?_;refine gk ?_;refine XL 3 200 9 1 rfl rfl ?_;refine Zx (Zxr t n H) t.args.length rfl ?_ ?_
  ·exact KK
  intro i u;refine ZV rfl ?_;rcases Qd i t.args.length with h|h
  ·refine nq h ?_;refine nT ?_;refine nq2 (Tm.Zw _ _ h) h ?_;refine nR ?_;have b:(t.args.take i).length=i:=UG om;refine Znb (Zf func219 rfl rfl) (a94 t.args[i] (d.arg (Qa h)) (Xx f (Qa h))) hn hT (by simp only[go_sem,simprocAttr,b]) ?_;refine aq b ?_;refine⟨by first|exact⟨rfl,dc⟩|exact rfl,⟨Zn om,om⟩,?_⟩;refine gd ?_;apply kZ;repeat' first|apply q0|exact xx|apply aI
   ·refine aS ?_;rw[iw];exact .refl _
   ·simp only[go_sem,simprocAttr,Qn h,QM];exact .refl _
  ·refine nq (QC.2 h) ?_;refine gg ?_;have e:i=t.args.length:=om;subst e;have hl:=txt_len t f;rw[Zcb,if_neg om,if_pos a]at hl;simp only[Qh,Qm,Qz]at hl;have r:=d.sz;refine kK ?_;refine nD drawO ?_;simp only[go_sem,simprocAttr,QV];refine⟨om,?_⟩;refine cT (a92 (t.args.map txt) [44] (.buf n 200) (by simp;omega) om) ?_;refine⟨by simp only[Qh,Qm,Qz];omega,by simp only[Qh,Qm,Qz];omega,?_⟩;refine nV ?_;refine Zb ?_ (.str _) rfl;rw[Zcb,if_neg om,if_pos a];exact .refl _
termination_by SizeOf.sizeOf t
decreasing_by exact Tm.Xp (Qa h)
end
def Ju{t:Tm}(h:Zt t=true):t.all okv=true:=by
 simp only[Zt,Xr,Qb]at h;have:=Zch plain shape t;rw[h.1,h.2.2]at this;exact this
def a58(t:Tm)(c:t.Good)(a:Zt t=true):Yb prog 125 [t.enc] (.str (txt t)):=by
 intro n H hn hT;have b:Xr t=true:=by simp only[Zt,Qb]at a;exact a.2
 refine aF func125 fun B=>?_
 refine gc ?_;refine Znb (Zf func204 rfl rfl) (a72 t c) hn hT (by simp only[go_sem,simprocAttr,b]) ?_;refine aq b ?_;refine gv ?_;refine cT (a94 t c (Ju a)) ?_;refine Zk rfl rfl ?_;refine Zb ?_ (.str _) rfl;try simp only[go_sem,simprocAttr]
 exact .refl _
def a44(t:Tm)(a:t.Good):Yb prog 207 [t.enc] (.bool (!Zt t)):=by
 intro n H hn hT;refine aF func207 fun B=>?_
 refine gc ?_;refine cT (a37 t a) ?_;exact pB
def Zc8{α:Type}(p:α->Bool)(l:List α):Int:=if l.any p then((l.findIdx p:Nat):Int)else -1
section
variable {α:Type}
def ZfI(p:α->Bool)(l:List α):decide (0<=Zc8 p l)=l.any p:=by
 unfold Zc8;split
 ·rename_i h;rw[h];simp
 ·rename_i h;simp only[Me]at h;rw[h];rfl
def Za4{p:α->Bool}{l:List α}{i:Nat}(h:i<l.length)(a:p l[i]=true)(d:∀j (h:j<l.length),j<i->p l[j]=false):Zc8 p l=i:=by
 have b:l.any p=true:=GR.2 ⟨_,Qa h,a⟩;unfold Zc8;rw[if_pos b];congr 1
 rw[List.findIdx_eq h];exact⟨a,fun j c=>by rw[d j om c]⟩
def Vy{p:α->Bool}{l:List α}(d:∀j (h:j<l.length),p l[j]=false):Zc8 p l= -1:=by
 unfold Zc8;rw[if_neg];rw[GR];rintro⟨x,c,a⟩;obtain⟨j,b,rfl⟩:=QK c;rw[d j b]at a;cases a
structure ZeY {α:Type} (f:Nat) (caps:LA) (enc:α->AV) (l:List α) (p:α->Bool):Prop where
 fn:∃fn c,Fun prog f fn c
 on:∀x∈l,Yb prog f (enc x::caps) (.bool (p x))
 below:∀n,ZW (fun c=>Below n c) caps
def Zxp(l:LT)(f:Nat)(a:LA)(H:Za)(i:Nat):Zc:=
 ⟨[(8,.int .i64 i),(7,.int .i64 l.length),(1,.fn (.func f) a),(0,.sl 4 (l.map Tm.enc) .any)],[],H⟩
def a80(l:LT)(w:l.length<=1000000)(f:Nat)(a:LA)(p:Tm->Bool)(d:ZeY f a Tm.enc l p):Yb prog 201 [.sl 4 (l.map Tm.enc) .any,.fn (.func f) a] (.int .i64 (Zc8 p l)):=by
 intro n H v t;obtain⟨⟨m,c,s⟩,d,e⟩:=d;have b:∀q,Inside n q (.fn (.func f) a):=fun q=>(Below.fn _ _ fun i r=>(e n).mem _ (Qa r)).inside
 refine aF func201 fun B=>?_
 refine gk ?_;refine ZG (Zxp l f a H) (fun i=>∀j (h:j<l.length),j<i->p l[j]=false) l.length rfl ?_ (fun j _ h=>absurd h (Qj _)) ?_
 ·apply kZ;repeat' first|apply q0|exact xx|apply aI
  exact b _
 intro i r g;refine ZV rfl ?_;rcases Qd i l.length with h|h
 ·refine nq h ?_;refine gi ?_;refine nq2 (Tm.Zw _ _ h) h ?_;refine Yp (avs:=[l[i].enc]) rfl s (d l[i] (Qa h) _ _ (UR _) (t.full v)) rfl ?_;cases o:p l[i]with
  |true=>
   refine aS ?_;refine gn ?_;refine Zb ?_ (.int _ _) rfl;rw[Za4 h o g];exact .refl _
  |false=>
   refine gI ?_;refine⟨fun j k u=>?_,?_⟩
   ·rcases Qd j i with h'|h'
    ·exact g j k h'
    ·have:j=i:=om;subst this;exact o
   ·apply kZ;repeat' first|apply q0|exact xx|apply aI
    ·refine aS ?_;rw[iw];exact .refl _
    ·exact b _
 ·refine nq (QC.2 h) ?_;refine gt ?_;refine Zb ?_ (.int _ _) rfl;rw[Vy (fun j k=>g j k om)];exact .refl _
def a46(l:LT)(c:l.length<=1000000)(f:Nat)(a:LA)(p:Tm->Bool)(b:ZeY f a Tm.enc l p):Yb prog 107 [.sl 4 (l.map Tm.enc) .any,.fn (.func f) a] (.bool (l.any p)):=by
 intro n H hn hT;refine aF func107 fun B=>?_
 refine gc ?_;refine cT (a80 l c f a p b) ?_;refine nV ?_;refine Zb ?_ (.bool _) rfl;simp only[go_sem,simprocAttr,ZfI];exact .refl _
def YO(a:Am):Bool:=sym a.pred&&decide ((a.args.length:Int)<=8)&&a.args.all Zt
def a14(a:Am)(c:a.Good):Yb prog 115 [a.enc] (.bool (YO a)):=by
 intro n H hn hT;have f:=c.pred;refine aF func115 fun B=>?_
 refine gc ?_;refine nR ?_;refine cP (a45 a.pred om) ?_;cases d:sym a.pred with
 |false=>
  refine aS ?_;refine Zk rfl rfl ?_;refine Zb ?_ (.bool _) rfl;try simp only[go_sem,simprocAttr,YO,d]
  exact .refl _
 |true=>
  cases b:decide ((a.args.length:Int)<=8)with
  |false=>
   refine aq b ?_;refine Zk rfl rfl ?_;refine Zb ?_ (.bool _) rfl;try simp only[go_sem,simprocAttr,YO,d,b]
   exact .refl _
  |true=>
   refine aq b ?_;refine cT (a46 a.args c.len _ [] (fun t=>!Zt t) ⟨⟨_,_,Zf func207 rfl rfl⟩,fun t e=>a44 t (c.arg e),fun _=>trivial⟩) ?_;refine nV ?_;refine Zb ?_ (.bool _) rfl;simp only[go_sem,simprocAttr,YO,d,b,List.not_any_eq_all_not,Bool.not_not];exact .refl _
end
structure Zfn {α β:Type} (f:Nat) (caps:LA) (ea:α->AV) (eb:β->AV) (l:List α) (g:α->β):Prop where
 fn:∃fn c,Fun prog f fn c
 on:∀x∈l,Yb prog f (ea x::caps) (eb (g x))
 below:∀n,ZW (fun c=>Below n c) caps
def getD_map{a:Type}(f:a->AV)(l:List a)(i:Nat)(h:i<l.length)(d:AV):(l.map f).getD i d=f l[i]:=by
 rw[Qk,Ub,Qe h];rfl
abbrev Str:=Bs
abbrev eStr(s:Str):AV:=.str s
abbrev eInt(i:Int):AV:=.int .i64 i
def Zgh{n k:Nat}(l:List Int):Below n (.sl k (l.map eInt) .any):=Zl fun x a=>by obtain⟨u,_,rfl⟩:=Qg.1 a;exact .int _ _
def ZgF{n k:Nat}{p:Nat->Prop}(l:List Int):Inside n p (.sl k (l.map eInt) .any):=(Zgh l).inside
def Zxq(l:List (Tm))(f:Nat)(a:LA)(g:Tm->Str)(n:Nat)(H:Za)(i:Nat):Zc:=
 ⟨[(10,.int .i64 i),(9,.int .i64 l.length),(8,.sl 4 (l.map Tm.enc) .any),(5,.sl 1 (((l.take i).map g).map eStr) (.buf n 200)),(1,.fn (.func f) a)],[(200,.buf 9 1 i)],H⟩
def a93(l:List (Tm))(hl:l.length<=1000000)(f:Nat)(caps:LA)(g:Tm->Str)(b:Zfn f caps Tm.enc eStr l g):Yb prog 220 [.sl 4 (l.map Tm.enc) .any,.fn (.func f) caps] (.sl 1 ((l.map g).map eStr) .any):=by
 intro n H p o;obtain⟨⟨j,c,m⟩,b,d⟩:=b;have hfi:∀q,Inside n q (.fn (.func f) caps):=fun q=>(Below.fn _ _ fun i k=>(d n).mem _ (Qa k)).inside
 refine aF func220 fun B=>?_
 refine gz ?_;refine XL 5 200 9 1 rfl rfl ?_;refine Zx (Zxq l f caps g n H) l.length rfl ?_ ?_
 ·exact KK
 intro i k;refine ZV rfl ?_;rcases Qd i l.length with h|h
 ·have a:(l.take i).length=i:=UG om;refine nq h ?_;refine nT ?_;refine nq2 (getD_map Tm.enc _ _ h) h ?_;refine nR ?_;refine Yp (avs:=[Tm.enc l[i]]) rfl m (b l[i] (Qa h) _ _ (UR _) (o.full p)) rfl ?_;refine aq a ?_;refine⟨by first|exact⟨rfl,dc⟩|exact rfl,⟨Zn om,om⟩,?_⟩;refine gd ?_;apply kZ;repeat' first|apply q0|exact xx|apply aI
  ·refine aS ?_;rw[iw];exact .refl _
  ·simp only[go_sem,simprocAttr,Qn h,QM];exact .refl _
  all_goals first|exact hfi _|exact ZgF _
 ·refine nq (QC.2 h) ?_;refine gg ?_;have e:i=l.length:=om;subst e;refine gE ?_;refine Zb ?_ (ZlN _) rfl;refine aS ?_;exact .any _ _ _
def Zxs(l:List (Tm))(f:Nat)(a:LA)(g:Tm->Tm)(n:Nat)(H:Za)(i:Nat):Zc:=
 ⟨[(10,.int .i64 i),(9,.int .i64 l.length),(8,.sl 4 (l.map Tm.enc) .any),(5,.sl 4 (((l.take i).map g).map Tm.enc) (.buf n 200)),(1,.fn (.func f) a)],[(200,.buf 25 4 i)],H⟩
def a95(l:List (Tm))(hl:l.length<=1000000)(f:Nat)(caps:LA)(g:Tm->Tm)(b:Zfn f caps Tm.enc Tm.enc l g):Yb prog 140 [.sl 4 (l.map Tm.enc) .any,.fn (.func f) caps] (.sl 4 ((l.map g).map Tm.enc) .any):=by
 intro n H p o;obtain⟨⟨j,c,m⟩,b,d⟩:=b;have hfi:∀q,Inside n q (.fn (.func f) caps):=fun q=>(Below.fn _ _ fun i k=>(d n).mem _ (Qa k)).inside
 refine aF func140 fun B=>?_
 refine gz ?_;refine XL 5 200 25 4 rfl rfl ?_;refine Zx (Zxs l f caps g n H) l.length rfl ?_ ?_
 ·exact KK
 intro i k;refine ZV rfl ?_;rcases Qd i l.length with h|h
 ·have a:(l.take i).length=i:=UG om;refine nq h ?_;refine nT ?_;refine nq2 (getD_map Tm.enc _ _ h) h ?_;refine nR ?_;refine Yp (avs:=[Tm.enc l[i]]) rfl m (b l[i] (Qa h) _ _ (UR _) (o.full p)) rfl ?_;refine aq a ?_;refine⟨by first|exact⟨rfl,dc⟩|exact rfl,⟨Zn om,om⟩,?_⟩;refine gd ?_;apply kZ;repeat' first|apply q0|exact xx|apply aI
  ·refine aS ?_;rw[iw];exact .refl _
  ·simp only[go_sem,simprocAttr,Qn h,QM];exact .refl _
  all_goals first|exact hfi _|exact ZgF _
 ·refine nq (QC.2 h) ?_;refine gg ?_;have e:i=l.length:=om;subst e;refine gE ?_;refine Zb ?_ (ZB _) rfl;refine aS ?_;exact .any _ _ _
def JC(a:Am):Bs:=((a.pred++[40])++Lib.join (a.args.map txt) [44])++[41]
def Zbl{a:Am}(h:YO a=true):sym a.pred=true/\a.args.length<=8/\a.args.all Zt=true:=by
 simp only[YO,Qb,decide_eq_true_eq]at h;exact⟨h.1.1,om,h.2⟩
def txts_len:∀l:LT,(∀t∈l,t.all okv=true)->Lib.lens (l.map txt)<=42*Tm.sz.szs l
 |[],_=>by simp[Lib.lens]
 |t::r,h=>by
  have b:=txt_len t (h t sm);have c:=txts_len r (fun u a=>h u (by simp[a]));simp only[Lib.lens,Qs,QaO,Tm.sz.szs]at*;omega
def Zp3(l:LT)(h:∀t∈l,t.all okv=true):(Lib.join (l.map txt) [44]).length<=42*Tm.sz.szs l+l.length:=by
 have a:=txts_len l h;cases l with
 |nil=>simp[Lib.join]
 |cons t r=>
  rw[Qs,Lib.join_length];simp only[Lib.lens,Qs,QaO,Qm,Qz,Qv]at*;omega
def Zu6(l:LT)(c:∀t∈l,t.Good)(b:l.all Zt=true):Zfn 125 [] Tm.enc eStr l txt:=
 ⟨⟨_,_,Zf func125 rfl rfl⟩,fun t a=>a58 t (c t a) (Qw.1 b t a),fun _=>trivial⟩
def a57(a:Am)(c:a.Good)(e:YO a=true):Yb prog 130 [a.enc] (.str (JC a)):=by
 intro n H hn hT;obtain⟨f,h,d⟩:=Zbl e;have i:=Zd7 f;have k:=Zp3 a.args (fun t b=>Ju (Qw.1 d t b));have g:=Tm.sz_len a.args;have j:Tm.sz.szs a.args<=1000000:=by have:=c.sz;simp only[Am.sz]at this;omega
 refine aF func130 fun B=>?_
 refine nR ?_;refine XD tok mixed drawO rfl rfl rfl ?_;simp only[go_sem,simprocAttr];refine⟨om,?_⟩;refine cT (a93 a.args om _ [] txt (Zu6 a.args (fun t b=>c.arg b) d)) ?_;have:=a92 (a.args.map txt) [44] .any (by simp;omega) om;refine cT (this) ?_;refine⟨by simp only[Qh,Qm,Qz];omega,by simp only[Qh,Qm,Qz];omega,?_⟩;refine nV ?_;refine Zb ?_ (.str _) rfl;simp only[go_sem,simprocAttr,JC];exact .refl _
def Zwh(t:Tm)(d:t.Good)(b:Zfn 141 [] Tm.enc Tm.enc t.args id):Yb prog 141 [t.enc] t.enc:=by
 intro n H hn hT;have c:=d.len;have a:=a95 t.args c _ [] id b;rw[QbF]at a;refine aF func141 fun B=>?_
 refine gc ?_;refine cT (a) ?_;refine ge ?_;refine YH (.inl rfl) _ n 2 0 t.cs sS sF rfl (Qi _) sS ?_ (Tm.blw _ t) rfl;exact xS
def Zwg(t:Am)(d:t.Good)(b:Zfn 141 [] Tm.enc Tm.enc t.args id):Yb prog 59 [t.enc] t.enc:=by
 intro n H hn hT;have c:=d.len;have a:=a95 t.args c _ [] id b;rw[QbF]at a;refine aF func59 fun B=>?_
 refine gc ?_;refine cT (a) ?_;refine ge ?_;refine YH (.inl rfl) _ n 2 0 t.cs sS sF rfl (Qi _) sS ?_ (Am.blw _ t) rfl;exact xS
def a96(t:Tm)(b:t.Good):Yb prog 141 [t.enc] t.enc:=
 Zwh t b ⟨⟨_,_,Zf func141 rfl rfl⟩,fun u a=>a96 u (b.arg a),fun _=>trivial⟩
termination_by SizeOf.sizeOf t
decreasing_by exact Tm.Xp a
def a59(t:Am)(a:t.Good):Yb prog 59 [t.enc] t.enc:=
 Zwg t a ⟨⟨_,_,Zf func141 rfl rfl⟩,fun u b=>a96 u (a.arg b),fun _=>trivial⟩

theorem ZtW{s:Bs}(h:sym s=true):(s==[])=false:=by
 cases s with
 |nil=>simp[sym,wd]at h
 |cons b r=>rfl
def a87(a:Int):Pure prog 285 [.int .i64 a] (.bool false):=by
 intro n H;refine aF func285 fun B=>?_
 refine nR ?_;refine nr ?_;simp only[go_sem,simprocAttr,bne];exact pB
def a51(a b:Int):Pure prog 214 [.int .i64 a,.int .i64 b] (.int .i64 (Yh a b)):=by
 intro n H;refine aF func214 fun B=>?_
 refine gc ?_;refine cP (a87 a) ?_;refine nR ?_;refine cP (a87 b) ?_;refine nR ?_;refine gv ?_;refine nF ?_;cases c:decide (a<b)with
 |true=>
  refine nq c ?_;refine gi ?_;refine Zk rfl rfl ?_;refine Zb ?_ (.int _ _) rfl;try simp only[go_sem,simprocAttr,Yh,of_decide_eq_true c]
  exact .refl _
 |false=>
  refine nq c ?_;refine nF ?_;cases d:decide (b<a)with
  |true=>
   refine nq d ?_;refine gi ?_;refine Zk rfl rfl ?_;refine Zb ?_ (.int _ _) rfl;try simp only[go_sem,simprocAttr,Yh,of_decide_eq_false c,of_decide_eq_true d]
   exact .refl _
  |false=>
   refine nq d ?_;refine gv ?_;refine Zk rfl rfl ?_;refine Zb ?_ (.int _ _) rfl;try simp only[go_sem,simprocAttr,Yh,of_decide_eq_false c,of_decide_eq_false d]
   exact .refl _
def ZhN(a b:Bs):(if Op.bytesLess a b=true then(-1:Int)else if(!(Op.bytesLess a b||a==b))=true then 1 else 0)=Lib.compareBytes a b:=by
 rw[less_cmp];by_cases h:a=b
 ·subst h;simp[cmpBytes_self]
 ·rcases cmpBytes_val a b with h1|h1|h1
  ·simp[h1]
  ·exact absurd (cmpBytes_zero h1) h
  ·simp[h1,h]
def orL:List Int->Int
 |[]=>0
 |a::r=>thn a (orL r)
section
variable {l:List Int}
def Zqt{i:Nat}(h:i<l.length)(b:l[i]≠0)(c:∀j (h:j<l.length),j<i->l[j]=0):orL l=l[i]:=by
 induction l generalizing i with
 |nil=>exact absurd h (Qj _)
 |cons a r ih=>
  cases i with
  |zero=>simp only[Ui]at b⊢;rw[orL,J3 b]
  |succ i=>
   have d:=c 0 sm om;simp only[Ui]at d;subst d;simp only[Mc]at b⊢;rw[orL,YD];exact ih (by simpa using h) b (fun j e f=>by have:=c (j+1) (by simpa using e) om;simpa using this)
theorem ZkM(c:∀j (h:j<l.length),l[j]=0):orL l=0:=by
 induction l with
 |nil=>rfl
 |cons a r ih=>
  have b:=c 0 sm;simp only[Ui]at b;rw[orL,b,YD];exact ih (fun j d=>by have:=c (j+1) (by simpa using d);simpa using this)
def Xn{n k:Nat}{p:Nat->Prop}{a:LA}(f:∀x∈a,Below n x):Inside n p (.sl k a .full):=
 .sl k a _ (fun i d c b=>(((f _ (Qa d)).cells _ (Qa b))).inside) (fun l j e=>by cases e)
def ZbI{n:Nat}(k:IntKind)(l:List Int):∀x∈l.map (AV.int k),Below n x:=fun x hx=>by obtain⟨u,_,rfl⟩:=Qg.1 hx;exact .int _ _
def ZoE(l:List Int)(i:Nat)(h:i<l.length)(d:AV):(l.map eInt).getD i d= .int .i64 l[i]:=getD_map eInt l i h d
def Zxk(l:List Int)(H:Za)(i:Nat):Zc:=
 ⟨[(8,.int .i64 i),(7,.int .i64 l.length),(6,.sl 1 (l.map eInt) .full),(3,.int .i64 0)],[],H⟩
def a49(l:List Int)(e:l.length<=1000000):Pure prog 212 [.sl 1 (l.map eInt) .full] (.int .i64 (orL l)):=by
 intro n H;refine aF func212 fun B=>?_
 refine gz ?_;refine ZG (Zxk l H) (fun i=>∀j (h:j<l.length),j<i->l[j]=0) l.length rfl ?_ (fun j _ h=>absurd h (Qj _)) ?_
 ·apply kZ;repeat' first|apply q0|exact xx|apply aI
  exact Xn (ZbI .i64 l)
 intro i f b;refine ZV rfl ?_;rcases Qd i l.length with h|h
 ·refine nq h ?_;refine gH ?_;simp only[go_sem,simprocAttr,ZoE _ _ h,h];refine nR ?_;cases a:(l[i]==0)with
  |false=>
   simp only[go_sem,simprocAttr,bne,a];refine gn ?_;refine Zb ?_ (.int _ _) rfl;rw[Zqt h (by simpa using a) b];exact .refl _
  |true=>
   simp only[go_sem,simprocAttr,bne,a];refine gm ?_;refine⟨fun j c d=>?_,?_⟩
   ·rcases Qd j i with h'|h'
    ·exact b j c h'
    ·have:j=i:=om;subst this;simpa using a
   ·apply kZ;repeat' first|apply q0|exact xx|apply aI
    ·refine aS ?_;rw[iw];exact .refl _
    ·exact Xn (ZbI .i64 l)
 ·refine nq (QC.2 h) ?_;refine gt ?_;refine Zb ?_ (.int _ _) rfl;rw[ZkM (fun j c=>b j c om)];exact .refl _
def Zkg(l:List Int)(k:Int):Int:=Zc8 (fun x=>k==x) l
def Zvo(l:List Int)(k:Int)(H:Za)(i:Nat):Zc:=
 ⟨[(8,.int .i64 i),(7,.int .i64 l.length),(0,.sl 1 (l.map (AV.int .u8)) .full),(1,.int .u8 k)],[],H⟩
def a119(l:List Int)(k:Int)(e:l.length<=1000000):Pure prog 291 [.sl 1 (l.map (AV.int .u8)) .full,.int .u8 k] (.int .i64 (Zkg l k)):=by
 intro n H;refine aF func291 fun B=>?_
 refine gk ?_;refine ZG (Zvo l k H) (fun i=>∀j (h:j<l.length),j<i->(k==l[j])=false) l.length rfl ?_ (fun j _ h=>absurd h (Qj _)) ?_
 ·apply kZ;repeat' first|apply q0|exact xx|apply aI
  exact Xn (ZbI .u8 l)
 intro i f b;refine ZV rfl ?_;rcases Qd i l.length with h|h
 ·refine nq h ?_;refine gi ?_;refine nq2 (getD_map (AV.int .u8) l i h) h ?_;cases a:(k==l[i])with
  |true=>
   refine nTq a ?_;refine nR ?_;refine nW ?_;refine Zb ?_ (.int _ _) rfl;rw[Zkg,Za4 h a b];exact .refl _
  |false=>
   refine nFq a ?_;refine gd ?_;refine⟨fun j c d=>?_,?_⟩
   ·rcases Qd j i with h'|h'
    ·exact b j c h'
    ·have:j=i:=om;subst this;exact a
   ·apply kZ;repeat' first|apply q0|exact xx|apply aI
    ·refine aS ?_;rw[iw];exact .refl _
    ·exact Xn (ZbI .u8 l)
 ·refine nq (QC.2 h) ?_;refine gt ?_;refine Zb ?_ (.int _ _) rfl;rw[Zkg,Vy (fun j c=>b j c om)];exact .refl _
def ZpX(k:Int):Zkg [1,2,4,3,5,6] k=if k=1 then 0 else if k=2 then 1 else if k=4 then 2 else if k=3 then 3 else if k=5 then 4 else if k=6 then 5 else -1:=by
 by_cases d:k=1
 ·subst d;rfl
 by_cases b:k=2
 ·subst b;rfl
 by_cases c:k=4
 ·subst c;rfl
 by_cases f:k=3
 ·subst f;rfl
 by_cases e:k=5
 ·subst e;rfl
 by_cases a:k=6
 ·subst a;rfl
 unfold Zkg Zc8;simp[d,b,f,c,e,a]
def ZqE(k:Int):rank k=if 0<=Zkg [1,2,4,3,5,6] k then Zkg [1,2,4,3,5,6] k else 6+k:=by
 rw[ZpX];unfold rank;repeat' split
 all_goals first|rfl|omega
def a88(k:Int)(d:0<=k/\k<=255):Pure prog 221 [.int .u8 k] (.int .i64 (rank k)):=by
 intro n H;have c:=ZqE k;have b:=a119 [1,2,4,3,5,6] k dc;simp only[Qs,UJ]at b;generalize Zkg [1,2,4,3,5,6] k=i at b c;refine aF func221 fun B=>?_
 refine gc ?_;refine⟨dc,?_⟩;refine nR ?_;refine cP (b) ?_;cases a:decide (0<=i)with
 |true=>
  refine nq a ?_;refine gj ?_;refine Zb ?_ (.int _ _) rfl;rw[c,if_pos (of_decide_eq_true a)];exact .refl _
 |false=>
  refine nq a ?_;refine gF ?_;refine Zb ?_ (.int _ _) rfl;refine aS ?_;rw[c,if_neg (of_decide_eq_false a),IntWalk.i64_in k om,iw];exact .refl _
structure Zuk (f:Nat) (p q:LT):Prop where
 fn:∃fn c,Fun prog f fn c
 on:∀x∈p,∀y∈q,Pure prog f [x.enc,y.enc] (.int .i64 (cmpT x y))
def Zxm(p q:LT)(f:Nat)(H:Za)(i:Nat):Zc:=
 ⟨[(13,.int .i64 i),(12,.int .i64 p.length),(11,.sl 4 (p.map Tm.enc) .any),(0,.sl 4 (p.map Tm.enc) .any),(1,.sl 4 (q.map Tm.enc) .any),(2,.fn (.func f) [])],[],H⟩
def Zck(p q:LT)(i:Nat)(h:i<p.length)(a:i<q.length):cmpT.cmps (p.drop i) (q.drop i)=thn (cmpT p[i] q[i]) (cmpT.cmps (p.drop (i+1)) (q.drop (i+1))):=by
 rw[QB h,QB a];rfl
def a52(p q:LT)(l:p.length<=10000000000000)(hq:q.length<=10000000000000)(f:Nat)(g:Zuk f p q):Pure prog 215 [.sl 4 (p.map Tm.enc) .any,.sl 4 (q.map Tm.enc) .any,.fn (.func f) []] (.int .i64 (cmpT.cmps p q)):=by
 intro n H;obtain⟨⟨k,c,g⟩,e⟩:=g;have hfi:∀r,Inside n r (.fn (.func f) []):=fun r=>Inside.fn _ _ (fun i h=>absurd h (Qj _))
 refine aF func215 fun B=>?_
 refine gk ?_;refine ZG (Zxm p q f H) (fun i=>cmpT.cmps p q=cmpT.cmps (p.drop i) (q.drop i)) p.length rfl ?_ rfl ?_
 ·exact KK
 intro i m a;refine ZV rfl ?_;rcases Qd i p.length with h|h
 ·refine nq h ?_;refine nT ?_;refine nq2 (Tm.Zw _ _ h) h ?_;rcases Qd i q.length with h'|h'
  ·refine nq2 h' (QbG.2 h') ?_;refine nF ?_;refine nq2 (Tm.Zw _ _ h') h' ?_;refine nR ?_;refine Yp (avs:=[p[i].enc,q[i].enc]) rfl g (e _ (Qa h) _ (Qa h') _ _) rfl ?_;refine aS ?_;cases d:(cmpT p[i] q[i]==0)with
   |false=>
    refine nr ?_;simp only[go_sem,simprocAttr,bne,d];refine gn ?_;refine Zb ?_ (.int _ _) rfl;rw[a,Zck p q i h h',J3 (by simpa using d)];exact .refl _
   |true=>
    refine nr ?_;simp only[go_sem,simprocAttr,bne,d];refine gm ?_;refine⟨?_,?_⟩
    ·rw[a,Zck p q i h h',(by simpa using d:cmpT p[i] q[i]=0),YD]
    ·apply kZ;repeat' first|apply q0|exact xx|apply aI
     refine aS ?_;rw[iw];exact .refl _
  ·refine nq h' ?_;refine gn ?_;refine Zb ?_ (.int _ _) rfl;rw[a,UQ h',QB h];exact .refl _
 ·refine nq (QC.2 h) ?_;refine gg ?_;have j:i=p.length:=om;subst j;rw[Qao]at a;cases b:decide (p.length<q.length)with
  |true=>
   refine nq b ?_;refine gj ?_;refine Zb ?_ (.int _ _) rfl;rw[a,QB (by have:=of_decide_eq_true b;omega)];exact .refl _
  |false=>
   refine nq b ?_;refine gF ?_;refine Zb ?_ (.int _ _) rfl;rw[a,UQ (by have:=of_decide_eq_false b;omega)];exact .refl _
end
inductive Wd:Tm->Prop
 |mk (k n:Int) (s:Bs) (l:LT) (hk:0<=k/\k<=255) (hl:l.length<=10000000000000) (h:∀u∈l,Wd u):Wd (.mk k n s l)
def Wd.len{t:Tm}(h:Wd t):t.args.length<=10000000000000:=by cases h with|mk _ _ _ _ _ h _=>exact h
def Wd.kind{t:Tm}(h:Wd t):0<=t.kind/\t.kind<=255:=by cases h with|mk _ _ _ _ h _ _=>exact h
def Wd.arg{t:Tm}(h:Wd t){u:Tm}(a:u∈t.args):Wd u:=by cases h with|mk _ _ _ _ _ _ h=>exact h u a
def good_wd:∀t:Tm,t.Good->Wd t
 | .mk k n s l,h=>.mk k n s l h.kind (UA h.len dc) fun u a=>good_wd u (h.arg (t:=.mk k n s l) a)
termination_by t=>SizeOf.sizeOf t
decreasing_by exact Tm.Xp (t:=.mk k n s l) a
def Zwf(a b:Tm)(m:Wd a)(o:Wd b)(p:Zuk 132 a.args b.args):Pure prog 132 [a.enc,b.enc] (.int .i64 (cmpT a b)):=by
 intro n H;have i:=m.len;have j:=o.len;have f:=ZaU a b;refine aF func132 fun B=>?_
 refine nR ?_;refine XD tok mixed drawO rfl rfl rfl ?_;refine aS ?_;refine cP (a88 a.kind m.kind) ?_;refine cP (a88 b.kind o.kind) ?_;refine cP (a51 (rank a.kind) (rank b.kind)) ?_;cases k:(Yh (rank a.kind) (rank b.kind)==0)with
 |false=>
  have d:Yh (rank a.kind) (rank b.kind)≠0:=by simpa using k
  refine nr ?_;simp only[go_sem,simprocAttr,bne,k];refine gj ?_;refine Zb ?_ (.int _ _) rfl;rw[f,J3 d];exact .refl _
 |true=>
 have d:Yh (rank a.kind) (rank b.kind)=0:=by simpa using k
 rw[d,YD]at f;refine nr ?_;simp only[go_sem,simprocAttr,bne,k];refine gv ?_;refine cP (a51 a.num b.num) ?_;cases h:(Yh a.num b.num==0)with
 |false=>
  have c:Yh a.num b.num≠0:=by simpa using h
  cases l:(a.kind==1)with
  |true=>
   have e:a.kind=1:=by simpa using l
   refine nr ?_;simp only[go_sem,simprocAttr,bne,h,l];refine gj ?_;refine Zb ?_ (.int _ _) rfl;rw[f,if_pos e,J3 c];exact .refl _
  |false=>
   have e:¬a.kind=1:=by simpa using l
   refine nr ?_;simp only[go_sem,simprocAttr,bne,h,l];refine nF ?_;rw[if_neg e,YD]at f;refine XD tok mixed drawO rfl rfl rfl ?_;simp only[go_sem,simprocAttr];refine cP (a51 a.args.length b.args.length) ?_;refine cP (a50 a.name b.name) ?_;refine cP (a52 a.args b.args i j _ p) ?_;refine cP (a51 a.num b.num) ?_;refine⟨dc,?_⟩;have g:=a49 [Yh a.args.length b.args.length,Lib.compareBytes a.name b.name,cmpT.cmps a.args b.args,Yh a.num b.num] sm;simp only[Qs,UJ,eInt,orL,VH]at g;refine cP (g) ?_;refine nV ?_;refine Zb ?_ (.int _ _) rfl;rw[f];exact .refl _
 |true=>
  have c:Yh a.num b.num=0:=by simpa using h
  refine nr ?_;simp only[go_sem,simprocAttr,bne,h];refine nF ?_;rw[c,(by split<;>rfl:(if a.kind=1 then(0:Int)else 0)=0),YD]at f;refine XD tok mixed drawO rfl rfl rfl ?_;simp only[go_sem,simprocAttr];refine cP (a51 a.args.length b.args.length) ?_;refine cP (a50 a.name b.name) ?_;refine cP (a52 a.args b.args i j _ p) ?_;refine cP (a51 a.num b.num) ?_;refine⟨dc,?_⟩;have g:=a49 [Yh a.args.length b.args.length,Lib.compareBytes a.name b.name,cmpT.cmps a.args b.args,Yh a.num b.num] sm;simp only[Qs,UJ,eInt,orL,VH]at g;refine cP (g) ?_;refine nV ?_;refine Zb ?_ (.int _ _) rfl;rw[f,c];exact .refl _
def Zs3(a b:Tm)(c:Wd a)(d:Wd b):Pure prog 132 [a.enc,b.enc] (.int .i64 (cmpT a b)):=
 Zwf a b c d ⟨⟨_,_,Zf func132 rfl rfl⟩,fun x e y f=>Zs3 x y (c.arg e) (d.arg f)⟩
termination_by SizeOf.sizeOf a
decreasing_by exact Tm.Xp e
def a53(a b:Tm)(c:a.Good)(d:b.Good):Pure prog 132 [a.enc,b.enc] (.int .i64 (cmpT a b)):=Zs3 a b (good_wd a c) (good_wd b d)
def litO:Opt:=⟨true,true,fun d=>if d=27 then .lay true else .auto,[27]⟩
def appO:Opt:=⟨true,false,fun d=>if d=65\/d=73 then .heap else .auto,[]⟩
def orL_append:∀(p q:List Int),orL (p++q)=thn (orL p) (orL q)
 |[],q=>by rw[QG,orL,YD]
 |a::p,q=>by rw[QN,orL,orL,orL_append p q,WR]
def zc(p q:LT)(i:Nat):List Int:=(List.zipWith cmpT p q).take i
def ZsB(p q:LT)(i:Nat)(h:i<p.length)(a:i<q.length):zc p q (i+1)=zc p q i++[cmpT p[i] q[i]]:=by
 unfold zc;rw[Qn (by simp;omega)];simp
def Zuf(p q:LT)(i:Nat)(h:i<=p.length)(a:i<=q.length):(zc p q i).length=i:=by
 unfold zc;simp;omega
theorem orL_zc:∀(p q:LT),p.length=q.length->orL (List.zipWith cmpT p q)=cmpT.cmps p q
 |[],[],_=>rfl
 |[],_::_,h=>by cases h
 |_::_,[],h=>by cases h
 |a::p,b::q,h=>by rw[List.zipWith_cons_cons,orL,cmpT.cmps,orL_zc p q (by simpa using h)]
def k1(a b:Tm):List Int:=[Yh (rank a.kind+1) (rank b.kind+1),if a.kind=1 then Yh a.num b.num else 0,Yh a.args.length b.args.length,Lib.compareBytes a.name b.name]
def ZpC(a b:Tm):cmpT a b=orL (k1 a b++zc a.args b.args (min a.args.length b.args.length)++[Yh a.num b.num]):=by
 have c:zc a.args b.args (min a.args.length b.args.length)=List.zipWith cmpT a.args b.args:=by
  unfold zc;rw[Ud sm]
 have d:Yh (rank a.kind+1) (rank b.kind+1)=Yh (rank a.kind) (rank b.kind):=by
  unfold Yh;simp only[Int.add_lt_add_iff_right]
 rw[c,ZaU,orL_append,orL_append,k1,d];simp only[orL,VH,WR];by_cases h:Yh (a.args.length:Int) b.args.length=0
 ·rw[orL_zc _ _ (by have:=WO h;omega)]
 ·simp only[J3 h]
def flI(l:List Int):LA:=l.map eInt
section
variable {p:Nat->Prop}
def ZoI{n a j k:Nat}(h:p j):Inside n p (.msl a n j k):=.msl _ _ _ _ (.inr ⟨rfl,h⟩)
def Zh0{n e b i:Nat}(l:List Int):Ze.Inside n p (.Zg e b (flI l) i):=Ze.Ze7 fun c a=>by
 obtain⟨u,_,rfl⟩:=Qg.1 a;exact .int _ _
def allI{n:Nat}{p:Nat->Prop}:∀l:List Int,ZW (fun c=>Inside n p c) (l.map eInt)
 |[]=>trivial
 |_::l=>⟨.int _ _,allI l⟩
def ZpU(l:List Int)(i:Nat)(h:i<l.length):(List.drop (i*1) (flI l)).getD 0 AV.dead= .int .i64 l[i]:=by
 rw[Gs,Qk,Uy];simp[flI,h,eInt]
def Zct(l:List Int):(flI l).length=l.length:=Qv ..
def s54(n:Nat)(a b:Tm)(l:List Int)(H:Za):Zc:=
 ⟨[(5,.msl 1 n 27 l.length),(2,.ptr n 2 0),(3,.ptr n 3 0)],[(2,.box a.cs),(3,.box b.cs),(27,.Zg 3 1 (flI l) l.length)],H⟩
def Zxn(n:Nat)(a b:Tm)(H:Za)(i:Nat):Zc:=
 ⟨[(6,.int .i64 i),(5,.msl 1 n 27 (4+i)),(2,.ptr n 2 0),(3,.ptr n 3 0)],[(2,.box a.cs),(3,.box b.cs),(27,.Zg 3 1 (flI (k1 a b++zc a.args b.args i)) (4+i))],H⟩
def ZvD(n:Nat)(l:List Int)(H:Za)(i:Nat):Zc:=
 ⟨[(7,.int .i64 i),(5,.msl 1 n 27 l.length)],[(27,.Zg 3 1 (flI l) l.length)],H⟩
end
def nat_ne{m n:Nat}(h:((m:Int)==n)=false):m≠n:=by
 have:(m:Int)≠n:=by simpa using h
 omega
def nat_eq{m n:Nat}(h:((m:Int)==n)=true):m=n:=by
 have:(m:Int)=n:=by simpa using h
 omega
def eqT:Tm->Tm->Bool
 | .mk k n s l,.mk k' n' s' l'=>(k==k')&&(n==n')&&(s==s')&&eqs l l'
where eqs:LT->LT->Bool
 |[],[]=>true
 |a::x,b::y=>eqT a b&&eqs x y
 |_,_=>false
def ZlS(a b:Tm):eqT a b=((a.kind==b.kind)&&(a.num==b.num)&&(a.name==b.name)&&eqT.eqs a.args b.args):=by
 cases a;cases b;rw[eqT];rfl
def eqT_iff:∀a b:Tm,eqT a b=true↔a=b
 | .mk k n s l,b=>by
  have f:∀(p q:LT),(∀u∈p,u∈l)->(eqT.eqs p q=true↔p=q):=by
   intro p;induction p with
   |nil=>intro q _;cases q<;>simp[eqT.eqs]
   |cons t p ih=>
    intro q c;cases q with
    |nil=>simp[eqT.eqs]
    |cons u q=>
     have e:=eqT_iff t u;simp only[eqT.eqs,Qb,Ug];rw[e,ih q (fun v d=>c v (Qx _ d))]
  rw[ZlS];cases b with
  |mk k' n' s' l'=>
   have:=f l l' (fun u h=>h);show((k==k')&&(n==n')&&(s==s')&&eqT.eqs l l')=true↔_;simp only[Qb,beq_iff_eq,this,Tm.mk.injEq,and_assoc]
termination_by a=>SizeOf.sizeOf a
decreasing_by
 have:=QU (c t sm);simp only[Tm.mk.sizeOf_spec];omega
theorem eqs_len:∀{p q:LT},p.length≠q.length->eqT.eqs p q=false
 |[],[],h=>absurd rfl h
 |[],_::_,_=>rfl
 |_::_,[],_=>rfl
 |a::p,b::q,h=>by rw[eqT.eqs,eqs_len (p:=p) (q:=q) (by simpa using h),QY]
theorem eqs_true:∀{p q:LT},p.length=q.length->(∀j (h:j<p.length) (f:j<q.length),eqT p[j] q[j]=true)->eqT.eqs p q=true
 |[],[],_,_=>rfl
 |[],_::_,h,_=>by cases h
 |_::_,[],h,_=>by cases h
 |a::p,b::q,h,hj=>by
  have c:=hj 0 sm sm;simp only[Ui]at c;rw[eqT.eqs,c,QX];exact eqs_true (by simpa using h) (fun j d e=>by have:=hj (j+1) (by simpa using d) (by simpa using e);simpa using this)
def eqs_false:∀{p q:LT} {j:Nat} (h:j<p.length) (c:j<q.length),eqT p[j] q[j]=false->eqT.eqs p q=false
 |a::p,b::q,0,_,_,hj=>by simp only[Ui]at hj;rw[eqT.eqs,hj,QW]
 |a::p,b::q,j+1,h,c,hj=>by
  simp only[Mc]at hj;rw[eqT.eqs,eqs_false (by simpa using h) (by simpa using c) hj,QY]
def eqA(a b:Am):Bool:=(a.pred==b.pred)&&eqT.eqs a.args b.args
def eqs_iff:∀(p q:LT),eqT.eqs p q=true↔p=q
 |[],[]=>by simp[eqT.eqs]
 |[],_::_=>by simp[eqT.eqs]
 |_::_,[]=>by simp[eqT.eqs]
 |a::p,b::q=>by rw[eqT.eqs,Qb,eqT_iff,eqs_iff p q,Ug]
def ZfG(a b:Am):eqA a b=true↔a=b:=by
 cases a;cases b;simp only[eqA,Qb,beq_iff_eq,eqs_iff,Am.mk.injEq]
def Zvm(n:Nat)(a b:Tm)(H:Za)(i:Nat):Zc:=
 ⟨[(5,.int .i64 i),(2,.ptr n 2 0),(3,.ptr n 3 0)],[(2,.box a.cs),(3,.box b.cs)],H⟩
def Zvi(n:Nat)(a b:Am)(H:Za)(i:Nat):Zc:=
 ⟨[(5,.int .i64 i),(2,.ptr n 2 0),(3,.ptr n 3 0)],[(2,.box a.cs),(3,.box b.cs)],H⟩
end Go.Proofs.YthajllbimoodjaaGreatDoor

namespace Go.Abs
structure Sg where
 p:Bs
 n:Int
deriving DecidableEq
namespace Sg
def cs(s:Sg):LA:=[.str s.p,.int .i64 s.n]
def enc(s:Sg):AV:=.agg [.str s.p,.int .i64 s.n]
theorem Yu(s:Sg):s.enc.cells=[.str s.p,.int .i64 s.n]:=rfl
theorem fold(s:Sg):AV.agg [.str s.p,.int .i64 s.n]=s.enc:=rfl
def bcs{n:Nat}(s:Sg):ZW (fun c=>Below n c) s.cs:=⟨.str _,.int _ _,trivial⟩
def blw(n:Nat)(s:Sg):Below n s.enc:=Yt s.bcs.mem
def Zw(l:List Sg)(i:Nat)(h:i<l.length)(d:AV):(l.map enc).getD i d=(l[i]).enc:=by
 rw[Qk,Ub,Qe h];rfl
def Zhq{n:Nat}{p:Nat->Prop}(l:List Sg)(k:Nat):Inside n p (.sl k (l.map enc) .any):=Below.inside (Zl fun x a=>by obtain⟨u,_,rfl⟩:=Qg.1 a;exact blw n u)
def YF{n k j:Nat}{p:Nat->Prop}{l:List Sg}(h:p j):Inside n p (.sl k (l.map enc) (.buf n j)):=Abs.YF (mB fun u=>u.blw n) h
end Sg
def Am.sg(a:Am):Sg:=⟨a.pred,a.args.length⟩
end Go.Abs
namespace Go.Proofs.YthajllbimoodjaaGreatDoor
open Go.Abs
attribute [go_sem] Sg.enc Sg.cs
def a56(a:Am):Pure prog 129 [a.enc] a.sg.enc:=by
 intro n H;refine aF func129 fun B=>?_
 refine gK ?_;refine YH (.inl rfl) _ n 2 0 a.sg.cs sS (by simp only[go_sem,simprocAttr,full,Am.sg]) rfl (Qi _) sS ?_ (Sg.blw _ _) rfl;simp only[go_sem,simprocAttr,Am.sg];exact .refl _
theorem Zw4(p:Bs)(n:Int):Z4 tt 100 211 [KL.str p,KL.int .i64 n]=true:=rfl
attribute [go_sem] Zw4
def _root_.Go.Abs.Sg.small(s:Sg):Prop:=0<=s.n/\s.n<=1000000
end Go.Proofs.YthajllbimoodjaaGreatDoor

namespace Go.Proofs.YthajllbimoodjaaGreatDoor
open Go.Abs
def Zbn(l:List Am):Prop:=∀a∈l,a.Good
def Zs4(l:List Am)(s:Sg):List Am:=l.filter (fun a=>a.sg==s)
def colEq(a:Am)(c:Int)(v:Tm):Bool:=match a.args[c.toNat]? with
 |some t=>eqT t v
 |none=>false
def Zj7(s:Sg)(c:Int)(v:Tm)(a:Am):Bool:=(a.sg==s)&&decide (0<=c)&&decide (c<s.n)&&colEq a c v
def Zns(l:List Am)(s:Sg)(c:Int)(v:Tm):List Am:=l.filter (Zj7 s c v)
end Go.Proofs.YthajllbimoodjaaGreatDoor

namespace Go.Abs
open Go.Proofs.YthajllbimoodjaaGreatDoor
def eUnsafe:Int:=120
def newV(n:Nat):Bs:=35::Lib.itoa (n:Int)
def plainT:Tm->Tm
 | .mk k n s l=>.mk k n (if k=3/\s.head? =some 35 then [88]else s) (plains l)
where plains:LT->LT
 |[]=>[]
 |t::r=>plainT t::plains r
def Zav(t:Tm):Bool:=Xr (plainT t)
def Xt(x:Lt):Bool:=
 if x.kind=1 then sym x.at_.pred&&decide (x.at_.args.length<=8)&&x.at_.args.all Zav
 else if x.kind=2 then !x.neg&&decide (1<=x.op)&&decide (x.op<=6)&&Zav x.L&&Zav x.R else false
def Zfd(S:List Bs):Nat->Nat->Nat
 |0,n=>n
 |f+1,n=>if newV n∈S then Zfd S f (n+1)else n
def Ws(S:List Bs)(n:Nat):Nat:=Zfd S (S.length+1) (n+1)
def flT(S:List Bs):Tm->Nat->Tm×Nat×List (Nat×Tm)
 | .mk k n s l,c=>if k=5\/k=6 then let m:=Ws S c;(.mk 3 0 (newV m) [],m,[(m,.mk k n s l)])
  else let r:=flTs l c;(.mk k n s r.1,r.2.1,r.2.2)
where flTs:LT->Nat->LT×Nat×List (Nat×Tm)
 |[],c=>([],c,[])
 |t::r,c=>let p:=flT S t c;let q:=flTs r p.2.1;(p.1::q.1,q.2.1,p.2.2++q.2.2)
def Zao(p:Nat×Tm):Lt:=⟨2,false,⟨[],[]⟩,1,.mk 3 0 (newV p.1) [],p.2⟩
def flX(S:List Bs)(x:Lt)(c:Nat):List Lt×Nat:=
 if x.kind=1 then let r:=flT.flTs S x.at_.args c;({x with at_:=⟨x.at_.pred,r.1⟩}::r.2.2.map Zao,r.2.1)else([x],c)
def flL(S:List Bs):List Lt->Nat->List Lt
 |[],_=>[]
 |x::r,c=>let p:=flX S x c;p.1++flL S r p.2
def XE(x:Lt):LT:=x.L::x.R::x.at_.args
def Vr(l:List Lt)(a:List Bs):List Lt:=flL (a++l.flatMap fun x=>(XE x).flatMap Z8) l 0
inductive Stp where
 |test (x:Lt)
 |bind (n:Bs) (t:Tm)
 |atom (a:Am)
def Ve(S l:List Bs):Bool:=l.all (· ∈S)
def XO(S:List Bs)(x:Lt):Option Stp:=
 if x.kind=2 then
  if Ve S (Z8 x.L)&&Ve S (Z8 x.R)then some (.test x)
  else if x.op=1/\Ve S (Z8 x.R)=true/\x.L.kind=3 then some (if x.L.name=[]then .test x else .bind x.L.name x.R)
  else if x.op=1/\Ve S (Z8 x.L)=true/\x.R.kind=3 then some (if x.R.name=[]then .test x else .bind x.R.name x.L)else none
 else none
def Zay(x:Lt):Option Stp:=if x.kind=1/\x.neg=false then some (.atom x.at_)else none
def ZaH(f:Lt->Option Stp):List Lt->Option (Stp×Lt×List Lt)
 |[]=>none
 |x::r=>match f x with
  |some s=>some (s,x,r)
  |none=>(ZaH f r).map fun p=>(p.1,p.2.1,x::p.2.2)
def Vs(S:List Bs)(l:List Lt):Option (Stp×Lt×List Lt):=(ZaH (XO S) l).or (ZaH Zay l)
def planF:Nat->List Bs->List Lt->List Stp×List Bs×List Lt
 |0,S,l=>([],S,l)
 |f+1,S,l=>match Vs S l with
  |none=>([],S,l)
  |some (s,x,r)=>let p:=planF f (S++ZX x) r;(s::p.1,p.2)
def X0(S:List Bs)(x:Lt):Bool:=!(x.kind==2)&&Ve S (ZX x)
def ZcR(S:List Bs)(l:List Lt):Option (List Stp):=
 let p:=planF l.length S l
 if p.2.2.all (X0 p.2.1)then some p.1 else none
def Xm(t:Tm)(b:Bnd):LT×Int:=
 if Xr (Ye b t)then match expandS (Ye b t)with
  |some l=>(l,0)
  |none=>([],5)
 else([],3)
def J6(e f:Int):Int:=if e=3\/f=0 then e else f
def JZ(x:Lt)(b:Bnd):List Bnd×Int:=
 let l:=Xm x.L b;let r:=Xm x.R b
 if l.2≠0\/r.2≠0 then([],J6 l.2 r.2)else(if l.1.any (fun v=>r.1.any (Wl x.op v))then [b]else [],0)
def JJ(b:Bnd):LT->Int->Option (Int×Tm)
 |[],_=>none
 |t::r,i=>if Zt (Ye b t)then some (i,Ye b t)else JJ b r (i+1)
def Vq(A:List Am)(a:Am)(b:Bnd):List Am:=match JJ b a.args 0 with
 |some (i,v)=>Zns A a.sg i v
 |none=>Zs4 A a.sg
def stepS(A:List Am):Stp->Bnd->List Bnd×Int
 | .test x,b=>JZ x b
 | .bind n t,b=>((Xm t b).1.map fun v=>WE n v b,(Xm t b).2)
 | .atom a,b=>((Vq A a b).filterMap fun x=>matT.matL a.args x.args b,0)
def Zgo{a:Type}(l:List a):List a:=if 20000<l.length then l.take 20001 else l
def WZ(p:List Bnd×Int)(q:List Bnd×Int):List Bnd×Int:=(Zgo (p.1++q.1),if q.2=3\/p.2=0 then q.2 else p.2)
def XA(f:Bnd->List Bnd×Int)(a:List Bnd):List Bnd×Int:=
 let r:=a.foldl (fun p b=>WZ p (f b)) ([],0)
 (r.1,if r.2=0/\20000<r.1.length then 5 else r.2)
def ZcJ(A:List Am):List Stp->List Bnd->List Bnd×Int
 |[],now=>(now,0)
 |s::r,now=>let p:=XA (stepS A s) now;if p.2=0 then ZcJ A r p.1 else([],p.2)
def validB:Bnd->Bool
 |[]=>true
 |[p]=>Zt p.2
 |p::q::r=>Zt p.2&&decide (Lib.compareBytes p.1 q.1<0)&&validB (q::r)
def Y9(b c:Bnd):Int:=thn (cmpT.cmps (b.map Prod.snd) (c.map Prod.snd)) (Yh b.length c.length)
def JM(A:List Am)(l:List Lt)(b:Bnd):List Bnd×Int:=
 if l.all Xt&&validB b then
  let keep:=l.flatMap ZX++b.map Prod.fst
  match ZcR (b.map Prod.fst) (Vr l keep)with
  |none=>([],eUnsafe)
  |some p=>let r:=ZcJ A p [b]
   if r.2=0 then(X5 Y9 (r.1.map fun c=>c.filter fun q=>q.1∈keep),0)else([],r.2)
 else([],2)
end Go.Abs

namespace Go.Proofs.YthajllbimoodjaaGreatDoor
open Go.Abs
theorem Am.cs2(a:Am):a.cs.length=2:=rfl
def ZM{p:AV->Prop}:∀{l:LA},(∀x∈l,p x)->ZW p l
 |[],_=>trivial
 |x::l,h=>⟨h x sm,ZM fun y a=>h y (by simp[a])⟩
theorem Sg.cs2(a:Sg):a.cs.length=2:=rfl
def Zky{x y z:List Int}(h:lexI x y<0)(b:lexI y z<0):lexI x z<0:=by
 have a:=lexI_trans x y z om om;rcases Int.lt_or_eq_of_le a with h2|h2
 ·exact h2
 ·have e:=lexI_anti x z;have c:=lexI_trans z x y om om;have d:=lexI_anti z y;omega
end Go.Proofs.YthajllbimoodjaaGreatDoor

namespace Go.Abs
open Go.Proofs.YthajllbimoodjaaGreatDoor
structure Zhk {α:Type} (G:α->Prop) (c:α->α->Int):Prop where
 ex:∃f:α->List Int,∀x y,G x->G y->c x y=lexI (f x) (f y)
 zero:∀x y,G x->G y->c x y=0->x=y
namespace Zhk
variable {α:Type} {G:α->Prop} {c:α->α->Int} (h:Zhk G c)
include h
def self{x:α}(a:G x):c x x=0:=by
 obtain⟨f,b⟩:=h.ex;rw[b x x a a,lexI_self]
def anti{x y:α}(hx:G x)(a:G y):c y x= -c x y:=by
 obtain⟨f,hf⟩:=h.ex;rw[hf x y hx a,hf y x a hx,lexI_anti]
def trans{x y z:α}(hx:G x)(b:G y)(e:G z)(d:c x y<0)(a:c y z<0):c x z<0:=by
 obtain⟨f,hf⟩:=h.ex;rw[hf _ _ hx b]at d;rw[hf _ _ b e]at a;rw[hf _ _ hx e];exact Zky d a
def ZiU{x:α}(hx:G x):∀{r:List α},(∀y∈r,G y)-> ∀z,z∈ZeB c x r↔z=x\/z∈r
 |[],_,z=>by simp[ZeB]
 |y::r,hr,z=>by
  have ih:=ZiU hx (r:=r) (fun y b=>hr y (by simp[b])) z;unfold ZeB;split
  ·rename_i e;have:=h.zero x y hx (hr y sm) e;subst this;simp
  ·split
   ·simp
   ·simp only[Ql,ih];constructor
    ·rintro(a|a|a)
     ·exact .inr (.inl a)
     ·exact .inl a
     ·exact .inr (.inr a)
    ·rintro(a|a|a)
     ·exact .inr (.inl a)
     ·exact .inl a
     ·exact .inr (.inr a)
def Zny{x:α}(f:G x):∀{r:List α},(∀y∈r,G y)->r.Pairwise (fun a b=>c a b<0)->(ZeB c x r).Pairwise (fun a b=>c a b<0)
 |[],_,_=>by simp[ZeB]
 |y::r,hr,hp=>by
  have i:=hr y sm;have d:∀z∈r,G z:=fun z hz=>hr z (by simp[hz])
  rw[UM]at hp;unfold ZeB;split
  ·exact UM.2 hp
  ·rename_i e;split
   ·rename_i g;refine UM.2 ⟨fun z hz=>?_,UM.2 hp⟩;rcases Ql.1 hz with rfl|hz
    ·exact g
    ·exact h.trans f i (d z hz) g (hp.1 z hz)
   ·rename_i g;refine UM.2 ⟨fun z hz=>?_,Zny f d hp.2⟩;rcases(h.ZiU f d z).1 hz with rfl|hz
    ·have:=h.anti f i;omega
    ·exact hp.1 z hz
def set_mem:∀{l:List α},(∀y∈l,G y)-> ∀z,z∈X5 c l↔z∈l
 |[],_,z=>by simp[X5]
 |x::l,hl,z=>by
  have a:∀y∈l,G y:=fun y b=>hl y (by simp[b])
  have ih:=set_mem a;show z∈ZeB c x (X5 c l)↔_;rw[h.ZiU (hl x sm) (fun y b=>a y ((ih y).1 b)),ih z,Ql]
def set_asc:∀{l:List α},(∀y∈l,G y)->(X5 c l).Pairwise (fun a b=>c a b<0)
 |[],_=>List.Pairwise.nil
 |x::l,hl=>by
  have d:∀y∈l,G y:=fun y e=>hl y (by simp[e])
  exact h.Zny (hl x sm) (fun y e=>d y ((h.set_mem d y).1 e)) (set_asc d)
theorem unique:∀{p q:List α},(∀y∈p,G y)->p.Pairwise (fun a b=>c a b<0)->q.Pairwise (fun a b=>c a b<0)->(∀x,x∈p↔x∈q)->p=q
 |[],[],_,_,_,_=>rfl
 |[],y::q,_,_,_,e=>absurd ((e y).2 sm) sm
 |x::p,[],_,_,_,e=>absurd ((e x).1 sm) sm
 |x::p,y::q,hG,hp,hq,e=>by
  rw[UM]at hp hq;have i:=hG x sm;have j:G y:=hG y ((e y).2 sm);have f:x=y:=by
   rcases Ql.1 ((e x).1 sm)with h1|h1
   ·exact h1
   ·rcases Ql.1 ((e y).2 sm)with h2|h2
    ·exact h2.symm
    ·have l:=hq.1 x h1;have k:=hp.1 y h2;have:=h.anti i j;omega
  subst f;have g:∀z∈p,G z:=fun z d=>hG z (by simp[d])
  congr 1
  refine unique g hp.2 hq.2 fun z=>⟨fun d=>?_,fun d=>?_⟩
  ·rcases Ql.1 ((e z).1 (by simp[d]))with rfl|h1
   ·have:=hp.1 _ d;rw[h.self i]at this;omega
   ·exact h1
  ·rcases Ql.1 ((e z).2 (by simp[d]))with rfl|h1
   ·have:=hq.1 _ d;rw[h.self i]at this;omega
   ·exact h1
end Zhk
def Zgm(s t:Bs):Lib.compareBytes s t=lexI (Zfy s) (Zfy t):=by
 have:=lex_serS s t [] [];simp only[Qu]at this;rw[this,show lexI ([]:List Int) []=0 from rfl,VH]
def serN:Zhk (fun _:Bs=>True) Lib.compareBytes:=⟨⟨Zfy,fun x y _ _=>Zgm x y⟩,fun _ _ _ _ h=>cmpBytes_zero h⟩
def serI:Zhk (fun _:Int=>True) Yh:=⟨⟨fun x=>[x],fun x y _ _=>by simp[lexI,VH]⟩,fun _ _ _ _ h=>WO h⟩
theorem nms_eq:∀l:LT,nmT.nms l=l.flatMap nmT
 |[]=>rfl
 |t::r=>by rw[nmT.nms,nms_eq r];rfl
theorem ZfC(b:Bnd):∀l:LT,Ye.apps b l=l.map (Ye b)
 |[]=>rfl
 |t::r=>by rw[Ye.apps,ZfC b r];rfl
def ZcC(t:Tm)(n:Bs):n∈Z8 t↔n∈nmT t:=serN.set_mem (fun _ _=>trivial) n
/-! Ordered bindings. -/
def Ja(b:Bnd):Prop:=b.Pairwise fun p q=>Lib.compareBytes p.1 q.1<0
def ZP(b:Bnd):List Bs:=b.map Prod.fst
def WI{n:Bs}:∀{b:Bnd},ZK n b=none↔n∉ZP b
 |[]=>by simp[ZK,ZP]
 |p::r=>by
  have:=WI (n:=n) (b:=r);simp only[ZK,ZP,Qs,Ql,not_or]at*;split
  ·rename_i e;simp[e]
  ·rename_i e;rw[this];exact⟨fun h=>⟨fun a=>e a.symm,h⟩,fun h=>h.2⟩
section
variable {b:Bnd} {n:Bs}
def Xb:(∃v,ZK n b=some v)↔n∈ZP b:=by
 have:=WI (n:=n) (b:=b);cases h:ZK n b with
 |none=>simp[this.1 h]
 |some v=>simp only[h,reduceCtorEq,false_iff,Classical.not_not]at this;simp[this]
def ZaG{n:Bs}{v:Tm}:∀{b:Bnd},ZK n b=some v->(n,v)∈b
 |[],h=>by cases h
 |p::r,h=>by
  simp only[ZK]at h;split at h
  ·rename_i e;cases h;simp[<-e]
  ·exact Qx _ (ZaG h)
def Zcu{n:Bs}{v:Tm}:∀{b:Bnd},Ja b->(n,v)∈b->ZK n b=some v
 |p::r,hb,h=>by
  rw[Ja,UM]at hb;simp only[ZK];rcases Ql.1 h with rfl|h
  ·simp
  ·have a:=hb.1 _ h;split
   ·rename_i e;rw[<-e,cmpBytes_self]at a;omega
   ·exact Zcu hb.2 h
def Jr(n m:Bs)(v:Tm):∀b:Bnd,ZK m (WE n v b)=if n=m then some v else ZK m b
 |[]=>by simp[WE,ZK]
 |p::r=>by
  simp only[WE];split
  ·rename_i h;have:=Jr n m v r;simp only[ZK,this];by_cases e:n=m
   ·subst e;rw[if_pos rfl,if_neg (fun e=>by rw[e,cmpBytes_self]at h;omega)];simp
   ·simp[e]
  ·simp only[ZK]
def ZbP{n:Bs}{v:Tm}:∀{b:Bnd} {q},q∈WE n v b↔q=(n,v)\/q∈b
 |[],q=>by simp[WE]
 |p::r,q=>by
  simp only[WE];split
  ·simp only[Ql,ZbP (b:=r)];constructor
   ·rintro(a|a|a)
    ·exact .inr (.inl a)
    ·exact .inl a
    ·exact .inr (.inr a)
   ·rintro(a|a|a)
    ·exact .inr (.inl a)
    ·exact .inl a
    ·exact .inr (.inr a)
  ·simp
def Zgr{m:Bs}{v:Tm}:m∈ZP (WE n v b)↔m=n\/m∈ZP b:=by
 simp only[ZP,Qg,ZbP];constructor
 ·rintro⟨q,rfl|hq,rfl⟩
  ·exact .inl rfl
  ·exact .inr ⟨q,hq,rfl⟩
 ·rintro(rfl|⟨q,hq,rfl⟩)
  ·exact⟨(m,v),.inl rfl,rfl⟩
  ·exact⟨q,.inr hq,rfl⟩
def Zge{n:Bs}{v:Tm}:∀{b:Bnd},Ja b->n∉ZP b->Ja (WE n v b)
 |[],_,_=>by simp[WE,Ja]
 |p::r,hb,hn=>by
  have a:=hb;rw[Ja,UM]at hb;simp only[ZP,Qs,Ql,not_or]at hn;simp only[WE];split
  ·rename_i h;refine UM.2 ⟨fun q hq=>?_,Zge hb.2 hn.2⟩;rcases ZbP.1 hq with rfl|hq
   ·exact h
   ·exact hb.1 q hq
  ·rename_i h;have c:Lib.compareBytes n p.1<0:=by
    have:=serN.anti (x:=p.1) (y:=n) trivial trivial;have d:Lib.compareBytes p.1 n≠0:=fun e=>hn.1 (cmpBytes_zero e).symm
    omega
   refine UM.2 ⟨fun q hq=>?_,a⟩;rcases Ql.1 hq with rfl|hq
   ·exact c
   ·exact serN.trans (y:=p.1) trivial trivial trivial c (hb.1 q hq)
def ZjP{p:Bs×Tm->Bool}(h:Ja b):Ja (b.filter p):=List.Pairwise.filter p h
def Zgd(h:Ja b):(ZP b).Pairwise fun x y=>Lib.compareBytes x y<0:=Qbg.2 h
def Znj{c:Bnd}(d:Ja b)(a:Ja c)(h:∀n,n∈ZP b↔n∈ZP c):ZP b=ZP c:=
 serN.unique (fun _ _=>trivial) (Zgd d) (Zgd a) h
theorem bnd_ext:∀{b c:Bnd},Ja b->Ja c->(∀n,ZK n b=ZK n c)->b=c:=fun{b c} hb hc h=>by
 have g:ZP b=ZP c:=Znj hb hc fun n=>by rw[<-Xb,<-Xb,h n]
 refine Qbf fun i=>?_
 have a:(ZP b)[i]? =(ZP c)[i]?:=by rw[g]
 simp only[ZP,Ub]at a;cases e:b[i]? with
 |none=>rw[e]at a;cases d:c[i]? with
  |none=>rfl
  |some q=>rw[d]at a;cases a
 |some p=>rw[e]at a;cases d:c[i]? with
  |none=>rw[d]at a;cases a
  |some q=>
   rw[d]at a;simp only[Ut,Qp]at a;have f:=Zcu hb (n:=p.1) (v:=p.2) (Gf e);have j:=Zcu hc (n:=q.1) (v:=q.2) (Gf d);rw[h,a,j]at f;exact congrArg some (Qbr a (Uu f).symm)
def ZdP{p:Bs->Bool}(n:Bs):∀b:Bnd,ZK n (b.filter fun q=>p q.1)=if p n=true then ZK n b else none
 |[]=>by simp[ZK]
 |q::r=>by
  have ih:=ZdP (p:=p) n r;simp only[List.filter_cons];split
  ·rename_i h;simp only[ZK,ih];by_cases e:q.1=n
   ·subst e;simp[h]
   ·simp[e]
  ·rename_i h;simp only[ZK,ih];by_cases e:q.1=n
   ·subst e;simp[h]
   ·simp[e]
def WX(b c:Bnd):Prop:=∀n v,ZK n b=some v->ZK n c=some v
def WX.refl(b:Bnd):WX b b:=fun _ _ h=>h
def WX.trans{c d:Bnd}(h:WX b c)(h':WX c d):WX b d:=fun n v e=>h' n v (h n v e)
def WX.ext(a:n∉ZP b)(v:Tm):WX b (WE n v b):=fun m w h=>by
 rw[Jr,if_neg]
 ·exact h
 ·rintro rfl;rw[WI.2 a]at h;cases h
end
end Go.Abs

namespace Go.Proofs.YthajllbimoodjaaGreatDoor
open Go.Abs
inductive Fa2 {α β:Type} (R:α->β->Prop):List α->List β->Prop
 |nil:Fa2 R [] []
 |cons {a b p q}:R a b->Fa2 R p q->Fa2 R (a::p) (b::q)
theorem Fa2.len{b a:Type}{R:b->a->Prop}:∀{p:List b} {q:List a},Fa2 R p q->p.length=q.length
 |_,_,.nil=>rfl
 |_,_,.cons _ h=>congrArg (· +1) h.len
def Fa2.mono{d c:Type}{R e:d->c->Prop}:∀{p:List d} {q:List c},Fa2 R p q->(∀a∈p,∀b,R a b->e a b)->Fa2 e p q
 |_,_,.nil,_=>.nil
 |_,_,.cons h t,f=>.cons (f _ sm _ h) (t.mono fun a g=>f a (by simp[g]))
def Fa2.left{c d:Type}{R:c->d->Prop}{a:c}:∀{p:List c} {q:List d},Fa2 R p q->a∈p-> ∃b∈q,R a b
 |_,_,.cons h t,m=>by
  rcases Ql.1 m with rfl|m
  ·exact⟨_,sm,h⟩
  ·obtain⟨b,e,h⟩:=t.left m;exact⟨b,by simp[e],h⟩
def Fa2.right{d c:Type}{R:d->c->Prop}{b:c}:∀{p:List d} {q:List c},Fa2 R p q->b∈q-> ∃a∈p,R a b
 |_,_,.cons h t,m=>by
  rcases Ql.1 m with rfl|m
  ·exact⟨_,sm,h⟩
  ·obtain⟨a,e,h⟩:=t.right m;exact⟨a,by simp[e],h⟩
def Zk6{α:Type}:∀{ps:List (List α)} {r:List α},r∈Z9 ps↔Fa2 (fun x p=>x∈p) r ps
 |[],r=>by
  simp only[Z9,Qo];constructor
  ·rintro rfl;exact .nil
  ·intro h;cases h;rfl
 |p::ps,r=>by
  simp only[Z9,QI,Qg,Zk6 (ps:=ps)];constructor
  ·rintro⟨x,hx,q,a,rfl⟩;exact .cons hx a
  ·intro h;cases h with|cons hx a=>exact⟨_,hx,_,a,rfl⟩
def expandSs_fa:∀{l:LT} {a:List LT},expandS.expandSs l=some a->Fa2 (fun t p=>expandS t=some p) l a
 |[],a,h=>by simp only[expandS.expandSs,Qp]at h;subst h;exact .nil
 |t::r,a,h=>by
  simp only[expandS.expandSs,U2]at h;obtain⟨p,b,q,c,h⟩:=h;cases h;exact .cons b (expandSs_fa c)
theorem fa_expandSs:∀{l:LT} {a:List LT},Fa2 (fun t p=>expandS t=some p) l a->expandS.expandSs l=some a
 |_,_,.nil=>rfl
 |_,_,.cons h t=>by simp only[expandS.expandSs,h,fa_expandSs t];rfl
def deps_le:∀(l:LT) (m d:Int),m<=d->(∀u∈l,dep u<=d)->dep.deps l m<=d
 |[],_,_,h,_=>h
 |t::r,m,d,h,hl=>by
  simp only[dep.deps];refine deps_le r _ d ?_ fun u a=>hl u (by simp[a])
  split
  ·exact hl t sm
  ·exact h
def le_deps:∀(l:LT) (m:Int),m<=dep.deps l m/\ ∀u∈l,dep u<=dep.deps l m
 |[],m=>⟨QaT _,fun u hu=>by cases hu⟩
 |t::r,m=>by
  simp only[dep.deps];have:=le_deps r (if dep t>m then dep t else m);refine⟨by have:=this.1;split at this<;>rename_i h<;>simp only[h,if_true,if_false]<;>omega,fun u hu=>?_⟩;rcases Ql.1 hu with rfl|hu
  ·have:=this.1;split at this<;>rename_i h<;>simp only[h,if_true,if_false]<;>omega
  ·exact this.2 u hu
section
variable {t u:Tm}
def ZiH(h:u∈t.args):dep u+1<=dep t:=by
 rw[ZlQ t];have:=(le_deps t.args 0).2 u h;omega
def Ztj{d:Int}(a:0<=d)(h:∀u∈t.args,dep u<=d):dep t<=d+1:=by
 rw[ZlQ t];have:=deps_le t.args 0 d a h;omega
def Zni(t:Tm):1<=dep t:=(dep_sz t).1
def okG(t:Tm):Bool:=shape t&& !(t.kind==3)
def Zig(h:okG t=true):(okv t=true/\(t.kind=1\/t.kind=2)/\t.args=[])\/(okv t=true/\t.kind=4/\t.num=0/\sym t.name=true/\1<=t.args.length/\t.args.length<=8)\/
  (t.kind=5/\1<=t.args.length/\t.args.length<=2)\/(t.kind=6/\t.args.length=2):=by
 unfold okG at h;rw[Qb]at h;obtain⟨h,i⟩:=h;by_cases a:t.kind=1
 ·refine .inl ⟨by simp[okv,plain,a,h],.inl a,?_⟩;simp[shape,a,nargs]at h;exact h.2
 by_cases b:t.kind=2
 ·refine .inl ⟨by simp[okv,plain,b,h],.inr b,?_⟩;simp[shape,b,nargs]at h;exact h.2
 by_cases g:t.kind=4
 ·have f:okv t=true:=by simp[okv,plain,g,h]
  rcases VD f with h1|h1|h1
  ·omega
  ·omega
  ·exact .inr (.inl ⟨f,h1⟩)
 by_cases e:t.kind=3
 ·simp[e]at i
 by_cases d:t.kind=5
 ·refine .inr (.inr (.inl ⟨d,?_⟩));simp[shape,d,nargs,named]at h;omega
 by_cases c:t.kind=6
 ·refine .inr (.inr (.inr ⟨c,?_⟩));simp[shape,c,nargs]at h;omega
 ·simp[shape,a,b,e,g,d,c]at h
variable {n:Int}
def Zi8(h:Y6 n=true):(Vp n).all okv=true:=by
 simp only[Y6,Qb,decide_eq_true_eq]at h;simp[Vp,Tm.all,Tm.all.alls,okv,plain,shape,nargs,Tm.kind,Tm.num,Tm.name,Tm.args,h]
theorem ZiI(n:Int):dep (Vp n)=1:=rfl
def ZhL{c:Bs}{a:List Int}(h:X3 c a=some n):Y6 n=true:=by
 unfold X3 at h;split at h
 ·rename_i d;split at h
  ·rename_i x;split at h
   ·cases h;simp only[Qbi,List.all_nil,Uf,Y6,Qb,decide_eq_true_eq]at d⊢;omega
   ·cases h
  ·simp only[VU,U2]at h;obtain⟨m,_,h⟩:=h;split at h
   ·rename_i b;cases h;exact b
   ·cases h
  ·cases h
 ·cases h
def min_mem:∀(l:List Int) (x:Int),l.foldl min x∈x::l
 |[],x=>by simp
 |y::l,x=>by
  have:=min_mem l (min x y);simp only[U8];rcases Ql.1 this with h|h
  ·rw[h];rcases Int.le_total x y with h'|h'
   ·rw[Int.min_eq_left h'];simp
   ·rw[Int.min_eq_right h'];simp
  ·simp[h]
def max_mem:∀(l:List Int) (x:Int),l.foldl max x∈x::l
 |[],x=>by simp
 |y::l,x=>by
  have:=max_mem l (max x y);simp only[U8];rcases Ql.1 this with h|h
  ·rw[h];rcases Int.le_total x y with h'|h'
   ·rw[Int.max_eq_right h'];simp
   ·rw[Int.max_eq_left h'];simp
  ·simp[h]
variable {l:List Int}
def Zql(h:l≠[]):minS l∈l:=by
 cases l with
 |nil=>exact absurd rfl h
 |cons x r=>exact min_mem r x
def Zqk(h:l≠[]):maxS l∈l:=by
 cases l with
 |nil=>exact absurd rfl h
 |cons x r=>exact max_mem r x
def Zh2{l:LT}(h:∀v∈l,v.all okv=true):∀n∈Yl l,Y6 n=true:=fun n hn=>by
 simp only[Yl,Qg,MO,beq_iff_eq]at hn;obtain⟨v,⟨hv,hk⟩,rfl⟩:=hn;have:=YZ (h v hv);rcases VD this with h1|h1|h1
 ·simp[Y6,h1]
 ·omega
 ·omega
variable {s:Bs}
def Ze3{k:Int}{a l:LT}(c:expandS (.mk k n s a)=some l)(h:a≠[]):∃b,expandS.expandSs a=some b/\(if k=6 then WG (Yl (b.getD 0 [])) (Yl (b.getD 1 []))else if k=5 then Zbt s b else Zey s b)=some l:=by
 cases a with
 |nil=>exact absurd rfl h
 |cons u r=>
  simp only[expandS,U2]at c;exact c
def ZaW{k:Int}:expandS (.mk k n s [])=some [.mk k n s []]:=by rw[expandS]
def expand_val:∀(t:Tm),t.all okG=true-> ∀l,expandS t=some l-> ∀v∈l,v.all okv=true/\dep v<=dep t
 | .mk k n s a,hG,l,b,v,c=>by
  have ih:∀u∈a,∀p,expandS u=some p-> ∀v∈p,v.all okv=true/\dep v<=dep u:=fun u o p q v c=>expand_val u (Xx hG o) p q v c
  have C:=Zig (YZ hG);simp only[Tm.kind,Tm.args,Tm.num,Tm.name]at C;by_cases I:a=[]
  ·subst I;rw[ZaW]at b;cases b;simp only[Qo]at c;subst c;refine⟨?_,QaT _⟩;rcases C with h|h|h|h
   ·simp only[Tm.all,Tm.all.alls,h.1,Uf]
   ·exact absurd h.2.2.2.2.1 sm
   ·exact absurd h.2.1 sm
   ·exact absurd h.2 sm
  obtain⟨B,H,b⟩:=Ze3 b I;have F:=expandSs_fa H;have q:∀p∈B,∀v∈p,v.all okv=true:=fun p q v c=>by
   obtain⟨u,o,f⟩:=F.right q;exact(ih u o p f v c).1
  have K:∀i,∀m∈Yl (B.getD i []),Y6 m=true:=fun i m y=>by
   refine Zh2 (l:=B.getD i []) (fun v c=>?_) m y;rw[Qk]at c;cases e:B[i]? with
   |none=>rw[e]at c;cases c
   |some p=>rw[e]at c;exact q p (Gf e) v c
  have J:=Zni (.mk k n s a);by_cases G:k=6
  ·rw[if_pos G]at b;unfold WG at b;split at b
   ·cases b;cases c
   ·rename_i d;rw[not_or]at d;split at b
    ·cases b
    ·rename_i M;cases b;obtain⟨i,D,rfl⟩:=Qg.1 c;have z:=K 0 _ (Zql d.1);have L:=K 1 _ (Zqk d.2);simp only[Y6,Qb,decide_eq_true_eq]at z L;rw[Gm]at D;refine⟨Zi8 ?_,?_⟩
     ·simp only[Y6,Qb,decide_eq_true_eq];omega
     ·rw[ZiI];exact J
  ·rw[if_neg G]at b;by_cases E:k=5
   ·rw[if_pos E]at b;unfold Zbt ZoK at b;split at b
    ·cases b
    ·cases b;obtain⟨m,y,rfl⟩:=Qg.1 c;rw[serI.set_mem (fun _ _=>trivial)]at y;obtain⟨r,x,y⟩:=QaD.1 y;exact⟨Zi8 (ZhL y),by rw[ZiI];exact J⟩
   ·rw[if_neg E]at b;unfold Zey at b;split at b
    ·cases b;cases c
    ·simp only[U2,Qp]at b;obtain⟨_,_,b⟩:=b;subst b;obtain⟨r,x,rfl⟩:=Qg.1 c;have x:=Zk6.1 x;rcases C with h|h|h|h
     ·exact absurd h.2.2 I
     ·have A:r.length=a.length:=by rw[x.len,F.len]
      refine⟨?_,?_⟩
      ·rw[Tm.all_eq,Qb,Tm.VQ,Qw];refine⟨?_,fun w g=>?_⟩
       ·have z:=h.2.2.2.1;simp[okv,plain,shape,Tm.kind,Tm.num,Tm.name,Tm.args,named,nargs,z,A];have:=ZtW z;simp only[beq_eq_false_iff_ne]at this;exact⟨this,om,om⟩
       ·obtain⟨p,j,g⟩:=x.left g;exact q p j w g
      ·have z:dep (.mk 4 0 s r)<=(dep (.mk k n s a) - 1)+1:=Ztj om fun w g=>by
        obtain⟨p,j,g⟩:=x.left (show w∈r from g);obtain⟨u,o,f⟩:=F.right j;have:=(ih u o p f w g).2;have:=ZiH (t:=.mk k n s a) (u:=u) o;omega
       omega
     ·exact absurd h.1 E
     ·exact absurd h.1 G
termination_by t=>SizeOf.sizeOf t
decreasing_by
 have:=QU o;simp only[Tm.mk.sizeOf_spec];omega
def value_of(h:t.all okv=true)(a:dep t<=12):Zt t=true:=by
 have e:t.all okv=(t.all plain&&t.all shape):=Zch plain shape t;rw[e,Qb]at h;simp[Zt,Xr,h,a]
def Ziu(h:Zt t=true):dep t<=12:=by
 simp only[Zt,Xr,Qb,decide_eq_true_eq]at h;exact h.2.1
def Zit(h:Zt t=true)(a:u∈t.args):Zt u=true:=value_of (Xx (Ju h) a) (by have:=Ziu h;have:=ZiH a;omega)
theorem expand_self:∀(t:Tm),t.all okv=true->expandS t=some [t]
 | .mk k n s a,h=>by
  have ih:∀u∈a,expandS u=some [u]:=fun u g=>expand_self u (Xx h g)
  cases a with
  |nil=>exact ZaW
  |cons u r=>
   have h0:=VD (YZ h);simp only[Tm.kind,Tm.args,Tm.num,Tm.name]at h0;rcases h0 with h0|h0|h0
   ·exact absurd h0.2.2.2.2 sm
   ·exact absurd h0.2.2.2 sm
   ·have e:expandS.expandSs (u::r)=some ((u::r).map fun x=>[x]):=by
     refine fa_expandSs ?_;have:∀q:LT,(∀x∈q,x∈u::r)->Fa2 (fun t p=>expandS t=some p) q (q.map fun x=>[x]):=by
      intro q;induction q with
      |nil=>intro _;exact .nil
      |cons x q ihq=>intro f;exact .cons (ih x (f x sm)) (ihq fun y l=>f y (by simp[l]))
     exact this _ fun x w=>w
    have d:∀q:LT,Z9 (q.map fun x=>[x])=[q]:=by
     intro q;induction q with
     |nil=>rfl
     |cons x q ihq=>simp[Z9,ihq]
    have b:∀q:LT,Zom (q.map fun x=>[x])=some 1:=by
     intro q;unfold Zom;induction q with
     |nil=>rfl
     |cons x q ihq=>simp only[Qs,MP];exact ihq
    have c:((u::r).map fun x=>[x]).any (·.isEmpty)=false:=by
     rw[QaH];intro p i;obtain⟨x,_,rfl⟩:=Qg.1 i;simp
    have m:¬k=6:=om;have o:¬k=5:=om;have j:k=4:=h0.1;have v:n=0:=h0.2.1;simp only[expandS,e,UY,if_neg m,if_neg o];unfold Zey;rw[if_neg (by rw[c];simp),b,d,j,v];rfl
termination_by t=>SizeOf.sizeOf t
decreasing_by
 have:=QU g;simp only[Tm.mk.sizeOf_spec];omega
def okv_nm:∀(t:Tm),t.all okv=true->t.Nm
 | .mk k n s a,h=>by
  have h0:=VD (YZ h);simp only[Tm.kind,Tm.args,Tm.num,Tm.name]at h0;have ih:∀u∈a,u.Nm:=fun u b=>okv_nm u (Xx h b)
  rcases h0 with h0|h0|h0
  ·refine .mk _ _ _ _ ?_ om om (by rw[h0.2.2.2.2];simp) ih;rw[h0.2.2.2.1];simp
  ·refine .mk _ _ _ _ ?_ om om (by rw[h0.2.2.2];simp) ih;have:=Zd7 h0.2.2.1;omega
  ·refine .mk _ _ _ _ ?_ om om om ih;have:=Zd7 h0.2.2.1;omega
termination_by t=>SizeOf.sizeOf t
decreasing_by
 have:=QU b;simp only[Tm.mk.sizeOf_spec];omega
def J5(h:Zt t=true):t.Nm:=okv_nm t (Ju h)
def Zdm(a:Zt t=true)(b:Zt u=true):cmpT t u=0↔t=u:=by
 constructor
 ·exact cmpT_zero (J5 a) (J5 b)
 ·rintro rfl;rw[ZjY (J5 a) (J5 a),lexI_self]
end
structure YG (b:Bnd):Prop where
 asc:Ja b
 val:∀q∈b,Zt q.2=true
section
variable {v:Tm} {b:Bnd}
def YG.look(h:YG b){n:Bs}(e:ZK n b=some v):Zt v=true:=h.val _ (ZaG e)
def YG.ext(h:YG b){n:Bs}(c:n∉ZP b)(a:Zt v=true):YG (WE n v b):=
 ⟨Zge h.asc c,fun q hq=>by rcases ZbP.1 hq with rfl|hq;all_goals first|exact a|exact h.val q hq⟩
def YG.filter{b:Bnd}(h:YG b)(p:Bs×Tm->Bool):YG (b.filter p):=⟨ZjP h.asc,fun q a=>h.val q (MO.1 a).1⟩
def Zb6(S:List Bs)(b:Bnd):Bnd:=b.filter fun q=>decide (q.1∈S)
def Zo5(S:List Bs)(b:Bnd)(n:Bs):ZK n (Zb6 S b)=if n∈S then ZK n b else none:=by
 have:=ZdP (p:=fun m=>decide (m∈S)) n b;simp only[decide_eq_true_eq]at this;exact this
def ZqH{S:List Bs}{n:Bs}:n∈ZP (Zb6 S b)↔n∈S/\n∈ZP b:=by
 rw[<-Xb,Zo5,<-Xb];split<;>rename_i h<;>simp[h]
variable {c:Bnd}
def Zgt(h:WX b c){n:Bs}(d:n∈ZP b):ZK n b=ZK n c:=by
 obtain⟨v,a⟩:=Xb.2 d;rw[a,h n v a]
def Zac(b:Bnd)(k n:Int)(s:Bs)(l:LT):Ye b (.mk k n s l)=match (if k=3 then ZK s b else none)with
  |some v=>v
  |none=>.mk k n s (l.map (Ye b)):=by rw[Ye,ZfC];try rfl
variable {l:LT} {s:Bs} {n:Int}
def ZbG(h:ZK s b=some v):Ye b (.mk 3 n s l)=v:=by rw[Zac,if_pos rfl,h]
variable {k:Int}
def ZbF(h:¬k=3):Ye b (.mk k n s l)= .mk k n s (l.map (Ye b)):=by rw[Zac,if_neg h]
variable {m:Bs}
def Zmk{u:Tm}(b:u∈l)(a:m∈nmT u):m∈nmT (.mk k n s l):=by
 rw[nmT,nms_eq];exact U6 _ (QI.2 ⟨u,b,a⟩)
def Zml:s∈nmT (.mk 3 n s l):=by rw[nmT];simp
def ZtB(h:m∈nmT (.mk k n s l)):(k=3/\m=s)\/ ∃u∈l,m∈nmT u:=by
 rw[nmT,nms_eq]at h;rcases Qr.1 h with h|h
 ·split at h
  ·rename_i e;exact .inl ⟨e,by simpa using h⟩
  ·cases h
 ·obtain⟨u,a,h⟩:=QI.1 h;exact .inr ⟨u,a,h⟩
def Zek{b c:Bnd}:∀t:Tm,(∀n∈nmT t,ZK n b=ZK n c)->Ye b t=Ye c t
 | .mk k n s l,h=>by
  have f:l.map (Ye b)=l.map (Ye c):=MG fun u d=>Zek u fun m e=>h m (Zmk d e)
  rw[Zac,Zac,f];by_cases a:k=3
  ·subst a;rw[if_pos rfl,if_pos rfl,h s Zml]
  ·rw[if_neg a,if_neg a]
termination_by t=>SizeOf.sizeOf t
decreasing_by
 have:=QU d;simp only[Tm.mk.sizeOf_spec];omega
variable {t:Tm}
def ZiC(h:WX b c)(a:∀n∈nmT t,n∈ZP b):Ye b t=Ye c t:=Zek t fun n d=>Zgt h (a n d)
def okV(t:Tm):Bool:=!(t.kind==3)||(t.args.isEmpty&& !t.name.isEmpty)
def ZfL(h:Tm.all okV (.mk 3 n s l)=true):l=[]:=by
 have:=YZ h;simp[okV,Tm.kind,Tm.args]at this;exact this.1
def ZkK(h:t.all okV=true)(a:t.kind=3):t.name≠[]:=by
 have:=YZ h;simp[okV,a]at this;exact this.2
theorem Zc0{b:Bnd}(f:YG b):∀t:Tm,(∀n∈nmT t,n∈ZP b)->(Ye b t).all (fun u=>!(u.kind==3))=true
 | .mk k n s l,h=>by
  by_cases c:k=3
  ·subst c;obtain⟨v,e⟩:=Xb.2 (h s Zml);rw[ZbG e];have a:=f.look e;simp only[Zt,Qb]at a;have:∀u:Tm,u.all plain=true->u.all (fun u=>!(u.kind==3))=true:=by
    intro u;induction u using Tm.rec (motive_2:=fun l=>Tm.all.alls plain l=true->Tm.all.alls (fun u=>!(u.kind==3)) l=true)with
    |mk k n s l ih=>
     intro h;simp only[Tm.all,Qb]at h⊢;refine⟨?_,ih h.2⟩;have:=h.1;simp only[plain,Tm.kind,Md,beq_iff_eq]at this;simp only[Tm.kind,Qaj,beq_eq_false_iff_ne];omega
    |nil=>rfl
    |cons t r a h2=>
     rename_i h;simp only[Tm.all.alls,Qb]at h⊢;exact⟨a h.1,h2 h.2⟩
   exact this v a.1
  ·rw[ZbF c,Tm.all_eq,Qb,Tm.VQ,Qw];refine⟨by simp[Tm.kind,c],fun u i=>?_⟩;obtain⟨w,d,rfl⟩:=Qg.1 (show u∈l.map (Ye b) from i);exact Zc0 f w fun m g=>h m (Zmk d g)
termination_by t=>SizeOf.sizeOf t
decreasing_by
 have:=QU d;simp only[Tm.mk.sizeOf_spec];omega
def ZhD{b:Bnd}:∀t:Tm,t.all okV=true->(Ye b t).all plain=true-> ∀n∈nmT t,n∈ZP b
 | .mk k n s l,hV,hp,m,d=>by
  rcases ZtB d with⟨c,rfl⟩|⟨u,a,d⟩
  ·subst c;cases e:ZK m b with
   |some v=>exact Xb.1 ⟨v,e⟩
   |none=>
    rw[Zac,if_pos rfl,e]at hp;have:=YZ hp;simp[plain,Tm.kind]at this
  ·by_cases c:k=3
   ·subst c;rw[ZfL hV]at a;cases a
   ·rw[ZbF c]at hp;exact ZhD u (Xx hV a) (Xx hp (Qg.2 ⟨u,a,rfl⟩)) m d
termination_by t=>SizeOf.sizeOf t
decreasing_by
 have:=QU a;simp only[Tm.mk.sizeOf_spec];omega
/-! Expansions under a binding. -/
def ZhR(t:Tm)(h:∀n∈nmT t,ZK n b=ZK n c):Xm t b=Xm t c:=by unfold Xm;rw[Zek t h]
def ZdD(g:YG b)(f:∀n∈nmT t,n∈ZP b)(c:v∈(Xm t b).1):Zt v=true:=by
 unfold Xm at c;split at c
 ·rename_i a;split at c
  ·rename_i l e;have h:=Zc0 g t f;simp only[Xr,Qb,decide_eq_true_eq]at a;have d:(Ye b t).all okG=true:=by
    have:=Zch shape (fun u=>!(u.kind==3)) (Ye b t);rw[a.2,h]at this;exact this
   have:=expand_val _ d l e v c;exact value_of this.1 om
  ·cases c
 ·cases c
def Zlr(h:Zt v=true):Xr v=true:=by simp only[Zt,Qb]at h;exact h.2
def Zno(e:YG b)(d:t.kind=3)(a:ZK t.name b=some v):Xm t b=([v],0):=by
 cases t with
 |mk k n s l=>
  simp only[Tm.kind,Tm.name]at d a;subst d;have c:=e.look a;unfold Xm;rw[ZbG a,Zlr c,if_pos rfl,expand_self v (Ju c)]
/-! Matches. -/
def mat_sound:∀(t v:Tm) (b c:Bnd),t.all okV=true->Zt v=true->YG b->matT t v b=some c->
  YG c/\WX b c/\(∀n,n∈ZP c↔n∈ZP b\/n∈nmT t)/\Ye c t=v
 | .mk k n s l,v,b,c,hV,hv,i,h=>by
  by_cases z:k=3
  ·subst z;have M:=ZfL hV;subst M;have p:∀m,m∈nmT (.mk 3 n s [])↔m=s:=fun m=>by simp[nmT,nmT.nms]
   rw[matT,if_pos rfl]at h;cases e:ZK s b with
   |none=>
    rw[e]at h;cases h;have H:=WI.1 e;refine⟨i.ext H hv,WX.ext H v,fun m=>?_,ZbG (by rw[Jr,if_pos rfl])⟩;rw[Zgr,p,or_comm]
   |some w=>
    rw[e]at h;simp only at h;split at h
    ·rename_i J;cases h;have:=(Zdm (i.look e) hv).1 J;subst this;refine⟨i,WX.refl b,fun m=>?_,ZbG e⟩;rw[p];constructor
     ·exact .inl
     ·rintro(h|rfl)
      ·exact h
      ·exact Xb.1 ⟨_,e⟩
    ·cases h
  ·have j:∀(r q:LT) (b c:Bnd),(∀u∈r,u∈l)->(∀u∈q,Zt u=true)->r.length=q.length->YG b->matT.matL r q b=some c->
     YG c/\WX b c/\(∀n,n∈ZP c↔n∈ZP b\/n∈nmT.nms r)/\r.map (Ye c)=q:=by
    intro r;induction r with
    |nil=>
     intro q b c _ _ f i h;rw[matT.matL]at h;cases h;cases q with
     |nil=>exact⟨i,WX.refl _,fun m=>by simp[nmT.nms],rfl⟩
     |cons _ _=>simp at f
    |cons u r ihr=>
     intro q b c F D f i h;cases q with
     |nil=>simp at f
     |cons w q=>
      rw[matT.matL]at h;have A:u∈l:=F u sm;cases e:matT u w b with
      |none=>rw[e]at h;cases h
      |some d=>
       rw[e]at h;obtain⟨L,Q,E,O⟩:=mat_sound u w b d (Xx hV A) (D w sm) i e;obtain⟨K,G,I,P⟩:=ihr q d c (fun y C=>F y (by simp[C])) (fun y C=>D y (by simp[C])) (by simpa using f) L h;refine⟨K,Q.trans G,fun m=>?_,?_⟩
       ·rw[I,E,nmT.nms,Qr,or_assoc]
       ·rw[Qs,P,<-ZiC G (fun m N=>(E m).2 (.inr N)),O]
   rw[matT,if_neg z]at h;split at h
   ·rename_i B;have o:∀u∈v.args,Zt u=true:=fun u A=>Zit hv A
    obtain⟨g,x,d,a⟩:=j l v.args b c (fun u h=>h) o B.2.2.2 i h;refine⟨g,x,fun m=>?_,?_⟩
    ·rw[d,nmT,if_neg z,QG]
    ·rw[ZbF z,a,B.1,B.2.1,B.2.2.1];cases v;rfl
   ·cases h
termination_by t=>SizeOf.sizeOf t
decreasing_by
 have:=QU A;simp only[Tm.mk.sizeOf_spec];omega
def ZdR{f:Bnd}(i:YG f):∀(t:Tm) (b:Bnd),t.all okV=true->WX b f->(∀n∈nmT t,n∈ZP f)->Zt (Ye f t)=true->
  ∃c,matT t (Ye f t) b=some c/\WX c f
 | .mk k n s l,b,hV,g,hn,hv=>by
  by_cases q:k=3
  ·subst q;obtain⟨u,a⟩:=Xb.2 (hn s Zml);rw[ZbG a,matT,if_pos rfl];cases e:ZK s b with
   |none=>
    refine⟨_,rfl,fun m w p=>?_⟩;rw[Jr]at p;split at p
    ·rename_i E;cases p;rw[<-E,a]
    ·exact g m w p
   |some w=>
    have:=g s w e;rw[a]at this;cases this;exact⟨b,by simp[(Zdm (i.look a) (i.look a)).2 rfl],g⟩
  ·have j:∀(r:LT) (b:Bnd),(∀u∈r,u∈l)->WX b f-> ∃c,matT.matL r (r.map (Ye f)) b=some c/\WX c f:=by
    intro r;induction r with
    |nil=>intro b _ g;exact⟨b,rfl,g⟩
    |cons u r ihr=>
     intro b A g;have a:u∈l:=A u sm;rw[ZbF q]at hv;have v:Zt (Ye f u)=true:=Zit hv (Qg.2 ⟨u,a,rfl⟩);obtain⟨c,z,o⟩:=ZdR i u b (Xx hV a) g (fun m C=>hn m (Zmk a C)) v;obtain⟨d,B,x⟩:=ihr c (fun y D=>A y (by simp[D])) o;exact⟨d,by rw[Qs,matT.matL,z];exact B,x⟩
   obtain⟨c,z,o⟩:=j l b (fun u h=>h) g;refine⟨c,?_,o⟩;rw[ZbF q,matT,if_neg q];simp only[Tm.kind,Tm.num,Tm.name,Tm.args,Qv,and_self,if_true];exact z
termination_by t=>SizeOf.sizeOf t
decreasing_by
 have:=QU a;simp only[Tm.mk.sizeOf_spec];omega
def ZgS{q:LT}(k:∀u∈l,u.all okV=true)(g:∀u∈q,Zt u=true)(a:l.length=q.length)(j:YG b)(h:matT.matL l q b=some c):
  YG c/\WX b c/\(∀n,n∈ZP c↔n∈ZP b\/n∈nmT.nms l)/\Ye.apps c l=q:=by
 induction l generalizing q b with
 |nil=>
  rw[matT.matL]at h;cases h;cases q with
  |nil=>exact⟨j,WX.refl _,fun m=>by simp[nmT.nms],rfl⟩
  |cons _ _=>simp at a
 |cons u r ihr=>
  cases q with
  |nil=>simp at a
  |cons w q=>
   rw[matT.matL]at h;cases e:matT u w b with
   |none=>rw[e]at h;cases h
   |some d=>
    rw[e]at h;obtain⟨v,A,i,x⟩:=mat_sound u w b d (k u sm) (g w sm) j e;obtain⟨t,o,s,z⟩:=ihr (fun y f=>k y (by simp[f])) (fun y f=>g y (by simp[f])) (by simpa using a) v h;refine⟨t,A.trans o,fun m=>?_,?_⟩
    ·rw[s,i,nmT.nms,Qr,or_assoc]
    ·rw[Ye.apps,z,<-ZiC o (fun m p=>(i m).2 (.inr p)),x]
def Zhr{e:Bnd}(g:YG e)(o:∀u∈l,u.all okV=true)(p:WX b e)(j:∀n∈nmT.nms l,n∈ZP e)(k:∀u∈l,Zt (Ye e u)=true):
  ∃c,matT.matL l (Ye.apps e l) b=some c/\WX c e:=by
 induction l generalizing b with
 |nil=>exact⟨b,rfl,p⟩
 |cons u r ihr=>
  rw[nms_eq]at j;obtain⟨c,s,i⟩:=ZdR g u b (o u sm) p (fun m a=>j m (QI.2 ⟨u,sm,a⟩)) (k u sm);obtain⟨d,q,h⟩:=ihr (fun y f=>o y (by simp[f])) i (fun m a=>j m (by rw[nms_eq]at a;obtain⟨y,f,a⟩:=QI.1 a;exact QI.2 ⟨y,by simp[f],a⟩)) (fun y f=>k y (by simp[f]));exact⟨d,by rw[Ye.apps,matT.matL,s];exact q,h⟩
end
def Zhy(A:List Am)(b:Bnd):Stp->Prop
 | .test x=>∃v∈(Xm x.L b).1,∃w∈(Xm x.R b).1,Wl x.op v w=true
 | .bind n t=>∃v∈(Xm t b).1,ZK n b=some v
 | .atom a=>∃x∈A,x.sg=a.sg/\Ye.apps b a.args=x.args
def varS:Stp->List Bs
 | .test x=>nmT x.L++nmT x.R
 | .bind n t=>n::nmT t
 | .atom a=>nmT.nms a.args
def Ready(S:List Bs):Stp->Prop
 | .test x=>∀n∈nmT x.L++nmT x.R,n∈S
 | .bind n t=>n∉S/\ ∀m∈nmT t,m∈S
 | .atom a=>∀u∈a.args,u.all okV=true
section
variable {b:Bnd}
def ZlO{c:Bnd}(g:YG b)(d:YG c)(f:WX b c)(a:∀n,n∈ZP c->n∈ZP b):b=c:=by
 refine bnd_ext g.asc d.asc fun n=>?_
 cases e:ZK n b with
 |some v=>exact(f n v e).symm
 |none=>
  have:=WI.1 e;exact(WI.2 fun h=>this (a n h)).symm
def Ze5{b:Bnd}:∀{l:LT} {i j:Int} {v:Tm},JJ b l i=some (j,v)-> ∃k:Nat,j=i+k/\ ∃h:k<l.length,v=Ye b l[k]/\Zt v=true
 |t::r,i,j,v,h=>by
  simp only[JJ]at h;split at h
  ·rename_i a;cases h;exact⟨0,om,sm,rfl,a⟩
  ·obtain⟨k,d,c,a⟩:=Ze5 h;exact⟨k+1,om,by simp only[Qm];omega,by simpa using a⟩
variable {x a:Am} {A:List Am}
def Zpz(h:x∈Vq A a b):x∈A/\x.sg=a.sg:=by
 unfold Vq at h;split at h
 ·have:=MO.1 h;simp only[Zj7,Qb,beq_iff_eq]at this;exact⟨this.1,this.2.1.1.1⟩
 ·have:=MO.1 h;simp only[beq_iff_eq]at this;exact this
def Zpx{d:Bnd}(r:∀u∈a.args,u.all okV=true)(t:WX b d)(i:x∈A)(h:x.sg=a.sg)(m:Ye.apps d a.args=x.args):x∈Vq A a b:=by
 unfold Vq;cases e:JJ b a.args 0 with
 |none=>exact MO.2 ⟨i,by simp[h]⟩
 |some p=>
  obtain⟨j,v⟩:=p;obtain⟨k,w,f,g,c⟩:=Ze5 e;refine MO.2 ⟨i,?_⟩;have q:(Ye b a.args[k]).all plain=true:=by
   rw[g]at c;simp only[Zt,Qb]at c;exact c.1
  have o:Ye b a.args[k]=Ye d a.args[k]:=ZiC t (ZhD _ (r _ (Qa f)) q);have s:x.args[k]? =some v:=by
   rw[<-m,ZfC,Ub,Qe f,g,o];rfl
  have y:a.sg.n=(a.args.length:Int):=rfl;have l:j.toNat=k:=om;simp only[Zj7,Qb,beq_iff_eq,decide_eq_true_eq,colEq,l,s];exact⟨⟨⟨h,om⟩,om⟩,(eqT_iff v v).2 rfl⟩
def Zrb{e f:Int}(h:e≠0\/f≠0):J6 e f≠0:=by unfold J6;split<;>omega
def ZqW(h:x.sg=a.sg):x.args.length=a.args.length:=by
 have:x.sg.n=a.sg.n:=by rw[h]
 simp only[Am.sg]at this;omega
def Zq3(K:∀a∈A,YO a=true)(o:YG b):∀{s:Stp},Ready (ZP b) s->(stepS A s b).2=0->
  ∀c,c∈(stepS A s b).1↔YG c/\WX b c/\(∀n,n∈ZP c↔n∈ZP b\/n∈varS s)/\Zhy A c s
 | .test x,hr,he,c=>by
  have I:¬((Xm x.L b).2≠0\/(Xm x.R b).2≠0):=fun h=>by
   simp only[stepS,JZ,if_pos h]at he;exact Zrb h he
  simp only[stepS,JZ,if_neg I];have H:∀c,YG c->WX b c->(∀n,n∈ZP c↔n∈ZP b\/n∈varS (.test x))->b=c:=fun c H f k=>
   ZlO o H f fun n l=>by
    rcases(k n).1 l with h|h
    ·exact h
    ·exact hr n h
  have p:((Xm x.L b).1.any fun v=>(Xm x.R b).1.any (Wl x.op v))=true↔Zhy A b (.test x):=by
   simp only[GR,Zhy]
  constructor
  ·intro h;split at h
   ·rename_i r;simp only[Qo]at h;subst h;exact⟨o,WX.refl _,fun n=>⟨.inl,fun h=>by rcases h with h|h;all_goals first|exact h|exact hr n h⟩,p.1 r⟩
   ·cases h
  ·rintro⟨g,f,k,C⟩;have:=H c g f k;subst this;rw[if_pos (p.2 C)];simp
 | .bind n t,hr,he,c=>by
  obtain⟨l,y⟩:=hr;simp only[stepS,Qg,Zhy];constructor
  ·rintro⟨v,z,rfl⟩;have f:=WX.ext l v;refine⟨o.ext l (ZdD o y z),f,fun m=>?_,v,?_,by rw[Jr,if_pos rfl]⟩
   ·rw[Zgr];simp only[varS,Ql];constructor
    ·rintro(h|h)
     ·exact .inr (.inl h)
     ·exact .inl h
    ·rintro(h|h|h)
     ·exact .inr h
     ·exact .inl h
     ·exact .inr (y m h)
   ·rw[<-ZhR t fun m i=>Zgt f (y m i)];exact z
  ·rintro⟨g,f,k,v,z,M⟩;rw[<-ZhR t fun m i=>Zgt f (y m i)]at z;refine⟨v,z,?_⟩;refine ZlO (o.ext l (ZdD o y z)) g (fun m w i=>?_) fun m i=>?_
   ·rw[Jr]at i;split at i
    ·rename_i e;cases i;rw[<-e,M]
    ·exact f m w i
   ·rw[Zgr];rcases(k m).1 i with h|h
    ·exact .inr h
    ·rcases Ql.1 h with h|h
     ·exact .inl h
     ·exact .inr (y m h)
 | .atom a,hr,he,c=>by
  simp only[stepS,QaD,Zhy];have j:∀{x:Am},x∈A-> ∀u∈x.args,Zt u=true:=fun f u G=>by
   have:=K _ f;simp only[YO,Qb,Qw]at this;exact this.2 u G
  constructor
  ·rintro⟨x,f,i⟩;have B:=Zpz f;obtain⟨g,D,k,r⟩:=ZgS hr (j B.1) (ZqW B.2).symm o i;exact⟨g,D,k,x,B.1,B.2,r⟩
  ·rintro⟨g,f,k,x,q,C,r⟩;refine⟨x,Zpx hr f q C r,?_⟩;obtain⟨d,i,F⟩:=Zhr g hr f (fun n l=>(k n).2 (.inr l)) (fun u G=>by
    refine j q _ ?_;rw[<-r,ZfC];exact Qg.2 ⟨u,G,rfl⟩)
   rw[r]at i;obtain⟨J,_,E,_⟩:=ZgS hr (j q) (ZqW C).symm o i;have:d=c:=ZlO J g F fun n l=>(E n).2 ((k n).1 l)
   subst this;exact i
/-! All bindings of a step. -/
def ZrE{a:Type}(l:List a):(Zgo l).length<=20000->Zgo l=l:=by
 unfold Zgo;split
 ·intro h;rw[QJ]at h;omega
 ·intro _;rfl
def ZjL(f:Bnd->List Bnd×Int):∀(g:List Bnd) (p:List Bnd×Int),let r:=g.foldl (fun p b=>WZ p (f b)) p
  (r.2=0->p.2=0/\ ∀b∈g,(f b).2=0)/\(r.1.length<=20000->p.1.length<=20000/\r.1=p.1++g.flatMap fun b=>(f b).1)
 |[],p=>⟨fun h=>⟨h,fun b k=>by cases k⟩,fun h=>⟨h,sm⟩⟩
 |b::g,p=>by
  obtain⟨i,j⟩:=ZjL f g (WZ p (f b));simp only[U8];refine⟨fun h=>?_,fun h=>?_⟩
  ·obtain⟨a,c⟩:=i h;simp only[WZ]at a;split at a
   ·rename_i e;refine⟨om,fun d hd=>?_⟩;rcases Ql.1 hd with rfl|hd
    ·exact a
    ·exact c d hd
   ·rename_i e;omega
  ·obtain⟨a,c⟩:=j h;have e:(WZ p (f b)).1=p.1++(f b).1:=ZrE _ a;rw[e,Qh]at a;exact⟨om,by rw[c,e];simp⟩
def Zrx{f:Bnd->List Bnd×Int}{a:List Bnd}(h:(XA f a).2=0):(∀b∈a,(f b).2=0)/\(XA f a).1=a.flatMap fun b=>(f b).1:=by
 obtain⟨d,e⟩:=ZjL f a ([],0);simp only[XA]at h⊢;split at h
 ·omega
 ·rename_i c;rw[not_and]at c;exact⟨(d h).2,by simpa using(e (by have:=c h;omega)).2⟩
def Rdy:List Bs->List Stp->Prop
 |_,[]=>True
 |S,s::r=>Ready S s/\Rdy (S++varS s) r
def Zb4{S T:List Bs}(h:∀n,n∈S↔n∈T):∀{s:Stp},Ready S s->Ready T s
 | .test _,hr=>fun n a=>(h n).1 (hr n a)
 | .bind _ _,hr=>⟨fun a=>hr.1 ((h _).2 a),fun m b=>(h m).1 (hr.2 m b)⟩
 | .atom _,hr=>hr
end
def okX(x:Lt):Prop:=(x.kind=2->x.L.all okV=true/\x.R.all okV=true)/\(x.kind=1-> ∀u∈x.at_.args,u.all okV=true)
def JA(s:Stp)(x:Lt):Prop:=match s with
 | .test y=>y=x/\x.kind=2
 | .bind n t=>x.kind=2/\x.op=1/\((x.L.kind=3/\n=x.L.name/\t=x.R)\/(x.R.kind=3/\n=x.R.name/\t=x.L))
 | .atom a=>x.kind=1/\x.neg=false/\a=x.at_
def ZqI(A:List Am)(b:Bnd)(x:Lt):Prop:=
 if x.kind=2 then∃v∈(Xm x.L b).1,∃w∈(Xm x.R b).1,Wl x.op v w=true
 else if x.kind=1/\x.neg=false then∃a∈A,a.sg=x.at_.sg/\Ye.apps b x.at_.args=a.args else True
section
variable {n:Bs} {x:Lt}
def ZaK:n∈ZX x↔if x.kind=2 then n∈nmT x.L\/n∈nmT x.R else n∈nmT.nms x.at_.args:=by
 unfold ZX;split
 ·simp[ZcC]
 ·rw[nms_eq];simp only[QI,ZcC]
variable {S:List Bs}
def ZdL{l:List Bs}:Ve S l=true↔ ∀n∈l,n∈S:=by simp[Ve]
def ZaD{t:Tm}:Ve S (Z8 t)=true↔ ∀n∈nmT t,n∈S:=by
 rw[ZdL];exact⟨fun h n a=>h n ((ZcC t n).2 a),fun h n a=>h n ((ZcC t n).1 a)⟩
def Zcx{t:Tm}(a:t.kind=3)(b:t.all okV=true):nmT t=[t.name]:=by
 cases t with
 |mk k n s l=>simp only[Tm.kind]at a;subst a;rw[ZfL b];simp[nmT,nmT.nms,Tm.name]
variable {s:Stp}
def Zid(h:JA s x)(d:okX x):n∈varS s↔n∈ZX x:=by
 rw[ZaK];cases s with
 |test y=>obtain⟨rfl,b⟩:=h;rw[if_pos b];simp[varS]
 |bind m t=>
  obtain⟨b,_,h⟩:=h;rw[if_pos b];rcases h with⟨c,rfl,rfl⟩|⟨c,rfl,rfl⟩
  ·rw[Zcx c (d.1 b).1];simp[varS]
  ·rw[Zcx c (d.1 b).2];simp only[varS,Ql,QA,or_false];exact or_comm
 |atom a=>obtain⟨b,_,rfl⟩:=h;rw[if_neg om];rfl
def ZmB(e:okX x)(h:XO S x=some s):JA s x/\Ready S s:=by
 unfold XO at h;split at h
 ·rename_i b;split at h
  ·rename_i d;cases h;rw[Qb,ZaD,ZaD]at d;exact⟨⟨rfl,b⟩,fun n hn=>by rcases Qr.1 hn with hn|hn;all_goals first|exact d.1 n hn|exact d.2 n hn⟩
  ·rename_i d;rw[Qb,ZaD,ZaD]at d;split at h
   ·rename_i g;obtain⟨i,a,c⟩:=g;rw[ZaD]at a;have hn:¬x.L.name∈S:=fun hn=>d ⟨fun n h=>by rw[Zcx c (e.1 b).1]at h;simp at h;subst h;exact hn,a⟩
    split at h
    ·rename_i f;exact absurd f (ZkK (e.1 b).1 c)
    ·cases h;exact⟨⟨b,i,.inl ⟨c,rfl,rfl⟩⟩,hn,a⟩
   ·split at h
    ·rename_i g;obtain⟨i,a,c⟩:=g;rw[ZaD]at a;have hn:¬x.R.name∈S:=fun hn=>d ⟨a,fun n h=>by rw[Zcx c (e.1 b).2]at h;simp at h;subst h;exact hn⟩
     split at h
     ·rename_i f;exact absurd f (ZkK (e.1 b).2 c)
     ·cases h;exact⟨⟨b,i,.inr ⟨c,rfl,rfl⟩⟩,hn,a⟩
    ·cases h
 ·cases h
def Zog(ho:okX x)(h:Zay x=some s):JA s x/\Ready S s:=by
 unfold Zay at h;split at h
 ·rename_i hk;cases h;exact⟨⟨hk.1,hk.2,rfl⟩,ho.2 hk.1⟩
 ·cases h
def ZeJ{f:Lt->Option Stp}:∀{l:List Lt} {s:Stp} {x:Lt} {r:List Lt},ZaH f l=some (s,x,r)->f x=some s/\l.Perm (x::r)
 |y::l,s,x,r,h=>by
  simp only[ZaH]at h;split at h
  ·rename_i e;cases h;exact⟨e,.refl _⟩
  ·simp only[Ur]at h;obtain⟨⟨g,j,i⟩,b,a⟩:=h;simp only[Qax]at a;obtain⟨rfl,rfl,rfl⟩:=a;obtain⟨d,c⟩:=ZeJ b;exact⟨d,(c.cons y).trans (.swap _ _ _)⟩
def Zik{f:Lt->Option Stp}:∀{l:List Lt},ZaH f l=none-> ∀x∈l,f x=none
 |y::l,h,x,hx=>by
  simp only[ZaH]at h;split at h
  ·cases h
  ·rename_i e;rw[Option.map_eq_none_iff]at h;rcases Ql.1 hx with rfl|hx
   ·exact e
   ·exact Zik h x hx
def Zie{l:List Lt}{r:List Lt}(c:∀x∈l,okX x)(h:Vs S l=some (s,x,r)):JA s x/\Ready S s/\l.Perm (x::r):=by
 unfold Vs at h;cases e:ZaH (XO S) l with
 |some p=>
  rw[e]at h;cases h;obtain⟨b,a⟩:=ZeJ e;have:=ZmB (c x (a.mem_iff.2 sm)) b;exact⟨this.1,this.2,a⟩
 |none=>
  rw[e]at h;obtain⟨b,a⟩:=ZeJ h;have:=Zog (S:=S) (c x (a.mem_iff.2 sm)) b;exact⟨this.1,this.2,a⟩
def rdy_congr:∀(p:List Stp) {S T:List Bs},(∀n,n∈S↔n∈T)->Rdy S p->Rdy T p
 |[],_,_,_,_=>trivial
 |s::p,S,T,h,hr=>⟨Zb4 h hr.1,rdy_congr p (fun n=>by simp[h n]) hr.2⟩
theorem plan_spec:∀(f:Nat) (S:List Bs) (l:List Lt),(∀x∈l,okX x)-> ∃T:List Lt,l.Perm (T++(planF f S l).2.2)/\Fa2 JA (planF f S l).1 T/\Rdy S (planF f S l).1/\
  (∀n,n∈(planF f S l).2.1↔n∈S\/n∈T.flatMap ZX)/\(l.length<=f->Vs (planF f S l).2.1 (planF f S l).2.2=none)
 |0,S,l,_=>⟨[],.refl _,.nil,trivial,fun n=>by simp[planF],fun h=>by
   cases l with
   |nil=>rfl
   |cons _ _=>simp at h⟩
 |f+1,S,l,ho=>by
  simp only[planF];split
  ·rename_i c;exact⟨[],.refl _,.nil,trivial,fun n=>by simp,fun _=>c⟩
  ·rename_i s x r c;obtain⟨d,g,a⟩:=Zie ho c;have b:=ho x (a.mem_iff.2 sm);obtain⟨T,j,k,m,e,o⟩:=plan_spec f (S++ZX x) r fun y i=>ho y (a.mem_iff.2 (by simp[i]))
   refine⟨x::T,a.trans (j.cons x),.cons d k,⟨g,rdy_congr _ (fun n=>?_) m⟩,fun n=>?_,fun p=>o ?_⟩
   ·simp[Zid d b]
   ·rw[e];simp[or_assoc]
   ·have:=a.length_eq;simp only[Qm]at this;omega
def ZqJ{A:List Am}{σ:Bnd}(d:YG σ)(h:JA s x)(ho:okX x)(hd:∀n∈ZX x,n∈ZP σ):Zhy A σ s↔ZqI A σ x:=by
 unfold ZqI;cases s with
 |test y=>obtain⟨rfl,hk⟩:=h;rw[if_pos hk];rfl
 |atom a=>
  obtain⟨hk,hn,rfl⟩:=h;rw[if_neg om,if_pos ⟨hk,hn⟩];rfl
 |bind m t=>
  obtain⟨hk,j,h⟩:=h;have c:∀{v w:Tm},Zt v=true->Zt w=true->(Wl x.op v w=true↔v=w):=fun hv hw=>by
   rw[j,<-Zdm hv hw];simp[Wl]
  have e:∀n,n∈nmT x.L\/n∈nmT x.R->n∈ZP σ:=fun n hn=>hd n (by rw[ZaK,if_pos hk];exact hn)
  rw[if_pos hk];rcases h with⟨g,rfl,rfl⟩|⟨g,rfl,rfl⟩
  ·obtain⟨u,f⟩:=Xb.2 (e x.L.name (.inl (by rw[Zcx g (ho.1 hk).1];simp)));have b:=d.look f;have k:∀v∈(Xm x.R σ).1,Zt v=true:=fun v hv=>ZdD d (fun n hn=>e n (.inr hn)) hv
   simp only[Zhy,Zno d g f,Qo,exists_eq_left,f,Qp];constructor
   ·rintro⟨v,hv,rfl⟩;exact⟨u,hv,(c b b).2 rfl⟩
   ·rintro⟨w,hw,i⟩;have:=(c b (k w hw)).1 i;exact⟨w,hw,this⟩
  ·obtain⟨u,f⟩:=Xb.2 (e x.R.name (.inr (by rw[Zcx g (ho.1 hk).2];simp)));have b:=d.look f;have l:∀v∈(Xm x.L σ).1,Zt v=true:=fun v hv=>ZdD d (fun n hn=>e n (.inl hn)) hv
   simp only[Zhy,Zno d g f,Qo,exists_eq_left,f,Qp];constructor
   ·rintro⟨v,hv,rfl⟩;exact⟨u,hv,(c b b).2 rfl⟩
   ·rintro⟨w,hw,i⟩;have:=(c (l w hw) b).1 i;exact⟨w,hw,this.symm⟩
def Znp{A:List Am}{σ:Bnd}(c:YG σ):∀{p:List Stp} {T:List Lt},Fa2 JA p T->(∀x∈T,okX x)->(∀n∈T.flatMap ZX,n∈ZP σ)->((∀s∈p,Zhy A σ s)↔ ∀x∈T,ZqI A σ x)
 |_,_,.nil,_,_=>by simp
 |_,_,.cons (a:=s) (b:=x) h t,ho,hd=>by
  rw[Uk]at hd;have ih:=Znp (A:=A) c t (fun y d=>ho y (by simp[d])) (fun n hn=>hd n (U6 _ hn));have e:=ZqJ (A:=A) c h (ho x sm) (fun n hn=>hd n (UH _ hn));simp only[Ql,forall_eq_or_imp,ih,e]
def fa_vars:∀{p:List Stp} {T:List Lt},Fa2 JA p T->(∀x∈T,okX x)-> ∀n,n∈p.flatMap varS↔n∈T.flatMap ZX
 |_,_,.nil,_,_=>by simp
 |_,_,.cons h t,ho,n=>by
  simp only[Uk,Qr,Zid h (ho _ sm),fa_vars t (fun y a=>ho y (by simp[a])) n]
def ZoU{l:List Lt}{p:List Stp}(g:∀x∈l,okX x)(h:ZcR S l=some p):
  Rdy S p/\(∀n,n∈S\/n∈p.flatMap varS↔n∈S\/n∈l.flatMap ZX)/\
  ∀(A:List Am) (e:Bnd),YG e->(∀n∈l.flatMap ZX,n∈ZP e)->((∀s∈p,Zhy A e s)↔ ∀x∈l,ZqI A e x):=by
 obtain⟨T,b,i,o,k,q⟩:=plan_spec l.length S l g;unfold ZcR at h;simp only at h;split at h
 ·rename_i c;cases h;have a:=q (Qi _);have j:∀x∈(planF l.length S l).2.2,¬x.kind=2/\(∀n∈ZX x,n∈(planF l.length S l).2.1)/\ ¬(x.kind=1/\x.neg=false):=fun x hx=>by
   have f:=Qw.1 c x hx;simp only[X0,Qb,Qaj,beq_eq_false_iff_ne,ZdL]at f;refine⟨f.1,f.2,fun m=>?_⟩;simp only[Vs,Option.or_eq_none_iff]at a;have:=Zik a.2 x hx;simp only[Zay,if_pos m]at this;cases this
  have d:∀x∈T,okX x:=fun x hx=>g x (b.mem_iff.2 (UH _ hx))
  refine⟨o,fun n=>?_,fun A e hσ hd=>?_⟩
  ·rw[fa_vars i d n];constructor
   ·rintro(h|h)
    ·exact .inl h
    ·obtain⟨x,hx,h⟩:=QI.1 h;exact .inr (QI.2 ⟨x,b.mem_iff.2 (UH _ hx),h⟩)
   ·rintro(h|h)
    ·exact .inl h
    ·obtain⟨x,hx,h⟩:=QI.1 h;rcases Qr.1 (b.mem_iff.1 hx)with hx|hx
     ·exact .inr (QI.2 ⟨x,hx,h⟩)
     ·exact(k n).1 ((j x hx).2.1 n h)
  ·rw[Znp hσ i d fun n r=>hd n (by
    obtain⟨x,hx,h⟩:=QI.1 r;exact QI.2 ⟨x,b.mem_iff.2 (UH _ hx),h⟩)]
   constructor
   ·intro h x hx;rcases Qr.1 (b.mem_iff.1 hx)with hx|hx
    ·exact h x hx
    ·have:=j x hx;rw[ZqI,if_neg this.1,if_neg this.2.2];trivial
   ·intro h x hx;exact h x (b.mem_iff.2 (UH _ hx))
 ·cases h
end
end Go.Proofs.YthajllbimoodjaaGreatDoor

namespace Go.Abs
section
variable {κ β:Type} [DecidableEq κ]
def getM(k:κ):List (κ×β)->Option β
 |[]=>none
 |p::r=>if p.1=k then some p.2 else getM k r
def Zg4(k:κ)(v:β):List (κ×β)->List (κ×β)
 |[]=>[(k,v)]
 |p::r=>if p.1=k then(k,v)::r else p::Zg4 k v r
def ixM(k:κ):List (κ×β)->Nat
 |[]=>0
 |p::r=>if p.1=k then 0 else ixM k r+1
abbrev ZaV(a:κ->AV)(c:β->AV)(b:List (κ×β)):List (AV×AV):=b.map fun p=>(a p.1,c p.2)
def Zn8(c:κ->AV):Prop:=∀a b,(c a).kls=(c b).kls->a=b
theorem Znr{a:κ->AV}(d:Zn8 a)(c:β->AV)(k:κ):∀(b:List (κ×β)) (i:Nat),XQ (a k).kls ((ZaV a c b).map fun p=>p.1.kls) i=if(getM k b).isSome then some (i+ixM k b)else none
 |[],i=>by simp[XQ,getM]
 |p::r,i=>by
  simp only[Qs,XQ,getM,ixM];by_cases h:p.1=k
  ·simp[h]
  ·have f:¬(a k).kls=(a p.1).kls:=fun e=>h (d _ _ e).symm
   have ih:=Znr d c k r (i+1);simp only[ZaV]at ih;simp only[if_neg h,if_neg f,ih];cases getM k r with
   |none=>rfl
   |some v=>simp;omega
def ZiQ{k:κ}:∀{a:List (κ×β)} {v:β},getM k a=some v->a[ixM k a]? =some (k,v)
 |[],_,h=>by cases h
 |p::r,v,h=>by
  simp only[getM]at h;simp only[ixM];split at h
  ·rename_i e;cases h;rw[if_pos e];simp[<-e]
  ·rename_i e;rw[if_neg e];simpa using ZiQ h
def Zim{k:κ}{v:β}(w:β):∀{a:List (κ×β)},getM k a=some v->Zg4 k w a=a.set (ixM k a) (k,w)
 |[],h=>by cases h
 |p::r,h=>by
  simp only[getM]at h;simp only[Zg4,ixM];split at h
  ·rename_i e;rw[if_pos e,if_pos e];rfl
  ·rename_i e;rw[if_neg e,if_neg e,Zim w h];rfl
theorem Zil{k:κ}(w:β):∀{a:List (κ×β)},getM k a=none->Zg4 k w a=a++[(k,w)]
 |[],_=>rfl
 |p::r,h=>by
  simp only[getM]at h;simp only[Zg4];split at h
  ·cases h
  ·rename_i e;rw[if_neg e,Zil w h];rfl
def ZiM{b:κ->AV}(d:Zn8 b)(c:β->AV)(k:κ)(a:List (κ×β)):Xv (b k) (ZaV b c a)=if(getM k a).isSome then some (ixM k a)else none:=by
 unfold Xv;rw[Znr d];simp
theorem ZrZ{a:κ->AV}(f:Zn8 a)(c:β->AV)(d:Zp)(k:κ)(b:List (κ×β)):lookA d (a k) (ZaV a c b) false=match getM k b with|some v=>c v|none=>nilA (XI d):=by
 unfold lookA;rw[ZiM f];cases h:getM k b with
 |none=>rfl
 |some v=>
  have e:=ZiQ h;simp[ZaV,e]
def Zmz{ek:κ->AV}(a:Zn8 ek)(ev:β->AV)(k:κ)(v:β)(es:List (κ×β)):Zat (ek k) (ev v) (ZaV ek ev es)=ZaV ek ev (Zg4 k v es):=by
 unfold Zat;rw[ZiM a];cases h:getM k es with
 |none=>simp[Zil v h,ZaV]
 |some w=>simp[Zim v h,ZaV,List.map_set]
end
def kinj_str:Zn8 AV.str:=fun a b h=>by simp[AV.kls,AV.cells,klAll,AV.kl]at h;exact h
def kinj_int:Zn8 (AV.int .i64):=fun a b h=>by simp[AV.kls,AV.cells,klAll,AV.kl]at h;exact h
def Zgg{κ β:Type}{n:Nat}{ek:κ->AV}{ev:β->AV}{es:List (κ×β)}(a:∀k,Below n (ek k))(c:∀p∈es,Below n (ev p.2)):∀p∈ZaV ek ev es,Below n p.1/\Below n p.2:=fun p b=>by
 obtain⟨q,d,rfl⟩:=Qg.1 b;exact⟨a _,c q d⟩
def ZjK{n:Nat}{d:List (AV×AV)}(h:∀p∈d,Below n p.1/\Below n p.2):Ze.Below n (.map d):=by
 refine⟨fun a c=>?_,by simp[Ze.at_]⟩;simp only[Ze.avs,Qr,Qg]at c;rcases c with⟨p,b,rfl⟩|⟨p,b,rfl⟩
 ·exact(h p b).1
 ·exact(h p b).2
end Go.Abs

namespace Go.Proofs.YthajllbimoodjaaGreatDoor
open Go.Abs
def subs:Tm->LT
 | .mk k n s l=>.mk k n s l::subss l
where subss:LT->LT
 |[]=>[]
 |t::r=>subs t++subss r
theorem subss_eq:∀l:LT,subs.subss l=l.flatMap subs
 |[]=>rfl
 |t::r=>by rw[subs.subss,subss_eq r];rfl
def ZnW(t:Tm):subs t=t::t.args.flatMap subs:=by cases t;rw[subs,subss_eq];rfl
def Zfg(H:Za)(x:Nat)(S a:Nat->Option Ze):(H.YP x S).YP x a=H.YP x a:=by
 funext l k;simp only[Za.YP];split<;>rfl
def ZqN(H:Za)(x k:Nat)(S:Nat->Option Ze):H.YP x S x k=S k:=by simp[Za.YP]
section
variable {x:Nat}
def ZqO(H:Za){l:Nat}(h:l≠x)(k:Nat)(S:Nat->Option Ze):H.YP x S l k=H l k:=by simp[Za.YP,h]
def ZmH{H:Za}{S:Nat->Option Ze}(h:∀k,H x k=S k):H.YP x S=H:=by
 funext l k;simp only[Za.YP];split
 ·rename_i e;subst e;exact(h k).symm
 ·rfl
def Zur(P:Program)(x l:Nat)(L:LT)(S:Nat->Nat->Option Ze)(b:Za):Prop:=
 ∀m H i t,x<m->L[i]? =some t->(∀a k,a<x->H a k=b a k)->(∀k,H x k=S i k)->VJ P m l [t.enc] H fun r c=>r= .bool true/\c=H.YP x (S (i+1))
def Zan(l:LT)(j:Nat):Nat:=((l.take j).flatMap subs).length
def Zvv(t:Tm)(x l n i:Nat)(S:Nat->Nat->Option Ze)(H:Za)(j:Nat):Zc:=
 ⟨[(14,.int .i64 j),(13,.int .i64 t.args.length),(12,.sl 4 (t.args.map Tm.enc) .any),(1,.fn (.yield l) []),(2,.ptr n 2 0)],[(2,.box t.cs)],H.YP x (S (i+1+Zan t.args j))⟩
def ZvT{x l:Nat}{L:LT}{S:Nat->Nat->Option Ze}{o:Za}(z:Zur prog x l L S o)(s:∀j k b,S j k=some b->b.Below (x+1))(t:Tm)(u:t.Good)(i:Nat)(A:∀k (h:k<(subs t).length),L[i+k]? =some (subs t)[k])
  (n:Nat) (H:Za) (hx:x<n) (w:∀l' k,l'<x->H l' k=o l' k) (D:∀k,H x k=S i k):
  Zh prog n 236 [t.enc,.fn (.yield l) []] H fun r I=>r= .bool true/\I=H.YP x (S (i+(subs t).length)):=by
 have y:=u.len;have c:x≠n:=om;have a:subs t=t::t.args.flatMap subs:=ZnW t;refine aF func236 fun B=>?_
 have m:∀(L:List (Nat×Ze)) (G:Za) (l' k:Nat),(∀l' k,l'<x->G l' k=o l' k)->l'<x->full n L G l' k=o l' k:=fun L G l' k q h=>by
  simp only[full];rw[if_neg om];exact q l' k h
 have g:∀(L:List (Nat×Ze)) (G:Za) (j:Nat),(∀k,G x k=S j k)-> ∀k,full n L G x k=S j k:=fun L G j q k=>by
  simp only[full];rw[if_neg c];exact q k
 refine gc ?_;refine ZsM sS (z _ _ i t (show x<n+1 by omega) (by have:=A 0 (by rw[a];simp);simpa[a]using this) (fun l' k h=>m _ _ l' k w h) (g _ _ i D)) sS ?_;rintro _ _ ⟨rfl,rfl⟩;refine⟨[(2,.box t.cs)],H.YP x (S (i+1)),by rw[Vx c];rfl,Jt hx (s _),?_⟩;refine aS ?_;refine gN ?_;refine Zx (Zvv t x l n i S H) t.args.length rfl ?_ ?_
 ·exact KK
 intro j N;refine ZV rfl ?_;rcases Qd j t.args.length with h|h
 ·refine nq h ?_;refine nT ?_;refine nq2 (Tm.Zw _ _ h) h ?_;refine nR ?_;have J:=u.arg (Qa h);have d:Zan t.args (j+1)=Zan t.args j+(subs t.args[j]).length:=by
   unfold Zan;rw[Qn h,Uz,Qh];simp
  refine YS (caps:=[]) (avs:=[t.args[j].enc,.fn (.yield l) []]) rfl (Zf func236 rfl rfl) (by
   rw[Qu];exact ZvT z s t.args[j] J (i+1+Zan t.args j) (fun k v=>by
    have e:1+Zan t.args j+k<(subs t).length:=by
     rw[a];have M:Zan t.args (j+1)<=(t.args.flatMap subs).length:=by
      unfold Zan
      conv=>rhs;rw[<-Q8 (j+1) t.args,Uz,Qh]
      omega
     simp only[Qm];omega
    have E:=A _ e;rw[show i+1+Zan t.args j+k=i+(1+Zan t.args j+k) by omega,E];congr 1
    have F:t.args.flatMap subs=(t.args.take j).flatMap subs++(subs t.args[j]++(t.args.drop (j+1)).flatMap subs):=by
     rw[<-Uk (f:=subs),<-QB h,<-Uz,Q8]
    have C:(subs t)[1+Zan t.args j+k]? =some (subs t.args[j])[k]:=by
     rw[a,show 1+Zan t.args j+k=(Zan t.args j+k)+1 by omega,U1,F,Gl (by unfold Zan;omega)];rw[show Zan t.args j+k - ((t.args.take j).flatMap subs).length=k by unfold Zan;omega,UF v,Qe v]
    rw[Qe e]at C;exact Uu C) (n+1) _ (show x<n+1 by omega) (fun l' k h=>m _ _ l' k (fun l' k h=>(ZqO H om k _).trans (w l' k h)) h) (g _ _ _ (fun k=>ZqN _ _ _ _))) sS ?_
  rintro _ _ ⟨rfl,rfl⟩;refine⟨[(2,.box t.cs),(6,.box t.args[j].cs)],H.YP x (S (i+1+Zan t.args (j+1))),?_,?_,?_⟩
  ·rw[<-Vx c,Zfg,d,<-MS];rfl
  ·have:=Jt (H:=H.YP x (S (i+1+Zan t.args j))) hx (s (i+1+Zan t.args (j+1)))
   rwa [Zfg]at this
  refine gI ?_;apply kZ;repeat' first|apply q0|exact xx|apply aI
  ·refine aS ?_;rw[iw];exact .refl _
 ·refine nq (QC.2 h) ?_;refine gt ?_;have p:j=t.args.length:=om;subst p;have K:i+1+Zan t.args t.args.length=i+(subs t).length:=by
   rw[a];unfold Zan;rw[QV];simp only[Qm];omega
  rw[K];refine⟨by simp[Y7],[.bool true],⟨?_,trivial⟩,by simp[Zc1],rfl,rfl⟩;exact xS
termination_by SizeOf.sizeOf t
decreasing_by exact Tm.Xp (Qa h)
def Zxw{l:Nat}{L:LT}{S:Nat->Nat->Option Ze}{H0:Za}(i:Zur prog x l L S H0)(c:∀j k b,S j k=some b->b.Below (x+1))(t:Tm)(f:t.Good)(g:L=subs t)
  (n:Nat) (H:Za) (hx:x<n) (e:∀l' k,l'<x->H l' k=H0 l' k) (d:∀k,H x k=S 0 k):
  Zh prog n 235 [.fn (.yield l) [],.iptr t.cs] H fun r H1=>H1=H.YP x (S L.length):=by
 subst g;have a:x≠n:=om;refine aF func235 fun B=>?_
 refine nR ?_;refine YS (caps:=[]) (avs:=[t.enc,.fn (.yield l) []]) rfl (Zf func236 rfl rfl) (by
  rw[Qu];exact ZvT i c t f 0 (fun k hk=>by rw[Qy,Qe hk]) (n+1) _ (show x<n+1 by omega) (fun l' k h=>by simp only[full];rw[if_neg om];exact e l' k h) (fun k=>by simp only[full];rw[if_neg a];exact d k)) sS ?_
 rintro _ _ ⟨rfl,rfl⟩;refine⟨[],H.YP x (S (0+(subs t).length)),by rw[Vx a],Jt hx (c _),?_⟩;refine gO ?_;exact⟨by simp[Y7],[],trivial,sm,rfl⟩
end
end Go.Proofs.YthajllbimoodjaaGreatDoor

namespace Go.Abs
open Go.Proofs
def ltN(s t:Bs):Prop:=Lib.compareBytes s t<0
def ZnG{s t:Bs}(h:¬ltN s t)(a:¬ltN t s):s=t:=by
 have:=serN.anti (x:=s) (y:=t) trivial trivial;unfold ltN at*;exact cmpBytes_zero om
def lt_cmp:∀x y:Bs,x<y↔ltN x y
 |[],[]=>by simp[ltN,Lib.compareBytes]
 |[],_::_=>by simp[ltN,Lib.compareBytes]
 |_::_,[]=>by simp[ltN,Lib.compareBytes]
 |a::x,b::y=>by
  rw[List.cons_lt_cons_iff,lt_cmp x y];unfold ltN;simp only[Lib.compareBytes];by_cases c:a<b
  ·simp[c]
  ·by_cases d:b<a
   ·have:a≠b:=fun e=>by subst e;exact c d
    simp[c,d,this]
   ·have:a=b:=UInt8.le_antisymm (UInt8.not_lt.1 d) (UInt8.not_lt.1 c);simp[this]
def ZiF{a l:List Bs}(v:a.Perm l)(c:∀i i' (h:i<a.length) (C:i'<a.length),i<i'-> ¬ltN a[i'] a[i]):Lib.compact a=X5 Lib.compareBytes l:=by
 have f:∀i (h:i<a.length),a.toArray[i]! =a[i]:=fun i h=>by rw[getElem!_pos a.toArray i (by simpa using h)];simp
 have p:∀m,m<=a.length->(∀x,x∈Lib.compactUpTo a.toArray m↔ ∃j,∃h:j<a.length,j<m/\a[j]=x)/\(Lib.compactUpTo a.toArray m).Pairwise ltN:=by
  intro m;induction m with
  |zero=>intro _;simp[Lib.compactUpTo]
  |succ m ih=>
   intro D;obtain⟨r,s⟩:=ih om;have b:m<a.length:=om;rw[Lib.compactUpTo_succ];by_cases hk:Lib.keeps a.toArray m=true
   ·rw[if_pos hk,f m b];refine⟨fun x=>?_,List.pairwise_append.2 ⟨s,sm,fun x q y u=>?_⟩⟩
    ·simp only[Qr,r,Qo];constructor
     ·rintro(⟨j,h,g,rfl⟩|rfl)
      ·exact⟨j,h,om,rfl⟩
      ·exact⟨m,b,om,rfl⟩
     ·rintro⟨j,h,g,rfl⟩;by_cases e:j=m
      ·subst e;exact .inr rfl
      ·exact .inl ⟨j,h,om,rfl⟩
    ·simp only[Qo]at u;subst u;obtain⟨j,h,g,rfl⟩:=(r x).1 q;have n:=c j m h b g;by_cases e:ltN a[j] a[m]
     ·exact e
     ·have t:=ZnG e n
      exfalso
      have d:a[m]≠a[m - 1]:=by
       simp only[Lib.keeps,Md,beq_iff_eq,bne_iff_ne,decide_eq_true_eq]at hk;rcases hk with hk|hk
       ·omega
       ·rw[f m b,f (m - 1) om]at hk;exact hk
      by_cases z:j=m - 1
      ·subst z;exact d t.symm
      ·have A:=c j (m - 1) h om om;have B:=c (m - 1) m om b om;by_cases o:ltN a[m - 1] a[m]
       ·rw[<-t]at o;exact A o
       ·exact d (ZnG B o)
   ·rw[if_neg hk,Qu];refine⟨fun x=>?_,s⟩;rw[r];constructor
    ·rintro⟨j,h,g,rfl⟩;exact⟨j,h,om,rfl⟩
    ·rintro⟨j,h,g,rfl⟩;by_cases e:j=m
     ·subst e;simp only[Lib.keeps,Md,beq_iff_eq,bne_iff_ne,decide_eq_true_eq,not_or]at hk;have w:j≠0:=fun e=>by simp[e]at hk
      have k:a[j]=a[j - 1]:=by
       have:=hk;rw[f j h,f (j - 1) om]at this;simpa using this.2
      exact⟨j - 1,om,om,k.symm⟩
     ·exact⟨j,h,om,rfl⟩
 obtain⟨n,k⟩:=p a.length (Qi _);refine serN.unique (fun _ _=>trivial) k (serN.set_asc fun _ _=>trivial) fun x=>?_
 rw[serN.set_mem (fun _ _=>trivial),Lib.compact,n,<-v.mem_iff];constructor
 ·rintro⟨j,h,_,rfl⟩;exact Qa h
 ·intro q;obtain⟨j,h,rfl⟩:=QK q;exact⟨j,h,h,rfl⟩
def ZiG(d:List Bs):Lib.compact (d.mergeSort fun x y=>decide (x<=y))=X5 Lib.compareBytes d:=by
 have e:∀x y:Bs,decide (x<=y)=true↔ ¬ltN y x:=fun x y=>by rw[decide_eq_true_eq,<-lt_cmp,List.not_lt]
 refine ZiF (List.mergeSort_perm _ _) fun i l h g m=>?_
 have f:(d.mergeSort fun x y=>decide (x<=y)).Pairwise fun x y=>decide (x<=y)=true:=by
  refine List.pairwise_mergeSort (fun a b c k j=>?_) (fun a b=>?_) d
  ·rw[decide_eq_true_eq]at*;exact List.le_trans k j
  ·rw[Md,decide_eq_true_eq,decide_eq_true_eq];exact List.le_total a b
 exact(e _ _).1 (Gt.1 f i l h g m)
open Go.Shelf Go.Sort
section
variable {P:Program}
def Zlt{E:Env}:∀{l:List Bs} {a:List Value},VRs E ((l.map AV.str)) a->a=l.map encStr
 |[],a,h=>h.of_nil
 |x::l,a,h=>by
  obtain⟨v,r,rfl,b,c⟩:=VRs.Yw h;cases b;rw[Zlt c];rfl
def Zlk(E:Env):∀l:List Bs,VRs E ((l.map AV.str)) (l.map encStr)
 |[]=>VRs.nil E
 |x::l=>VRs.cons (.str _) (Zlk E l)
def ZeS{m:Nat}{H:Za}{E:Env}{w:World}(t:Zo m H E w){l j f a e:Nat}{b:List Bs}(q:E.hist l j b.length=some (.slice (some ⟨f,0,none⟩) b.length a))(r:H l j=some (.Zg e 1 ((b.map AV.str)) b.length))(d:0<b.length):
  ∃c,E.g l j=some f/\w.heap[f]? =some (.cells c e (0,0))/\b.length<=a/\a<=maxLen/\c.size=a/\(∀o,E.F f o=none)/\c.toList.take b.length=b.map encStr/\f<w.heap.size:=by
 obtain⟨c,s,i,u,p,k,n,h,v⟩:=t.mrow q r d;rw[Gs]at k h;exact⟨c,s,i,u,p,k,n,Zlt h,(QO.1 i).1⟩
def str_holds{w:World}{f e:Nat}{d:Array Value}{a:List Bs}(i:w.heap[f]? =some (.cells d e (0,0)))(k:a.length<=d.size)(j:d.toList.take a.length=a.map encStr):Holds encStr w f 0 a.toArray:=fun t h=>by
 have c:t<a.length:=by simpa using h
 have b:w.cell? ⟨f,0+t,none⟩=d[t]?:=by simp only[World.cell?,i];simp
 refine⟨?_,by simp[World.frozen?,i]⟩;rw[b];have g:(d.toList.take a.length)[t]? =(a.map encStr)[t]?:=by rw[j]
 rw[QT c,Ub,Qe c,Ut,UK]at g;rw[g,getElem!_pos a.toArray t h];simp
def Zir{m:Nat}{H:Za}{E:Env}{w:World}(k:Zo m H E w){l j b f e:Nat}{a:List Bs}(i:E.hist l j a.length=some (.slice (some ⟨b,0,none⟩) a.length f))(y:H l j=some (.Zg e 1 ((a.map AV.str)) a.length))(c:0<a.length)
  (d:Array Bs) (u:d.size=a.length) (q:Nat):
  Zo m (H.upd l j (.Zg e 1 ((d.toList.map AV.str)) a.length)) E (putRow encStr (Go.Sort.ahead w q) b 0 d)/\Ext m E w E (putRow encStr (Go.Sort.ahead w q) b 0 d):=by
 obtain⟨h,x,G,B,D,C,v,I,L⟩:=ZeS k i y c;have n:(putRow encStr (Go.Sort.ahead w q) b 0 d).heap[b]? =some (.cells (putCells encStr 0 d h) e (0,0)):=by
  simp only[putRow,mapBlock,U5,if_true,Go.Sort.ahead,G,Ut,onCells]
 have p:(putCells encStr 0 d h).size=h.size:=by simp[putCells]
 refine k.turn (.inr x) (.Zg e 1 ((d.toList.map AV.str)) a.length) (fun _=>rfl) rfl rfl rfl (fun _=>GU _ _) (by simp[putRow,mapBlock,Go.Sort.ahead])
  (fun J s=>by simp only[putRow,mapBlock,U5,Go.Sort.ahead];rw[if_neg (fun e=>s e.symm)]) v ?_
 obtain⟨⟨_,M,g,r,_⟩,o⟩:=k.Zg l j e 1 ((a.map AV.str)) a.length (k.norm.Xg i) y;rw[i]at g;cases g;refine⟨⟨by simp[u],_,i,r,.inr ⟨b,f,_,rfl,x,n,B,D,by rw[p,C,Gs],v,?_⟩⟩,o⟩;have F:(putCells encStr 0 d h).toList.take (a.length*1)=d.toList.map encStr:=by
  rw[Gs];apply Gv
  ·simp[putCells,u];omega
  ·intro t K z;have A:t<d.size:=by simpa using z
   rw[GI];simp only[putCells,MJ,QaP,QZ];rw[if_pos ⟨Us _,om⟩,MV,getElem!_pos d t A]
 rw[F];exact Zlk E _
def Zq4{ρ:Ren}(L:Lays.n190 P ρ)(n:Nat)(H:Za)(l j e k:Nat)(xs:List Bs)(B:H l j=some (.Zg e 1 (xs.map AV.str) xs.length))(F:xs.length<=1000000000):
  Zh P n (ρ.f 190) [.msl k l j xs.length] H fun r H'=>r= .tup []/\H'=H.upd l j (.Zg e 1 ((xs.mergeSort fun x y=>decide (x<=y)).map AV.str) xs.length):=fun E w vs hr hv=>by
 obtain⟨Q,M,rfl,o,hv⟩:=hv.Yw;rw[hv.of_nil];cases g:xs with
 |nil=>
  subst g;have c:∀a cap,Calls P (ρ.f 190) #[.slice a 0 cap] w fun z w'=>∃r v H' E',z= .returned v/\(r= .tup []/\H'=H.upd l j (.Zg e 1 ((([]:List Bs).mergeSort fun x y=>decide (x<=y)).map AV.str) 0))/\VR E' r v/\Zo n H' E' w'/\Ext n E w E' w':=fun a cap=>
   (Any.slices_Sort_string_none L a cap w).mono fun z w' ⟨he,hw⟩=>by
    subst hw he;exact⟨.tup [],_,H,E,rfl,⟨rfl,by simpa using(Z7 B).symm⟩,.tup [] [] rfl (fun i h=>absurd h (Qj _)),hr,.refl _ _ _⟩
  generalize A:AV.msl k l j ([]:List Bs).length=av at o;cases o<;>cases A
  ·exact c _ _
  ·exact c _ _
 |cons x0 xr=>
  rw[<-g];have d:0<xs.length:=by rw[g];simp
  obtain⟨nx,hnx⟩:∃m,m=xs.length:=⟨_,rfl⟩
  rw[<-hnx]at o;generalize A:AV.msl k l j nx=av at o;cases o<;>cases A
  ·omega
  rename_i gb cap G;subst hnx;obtain⟨K,O,J,R,U,S,N,I,D⟩:=ZeS hr G B d;have C:Holds encStr w gb 0 xs.toArray:=str_holds J om I;refine Calls.mono (Any.slices_Sort_string L gb 0 cap xs w C D om) ?_;rintro z w' ⟨rfl,m,os,rfl⟩;have s:(xs.mergeSort fun x y=>decide (x<=y)).toArray.size=xs.length:=sm;obtain⟨u,q⟩:=Zir hr G B d _ s m;obtain⟨t,p⟩:=u.below (w':=grow (putRow encStr (Go.Sort.ahead w m) gb 0 (xs.mergeSort fun x y=>decide (x<=y)).toArray) os) ⟨rfl,rfl,rfl,by simp[grow],fun b hb=>by show((putRow encStr (Go.Sort.ahead w m) gb 0 (xs.mergeSort fun x y=>decide (x<=y)).toArray).heap++os)[b]? =_;rw[Gh hb]⟩ (fun _=>Qi _);exact⟨.tup [],_,_,E,rfl,⟨rfl,rfl⟩,.tup [] [] rfl (fun i h=>absurd h (Qj _)),t,q.trans p⟩
def Zlj{ρ:Ren}(L:Lays.n194 P ρ)(n:Nat)(H:Za)(l j e:Nat)(xs:List Bs)(a:0<xs.length)(k:H l j=some (.Zg e 1 ((xs.map AV.str)) xs.length))(i:xs.length<=1000000000):
  Zh P n (ρ.f 194) [.msl 1 l j xs.length] H fun r H'=>r= .sub 1 l j xs.length 0 (Lib.compact xs).length/\H'=H.upd l j (.Zg e 1 (List.map AV.str (Lib.compact xs++List.replicate (xs.length - (Lib.compact xs).length) [])) xs.length):=fun E w vs hr hv=>by
 obtain⟨B,y,rfl,d,hv⟩:=hv.Yw;rw[hv.of_nil];obtain⟨nx,hnx⟩:∃m,m=xs.length:=⟨_,rfl⟩
 rw[<-hnx]at d;generalize s:AV.msl 1 l j nx=av at d;cases d<;>cases s
 ·omega
 rename_i gb cap h;subst hnx;obtain⟨x,A,v,p,F,D,z,o,t⟩:=ZeS hr h k a;have c:Holds encStr w gb 0 xs.toArray:=str_holds v om o;refine Calls.mono (Any.slices_Compact_string L gb 0 cap xs w c om p) ?_;rintro C w' ⟨rfl,q,rfl⟩;have u:(Lib.compact xs).length<=xs.length:=Lib.compact_length_le xs;obtain⟨g,b⟩:=Zir hr h k a (Lib.compact xs++List.replicate (xs.length - (Lib.compact xs).length) []).toArray (by simp;omega) q;refine⟨_,_,_,E,rfl,⟨rfl,rfl⟩,?_,g,b⟩;have:=VR.sub (E:=E) 1 l j xs.length 0 (Lib.compact xs).length gb cap h om;simpa using this
def Zjt{ρ:Ren}(L:Lays.n194 P ρ)(n:Nat)(H:Za)(l j:Nat):Zh P n (ρ.f 194) [.msl 1 l j 0] H fun r H'=>r= .msl 1 l j 0/\H'=H:=fun E w vs hr hv=>by
 obtain⟨c,g,rfl,b,hv⟩:=hv.Yw;rw[hv.of_nil];have:∃a cap,c= .slice a 0 cap:=by
  generalize d:AV.msl 1 l j 0=av at b;cases b<;>cases d
  ·exact⟨_,_,rfl⟩
  ·exact⟨_,_,rfl⟩
 obtain⟨a,cap,rfl⟩:=this;refine Calls.mono (Any.slices_Compact_string_empty L a cap w) ?_;rintro e w' ⟨rfl,rfl⟩;exact⟨_,_,_,E,rfl,⟨rfl,rfl⟩,b,hr,.refl _ _ _⟩
end
end Go.Abs

namespace Go.Proofs
open Go.Shelf
def Tryz.lays190_ren:Go.Shelf.Ren:=⟨fun|190=>163|125=>188|258=>237|128=>264|129=>265|302=>300|303=>301|304=>302|305=>303|306=>304|307=>305|308=>306|309=>307|310=>308|333=>364|329=>327|330=>328|334=>365|335=>366|336=>367|344=>403|n=>n,fun|31=>133|9=>9|3=>3|46=>270|0=>0|51=>334|53=>336|4=>4|183=>328|182=>327|131=>296|5=>5|218=>371|222=>178|228=>406|229=>407|n=>n,fun|n=>n⟩
def Tryz.lays190:Go.Proofs.Lays.n190 prog Tryz.lays190_ren:=by
 repeat' first|kernel_rfl|exact bO|(intro w;kernel_rfl)|constructor
def Tryz.lays194_ren:Go.Shelf.Ren:=⟨fun|194=>164|n=>n,fun|31=>133|9=>9|3=>3|4=>4|0=>0|n=>n,fun|n=>n⟩
def Tryz.lays194:Go.Proofs.Lays.n194 prog Tryz.lays194_ren:=by
 repeat' first|kernel_rfl|exact bO|(intro w;kernel_rfl)|constructor
end Go.Proofs

namespace Go.Proofs.YthajllbimoodjaaGreatDoor
open Go.Abs
def nm1(t:Tm):List Str:=if t.kind=3 then [t.name]else []
theorem nmT_subs:(∀t:Tm,nmT t=(subs t).flatMap nm1)/\ ∀l:LT,nmT.nms l=(subs.subss l).flatMap nm1:=by
 have h:∀t:Tm,nmT t=(subs t).flatMap nm1:=fun t=>Tm.rec (motive_1:=fun t=>nmT t=(subs t).flatMap nm1) (motive_2:=fun l=>nmT.nms l=(subs.subss l).flatMap nm1)
  (fun k n s l ih=>by rw[nmT,subs,Uk,ih];rfl) rfl (fun t r a b=>by rw[nmT.nms,subs.subss,Uz,a,b]) t
 refine⟨h,fun l=>?_⟩;induction l with
 |nil=>rfl
 |cons t r ih=>rw[nmT.nms,subs.subss,Uz,h,ih]
def subs_good:∀(t:Tm),t.Good-> ∀u∈subs t,u.Good
 | .mk k n s l,h,u,hu=>by
  rw[ZnW]at hu;rcases Ql.1 hu with rfl|hu
  ·exact h
  ·obtain⟨v,b,hu⟩:=QI.1 hu;have a:v∈l:=b;exact subs_good v (h.arg b) u hu
termination_by t=>SizeOf.sizeOf t
decreasing_by
 have:=QU a;simp only[Tm.mk.sizeOf_spec];omega
abbrev YK(l:List Str):LA:=l.map AV.str
theorem flat_aStrs:∀l:List Str,flat (YK l)=YK l
 |[]=>rfl
 |x::l=>by simp only[YK,Qs,Yc];rw[show flat (l.map AV.str)=l.map AV.str from flat_aStrs l];rfl
section
variable {p:Nat->Prop} {n:Nat}
def ZuR(l:List Str):∀c∈YK l,Inside n p c:=fun c a=>by obtain⟨u,_,rfl⟩:=Qg.1 a;exact .str _
def ZuB(e c k:Nat)(l:List Str):Ze.Below n (.Zg e c (YK l) k):=⟨fun a b=>by obtain⟨u,_,rfl⟩:=Qg.1 b;exact .str _,by simp[Ze.at_]⟩
def XA{n:Nat}{p:Nat->Prop}:∀l:List Str,ZW (fun c=>Inside n p c) (YK l)
 |[]=>trivial
 |_::l=>⟨.str _,XA l⟩
def VT{k:Nat}(l:List Str):Below n (.sl k (YK l) .any):=Zl fun x a=>by obtain⟨u,_,rfl⟩:=Qg.1 a;exact .str _
def Zh1{a l k i:Nat}(h:l<n\/(l=n/\p k)):Inside n p (.msl a l k i):=.msl _ _ _ _ h
def ZaT{f:Nat}{caps:LA}(h:ZW (fun c=>Below n c) caps):Below n (.fn (.func f) caps):=.fn _ _ fun i a=>h.mem _ (Qa a)
def ZdU(t:Tm)(i:Nat):List Str:=((subs t).take i).flatMap nm1
def L56(t:Tm)(n:Nat)(a:List Str):List (Nat×Ze):=[(1,.box t.cs),(2,.box [.msl 1 n 200 a.length]),(200,.Zg 9 1 (YK a) a.length)]
def j56(t:Tm)(W:t.Good)(hl:(nmT t).length<=1000000):Pure prog 69 [t.enc] (.sl 1 (YK (Z8 t)) .any):=by
 intro n H;refine aF func69 fun B=>?_
 refine gc ?_;refine cP (Zus t) ?_;refine kK ?_;refine Za5 2 200 0 9 1 rfl rfl rfl ?_;refine aS ?_;simp only[go_sem,simprocAttr,U4];obtain⟨tm,htm⟩:∃tm:LN,tm=[(5,.fn (.func 235) [.iptr t.cs]),(4,t.enc),(2,.ptr n 2 0),(1,.ptr n 1 0),(0,t.enc)]:=⟨_,rfl⟩
 have h5:lkv tm 5= .fn (.func 235) [.iptr t.cs]:=by rw[htm];rfl
 have w:lkv tm 2= .ptr n 2 0:=by rw[htm];rfl
 have F:ZW (fun p=>Below (n+1) p.2) tm:=by
  rw[htm];exact⟨ZaT ⟨Zj t.bcs,trivial⟩,t.blw _,.ptr _ _ _ (Qq n),.ptr _ _ _ (Qq n),t.blw _,trivial⟩
 refine ZV (tm:=[(5,.fn (.func 235) [.iptr t.cs]),(4,t.enc),(2,.ptr n 2 0),(1,.ptr n 1 0),(0,t.enc)]) (L:=L56 t n []) (H:=H) rfl ?_;rw[<-htm];clear htm;refine Ze9 (caps:=[.iptr t.cs]) 100 rfl (by simp only[go_sem,simprocAttr,h5]) (Zf func235 rfl rfl) rfl fun y=>?_
 refine⟨_,Zxw (x:=n) (l:=y) (L:=subs t) (S:=fun i=>lkb (setb (L56 t n (ZdU t i)) 100 (.lrec y Tryz.f69.ntmps 0 tm #[6] (Zz Tryz.f69).snd.fst.snd.fst.fst (Zz Tryz.f69).snd.fst.snd.fst.snd .ready none))) (H0:=H) ?_ ?_ t W rfl (n+1) _ (Qq n) (fun R k h=>by simp only[full];rw[if_neg om]) (fun k=>by simp only[full,if_true];rfl),?_⟩
 ·intro m H' i u Y X V c;have U:¬n=m:=om;have s:=c 2;have g:=c 200;have b:=c 100;simp only[L56,setb,lkb]at s g b;have ay:=subs_good t W u (Gf X);refine Zh7 tt (x:=n) (y:=100) b Y rfl dc fun B'=>?_
  show AKc _ _ _ ⟨(6,u.enc)::tm,[],H'⟩;refine gd ?_;refine⟨rfl,b,?_⟩;refine gP ?_;have d:ZdU t (i+1)=ZdU t i++nm1 u:=by
   obtain⟨hi,Q⟩:=Q7.1 X;unfold ZdU;rw[Qn hi,Uz,Q];simp
  have ax:(ZdU t i).length<=1000000:=by
   have h3:(ZdU t i).length<=(nmT t).length:=by
    rw[nmT_subs.1 t];unfold ZdU
    conv=>rhs;rw[<-Q8 i (subs t),Uz,Qh]
    omega
   omega
  cases z:u.kind==3 with
  |false=>
   have o:nm1 u=[]:=by unfold nm1;rw[if_neg (by simpa using z)]
   rw[o,Qu]at d;refine nFq z ?_;refine kK ?_;refine nN ?_;refine⟨by simp[Za.upd],rfl,?_⟩;rw[d,ZmH c];exact Zlp b
  |true=>
   have o:nm1 u=[u.name]:=by unfold nm1;rw[if_pos (by simpa using z)]
   rw[o]at d;refine nTq z ?_;refine nr ?_;simp only[go_sem,simprocAttr,U,w,s,g,full,Za.upd,(show¬m=n by omega)];have K:YK (ZdU t i)++flat [AV.str u.name]=YK (ZdU t i++[u.name]):=by simp[YK,flat,AV.cells]
   have N:(ZdU t i).length+1=(ZdU t i++[u.name]).length:=sm;rw[K];refine⟨rfl,⟨Zn om,om⟩,.inr (ZuB _ _ _ _),.inr (Ze.Zy ⟨.msl _ _ _ _ Y,trivial⟩),?_⟩;rw[N];refine kK ?_;refine nN ?_;refine⟨by simp[Za.upd],rfl,Zj2 (fun j=>?_) (fun R j C=>?_)⟩
   ·rw[d];by_cases M:j=100
    ·subst M;simp[Za.upd,setb,lkb,L56]
    ·by_cases I:j=2
     ·subst I;simp[Za.upd,setb,lkb,L56]
     ·by_cases O:j=200
      ·subst O;simp[Za.upd,setb,lkb,L56]
      ·simp[Za.upd,M,I,O,c j,setb,lkb,L56,Ne.symm M,Ne.symm I,Ne.symm O]
   ·simp[Za.upd,C]
 ·intro i j b' h;have Z:ZW (fun q:Nat×Ze=>q.2.Below (n+1)) (setb (L56 t n (ZdU t i)) 100 (.lrec y Tryz.f69.ntmps 0 tm #[6] (Zz Tryz.f69).snd.fst.snd.fst.fst (Zz Tryz.f69).snd.fst.snd.fst.snd .ready none)):=
   ⟨Ze.Zy t.bcs,Ze.Zy ⟨.msl _ _ _ _ (Qq n),trivial⟩,ZuB _ _ _ _,Ze.ZaS F,trivial⟩
  exact Z.mem _ (lkb_mem h)
 ·rintro r J rfl;have v:ZdU t (subs t).length=nmT t:=by unfold ZdU;rw[QV,<-nmT_subs.1]
  rw[v];generalize hN:nmT t=ns at hl;have A:Lib.compact (ns.mergeSort fun x y=>decide (x<=y))=Z8 t:=by rw[ZiG,Z8,hN]
  refine⟨setb (L56 t n ns) 100 (.lrec y Tryz.f69.ntmps 0 tm #[6] (Zz Tryz.f69).snd.fst.snd.fst.fst (Zz Tryz.f69).snd.fst.snd.fst.snd .ready none),H,.ready,none,?_,.refl _ _,rfl,sm,?_⟩
  ·funext R j;simp only[Za.YP,full];by_cases e:R=n
   ·rw[if_pos e,if_pos e]
   ·rw[if_neg e,if_neg e,if_neg e]
  simp only[go_sem,simprocAttr,L56,setb];refine nq w ?_;refine YS (caps:=[]) (avs:=[.msl 1 n 200 ns.length]) rfl (Zf func163 rfl rfl) (Zq4 (P:=prog) Tryz.lays190 (n+1) _ n 200 9 1 ns sS om) sS ?_;rintro r J ⟨rfl,rfl⟩;obtain⟨a,hys⟩:∃a,a=ns.mergeSort fun x y=>decide (x<=y):=⟨_,rfl⟩
  have E:a.length=ns.length:=by rw[hys];simp
  rw[<-hys]at A⊢;refine⟨[(1,.box t.cs),(2,.box [.msl 1 n 200 ns.length]),(200,.Zg 9 1 (YK a) ns.length),(100,.lrec y Tryz.f69.ntmps 0 tm #[6] (Zz Tryz.f69).snd.fst.snd.fst.fst (Zz Tryz.f69).snd.fst.snd.fst.snd .exhausted none)],H,(Zm n _ H 200 _).symm,.refl _ _,?_⟩;rw[<-E];refine gM ?_;refine ZJ (s':=⟨[(2,.ptr n 2 0)],[(2,.box [.msl 1 n 200 a.length]),(200,.Zg 9 1 (YK a) a.length)],H⟩) ?_ ?_
  ·apply kZ;repeat' first|apply q0|exact xx|apply aI
   all_goals first|exact XA a|(show Wk (lkv tm 2) _;rw[w];exact .refl _)|(show Inside _ _ (lkv tm 2);rw[w];exact .ptr _ _ _ (.inr ⟨rfl,rfl⟩))|(show Inside n _ (.msl 1 n 200 a.length);exact Zh1 (.inr ⟨rfl,rfl⟩))
  rcases MW a.length with h0|hpos
  ·have hn:a=[]:=Ua h0;subst hn;refine nR ?_;refine YS (caps:=[]) (avs:=[.msl 1 n 200 0]) rfl (Zf func164 rfl rfl) (Zjt (P:=prog) Tryz.lays194 (n+1) _ n 200) sS ?_;rintro r J ⟨rfl,rfl⟩;refine⟨[(2,.box [.msl 1 n 200 0]),(200,.Zg 9 1 [] 0)],H,rfl,.refl _ _,?_⟩;refine gM ?_;refine ZJ (YU (tm':=[(2,.ptr n 2 0)]) (av':=.sl 1 (YK []) .any) (j0:=2) (i:=0) (j:=200) 14 (show 14<19 by decide) [] dc rfl rfl (.inl ⟨_,rfl,rfl⟩) rfl rfl rfl sm sm ?_ ?_) ?_
   ·simp[lkv,Wk.refl];exact .ptr _ _ _ sm
   ·simp[setb,delb];exact Ze.Zv ⟨.dead,trivial⟩
   simp only[go_sem,simprocAttr,setb,delb];refine nV ?_;rw[<-A];refine YH (.inl rfl) _ n 2 0 [.sl 1 [] .any] sS (by simp only[go_sem,simprocAttr,full,U4]) rfl (Qi _) sS ?_ (VT _) rfl;refine aS ?_;exact .refl _
  ·refine nR ?_;refine YS (caps:=[]) (avs:=[.msl 1 n 200 a.length]) rfl (Zf func164 rfl rfl) (Zlj (P:=prog) Tryz.lays194 (n+1) _ n 200 9 a hpos sS om) sS ?_;rintro r J ⟨rfl,rfl⟩;rw[A];have az:(Z8 t).length<=a.length:=by rw[<-A];exact Lib.compact_length_le a
   obtain⟨f,hzs⟩:∃f,f=Z8 t++List.replicate (a.length - (Z8 t).length) ([]:Bs):=⟨_,rfl⟩
   rw[<-hzs];have G:f.length=a.length:=by rw[hzs];simp;omega
   have D:f.take (Z8 t).length=Z8 t:=by rw[hzs];simp
   refine⟨[(2,.box [.msl 1 n 200 a.length]),(200,.Zg 9 1 (YK f) a.length)],H,(Zm n _ H 200 _).symm,.refl _ _,?_⟩;refine gM ?_;refine ZJ (YU (tm':=[(2,.ptr n 2 0)]) (av':=.sl 1 (YK (Z8 t)) .any) (j0:=2) (i:=0) (j:=200) 14 (show 14<19 by decide) (YK f) dc rfl rfl (.inr ⟨0,_,rfl,by rw[Qab,YK,YK,<-List.map_take,D]⟩) rfl (flat_aStrs f) (by simp[G]) (fun x hx=>by obtain⟨u,_,rfl⟩:=Qg.1 hx;rfl) (ZuR f) ?_ ?_) ?_
   ·simp[lkv,Wk.refl];exact .ptr _ _ _ sm
   ·simp[setb,delb];exact Ze.Zv ⟨.dead,trivial⟩
   simp only[go_sem,simprocAttr,setb,delb];refine nV ?_;refine YH (.inl rfl) _ n 2 0 [.sl 1 (YK (Z8 t)) .any] sS (by simp only[go_sem,simprocAttr,full,U4]) rfl (Qi _) sS ?_ (VT _) rfl;refine aS ?_;exact .refl _
end
end Go.Proofs.YthajllbimoodjaaGreatDoor
