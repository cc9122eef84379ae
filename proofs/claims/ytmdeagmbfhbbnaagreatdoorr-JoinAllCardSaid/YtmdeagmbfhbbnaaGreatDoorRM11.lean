/- Bindings are the same; a binding is among others. -/
import Derived.Test.YtmdeagmbfhbbnaaGreatDoorRM10
import Derived.Test.YtmdeagmbfhbbnaaGreatDoorRM05
set_option linter.all false
set_option maxRecDepth 100000
open Go.Proofs.Tryz
namespace Go.Proofs.YtmdeagmbfhbbnaaGreatDoorR
open Go.Abs
def ZcM(p q:Str×Tm):Bool:=(p.1==q.1)&&eqT p.2 q.2
def ZnX(p q:Str×Tm):ZcM p q=true↔p=q:=by
 unfold ZcM;rw[Qd,beq_iff_eq,eqT_iff];exact⟨fun h=>Qbc h.1 h.2,fun h=>by rw[h];exact⟨rfl,rfl⟩⟩
def ZvW(p q:Str×Tm)(hp:p.2.Good):Pure prog 107 [eBd p,eBd q] (.bool (ZcM p q)):=by
 intro n H;refine aF func107 fun B=>?_
 refine nR ?_;cases h1:(p.1==q.1)with
 |true=>
  refine nq h1 ?_;refine cP (a62 p.2 q.2 hp) ?_;refine YG rfl rfl ?_;refine Zc ?_ (.bool _) rfl;try simp only[go_sem,simprocAttr,ZcM,h1,Ud]
  exact .refl _
 |false=>
  refine nq h1 ?_;refine YG rfl rfl ?_;refine Zc ?_ (.bool _) rfl;try simp only[go_sem,simprocAttr,ZcM,h1,UA]
  exact .refl _
def Zbl(b c:Bnd):Bool:=(b.length==c.length)&&(b.zip c).all fun x=>ZcM x.1 x.2
def ZlJ(b:Bnd):Zbl b b=true:=by
 unfold Zbl;rw[Qd,Qy];refine⟨sm,fun x hx=>(ZnX _ _).2 ?_⟩;obtain⟨i,hi,rfl⟩:=QJ hx;simp
def ZwL(b c:Bnd)(H:Za)(i:Nat):Zb:=⟨[(5,.int .i64 i),(0,.sl 5 (b.map eBd) .any),(1,.sl 5 (c.map eBd) .any)],[],H⟩
def e58(b c:Bnd)(hb:b.length≤1000000)(gb:∀q∈b,q.2.Good):Pure prog 58 [Zj b,Zj c] (.bool (Zbl b c)):=by
 intro n H;have hin:∀q,Inside n q (.sl 5 (b.map eBd) .any)∧Inside n q (.sl 5 (c.map eBd) .any):=fun q=>⟨(Zw n b).inside,(Zw n c).inside⟩
 refine aF func58 fun B=>?_
 refine nR ?_;by_cases hl:b.length=c.length;rotate_left
 ·have hn:((b.length:Int) !=(c.length:Int))=true:=by simp;omega
  have hs:Zbl b c=false:=by unfold Zbl;rw[Bool.and_eq_false_iff];exact .inl (by simpa using hl)
  refine nr ?_;simp only[go_sem,simprocAttr,Zj,hn];refine gi ?_;refine YG rfl rfl ?_;refine Zc ?_ (.bool _) rfl;try simp only[go_sem,simprocAttr,hs]
  exact .refl _
 have hn:((b.length:Int) !=(c.length:Int))=false:=by simp;omega
 have hs:Zbl b c=(b.zip c).all fun x=>ZcM x.1 x.2:=by unfold Zbl;rw[show(b.length==c.length)=true by simpa using hl,Ud]
 rw[hs];refine nr ?_;simp only[go_sem,simprocAttr,Zj,hn];refine gv ?_;repeat refine kn rfl ?_
 refine ZL (ZwL b c H) (fun i=>((b.zip c).all fun x=>ZcM x.1 x.2)=(((b.zip c).drop i).all fun x=>ZcM x.1 x.2)) b.length rfl ?_ sm ?_
 ·exact KK
 intro i hi hq;refine ZQ rfl ?_;rcases Qe i b.length with h|h
 ·have h':i<c.length:=om;have hz:i<(b.zip c).length:=by rw[List.length_zip];omega
  rw[Qu hz,Qbp,List.getElem_zip]at hq;simp only at hq;refine nq h ?_;refine nT ?_;refine dq4 (getD_map eBd _ _ h) (getD_map eBd _ _ h') h h' ?_;refine cP (ZvW b[i] c[i] (gb _ (Qa h))) ?_;cases hsp:ZcM b[i] c[i]with
  |false=>
   rw[hsp,UA]at hq;refine gn ?_;rw[hq];exact Zc (.refl _) (.bool _) rfl
  |true=>
   rw[hsp,Ud]at hq;refine gD ?_;refine⟨hq,?_⟩;exact KK
 ·have hd:(b.zip c).drop i=[]:=QT (by rw[List.length_zip];omega);rw[hd]at hq;rw[hq];refine nq (QD.2 h) ?_;refine gG ?_;exact pB
def ZuR(R:List Bnd)(b:Bnd)(H:Za)(i:Nat):Zb:=⟨[(5,.int .i64 i),(0,.sl 1 (R.map Zj) .any),(1,.sl 5 (b.map eBd) .any)],[],H⟩
def e14(R:List Bnd)(b:Bnd)(hR:R.length≤1000000)(hl:∀c∈R,c.length≤1000000)(gR:∀c∈R,∀q∈c,q.2.Good):Pure prog 14 [.sl 1 (R.map Zj) .any,Zj b] (.bool (R.any fun c=>Zbl c b)):=by
 intro n H;have hin:∀q,Inside n q (.sl 1 (R.map Zj) .any)∧Inside n q (.sl 5 (b.map eBd) .any):=fun q=>⟨(ZF _).inside,(Zw n b).inside⟩
 refine aF func14 fun B=>?_
 refine gk ?_;refine ZL (ZuR R b H) (fun i=>(R.any fun c=>Zbl c b)=((R.drop i).any fun c=>Zbl c b)) R.length rfl ?_ sm ?_
 ·unfold ZuR;exact KK
 intro i hi hq;refine ZQ rfl ?_;rcases Qe i R.length with h|h
 ·rw[Qu h,Qan]at hq;have hm:=Qa h;refine nr ?_;refine aq h ?_;refine nT ?_;refine nq2 (getD_map Zj _ _ h) h ?_;refine WE (Zf func58 rfl rfl) (e58 R[i] b (hl _ hm) (gR _ hm)) (by simp only[go_sem,simprocAttr,Zj]) ?_;simp only[go_sem,simprocAttr,Zj];cases hsp:Zbl R[i] b with
  |true=>
   rw[hsp,UR]at hq;refine gn ?_;rw[hq];exact Zc (.refl _) (.bool _) rfl
  |false=>
   rw[hsp,U5]at hq;refine gD ?_;refine⟨hq,?_⟩;exact KK
 ·rw[QT h]at hq;rw[hq];refine nq (QD.2 h) ?_;refine gG ?_;exact pB
def bfU(H:Za)(lo q:Nat)(l:List Tm):Za:=H.upd lo q (.buf 40 4 l.length)
def ZqU(H:Za)(lo q:Nat)(l:List Tm):bfU H lo q l lo q=some (.buf 40 4 l.length):=Za.upd_same _ _ _ _
section
variable {lo q:Nat}
def Zqt{H:Za}(hT:Tabs H)(h:0<lo)(l:List Tm):Tabs (bfU H lo q l):=hT.up fun _=>Za.upd_ne _ _ om
def Zhz{n:Nat}(h:lo<n)(l:List Tm):Below n (.sl 4 (l.map Tm.enc) (.buf lo q)):=YN (mB fun u=>u.blw n) fun _ _ e=>by cases e;exact h
def JW(t:Tm)(l:List Tm):List Tm:=if Zo t&& !(l.any fun u=>cmpT u t==0)then l++[t]else l
def Zku(t:Tm)(l:List Tm):collS t l=collS.colls t.args (JW t l):=by cases t;rw[collS];rfl
def colls_snoc:∀(r:List Tm) (u:Tm) (l:List Tm),collS.colls (r++[u]) l=collS u (collS.colls r l)
 |[],u,l=>by simp only[Q5,collS.colls]
 |t::r,u,l=>by simp only[Q8,collS.colls,colls_snoc r u]
variable {l:List Tm} {t:Tm}
def ZgG(ht:t.Good)(hl:∀u∈l,u.Good):∀u∈JW t l,u.Good:=fun u hu=>by
 unfold JW at hu;split at hu
 ·rcases Qk.1 hu with hu|hu
  ·exact hl u hu
  ·simp only[Qm]at hu;subst hu;exact ht
 ·exact hl u hu
def Zod(t:Tm)(l:List Tm):(JW t l).length≤l.length+1:=by unfold JW;split<;>simp
def coll_good:(∀t,t.Good→ ∀l,(∀u∈l,u.Good)→ ∀u∈collS t l,u.Good)∧ ∀r,(∀u∈r,u.Good)→ ∀l,(∀u∈l,u.Good)→ ∀u∈collS.colls r l,u.Good:=by
 refine XL (fun k n s a ih ht l hl=>?_) (fun _ l hl=>hl) fun t r h1 h2 hr l hl=>?_
 ·rw[Zku];exact ih (fun u hu=>ht.arg hu) _ (ZgG ht hl)
 ·rw[collS.colls];exact h2 (fun u hu=>hr u (Qz _ hu)) _ (h1 (hr t QaG) l hl)
def szs_tk:∀(r:List Tm) (i:Nat) (h:i<r.length),Tm.sz.szs (r.take i)+r[i].sz≤Tm.sz.szs r
 |t::r,0,_=>by simp[Tm.sz.szs]
 |t::r,i+1,h=>by have:=szs_tk r i (by simpa using h);simp only[MR,Tm.sz.szs,UU];omega
def ZuX{n m:Nat}:Ze.Below n (.buf 40 4 m):=⟨by simp[Ze.avs],by simp[Ze.at_]⟩
def ZlF(t:Tm):Prop:=∀(n lo q:Nat) (G:Za) (l:List Tm),0<lo→lo<n→Tabs G→(∀u∈l,u.Good)→l.length+t.sz≤1000000→
  Zi prog n 57 [.sl 4 (l.map Tm.enc) (.buf lo q),t.enc] (bfU G lo q l) fun r H'=>r= .sl 4 ((collS t l).map Tm.enc) (.buf lo q)∧H'=bfU G lo q (collS t l)
variable {tm:List (Nat×AV)} {F:Zb→Prop} {ts:List TypeId} {args:List Operand}
def Zuu{cx:Cx}{op:Oper}{L:List (Nat×Ze)}{G:Za}(hP:cx.P=prog)(h0:0<lo)(hlo:lo<cx.n)(hT:Tabs G)(gl:∀u∈l,u.Good)(hlen:l.length+t.sz≤1000000)(hc:ZlF t)
  (ha:Yn cx.T (evT tm) args ts=[.sl 4 (l.map Tm.enc) (.buf lo q),t.enc]) (hF:F ⟨Yk tm op.dst (.sl 4 ((collS t l).map Tm.enc) (.buf lo q)),L,bfU G lo q (collS t l)⟩):WO cx false op (.func 57) args ts ⟨tm,L,bfU G lo q l⟩ F:=by
 obtain⟨P,T,φ,n,N⟩:=cx;subst hP;have hfu:∀m,full n L (bfU G lo q m)=bfU (full n L G) lo q m:=fun m=>Yi n L G lo q _ (Qak hlo)
 have h:=hc (n+1) lo q (full n L G) l h0 (Gt hlo) (hT.full (QaK h0 hlo)) gl hlen;rw[←hfu]at h;refine YT (caps:=[]) (avs:=[.sl 4 (l.map Tm.enc) (.buf lo q),t.enc]) (Qc:=fun r H'=>r= .sl 4 ((collS t l).map Tm.enc) (.buf lo q)∧H'=bfU (full n L G) lo q (collS t l)) rfl (Zf func57 rfl rfl) h ha ?_;rintro r H1 ⟨rfl,rfl⟩;refine⟨L,bfU G lo q (collS t l),(hfu _).symm,?_,hF⟩;intro l' k b hl hb;simp only[bfU,Za.upd]at hb⊢;split at hb
 ·cases hb;exact .inr ZuX
 ·rename_i hne;rw[if_neg hne];exact .inl hb
def Zty(t:Tm)(l:List Tm)(n lo q:Nat)(H:Za)(i:Nat):Zb:=
 ⟨[(6,.int .i64 i),(5,.bool ((l.take i).any fun u=>cmpT u t==0)),(0,.sl 4 (l.map Tm.enc) (.buf lo q)),(3,.ptr n 3 0)],[(3,.box t.cs)],bfU H lo q l⟩
def ZuE(t:Tm)(l:List Tm)(n lo q:Nat)(H:Za)(i:Nat):Zb:=
 ⟨[(7,.int .i64 i),(0,.sl 4 ((collS.colls (t.args.take i) l).map Tm.enc) (.buf lo q)),(3,.ptr n 3 0)],[(3,.box t.cs)],bfU H lo q (collS.colls (t.args.take i) l)⟩
def e57(t:Tm)(ht:t.Good):ZlF t:=by
 have ih:∀u∈t.args,ZlF u:=fun u hu=>e57 u (ht.arg hu)
 intro n lo q G l h0 hlo hTG gl hlen;have hT:=Zqt (q:=q) hTG h0 l;have hn:0<n:=QaK h0 hlo;have hsl:∀(p:Nat→Prop) (m:List Tm),Inside n p (.sl 4 (m.map Tm.enc) (.buf lo q)):=fun p m=>(Zhz hlo m).inside
 have hne:¬lo=n:=Qak hlo;have hss:t.sz=1+Tm.sz.szs t.args:=by cases t;rfl
 refine aF func57 fun B=>?_
 refine gc ?_;refine cT (a37 t ht) ?_;refine WM ⟨[(0,.sl 4 ((JW t l).map Tm.enc) (.buf lo q)),(3,.ptr n 3 0)],[(3,.box t.cs)],bfU G lo q (JW t l)⟩ ?_ ?_
 ·cases hv:Zo t with
  |false=>
   have h1:JW t l=l:=by unfold JW;rw[hv];rfl
   rw[h1];refine nF ?_;refine nN ?_;refine⟨rfl,?_⟩;exact KK
  |true=>
   have hc1:JW t l=if(l.any fun u=>cmpT u t==0)=true then l else l++[t]:=by unfold JW;rw[hv];cases l.any fun u=>cmpT u t==0<;>rfl
   refine nT ?_;refine gk ?_;refine Zm (Zty t l n lo q G) l.length rfl ?_ ?_
   ·exact KK
   intro i hi;refine ZQ rfl ?_;rcases Qe i l.length with h|h
   ·have hst:((l.take (i+1)).any fun u=>cmpT u t==0)=(((l.take i).any fun u=>cmpT u t==0)||(cmpT l[i] t==0)):=by rw[Qj h,List.any_append];simp
    refine nq h ?_;refine nT ?_;cases hfl:(l.take i).any (fun u=>cmpT u t==0)with
    |true=>
     refine dq hfl ?_;refine gd ?_;unfold Zty;rw[hst,hfl,UR];exact KK
    |false=>
     refine dq4 hfl (Tm.Zh _ _ h) h trivial ?_;refine cP (j16 l[i] t (gl _ (Qa h)) ht) ?_;refine gd ?_;unfold Zty;rw[hst,hfl,U5];exact KK
   ·have hi':i=l.length:=om;subst hi';refine nr ?_;simp only[go_sem,simprocAttr,QY];refine gg ?_;cases hany:l.any (fun u=>cmpT u t==0)with
    |true=>
     rw[hany,if_pos rfl]at hc1;rw[hc1];refine nt hany ?_;refine nF ?_;refine nN ?_;refine⟨rfl,?_⟩;exact KK
    |false=>
     rw[hany,if_neg sm]at hc1;rw[hc1];refine nt hany ?_;refine nT ?_;refine nq2 ZqU hne ?_;refine⟨rfl,⟨Zl om,om⟩,.inr ZuX,?_⟩;have hH:(bfU G lo q l).upd lo q (.buf 40 4 (l.length+1))=bfU G lo q (l++[t]):=by
      unfold bfU;rw[Za.Zau,Qh];rfl
     have hm:l.map Tm.enc++[t.enc]=(l++[t]).map Tm.enc:=by rw[QC];rfl
     rw[hH,hm];refine nN ?_;refine⟨rfl,?_⟩;exact KK
 have hal:=ht.len;have g1:=ZgG ht gl;have l1:=Zod t l;have hgT:∀i,∀u∈collS.colls (t.args.take i) (JW t l),u.Good:=fun i=>coll_good.2 _ (fun u hu=>ht.arg (UC hu)) _ g1
 have hcl:∀i,(collS.colls (t.args.take i) (JW t l)).length≤(JW t l).length+Tm.sz.szs (t.args.take i):=fun i=>coll_len.2 _ _
 rw[Zku];generalize JW t l=l' at*;refine gh ?_;refine Zm (ZuE t l' n lo q G) t.args.length rfl ?_ ?_
 ·exact KK
 intro i hi;refine ZQ rfl ?_;rcases Qe i t.args.length with h|h
 ·have hz:=szs_tk t.args i h;have hci:=hcl i;have hsn:collS.colls (t.args.take (i+1)) l'=collS t.args[i] (collS.colls (t.args.take i) l'):=by rw[Qj h,colls_snoc]
  refine nq h ?_;refine nT ?_;refine nq2 (Tm.Zh _ _ h) h ?_;refine Zuu rfl h0 hlo hTG (hgT i) om (ih _ (Qa h)) sS ?_;rw[←hsn];refine aS ?_;refine gd ?_;exact KK
 ·have hi':i=t.args.length:=om;subst hi';refine nr ?_;simp only[go_sem,simprocAttr,QY];refine gg ?_;rw[QI];refine ge ?_;exact Zn (.refl _) (Zhz hlo _) ⟨rfl,rfl⟩
termination_by SizeOf.sizeOf t
decreasing_by exact Tm.Y2 hu
def Zlw{j:Nat}(h:j<8):numsU.take (j+1)=numsU.take j++[Ye ((j:Int) - 1)]:=by
 have hl:j<numsU.length:=h;rw[Qj hl];simp[numsU]
def uni_good:∀(A:List Am),Vp A→ ∀u∈Vw A,u.Good:=fun A hA=>by
 have:∀(A:List Am),Vp A→ ∀l:List Tm,(∀u∈l,u.Good)→ ∀u∈A.foldl (fun l a=>collS.colls a.args l) l,u.Good:=by
  intro A;induction A with
  |nil=>intro _ l h;exact h
  |cons a A ih=>intro hA l h;exact ih (fun x hx=>hA x (Qz _ hx)) _ (coll_good.2 _ (fun u hu=>(hA a QaG).arg hu) _ h)
 exact this A hA _ fun u hu=>Xi (nums_ok.2 u hu)
def uni_len:∀(A:List Am),(Vw A).length≤8+szA A:=fun A=>by
 have:∀(A:List Am) (l:List Tm),(A.foldl (fun l a=>collS.colls a.args l) l).length≤l.length+szA A:=by
  intro A;induction A with
  |nil=>intro l;exact Gx _ _
  |cons a A ih=>
   intro l;have h1:=ih (collS.colls a.args l);have h2:=coll_len.2 a.args l;have h3:a.sz=1+Tm.sz.szs a.args:=rfl;have h4:szA (a::A)=a.sz+szA A:=rfl;rw[Uz];omega
 exact this A numsU
def Zpi(A:List Am)(i:Nat)(h:i<A.length):Vw (A.take (i+1))=collS.colls A[i].args (Vw (A.take i)):=by
 unfold Vw;rw[Qj h,Md];rfl
def szA_tk:∀(A:List Am) (i:Nat) (h:i<A.length),szA (A.take i)+A[i].sz≤szA A
 |a::A,0,_=>by show 0+a.sz≤a.sz+szA A;omega
 |a::A,i+1,h=>by have:=szA_tk A i (by simpa using h);show a.sz+szA (A.take i)+_≤a.sz+szA A;simp only[UU];omega
def Zlj(n:Nat)(H:Za)(m:List Tm):full n [(200,.buf 40 4 m.length)] H=bfU (full n [] H) n 200 m:=Zr n [] H 200 _
def Ztw{cx:Cx}{op:Oper}{H:Za}(hP:cx.P=prog)(h0:0<cx.n)(hT:Tabs H)(gl:∀u∈l,u.Good)(hlen:l.length+t.sz≤1000000)(ht:t.Good)
  (ha:Yn cx.T (evT tm) args ts=[.sl 4 (l.map Tm.enc) (.buf cx.n 200),t.enc]) (hF:F ⟨Yk tm op.dst (.sl 4 ((collS t l).map Tm.enc) (.buf cx.n 200)),[(200,.buf 40 4 (collS t l).length)],H⟩):WO cx false op (.func 57) args ts ⟨tm,[(200,.buf 40 4 l.length)],H⟩ F:=by
 obtain⟨P,T,φ,n,N⟩:=cx;subst hP;have h:=e57 t ht (n+1) n 200 (full n [] H) l h0 (Qr n) (hT.full h0) gl hlen;rw[←Zlj]at h;refine YT (caps:=[]) (avs:=[.sl 4 (l.map Tm.enc) (.buf n 200),t.enc]) (Qc:=fun r H'=>r= .sl 4 ((collS t l).map Tm.enc) (.buf n 200)∧H'=bfU (full n [] H) n 200 (collS t l)) rfl (Zf func57 rfl rfl) h ha ?_;rintro r H1 ⟨rfl,rfl⟩;exact⟨_,H,(Zlj n H _).symm,.refl _ _,hF⟩
def Zuc(A:List Am)(n:Nat)(H:Za)(j:Nat):Zb:=
 ⟨[(4,.int .i64 ((j:Int) - 1)),(3,.sl 4 ((numsU.take j).map Tm.enc) (.buf n 200)),(0,.sl 2 (A.map Am.enc) .any)],[(200,.buf 40 4 j)],H⟩
def Zu5(A:List Am)(n:Nat)(H:Za)(i:Nat):Zb:=
 ⟨[(5,.int .i64 i),(3,.sl 4 ((Vw (A.take i)).map Tm.enc) (.buf n 200)),(0,.sl 2 (A.map Am.enc) .any)],[(200,.buf 40 4 (Vw (A.take i)).length)],H⟩
def ZuJ(A:List Am)(U:List Tm)(a:Am)(n:Nat)(H:Za)(i j:Nat):Zb:=
 ⟨[(6,.int .i64 j),(5,.int .i64 i),(3,.sl 4 ((collS.colls (a.args.take j) U).map Tm.enc) (.buf n 200)),(0,.sl 2 (A.map Am.enc) .any)],[(200,.buf 40 4 (collS.colls (a.args.take j) U).length)],H⟩
def e13(A:List Am)(hA:Vp A)(hz:szA A≤300):ZR prog 13 [.sl 2 (A.map Am.enc) .any] (.sl 4 ((Vw A).map Tm.enc) .any):=by
 intro n H hn hT;have hAl:A.length≤szA A:=by
  have:∀A:List Am,A.length≤szA A:=fun A=>by
   induction A with
   |nil=>exact Qg _
   |cons a A ih=>have h3:a.sz=1+Tm.sz.szs a.args:=rfl;show A.length+1≤a.sz+szA A;omega
  exact this A
 have ho:∀(p:Nat→Prop) (m:List Tm),p 200→Inside n p (.sl 4 (m.map Tm.enc) (.buf n 200)):=fun p m h=>Tm.Yj h
 refine aF func13 fun B=>?_
 refine gc ?_;refine nR ?_;refine WM ⟨[(3,.sl 4 (numsU.map Tm.enc) (.buf n 200)),(0,.sl 2 (A.map Am.enc) .any)],[(200,.buf 40 4 8)],H⟩ ?_ ?_
 ·refine kK ?_;refine Xn 3 200 40 4 rfl rfl ?_;refine Zm (Zuc A n H) 8 rfl ?_ ?_
  ·exact KK
  intro j hj;refine ZQ rfl ?_;rcases Qe j 8 with h|h
  ·have hd:decide ((j:Int) - 1<7)=true:=by rw[decide_eq_true_eq];omega
   have hlj:(numsU.take j).length=j:=by rw[QM];show min j 8=j;omega
   have hm:(numsU.take j).map Tm.enc++[(Ye ((j:Int) - 1)).enc]=(numsU.take (j+1)).map Tm.enc:=by rw[Zlw h,QC];rfl
   refine nq2 hd h ?_;refine gi ?_;refine cP (e24 ((j:Int) - 1)) ?_;refine aq hlj ?_;refine⟨by first|exact⟨rfl,dc⟩|exact rfl,⟨Zl om,om⟩,?_⟩;rw[hm];refine gd ?_;apply kZ;repeat' first|apply q0|exact xx|apply aI
   all_goals first|exact ho _ _ rfl|(simp only[go_sem,simprocAttr];rw[iw,show(j:Int) - 1+1=((j+1:Nat):Int) - 1 by omega];exact .refl _)
  ·have hj':j=8:=om;subst hj';refine nR ?_;refine gJ ?_;refine⟨rfl,?_⟩;exact KK
 refine gh ?_;refine Zm (Zu5 A n H) A.length rfl ?_ ?_
 ·exact KK
 intro i hi;refine ZQ rfl ?_;rcases Qe i A.length with h|h
 ·have hga:=hA _ (Qa h);have hU:=uni_good (A.take i) fun x hx=>hA x (UC hx)
  have hUl:=uni_len (A.take i);have hsz:=szA_tk A i h;have ha0:A[i].sz=1+Tm.sz.szs A[i].args:=rfl;have hgT:∀j,∀u∈collS.colls (A[i].args.take j) (Vw (A.take i)),u.Good:=fun j=>coll_good.2 _ (fun u hu=>hga.arg (UC hu)) _ hU
  have hcl:∀j,(collS.colls (A[i].args.take j) (Vw (A.take i))).length≤(Vw (A.take i)).length+Tm.sz.szs (A[i].args.take j):=fun j=>coll_len.2 _ _
  have hut:=Zpi A i h;have hal:=Tm.ZgM (.mk 0 0 [] A[i].args);simp only[Tm.args,Tm.sz]at hal;refine nq h ?_;refine gi ?_;refine WM ⟨[(5,.int .i64 i),(3,.sl 4 ((Vw (A.take (i+1))).map Tm.enc) (.buf n 200)),(0,.sl 2 (A.map Am.enc) .any)],[(200,.buf 40 4 (Vw (A.take (i+1))).length)],H⟩ ?_ ?_
  ·rw[hut];generalize Vw (A.take i)=U at*;refine kK ?_;refine Zm (ZuJ A U A[i] n H i) A[i].args.length rfl ?_ ?_
   ·exact KK
   intro j hj;refine ZQ rfl ?_;rcases Qe j A[i].args.length with h'|h'
   ·have hz:=szs_tk A[i].args j h';have hci:=hcl j;have hsn:collS.colls (A[i].args.take (j+1)) U=collS A[i].args[j] (collS.colls (A[i].args.take j) U):=by rw[Qj h',colls_snoc]
    refine nq3 (Am.Zh _ _ h) h h' ?_;refine nT ?_;refine nq4 (Am.Zh _ _ h) h (Tm.Zh _ _ h') h' ?_;refine Ztw rfl hn hT (hgT j) om (hga.arg (Qa h')) sS ?_;rw[←hsn];refine aS ?_;refine gd ?_;exact KK
   ·have hj':j=A[i].args.length:=om;subst hj';refine nr ?_;simp only[go_sem,simprocAttr,Am.Zh _ _ h,h,QY];refine gg ?_;rw[QI];refine nN ?_;refine⟨rfl,?_⟩;exact KK
  refine ZQ rfl ?_;refine gd ?_;exact KK
 ·have hi':i=A.length:=om;subst hi';refine nr ?_;simp only[go_sem,simprocAttr,QY];refine gg ?_;rw[QI];refine ge ?_;exact Zc (.any _ _ _) (ZH _) rfl
end
def whT(l:List Tm):Tm:=.mk 4 0 [102] l
def V7(l:List Lt):List Tm:=l.flatMap Zbv
def ZoR(l:List Lt)(i:Nat)(h:i<l.length):V7 (l.take (i+1))=V7 (l.take i)++Zbv l[i]:=by
 unfold V7;rw[Qj h,Ut];simp
def szs_app':∀p q:List Tm,Tm.sz.szs (p++q)=Tm.sz.szs p+Tm.sz.szs q
 |[],q=>by simp[Tm.sz.szs]
 |t::p,q=>by simp only[Q8,Tm.sz.szs,szs_app' p q];omega
def Zp0(x:Lt):Tm.sz.szs (Zbv x)≤szX x:=by
 unfold Zbv szX;have h3:x.at_.sz=1+Tm.sz.szs x.at_.args:=rfl;split
 ·simp only[Tm.sz.szs];omega
 ·omega
def arsX_sz:∀l:List Lt,Tm.sz.szs (V7 l)≤szLs l
 |[]=>Qg _
 |x::l=>by have h1:=arsX_sz l;have h2:=Zp0 x;unfold V7 at*;rw[QV,szs_app',szLs];omega
def ZdP(l:List Lt)(i:Nat):Tm.sz.szs (V7 (l.take i))≤szLs l:=by
 have h:∀(l:List Lt) (i:Nat),szLs (l.take i)≤szLs l:=by
  intro l;induction l with
  |nil=>intro i;simp
  |cons x l ih=>intro i;cases i with
   |zero=>simp[szLs]
   |succ i=>have:=ih i;simp only[MR,szLs];omega
 exact Ue (arsX_sz _) (h l i)
def len_szs:∀l:List Tm,l.length≤Tm.sz.szs l:=fun l=>by have h:=Tm.ZgM (.mk 0 0 [] l);simp only[Tm.args,Tm.sz]at h;omega
def Znl{l:List Tm}(hl:∀u∈l,u.Good)(hz:Tm.sz.szs l≤1000):(whT l).Good:=by
 have:=len_szs l;exact⟨by simp only[whT,Tm.sz];omega,.mk _ _ _ _ sm om om om fun u hu=>(hl u hu).nm⟩
def ZvV(l:List Lt)(n:Nat)(H:Za)(i:Nat):Zb:=
 ⟨[(4,.int .i64 i),(0,.sl 13 (l.map Lt.enc) .any),(3,.ptr n 3 0)],[(200,.buf 40 4 (V7 (l.take i)).length),(3,.box [.int .u8 4,.int .i64 0,.str [102],.sl 4 ((V7 (l.take i)).map Tm.enc) (.buf n 200)])],H⟩
def o12:Opt:=⟨true,true,fun d=>if d=31∨d=41 then .own 200 else .auto,[200]⟩
def e12(l:List Lt)(hll:l.length≤10)(hz:szLs l≤300)(hg:∀x∈l,x.Good):Pure prog 12 [.sl 13 (l.map Lt.enc) .any] (.sl 1 (Yo (Zfk l)) .any):=by
 intro n H;have hgT:∀u∈V7 l,u.Good:=fun u hu=>by
  obtain⟨x,hx,hu⟩:=Qx.1 hu;unfold Zbv at hu;split at hu
  ·simp only[Ql,QA,or_false]at hu;rcases hu with rfl|rfl
   ·exact(hg x hx).L
   ·exact(hg x hx).R
  ·exact(hg x hx).at_.arg hu
 have ho:∀(p:Nat→Prop) (m:List Tm),p 200→Inside n p (.sl 4 (m.map Tm.enc) (.buf n 200)):=fun p m h=>Tm.Yj h
 refine aF func12 fun B=>?_
 refine gz ?_;refine J3 3 200 3 40 4 rfl rfl rfl ?_;simp only[go_sem,simprocAttr,U4,UO];refine Zm (ZvV l n H) l.length rfl ?_ ?_
 ·exact KK
 intro i hi;refine ZQ rfl ?_;rcases Qe i l.length with h|h
 ·obtain⟨x,hx⟩:∃x,x=l[i]:=⟨_,rfl⟩
  have hat:=ZoR l i h;have hsz:=ZdP l i;have hl1:=len_szs (V7 (l.take i));have hsx:=ZdP l (i+1);have hl2:=len_szs (V7 (l.take (i+1)));rw[←hx]at hat;have hxl:(V7 (l.take i)).length+(Zbv x).length≤300:=by rw[hat,Qh]at hl2;rw[hat]at hsx;omega
  refine nq h ?_;refine nT ?_;cases hk:(x.kind==2)with
  |true=>
   have ha:Zbv x=[x.L,x.R]:=by unfold Zbv;rw[if_pos (by simpa using hk)]
   have hm:(V7 (l.take i)).map Tm.enc++[x.L.enc,x.R.enc]=(V7 (l.take (i+1))).map Tm.enc:=by rw[hat,ha,QC];rfl
   rw[ha]at hxl;simp only[Qq,QB]at hxl;refine nr ?_;simp only[go_sem,simprocAttr,Lt.Zh _ _ h,h,←hx,hk];refine nT ?_;refine nD o12 ?_;simp only[go_sem,simprocAttr,o12,Lt.Zh _ _ h,h,←hx];have hle:(V7 (l.take i)).length+2=(V7 (l.take (i+1))).length:=by rw[hat,ha,Qh];rfl
   refine⟨rfl,rfl,⟨Zl om,om⟩,?_⟩;rw[hm,hle];refine gd ?_;exact KK
  |false=>
   have ha:Zbv x=x.at_.args:=by unfold Zbv;rw[if_neg (by simpa using hk)]
   have hm:(V7 (l.take i)).map Tm.enc++x.at_.args.map Tm.enc=(V7 (l.take (i+1))).map Tm.enc:=by rw[hat,ha,QC]
   rw[ha]at hxl;refine nr ?_;simp only[go_sem,simprocAttr,Lt.Zh _ _ h,h,←hx,hk];refine nF ?_;refine nD o12 ?_;simp only[go_sem,simprocAttr,o12,Lt.Zh _ _ h,h,←hx];have hle:(V7 (l.take i)).length+x.at_.args.length=(V7 (l.take (i+1))).length:=by rw[hat,ha,Qh]
   refine⟨rfl,⟨fun y hy=>by obtain⟨u,_,rfl⟩:=Qi.1 hy;rw[Tm.J4];rfl,Zl om,om⟩,?_⟩;rw[hm,hle];refine gd ?_;exact KK
 ·have hi':i=l.length:=om;subst hi';have hz2:=Ue (arsX_sz l) hz;refine nr ?_;simp only[go_sem,simprocAttr,QY];refine gg ?_;rw[QI];have hw:Wk (.agg [.int .u8 4,.int .i64 0,.str [102],.sl 4 ((V7 l).map Tm.enc) (.buf n 200)]) (whT (V7 l)).enc:=by
   rw[Tm.J4];exact .deep (.ZcZ ⟨.refl _,.refl _,.refl _,.any _ _ _,trivial⟩)
  have hV:Pure prog 56 [.agg [.int .u8 4,.int .i64 0,.str [102],.sl 4 ((V7 l).map Tm.enc) (.buf n 200)]] (.sl 1 (Yo (Zfk l)) .any):=
   Pure.args (j56 (whT (V7 l)) (Znl hgT om) (by have:=nm_len.1 (whT (V7 l));simp only[whT,Tm.sz]at this⊢;omega)) ⟨hw,trivial⟩
  refine nR ?_;refine WE (Zf func56 rfl rfl) hV sS ?_;refine gw ?_;exact Zc (.refl _) (Wq _) rfl
def Zun(l:List Tm)(b:Bnd)(deep:Bool)(H:Za)(i:Nat):Zb:=⟨[(7,.int .i64 i),(0,.sl 4 (l.map Tm.enc) .any),(1,.sl 5 (b.map eBd) .any),(2,.bool deep)],[],H⟩
theorem e55(l:List Tm)(b:Bnd)(deep:Bool)(hl:l.length≤1000000)(hb:b.length≤1000000)(hg:∀t∈l,t.Good∧(Zv b t).Good):ZR prog 55 [.sl 4 (l.map Tm.enc) .any,Zj b,.bool deep] (.bool (XJ l b deep)):=by
 intro n H hn hT;have hbi:∀q,Inside n q (.sl 5 (b.map eBd) .any):=fun q=>(Zw n b).inside
 refine aF func55 fun B=>?_
 refine gk ?_;refine ZL (Zun l b deep H) (fun i=>XJ l b deep=XJ (l.drop i) b deep) l.length rfl ?_ sm ?_
 ·unfold Zun Zj;exact KK
 intro i hi hq;refine ZQ rfl ?_;rcases Qe i l.length with h|h
 ·obtain⟨g1,g2⟩:=hg _ (Qa h);rw[Qu h]at hq;have hq2:XJ (l[i]::l.drop (i+1)) b deep=(!((XR (Zv b l[i])).1.isEmpty&&((XR (Zv b l[i])).2==0|| !deep))&&XJ (l.drop (i+1)) b deep):=rfl;rw[hq2]at hq;refine nr ?_;refine aq h ?_;refine nT ?_;refine nq2 (Tm.Zh _ _ h) h ?_;refine WE (Zf func17 rfl rfl) (w17 b hb l[i] g1) (by simp only[go_sem,simprocAttr,Zj]) ?_;simp only[go_sem,simprocAttr,Zj];refine cT (e100 (Zv b l[i]) g2) ?_;generalize hX:(XR (Zv b l[i])).1=X at*;generalize (XR (Zv b l[i])).2=e at*;have hx0:((X.length:Int)==0)=X.isEmpty:=by cases X with
   |nil=>rfl
   |cons x X=>simp;omega
  cases hE:X.isEmpty with
  |false=>
   rw[hE,UA,U8,Ud]at hq;refine nq2 hx0 hE ?_;refine gD ?_;refine⟨hq,?_⟩;exact KK
  |true=>
   cases h0:(e==0)with
   |true=>
    rw[hE,h0]at hq;simp only[UR,QaT,U6,UA]at hq;rw[hq];refine nr ?_;simp only[go_sem,simprocAttr,hx0,hE,eInt,h0];refine gn ?_;exact Zc (.refl _) (.bool _) rfl
   |false=>
    cases deep with
    |true=>
     rw[hE,h0]at hq;simp only[U6,MB,Gq,U8,Ud]at hq;refine nr ?_;simp only[go_sem,simprocAttr,hx0,hE,eInt,h0];refine nF ?_;refine ZaV rfl ?_;repeat refine kn rfl ?_
     refine gd ?_;refine⟨hq,?_⟩;exact KK
    |false=>
     rw[hE,h0]at hq;simp only[U8,Gz,QaT,U6,UA]at hq;rw[hq];refine nr ?_;simp only[go_sem,simprocAttr,hx0,hE,eInt,h0];refine gn ?_;exact Zc (.refl _) (.bool _) rfl
 ·rw[QT h]at hq;rw[hq];refine nq (QD.2 h) ?_;refine gG ?_;exact pB
def Ziq(t:Tm):(∀v∈(XR t).1,v.Good)∧(XR t).1.length≤1000:=by
 unfold XR;split
 ·rename_i hb;rw[Qd]at hb;obtain⟨hv,hg⟩:=hb;have hok:t.all okG=true:=by
   simp only[YI,Qd]at hv;have:=Zbf shape (fun u=>!(u.kind==3)) t;unfold grT at hg;rw[hv.2,hg]at this;exact this
  have hdp:dep t≤12:=by simp only[YI,Qd,decide_eq_true_eq]at hv;exact hv.1
  split
  ·rename_i l hl;exact⟨fun v hv'=>by have:=expand_val t hok l hl v hv';exact Xi (value_of this.1 om),Zbb hl⟩
  ·exact⟨fun _ h=>(by cases h),sm⟩
 ·exact⟨fun _ h=>(by cases h),sm⟩
def Zkw{t:Tm}(hk:t.kind=4)(v:Tm):covL t v=((v.kind==4)&&(v.name==t.name)&&(v.args.length==t.args.length)&&covL.covLs t.args v.args):=by
 cases t with|mk k n s l=>rw[covL,if_pos (show k=4 from hk)];rfl
def Zp3{t:Tm}(hk:¬t.kind=4)(v:Tm):covL t v=(XR t).1.any fun u=>cmpT u v==0:=by
 cases t with|mk k n s l=>rw[covL,if_neg (show¬k=4 from hk)]
def Zuj(t v:Tm)(n:Nat)(H:Za)(i:Nat):Zb:=⟨[(5,.int .i64 i),(3,.ptr n 3 0),(2,.ptr n 2 0)],[(3,.box v.cs),(2,.box t.cs)],H⟩
def ZsR(X:List Tm)(v:Tm)(n:Nat)(H:Za)(i:Nat):Zb:=⟨[(8,.int .i64 i),(6,.sl 4 (X.map Tm.enc) .any),(3,.ptr n 3 0)],[(3,.box v.cs)],H⟩
def Zvi(t v:Tm)(ht:t.Good)(hv:v.Good):ZR prog 103 [t.enc,v.enc] (.bool (covL t v)):=by
 have ih:∀u∈t.args,∀w:Tm,w.Good→ZR prog 103 [u.enc,w.enc] (.bool (covL u w)):=fun u hu w hw=>Zvi u w (ht.arg hu) hw
 intro n H hn hT;have hlt:=ht.len;refine aF func103 fun B=>?_
 refine nR ?_;cases hk:(t.kind==4)with
 |true=>
  rw[Zkw (by simpa using hk)];refine nq hk ?_;refine nT ?_;cases h1:(v.kind==4)with
  |false=>
   have h1':(v.kind !=4)=true:=by rw[bne,h1];rfl
   refine nq h1' ?_;refine gi ?_;exact pB
  |true=>
  have h1':(v.kind !=4)=false:=by rw[bne,h1];rfl
  cases h2:(v.name==t.name)with
  |false=>
   refine nq2 h1' h2 ?_;refine gi ?_;exact pB
  |true=>
  cases h3:(v.args.length==t.args.length)with
  |false=>
   have h3':((v.args.length:Int) !=(t.args.length:Int))=true:=by
    have:=h3;rw[beq_eq_false_iff_ne]at this;simp;omega
   refine nq3 h1' h2 h3' ?_;refine gi ?_;exact pB
  |true=>
  have h3e:v.args.length=t.args.length:=by simpa using h3
  have h3':((v.args.length:Int) !=(t.args.length:Int))=false:=by simp;omega
  simp only[QaT,Ud];refine nq3 h1' h2 h3' ?_;refine gN ?_;refine ZL (Zuj t v n H) (fun i=>covL.covLs t.args v.args=covL.covLs (t.args.drop i) (v.args.drop i)) t.args.length rfl ?_ sm ?_
  ·exact KK
  intro i hi hq;refine ZQ rfl ?_;rcases Qe i t.args.length with h|h
  ·have h':i<v.args.length:=om;rw[Qu h,Qu h',covL.covLs]at hq;refine nq h ?_;refine nT ?_;refine dq4 (Tm.Zh _ _ h) (Tm.Zh _ _ h') h h' ?_;refine cT (ih _ (Qa h) v.args[i] (hv.arg (Qa h'))) ?_;cases hc:covL t.args[i] v.args[i]with
   |false=>
    rw[hc,UA]at hq;refine aS ?_;refine gn ?_;rw[hq];exact Zc (.refl _) (.bool _) rfl
   |true=>
    rw[hc,Ud]at hq;refine aS ?_;refine gD ?_;refine⟨hq,?_⟩;exact KK
  ·rw[QT h,covL.covLs]at hq;rw[hq];refine nq (QD.2 h) ?_;refine gG ?_;exact pB
 |false=>
  rw[Zp3 (by simpa using hk)];obtain⟨hxg,hxl⟩:=Ziq t;refine nq hk ?_;refine gv ?_;refine cT (e100 t ht) ?_;generalize hX:(XR t).1=X at*;generalize (XR t).2=e at*;refine gh ?_;refine ZL (ZsR X v n H) (fun i=>(X.any fun u=>cmpT u v==0)=((X.drop i).any fun u=>cmpT u v==0)) X.length rfl ?_ sm ?_
  ·exact KK
  intro i hi hq;refine ZQ rfl ?_;rcases Qe i X.length with h|h
  ·rw[Qu h,Qan]at hq;refine nq h ?_;refine nT ?_;refine dq2 (Tm.Zh _ _ h) h ?_;refine cP (j16 X[i] v (hxg _ (Qa h)) hv) ?_;cases hc:(cmpT X[i] v==0)with
   |true=>
    rw[hc,UR]at hq;refine gn ?_;rw[hq];exact Zc (.refl _) (.bool _) rfl
   |false=>
    rw[hc,U5]at hq;refine gD ?_;refine⟨hq,?_⟩;exact KK
  ·rw[QT h]at hq;rw[hq];refine nq (QD.2 h) ?_;refine gG ?_;exact pB
termination_by SizeOf.sizeOf t
decreasing_by exact Tm.Y2 hu
def Zuw{a:Am}(h:a.Good):(whT a.args).Good:=by
 have h1:=len_szs a.args;have h2:a.sz=1+Tm.sz.szs a.args:=rfl;have h3:=h.sz;exact⟨by simp only[whT,Tm.sz];omega,.mk _ _ _ _ sm om om om fun u hu=>(h.arg hu).nm⟩
def Zs1(b:Bnd)(l:List Tm):Zv b (whT l)=whT (l.map (Zv b)):=by rw[Zq0];rfl
def ZjB{b:Bnd}(hb:ZI b){l:List Tm}(hl:∀u∈l,u.Good)(hz:Tm.sz.szs l≤304):(whT (l.map (Zv b))).Good:=by
 rw[←Zs1];exact Zaz hb (Znl hl om).nm (by simp only[whT,Tm.sz];omega)
def holds0{s:Sto}(hok:Ok s){a0:Am}(hae:a0.args=[]){b:Bnd}:((Zjr s.A a0.sg).any fun a=>covL (whT (a0.args.map (Zv b))) (whT a.args))=(Yh a0&&(ZY (JI a0) s.N 0).isSome):=by
 rw[U3,UW];constructor
 ·rintro⟨a,ha,_⟩;obtain⟨h1,h2⟩:=Uy.1 ha;have h3:a.pred=a0.pred∧(a.args.length:Int)=a0.args.length:=by simpa[Am.sg]using h2
  have e:a=a0:=by
   have h4:a.args=[]:=by rw[hae]at h3;exact Gm.1 (by have:=h3.2;simpa using this)
   cases a;cases a0;simp only at h3 h4 hae;rw[h3.1,h4,hae]
  subst e;have hv:=hok.v a h1;rw[Qd];exact⟨hv,by rw[hok.has hv,UW];exact⟨a,h1,(Zcf _ _).2 rfl⟩⟩
 ·intro h;rw[Qd]at h;obtain⟨hv,h⟩:=h;rw[hok.has hv,UW]at h;obtain⟨a,ha,e⟩:=h;have e:=(Zcf _ _).1 e;subst e;refine⟨a,Uy.2 ⟨ha,sm⟩,?_⟩;rw[hae,Zkw rfl];simp[whT,Tm.kind,Tm.name,Tm.args,covL.covLs]
def ZtS(x:Lt)(b:Bnd)(ls bs:Nat)(X Y:List Tm)(n:Nat)(H:Za)(i:Nat):Zb:=
 ⟨[(11,.int .i64 i),(9,.sl 4 (Y.map Tm.enc) .any),(7,.sl 4 (X.map Tm.enc) .any),(3,.ptr n 3 0)],[(3,.box x.cs)],H⟩
def Zvj(x:Lt)(b:Bnd)(ls bs:Nat)(X Y:List Tm)(n:Nat)(H:Za)(i j:Nat):Zb:=
 ⟨[(12,.int .i64 j),(11,.int .i64 i),(9,.sl 4 (Y.map Tm.enc) .any),(7,.sl 4 (X.map Tm.enc) .any),(3,.ptr n 3 0)],[(3,.box x.cs)],H⟩
def ZtL(x:Lt)(b:Bnd)(ls bs:Nat)(n:Nat)(H:Za)(i:Nat):Zb:=
 ⟨[(14,.int .i64 i),(13,.ptr n 13 0),(3,.ptr n 3 0),(2,.sl 5 (b.map eBd) .any),(1,.ptr ls bs 0)],
  [(200,.buf 40 4 i),(13,.box [.int .u8 4,.int .i64 0,.str [102],.sl 4 (((x.at_.args.take i).map (Zv b)).map Tm.enc) (.buf n 200)]),(3,.box x.cs)],H⟩
def Zut(W:List Tm)(Z:List Am)(n:Nat)(H:Za)(i:Nat):Zb:=
 ⟨[(16,.int .i64 i),(15,.sl 2 (Z.map Am.enc) .any),(13,.ptr n 13 0)],[(200,.buf 40 4 W.length),(13,.box [.int .u8 4,.int .i64 0,.str [102],.sl 4 (W.map Tm.enc) (.buf n 200)])],H⟩
def o54:Opt:=⟨true,true,fun d=>if d=88 then .own 200 else .auto,[200]⟩
def e54(n:Nat)(H:Za)(ls bs:Nat)(s:Sto)(x:Lt)(b:Bnd)(hl:ls<n)(hs:ZV H ls bs s)(hok:Ok s)(hx:Sm x)(hsz:Tm.sz.szs x.at_.args≤304)(hop:0≤x.op∧x.op≤255)(hb:b.length≤1000000)(gb:ZI b)(hn:0<n)(hT:Tabs H):
  PC prog n 54 [x.enc,.ptr ls bs 0,Zj b] H (.bool (JV s.A x b)):=by
 have hbi:∀q,Inside n q (.sl 5 (b.map eBd) .any):=fun q=>(Zw n b).inside
 have gL:=Zaz gb hx.good.L.nm hx.L;have gR:=Zaz gb hx.good.R.nm hx.R;refine aF func54 fun B=>?_
 refine nR ?_;cases hk:(x.kind==2)with
 |true=>
  have hh:JV s.A x b=(XR (Zv b x.L)).1.any fun v=>(XR (Zv b x.R)).1.any fun w=>YX x.op v w:=by unfold JV;rw[if_pos (by simpa using hk)]
  rw[hh];obtain⟨hXg,hXl⟩:=Ziq (Zv b x.L);obtain⟨hYg,hYl⟩:=Ziq (Zv b x.R);refine nr ?_;refine aq hk ?_;refine gi ?_;refine WE (Zf func17 rfl rfl) (w17 b hb x.L hx.good.L) (by simp only[go_sem,simprocAttr,Zj]) ?_;simp only[go_sem,simprocAttr,Zj];refine cT (e100 (Zv b x.L) gL) ?_;refine nR ?_;refine WE (Zf func17 rfl rfl) (w17 b hb x.R hx.good.R) (by simp only[go_sem,simprocAttr,Zj]) ?_;simp only[go_sem,simprocAttr,Zj];refine cT (e100 (Zv b x.R) gR) ?_;generalize (XR (Zv b x.L)).1=X at*;generalize (XR (Zv b x.R)).1=Y at*;refine nR ?_;repeat refine kn rfl ?_
  refine ZL (ZtS x b ls bs X Y n H) (fun i=>(X.any fun v=>Y.any fun w=>YX x.op v w)=((X.drop i).any fun v=>Y.any fun w=>YX x.op v w)) X.length rfl ?_ sm ?_
  ·exact KK
  intro i hi hq;refine ZQ rfl ?_;rcases Qe i X.length with h|h
  ·rw[Qu h,Qan]at hq;refine nq h ?_;refine nT ?_;refine gh ?_;refine ZL (Zvj x b ls bs X Y n H i) (fun j=>(Y.any fun w=>YX x.op X[i] w)=((Y.drop j).any fun w=>YX x.op X[i] w)) Y.length rfl ?_ sm ?_
   ·exact KK
   intro j hj hp;refine ZQ rfl ?_;rcases Qe j Y.length with h'|h'
   ·rw[Qu h',Qan]at hp;refine nq h' ?_;refine nT ?_;refine dq4 (Tm.Zh _ _ h) (Tm.Zh _ _ h') h h' ?_;refine cP (j101 x.op hop X[i] Y[j] (hXg _ (Qa h)) (hYg _ (Qa h'))) ?_;cases hc:YX x.op X[i] Y[j]with
    |true=>
     rw[hc,UR]at hp;rw[hp,UR]at hq;refine gn ?_;rw[hq];refine ZeJ ?_ _;exact Zc (.refl _) (.bool _) rfl
    |false=>
     rw[hc,U5]at hp;refine gD ?_;refine⟨hp,?_⟩;exact KK
   ·rw[QT h']at hp;rw[hp,List.any_nil,U5]at hq;refine nq (QD.2 h') ?_;refine gg ?_;refine gd ?_;refine⟨hq,?_⟩;exact KK
  ·rw[QT h]at hq;rw[hq];refine nq (QD.2 h) ?_;refine gG ?_;exact pB
 |false=>
  have hk2:¬x.kind=2:=by simpa using hk
  have hgx:=hx.good.at_;have hal:=len_szs x.at_.args;have hh:JV s.A x b=(Zjr s.A x.at_.sg).any fun a=>covL (whT (x.at_.args.map (Zv b))) (whT a.args):=by unfold JV;rw[if_neg hk2];rfl
  refine nq hk ?_;refine nF ?_;refine ZaV rfl ?_;cases ha:x.at_.args.isEmpty with
  |true=>
   have hae:x.at_.args=[]:=by simpa using ha
   have hlen0:((x.at_.args.length:Int)==0)=true:=by rw[hae];rfl
   rw[hh,holds0 hok hae];refine nq hlen0 ?_;refine gi ?_;refine cQ (a26 (n+1) _ ls bs s x.at_ om (hs.full hl _) hgx (QO _) (hT.full hn)) ?_;refine aS ?_;exact pB
  |false=>
   have hlen0:((x.at_.args.length:Int)==0)=false:=by
    cases he:x.at_.args with
    |nil=>rw[he]at ha;cases ha
    |cons u r=>simp;omega
   have hag:∀u∈x.at_.args,u.Good:=fun u hu=>hgx.arg hu
   rw[hh];refine nq hlen0 ?_;refine nF ?_;refine gk ?_;refine J3 13 200 3 40 4 rfl rfl rfl ?_;simp only[go_sem,simprocAttr,U4,UO];have ho:∀(p:Nat→Prop) (m:List Tm),p 200→Inside n p (.sl 4 (m.map Tm.enc) (.buf n 200)):=fun p m h=>Tm.Yj h
   have hpi:∀q,Inside n q (.ptr ls bs 0):=fun q=>.ptr _ _ _ (.inl hl)
   refine Zm (ZtL x b ls bs n H) x.at_.args.length rfl ?_ ?_
   ·exact KK
   intro i hi;refine ZQ rfl ?_;rcases Qe i x.at_.args.length with h|h
   ·have hm:((x.at_.args.take i).map (Zv b)).map Tm.enc++[(Zv b x.at_.args[i]).enc]=((x.at_.args.take (i+1)).map (Zv b)).map Tm.enc:=by rw[Qj h,QC,QC];rfl
    have hmin:(x.at_.args.take i).length=i:=Uo hi;refine nr ?_;refine aq h ?_;refine nT ?_;refine nD o54 ?_;simp only[go_sem,simprocAttr,o54,Tm.Zh _ _ h,h];refine⟨rfl,rfl,?_⟩;refine Zep (Zf func17 rfl rfl) (w17 b hb _ (hag _ (Qa h))) (by simp only[go_sem,simprocAttr,Zj]) ?_;simp only[go_sem,simprocAttr,o54,hmin];refine⟨rfl,⟨Zl om,om⟩,?_⟩;rw[hm];refine gd ?_;exact KK
   ·have hi':i=x.at_.args.length:=om;subst hi';refine nr ?_;simp only[go_sem,simprocAttr,QY];refine gg ?_;have hix:=hok.ixS x.at_.sg;rw[QI];generalize hW:x.at_.args.map (Zv b)=W at*;have hWl:W.length=x.at_.args.length:=by rw[←hW,Qw]
    have hWg:(whT W).Good:=by rw[←hW];exact ZjB gb hag hsz
    rw[←hWl];refine nR ?_;refine cQ (a30 (n+1) _ ls bs s x.at_.sg om (hs.full hl _) hok.g (QO _) (hT.full hn) hix.1 hix.2) ?_;rw[hok.all];have hZg:∀a∈Zjr s.A x.at_.sg,a.Good:=fun a ha=>hok.g a (Uy.1 ha).1
    have hZl:(Zjr s.A x.at_.sg).length≤2000:=Ue (UH _ _) hok.A;generalize Zjr s.A x.at_.sg=Z at*;have hZs:∀a∈Z,(whT a.args).Good:=fun a ha=>Zuw (hZg a ha)
    refine aS ?_;refine gh ?_;refine ZL (Zut W Z n H) (fun i=>(Z.any fun a=>covL (whT W) (whT a.args))=((Z.drop i).any fun a=>covL (whT W) (whT a.args))) Z.length rfl ?_ sm ?_
    ·exact KK
    intro i hi hq;refine ZQ rfl ?_;rcases Qe i Z.length with h2|h2
    ·rw[Qu h2,Qan]at hq;have hw:Wk (.agg [.int .u8 4,.int .i64 0,.str [102],.sl 4 (W.map Tm.enc) (.buf n 200)]) (whT W).enc:=by
      rw[Tm.J4];exact .deep (.ZcZ ⟨.refl _,.refl _,.refl _,.any _ _ _,trivial⟩)
     have hcall:ZR prog 103 [.agg [.int .u8 4,.int .i64 0,.str [102],.sl 4 (W.map Tm.enc) (.buf n 200)],.agg [.int .u8 4,.int .i64 0,.str [102],.sl 4 (Z[i].args.map Tm.enc) .any]] (.bool (covL (whT W) (whT Z[i].args))):=
      fun m G h1 h2'=>Zi.args (Zvi (whT W) (whT Z[i].args) hWg (hZs _ (Qa h2)) m G h1 h2') ⟨hw,by rw[Tm.J4];exact .refl _,trivial⟩
     refine nq h2 ?_;refine nT ?_;refine dq2 (Am.Zh _ _ h2) h2 ?_;refine Zf9 (Zf func103 rfl rfl) hcall hn hT rfl ?_;cases hc:covL (whT W) (whT Z[i].args)with
     |true=>
      rw[hc,UR]at hq;refine aS ?_;refine gn ?_;rw[hq];exact Zc (.refl _) (.bool _) rfl
     |false=>
      rw[hc,U5]at hq;refine aS ?_;refine gD ?_;refine⟨hq,?_⟩;exact KK
    ·rw[QT h2]at hq;rw[hq];refine nq (QD.2 h2) ?_;refine gG ?_;exact pB
def Zug(l:List Lt)(b:Bnd)(deep:Bool)(ls bs:Nat)(H:Za)(i:Nat):Zb:=
 ⟨[(9,.int .i64 i),(0,.sl 13 (l.map Lt.enc) .any),(1,.ptr ls bs 0),(2,.sl 5 (b.map eBd) .any),(3,.bool deep)],[],H⟩
def e11(n:Nat)(H:Za)(ls bs:Nat)(s:Sto)(l:List Lt)(b:Bnd)(deep:Bool)(hl:ls<n)(hs:ZV H ls bs s)(hok:Ok s)(hll:l.length≤10)(hx:∀x∈l,Sm x∧Tm.sz.szs x.at_.args≤304∧0≤x.op∧x.op≤255)(hb:b.length≤1000000)(gb:ZI b)(hn:0<n)(hT:Tabs H):
  PC prog n 11 [.sl 13 (l.map Lt.enc) .any,.ptr ls bs 0,Zj b,.bool deep] H (.bool (allL l s.A b deep)):=by
 have hbi:∀q,Inside n q (.sl 5 (b.map eBd) .any):=fun q=>(Zw n b).inside
 have hpi:∀q,Inside n q (.ptr ls bs 0):=fun q=>.ptr _ _ _ (.inl hl)
 refine aF func11 fun B=>?_
 refine gk ?_;refine ZL (Zug l b deep ls bs H) (fun i=>allL l s.A b deep=allL (l.drop i) s.A b deep) l.length rfl ?_ sm ?_
 ·unfold Zug Zj;exact KK
 intro i hi hq;refine ZQ rfl ?_;rcases Qe i l.length with h|h
 ·obtain⟨x,hxe⟩:∃x,x=l[i]:=⟨_,rfl⟩
  obtain⟨hsm,hsz,hop⟩:=hx _ (Qa h);rw[Qu h]at hq;rw[←hxe]at hq hsm hsz hop;have hq2:allL (x::l.drop (i+1)) s.A b deep=((!(((x.kind==2)|| !x.neg)&& !JV s.A x b)&& !((x.kind==1)&&x.neg&& !XJ x.at_.args b deep))&&allL (l.drop (i+1)) s.A b deep):=rfl;rw[hq2]at hq;have hag:∀u∈x.at_.args,u.Good∧(Zv b u).Good:=fun u hu=>⟨hsm.good.at_.arg hu,Zaz gb (hsm.good.at_.arg hu).nm (by have:=Tm.ZbY hu;omega)⟩
  have hal:=len_szs x.at_.args;have e54x:=fun(m:Nat) (G:Za) (h1:ls<m) (h2:ZV G ls bs s) (h3:0<m) (h4:Tabs G)=>e54 m G ls bs s x b h1 h2 hok hsm hsz hop hb gb h3 h4
  have hall:∀q,Inside n q (.sl 5 (b.map eBd) .any)∧Inside n q (.ptr ls bs 0)∧Inside n q (.sl 13 (l.map Lt.enc) .any):=fun q=>⟨hbi q,hpi q,(Yf _).inside⟩
  refine nq h ?_;refine nT ?_;refine kK ?_;refine WM ⟨[(39,.bool (((x.kind==2)|| !x.neg)&& !JV s.A x b)),(9,.int .i64 i),(0,.sl 13 (l.map Lt.enc) .any),(1,.ptr ls bs 0),(2,.sl 5 (b.map eBd) .any),(3,.bool deep)],[],H⟩ ?_ ?_
  ·cases h2:(x.kind==2)with
   |true=>
    refine nr ?_;simp only[go_sem,simprocAttr,Lt.Zh _ _ h,h,←hxe,h2];refine Zdw (Zf func54 rfl rfl) (e54x (n+1) _ om (hs.full hl _) (QO _) (hT.full hn)) (by simp only[go_sem,simprocAttr];rfl) ?_;refine gO ?_;refine⟨rfl,?_⟩;try simp only[U8,U6,Gz,UD,UR,Ud,UA,Gq]
    exact KK
   |false=>
    cases h3:x.neg with
    |false=>
     refine nr ?_;simp only[go_sem,simprocAttr,Lt.Zh _ _ h,h,←hxe,h2,h3];refine Zdw (Zf func54 rfl rfl) (e54x (n+1) _ om (hs.full hl _) (QO _) (hT.full hn)) (by simp only[go_sem,simprocAttr];rw[←Lt.fold x,h3];rfl) ?_;refine gO ?_;refine⟨rfl,?_⟩;try simp only[U8,U6,Gz,UD,UR,Ud,UA,Gq]
     exact KK
    |true=>
     refine nr ?_;simp only[go_sem,simprocAttr,Lt.Zh _ _ h,h,←hxe,h2,h3];refine nN ?_;refine⟨rfl,?_⟩;try simp only[U8,U6,Gz,UD,UR,Ud,UA,Gq]
     exact KK
  generalize (((x.kind==2)|| !x.neg)&& !JV s.A x b)=v at*;cases v with
  |true=>
   rw[U6,UA,UA]at hq;rw[hq];refine gi ?_;exact pW
  |false=>
  rw[U8,Ud]at hq;refine gu ?_;refine WM ⟨[(64,.bool ((x.kind==1)&&x.neg&& !XJ x.at_.args b deep)),(9,.int .i64 i),(0,.sl 13 (l.map Lt.enc) .any),(1,.ptr ls bs 0),(2,.sl 5 (b.map eBd) .any),(3,.bool deep)],[],H⟩ ?_ ?_
  ·cases h2:(x.kind==1)with
   |false=>
    refine nr ?_;simp only[go_sem,simprocAttr,Lt.Zh _ _ h,h,←hxe,h2];refine nN ?_;refine⟨rfl,?_⟩;try simp only[U8,U6,Gz,UD,UR,Ud,UA,Gq]
    exact KK
   |true=>
    cases h3:x.neg with
    |false=>
     refine nr ?_;simp only[go_sem,simprocAttr,Lt.Zh _ _ h,h,←hxe,h2,h3];refine nN ?_;refine⟨rfl,?_⟩;try simp only[U8,U6,Gz,UD,UR,Ud,UA,Gq]
     exact KK
    |true=>
     refine nr ?_;simp only[go_sem,simprocAttr,Lt.Zh _ _ h,h,←hxe,h2,h3];refine Zf9 (Zf func55 rfl rfl) (e55 x.at_.args b deep om hb hag) hn hT (by simp only[go_sem,simprocAttr];rfl) ?_;refine gO ?_;refine⟨rfl,?_⟩;try simp only[U8,U6,Gz,UD,UR,Ud,UA,Gq]
     exact KK
  generalize ((x.kind==1)&&x.neg&& !XJ x.at_.args b deep)=v at*;cases v with
  |true=>
   rw[U6,UA]at hq;rw[hq];refine gi ?_;exact pW
  |false=>
  rw[U8,Ud]at hq;refine gD ?_;refine⟨hq,?_⟩;exact KK
 ·rw[QT h]at hq;rw[hq];refine nq (QD.2 h) ?_;refine gG ?_;exact pB
def Zub{n ls:Nat}{A:List Am}{G:Za}(hA:Vp A)(hT:Tabs G)(hn:0<n)(hls:ls<n)(hs:ZV G ls 0 (XM sto0 A)){l:List Lt}(hl:l.length≤10)(hsm:∀x∈l,Sm x)(hop:∀x∈l,0≤x.op∧x.op≤255){b:Bnd}(hb:b.length≤1000)(gb:∀q∈b,q.2.Good){ol ob:Own}{R:List Bnd}{e:Int}(hj:YL (XM sto0 A).A l b=(R,e)):
  PC prog n 10 [.sl 13 (l.map Lt.enc) ol,.ptr ls 0 0,.sl 5 (b.map eBd) ob] G (.tup [.sl 1 (R.map Zj) .any,eInt e]):=by
 have h:=k10 e100 n G hT hn ls 0 hls (XM sto0 A) hs (ok0.XM hA) l hl hsm hop b hb gb;rw[hj]at h;exact Zi.args h ⟨.any _ _ _,.refl _,.any _ _ _,trivial⟩
def w8o(l:List Lt)(A:List Am)(b:Bnd)(o1 o2 o3:Own)(h:InJ l A b):Pure prog 8 [.sl 13 (l.map Lt.enc) o1,.sl 2 (A.map Am.enc) o2,.sl 5 (b.map eBd) o3] (.bool (ZcT l A b)):=
 Pure.args (w8 l A b h.hl h.hA h.hb h.gl h.gb) ⟨.any _ _ _,.any _ _ _,.any _ _ _,trivial⟩
def coll_mono:(∀t l,l.length≤(collS t l).length)∧ ∀r l,l.length≤(collS.colls r l).length:=by
 refine XL (fun k n s a ih l=>?_) (fun l=>by rw[collS.colls];exact Qg _) fun t r h1 h2 l=>?_
 ·rw[collS];refine Ue ?_ (ih _);split
  ·rw[Qh];omega
  ·omega
 ·rw[collS.colls];exact Ue (h1 l) (h2 _)
def Zr9(A:List Am):8≤(Vw A).length:=by
 have:∀(A:List Am) (l:List Tm),l.length≤(A.foldl (fun l a=>collS.colls a.args l) l).length:=by
  intro A;induction A with
  |nil=>intro l;exact Qg _
  |cons a A ih=>intro l;exact Ue (coll_mono.2 a.args l) (ih _)
 exact this A numsU
def Zvr(R:List Bnd)(l:List Lt)(A:List Am)(n:Nat)(H:Za)(i:Nat):Zb:=
 ⟨[(8,.int .i64 i),(6,.sl 1 (R.map Zj) .any),(5,.ptr n 0 0),(0,.sl 13 (l.map Lt.enc) .any),(1,.sl 2 (A.map Am.enc) .any)],[],H⟩
def Zwg(R:List Bnd)(l:List Lt)(V:List Str)(u:List Tm)(n:Nat)(H:Za)(i:Nat):Zb:=
 ⟨[(12,.int .i64 i),(11,.int .i64 ((u.length^i:Nat):Int)),(10,.sl 4 (u.map Tm.enc) .any),(9,.sl 1 (Yo V) .any),(6,.sl 1 (R.map Zj) .any),(5,.ptr n 0 0),(0,.sl 13 (l.map Lt.enc) .any)],[],H⟩
def Zsy(R:List Bnd)(l:List Lt)(V:List Str)(u:List Tm)(tot:Nat)(at_:Nat→Nat)(n:Nat)(H:Za)(m:Nat):Zb:=
 ⟨[(14,.int .i64 m),(13,.int .i64 (at_ m)),(11,.int .i64 tot),(10,.sl 4 (u.map Tm.enc) .any),(9,.sl 1 (Yo V) .any),(6,.sl 1 (R.map Zj) .any),(5,.ptr n 0 0),(0,.sl 13 (l.map Lt.enc) .any)],[],H⟩
def ZvA(R:List Bnd)(l:List Lt)(V:List Str)(u:List Tm)(tot c:Nat)(n:Nat)(H:Za)(m j:Nat):Zb:=
 ⟨[(17,.int .i64 j),(16,.int .i64 ((m / u.length^j:Nat):Int)),(15,.sl 5 ((X0 u (V.take j) m).map eBd) (.buf (n+1) 201)),(14,.int .i64 m),(13,.int .i64 c),(11,.int .i64 tot),(10,.sl 4 (u.map Tm.enc) .any),(9,.sl 1 (Yo V) .any),(6,.sl 1 (R.map Zj) .any),(5,.ptr n 0 0),(0,.sl 13 (l.map Lt.enc) .any)],[(201,.buf 42 5 j)],H⟩
def o3:Opt:=⟨true,true,fun d=>if d=98 then .own 201 else .auto,[201]⟩
def e3(l:List Lt)(A:List Am)(hi:InJ l A []):ZR prog 3 [.sl 13 (l.map Lt.enc) .any,.sl 2 (A.map Am.enc) .any] (.bool true):=by
 intro n H hn hT;have hTc:=hT.cut hn;have hfr:=YH.cut n n H (Qg _) 0;refine PC.up 1 (.bool _) ?_;refine aF func3 fun B=>?_
 refine gc ?_;refine cQ (e7 (n+1+1) _ (QO _) (hTc.full (QO _))) ?_;refine aS ?_;refine gv ?_;refine cP (w8o l A [] .any .any .full hi) ?_;cases hg:ZcT l A []with
 |true=>
  refine gj ?_;exact Zn (.refl _) (.bool _) ⟨rfl,fun l k hl=>if_pos hl⟩
 |false=>
 refine nF ?_;refine ZaV rfl ?_;have hs:=hi.small hg;have hgs:=ZeV hg;have hok:Ok (XM sto0 A):=ok0.XM hs.gA;have hTp:=hTc.put hfr (XM sto0 A);have hl5:=hs.l5;refine nR ?_;refine call9 rfl n 0 A .any (Qr n) hfr hs.gA (by have:=hs.A24;omega) (QO _) hTc sS ?_;refine aS ?_;have hd0:=Zo3 hok.v (l:=l) (b:=[]) om hs.sm sm;have hl0:=Zo2 (XM sto0 A).A l [];have hg0:=ZiH hok.v l [];obtain⟨hF1,hF2⟩:=ZoH hok.v l;obtain⟨W,hW⟩:∃W,W=put (Zd5 n H) n 0 (XM sto0 A):=⟨_,rfl⟩
 have hcut:∀l k,l<n→W l k=H l k:=hW▸ZiF (Qg n);have hTW:Tabs W:=hW▸hTp;have hHW:ZV W n 0 (XM sto0 A):=hW▸ZV.put _ _ _ _;rw[←hW];obtain⟨R,e,hj⟩:∃R e,YL (XM sto0 A).A l []=(R,e):=⟨_,_,rfl⟩
 refine nR ?_;refine cQ (Zub hs.gA (hTW.full (QO _)) (QO _) (Gt (Qr n)) (hHW.full (Qr n) _) om hs.sm hi.op (b:=[]) sm sm (ol:=.any) (ob:=.full) hj) ?_;simp only[go_sem,simprocAttr,eInt];rw[hj]at hd0 hl0 hg0 hF1 hF2;simp only at hd0 hl0 hF1 hF2;by_cases he0:e=0;rotate_left
 ·have hb:(e !=0)=true:=by simp[he0]
  have hR0:((R.length:Int)==0)=true:=by rw[hF1 he0];rfl
  refine nq hb ?_;refine nT ?_;refine nq hR0 ?_;refine nV ?_;exact Zn (.refl _) (.bool _) ⟨rfl,hcut⟩
 have hb:(e !=0)=false:=by simp[he0]
 obtain⟨hA1,hA2,hA3⟩:=hF2 he0;have hx:∀x∈l,Sm x∧Tm.sz.szs x.at_.args≤304∧0≤x.op∧x.op≤255:=fun x hx=>by
  have:=szLs_mem hx;have h0:x.at_.sz=1+Tm.sz.szs x.at_.args:=rfl;exact⟨hs.sm x hx,om,hi.op x hx⟩
 have hall:∀(q:Nat→Prop),Inside (n+1) q (.sl 1 (R.map Zj) .any)∧Inside (n+1) q (.ptr n 0 0)∧Inside (n+1) q (.sl 13 (l.map Lt.enc) .any):=fun q=>⟨(ZF _).inside,.ptr _ _ _ (.inl (Qr n)),(Yf _).inside⟩
 refine nq hb ?_;refine gN ?_;refine Zm (Zvr R l A n W) R.length rfl ?_ ?_
 ·exact KK
 intro i hi';refine ZQ rfl ?_;rcases Qe i R.length with h|h
 ·have hm:=Qa h;have hdl:=hd0 _ hm;have hal:=hA1 _ hm;refine nq h ?_;refine nT ?_;refine nq2 (getD_map Zj _ _ h) h ?_;refine Zdw (Zf func11 rfl rfl) (e11 (n+1+1) _ n 0 (XM sto0 A) l R[i] true om (hHW.full (Qr n) _) hok om hx om (hg0.good _ hm) (QO _) (hTW.full (QO _))) (by simp only[go_sem,simprocAttr,Zj]) ?_;refine aq hal ?_;refine gD ?_;exact KK
 refine nq (QD.2 h) ?_;refine gG ?_;refine cP (e12 l om om (fun x hx=>(hs.sm x hx).good)) ?_;refine Zf9 (Zf func13 rfl rfl) (e13 A hs.gA om) (QO _) hTW sS ?_;refine aS ?_;have hup:=Zr9 A;have hU:=ZrX A;have hVl:(Yo (Zfk l)).length=(Zfk l).length:=by simp[Yo]
 generalize hV:Zfk l=V at*;generalize hu:Vw A=u at*;have hstr:∀(q:Nat→Prop),Inside (n+1) q (.sl 1 (Yo V) .any):=fun q=>(Wq _).inside
 by_cases hV3:V.length≤3;rotate_left
 ·have g1:decide ((3:Int)<(V.length:Int))=true:=by rw[decide_eq_true_eq];omega
  refine nq2 hVl g1 ?_;refine gj ?_;exact Zn (.refl _) (.bool _) ⟨rfl,hcut⟩
 have g1:decide ((3:Int)<(V.length:Int))=false:=by rw[decide_eq_false_iff_not];omega
 by_cases hu20:u.length≤20;rotate_left
 ·have g2:decide ((20:Int)<(u.length:Int))=true:=by rw[decide_eq_true_eq];omega
  refine nq3 hVl g1 g2 ?_;refine gj ?_;exact Zn (.refl _) (.bool _) ⟨rfl,hcut⟩
 have g2:decide ((20:Int)<(u.length:Int))=false:=by rw[decide_eq_false_iff_not];omega
 refine nq3 hVl g1 g2 ?_;refine nF ?_;refine ZaV rfl ?_;have hpw:∀i,i≤3→u.length^i≤8000:=fun i hi=>Ue (Nat.pow_le_pow_left hu20 i) (Ue (Nat.pow_le_pow_right (n:=20) dc hi) dc)
 refine gk ?_;refine Zm (Zwg R l V u n W) V.length rfl ?_ ?_
 ·exact KK
 intro i hi2;refine ZQ rfl ?_;rcases Qe i V.length with h2|h2
 ·have hp:=hpw (i+1) om;rw[QaL]at hp;have hmul:IntKind.i64.wrap (((u.length^i:Nat):Int)*(u.length:Int))=((u.length^(i+1):Nat):Int):=by
   rw[QaL,←Qal,iw]
  refine nq2 hVl h2 ?_;refine nT ?_;refine nq hmul ?_;refine gd ?_;exact KK
 have hi3:i=V.length:=om;subst hi3;refine nr ?_;simp only[go_sem,simprocAttr,hVl,QY];refine gg ?_;refine gk ?_;have htot:=hpw V.length hV3;generalize htt:u.length^V.length=tot at*;obtain⟨P,hP⟩:∃P:Bnd→Bool,P=fun σ=>allL l (XM sto0 A).A σ false:=⟨_,rfl⟩
 have hVe:V=ZU (whT (V7 l)):=hV.symm;have hgd:∀m,ZI (X0 u V m):=fun m=>by rw[hVe];exact Zp5 om hU.2 m
 have hdm:∀m,Zp (X0 u V m)=V:=ZfH u V;have hdl:∀m,(X0 u V m).length=V.length:=fun m=>by have:=congrArg List.length (hdm m);simpa[Zp]using this
 have hin:∀m,P (X0 u V m)=true→X0 u V m∈R:=fun m h=>hA2 _ (hgd m) (fun k=>by rw[hdm]) (by rw[hP]at h;exact h)
 have hcl:∀m,Zhv u V P m≤m:=fun m=>by
  unfold Zhv;exact Ue (UH _ _) sm
 refine Zm (Zsy R l V u tot (Zhv u V P) n W) tot rfl ?_ ?_
 ·exact KK
 intro m hm;refine ZQ rfl ?_;rcases Qe m tot with h3|h3
 ·have hcm:=hcl m;have hcs:=ZqJ u V P m;generalize Zhv u V P m=c at*;have h3i:decide ((m:Int)<(tot:Int))=true:=by rw[decide_eq_true_eq];omega
  refine nq2 h3i h3 ?_;refine nT ?_;refine gc ?_;refine nR ?_;have hbi:∀q,Inside (n+1) q (.sl 5 ((X0 u V m).map eBd) .any):=fun q=>(Zw (n+1) (X0 u V m)).inside
  refine WM ⟨[(15,.sl 5 ((X0 u V m).map eBd) .any),(14,.int .i64 m),(13,.int .i64 c),(11,.int .i64 tot),(10,.sl 4 (u.map Tm.enc) .any),(9,.sl 1 (Yo V) .any),(6,.sl 1 (R.map Zj) .any),(5,.ptr n 0 0),(0,.sl 13 (l.map Lt.enc) .any)],[],W⟩ ?_ ?_
  ·refine kK ?_;refine Xn 15 201 42 5 rfl rfl ?_;have ho:∀(q:Nat→Prop) (b:Bnd),q 201→Inside (n+1) q (.sl 5 (b.map eBd) (.buf (n+1) 201)):=fun q b h=>Abs.Yj (mB fun p=>Zdh _ p) h
   refine Zm (ZvA R l V u tot c n W m) V.length rfl ?_ ?_
   ·apply kZ;repeat' first|apply q0|exact xx|apply aI
    all_goals first|exact(hall _).1|exact(hall _).2.1|exact(hall _).2.2|exact hstr _|exact(ZH _).inside|exact ho _ [] rfl|(simp only[go_sem,simprocAttr,Nat.pow_zero,Nat.div_one];exact .refl _)
   intro j hj;refine ZQ rfl ?_;rcases Qe j V.length with h4|h4
   ·obtain⟨r,hr⟩:∃r,r=m / u.length^j % u.length:=⟨_,rfl⟩
    have hru:r<u.length:=hr▸Qaj _ om;have htm:((m / u.length^j:Nat):Int).tmod (u.length:Int)=(r:Int):=by rw[hr];exact(Int.ofNat_tmod _ _).symm
    have gS:(Yo V).getD j .dead= .str V[j]:=getD_map AV.str V j h4 _;have gU:=Tm.Zh u r hru .dead;have hne:¬((u.length:Int)=0):=om;have hr0:(0:Int)≤(r:Int)∧(r:Int)<(u.length:Int):=om;have hds:=Zj5 u V j h4 m;have hdj:(X0 u (V.take j) m).length=j:=by have:=congrArg List.length (ZfH u (V.take j) m);rw[QM]at this;simp only[Zp,Qw]at this;omega
    refine nq2 hVl h4 ?_;refine nT ?_;refine nD o3 ?_;simp only[go_sem,simprocAttr,o3,h4,htm,gS,hne,hr0,Int.toNat_natCast,gU,hru];have hur:u.getD r (.mk 0 0 [] [])=u[r]:=by rw[Qn,Qb hru];rfl
    have hm2:(X0 u (V.take j) m).map eBd++[AV.agg [.str V[j],.int .u8 u[r].kind,.int .i64 u[r].num,.str u[r].name,.sl 4 (u[r].args.map Tm.enc) .any]]=(X0 u (V.take (j+1)) m).map eBd:=by
     rw[hds,←hr,hur,QC];rfl
    have hqt:((m / u.length^j:Nat):Int).tdiv (u.length:Int)=((m / u.length^(j+1):Nat):Int):=by
     rw[QaL,←Qby];exact(Int.ofNat_tdiv _ _).symm
    have hml:m / u.length^(j+1)≤m:=QbB _ _;refine⟨rfl,⟨hdj.symm,Zl om,om⟩,?_⟩;rw[hm2,hdj];have hwr:∀d:Nat,d≤m→IntKind.i64.wrap (d:Int)=(d:Int):=fun d hd=>iw
    have hqw:IntKind.i64.wrap ((m / u.length^(j+1):Nat):Int)=((m / u.length^(j+1):Nat):Int):=hwr _ hml;refine nq3 hqt hqw hne ?_;refine gd ?_;exact KK
   ·have hj':j=V.length:=om;subst hj';refine nr ?_;simp only[go_sem,simprocAttr,hVl,QY];refine gJ ?_;refine⟨rfl,?_⟩;rw[QI];exact KK
  refine ZQ rfl ?_;refine nR ?_;refine Zdw (Zf func11 rfl rfl) (e11 (n+1+1) _ n 0 (XM sto0 A) l (X0 u V m) false om (hHW.full (Qr n) _) hok om hx (by have:=hdl m;omega) (hgd m) (QO _) (hTW.full (QO _))) (by simp only[go_sem,simprocAttr,Zj]) ?_;have hPm:allL l (XM sto0 A).A (X0 u V m) false=P (X0 u V m):=by rw[hP]
  rw[hPm];cases hpm:P (X0 u V m)with
  |false=>
   rw[hpm,if_neg sm,UF]at hcs;refine aS ?_;refine gD ?_;unfold Zsy;rw[hcs];exact KK
  |true=>
   rw[hpm,if_pos rfl]at hcs;have hmem:=hin m hpm;have hany:(R.any fun c=>Zbl c (X0 u V m))=true:=UW.2 ⟨_,hmem,ZlJ _⟩;simp only[go_sem,simprocAttr];refine nT ?_;refine gc ?_;refine WE (Zf func14 rfl rfl) (e14 R (X0 u V m) om (fun c hc=>by have:=hd0 c hc;omega) (fun c hc q hq=>Xi ((hg0.good c hc).val q hq))) (by simp only[go_sem,simprocAttr,Zj]) ?_;simp only[go_sem,simprocAttr,Zj];simp only[go_sem,simprocAttr,hany];refine nF ?_;repeat refine kn rfl ?_
   refine gd ?_;unfold Zsy;rw[hcs];exact KK
 ·have hm':m=tot:=om;subst hm';have hle:=cnt_le (u:=u) om hU.1 (l:=V) (P:=P) (r:=R) hin;rw[htt]at hle;have hfin:decide (Zhv u V P m≤R.length)=true:=by rw[decide_eq_true_eq];exact hle
  have hmm:decide ((m:Int)<(m:Int))=false:=sm;refine nr ?_;simp only[go_sem,simprocAttr,hmm,QY];refine gg ?_;refine nq hfin ?_;refine nV ?_;exact Zn (.refl _) (.bool _) ⟨rfl,hcut⟩
end Go.Proofs.YtmdeagmbfhbbnaaGreatDoorR
