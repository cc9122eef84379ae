/- Atoms that are read: their bytes. -/
import Derived.Test.YtmdeagmbfhbbnaaGreatDoorRK13
set_option linter.all false
set_option maxRecDepth 100000
open Go.Proofs.Tryz
namespace Go.Proofs.YtmdeagmbfhbbnaaGreatDoorR
open Go.Abs
def Zop{cs:List AV}(h:XB tt 23 cs):∃l:List Am,ZfQ tt 23 cs= .sl 2 (l.map Am.enc) .any∧(l.length+1)*40≤140737488355328∧ ∀a∈l,NmA a:=by
 obtain⟨xs,rfl,hx,hlen⟩:=h.ZhM r23 rfl r52;obtain⟨l,rfl,h2⟩:=ZiQ (enc:=Am.cs) (p:=NmA) (fun x hx'=>Zl1 (hx x hx'));refine⟨l,?_,?_,h2⟩
 ·rw[Qbm];rfl
 ·rw[Qv]at hlen;have h1:l.length*40≤140737488351232:=hlen;omega
def Zcu(p q:Str×Tm):Bool:=(p.1==q.1)&&eqT p.2 q.2
def Zoa(p q:Str×Tm):Zcu p q=true↔p=q:=by
 unfold Zcu;rw[Qi,beq_iff_eq,eqT_iff];exact⟨fun h=>QaX h.1 h.2,fun h=>by rw[h];exact⟨rfl,rfl⟩⟩
def Zud(p q:Str×Tm)(hp:p.2.Good):Pure prog 107 [eBd p,eBd q] (.bool (Zcu p q)):=by
 intro n H;refine aF func107 fun B=>?_
 refine nR ?_;cases h1:(p.1==q.1)with
 |true=>
  refine nq h1 ?_;refine cP (a62 p.2 q.2 hp) ?_;refine YD rfl rfl ?_;refine Zc ?_ (.bool _) rfl;try simp only[go_sem,simprocAttr,Zcu,h1,U0]
  exact .refl _
 |false=>
  refine nq h1 ?_;refine YD rfl rfl ?_;refine Zc ?_ (.bool _) rfl;try simp only[go_sem,simprocAttr,Zcu,h1,G5]
  exact .refl _
def Za4(b c:Bnd):Bool:=(b.length==c.length)&&(b.zip c).all fun x=>Zcu x.1 x.2
def ZfM(b:Bnd):Za4 b b=true:=by
 unfold Za4;rw[Qi,Qx];refine⟨sm,fun x hx=>(Zoa _ _).2 ?_⟩;obtain⟨i,hi,rfl⟩:=QK hx;simp
def ZuC(b c:Bnd)(H:Za)(i:Nat):Zb:=⟨[(5,.int .i64 i),(0,.sl 5 (b.map eBd) .any),(1,.sl 5 (c.map eBd) .any)],[],H⟩
def e58(b c:Bnd)(hb:b.length≤1000000)(gb:∀q∈b,q.2.Good):Pure prog 58 [Zj b,Zj c] (.bool (Za4 b c)):=by
 intro n H;have hin:∀q,Inside n q (.sl 5 (b.map eBd) .any)∧Inside n q (.sl 5 (c.map eBd) .any):=fun q=>⟨(ZC n b).inside,(ZC n c).inside⟩
 refine aF func58 fun B=>?_
 refine nR ?_;by_cases hl:b.length=c.length;rotate_left
 ·have hn:((b.length:Int) !=(c.length:Int))=true:=by simp;omega
  have hs:Za4 b c=false:=by unfold Za4;rw[Bool.and_eq_false_iff];exact .inl (by simpa using hl)
  refine nr ?_;simp only[go_sem,simprocAttr,Zj,hn];refine gi ?_;refine YD rfl rfl ?_;refine Zc ?_ (.bool _) rfl;try simp only[go_sem,simprocAttr,hs]
  exact .refl _
 have hn:((b.length:Int) !=(c.length:Int))=false:=by simp;omega
 have hs:Za4 b c=(b.zip c).all fun x=>Zcu x.1 x.2:=by unfold Za4;rw[show(b.length==c.length)=true by simpa using hl,U0]
 rw[hs];refine nr ?_;simp only[go_sem,simprocAttr,Zj,hn];refine gv ?_;repeat refine kn rfl ?_
 refine Ya (ZuC b c H) (fun i=>((b.zip c).all fun x=>Zcu x.1 x.2)=(((b.zip c).drop i).all fun x=>Zcu x.1 x.2)) b.length rfl ?_ sm ?_
 ·exact KK
 intro i hi hq;refine Yb rfl ?_;rcases Qe i b.length with h|h
 ·have h':i<c.length:=om;have hz:i<(b.zip c).length:=by rw[List.length_zip];omega
  rw[Qw hz,Qbb,List.getElem_zip]at hq;simp only at hq;refine nq h ?_;refine nT ?_;refine dq4 (getD_map eBd _ _ h) (getD_map eBd _ _ h') h h' ?_;refine cP (Zud b[i] c[i] (gb _ (Qa h))) ?_;cases hsp:Zcu b[i] c[i]with
  |false=>
   rw[hsp,G5]at hq;refine gn ?_;rw[hq];exact Zc (.refl _) (.bool _) rfl
  |true=>
   rw[hsp,U0]at hq;refine gD ?_;refine⟨hq,?_⟩;exact KK
 ·have hd:(b.zip c).drop i=[]:=Ur (by rw[List.length_zip];omega);rw[hd]at hq;rw[hq];refine nq (QG.2 h) ?_;refine gG ?_;exact pB
def ZtR(R:List Bnd)(b:Bnd)(H:Za)(i:Nat):Zb:=⟨[(5,.int .i64 i),(0,.sl 1 (R.map Zj) .any),(1,.sl 5 (b.map eBd) .any)],[],H⟩
def e14(R:List Bnd)(b:Bnd)(hR:R.length≤1000000)(hl:∀c∈R,c.length≤1000000)(gR:∀c∈R,∀q∈c,q.2.Good):Pure prog 14 [.sl 1 (R.map Zj) .any,Zj b] (.bool (R.any fun c=>Za4 c b)):=by
 intro n H;have hin:∀q,Inside n q (.sl 1 (R.map Zj) .any)∧Inside n q (.sl 5 (b.map eBd) .any):=fun q=>⟨(Zw _).inside,(ZC n b).inside⟩
 refine aF func14 fun B=>?_
 refine gk ?_;refine Ya (ZtR R b H) (fun i=>(R.any fun c=>Za4 c b)=((R.drop i).any fun c=>Za4 c b)) R.length rfl ?_ sm ?_
 ·unfold ZtR;exact KK
 intro i hi hq;refine Yb rfl ?_;rcases Qe i R.length with h|h
 ·rw[Qw h,QbC]at hq;have hm:=Qa h;refine nr ?_;refine aq h ?_;refine nT ?_;refine nq2 (getD_map Zj _ _ h) h ?_;refine Vd (Zf func58 rfl rfl) (e58 R[i] b (hl _ hm) (gR _ hm)) (by simp only[go_sem,simprocAttr,Zj]) ?_;simp only[go_sem,simprocAttr,Zj];cases hsp:Za4 R[i] b with
  |true=>
   rw[hsp,G9]at hq;refine gn ?_;rw[hq];exact Zc (.refl _) (.bool _) rfl
  |false=>
   rw[hsp,MR]at hq;refine gD ?_;refine⟨hq,?_⟩;exact KK
 ·rw[Ur h]at hq;rw[hq];refine nq (QG.2 h) ?_;refine gG ?_;exact pB
def Zou{n ls:Nat}{A:List Am}{G:Za}(hA:VF A)(hT:Tabs G)(hn:0<n)(hls:ls<n)(hs:ZV G ls 0 (Y7 sto0 A)){l:List Lt}(hl:l.length≤10)(hsm:∀x∈l,Sm x)(hop:∀x∈l,0≤x.op∧x.op≤255){b:Bnd}(hb:b.length≤1000)(gb:∀q∈b,q.2.Good){ol ob:Own}{R:List Bnd}{e:Int}(hj:ZN (Y7 sto0 A).A l b=(R,e)):
  PC prog n 10 [.sl 13 (l.map Lt.enc) ol,.ptr ls 0 0,.sl 5 (b.map eBd) ob] G (.tup [.sl 1 (R.map Zj) .any,eInt e]):=by
 have h:=k10 e100 n G hT hn ls 0 hls (Y7 sto0 A) hs (ok0.Y7 hA) l hl hsm hop b hb gb;rw[hj]at h;exact Zh.args h ⟨.any _ _ _,.refl _,.any _ _ _,trivial⟩
def w8o(l:List Lt)(A:List Am)(b:Bnd)(o1 o2 o3:Own)(h:InJ l A b):Pure prog 8 [.sl 13 (l.map Lt.enc) o1,.sl 2 (A.map Am.enc) o2,.sl 5 (b.map eBd) o3] (.bool (Zcw l A b)):=
 Pure.args (w8 l A b h.hl h.hA h.hb h.gl h.gb) ⟨.any _ _ _,.any _ _ _,.any _ _ _,trivial⟩
def Zt8(R:List Bnd)(H:Za)(i:Nat):Zb:=⟨[(5,.int .i64 i),(0,.sl 1 (R.map Zj) .any),(1,.sl 1 (R.map Zj) .any)],[],H⟩
def e21(R:List Bnd)(hR:R.length≤1000000)(hl:∀c∈R,c.length≤1000000)(gR:∀c∈R,∀q∈c,q.2.Good):Pure prog 21 [.sl 1 (R.map Zj) .any,.sl 1 (R.map Zj) .any] (.bool true):=by
 intro n H;have hall:∀q,Inside n q (.sl 1 (R.map Zj) .any):=fun q=>(Zw _).inside
 have hn:((R.length:Int) !=(R.length:Int))=false:=sm;refine aF func21 fun B=>?_
 refine nR ?_;refine nq hn ?_;refine gN ?_;refine Zr (Zt8 R H) R.length rfl ?_ ?_
 ·exact KK
 intro i hi;refine Yb rfl ?_;rcases Qe i R.length with h|h
 ·have hm:=Qa h;refine nr ?_;refine aq h ?_;refine nT ?_;refine nD drawO ?_;refine aq2 (getD_map Zj _ _ h) h ?_;refine Vd (Zf func58 rfl rfl) (e58 R[i] R[i] (hl _ hm) (gR _ hm)) (by simp only[go_sem,simprocAttr,Zj]) ?_;simp only[go_sem,simprocAttr,Zj];simp only[go_sem,simprocAttr,ZfM];refine nF ?_;refine Zbp rfl ?_;repeat refine kn rfl ?_
  refine gd ?_;exact KK
 ·refine nq (QG.2 h) ?_;refine gG ?_;exact pB
def ZqS(A:List Am)(a:Am):∀x∈(Y7 sto0 A).A,x∈(Y7 sto0 (A++[a])).A:=by
 rw[Zep];unfold WE;intro x hx;split
 ·exact hx
 ·split
  ·exact hx
  ·split
   ·exact hx
   ·exact QC _ hx
def ss6(l:List Lt)(A:List Am)(a:Am)(n:Nat)(H:Za)(i:Nat):Zb:=
 ⟨[(8,.int .i64 ((l.length:Int) - 1 - i)),(7,.sl 13 ((l.reverse.take i).map Lt.enc) (.buf (n+1) 200)),(0,.sl 13 (l.map Lt.enc) .any),(1,.sl 2 (A.map Am.enc) .any),(5,.ptr (n+1) 5 0)],[(200,.buf 54 13 i),(5,.box a.cs)],H⟩
def o6:Opt:=⟨true,true,fun d=>if d=22 then .lay false else if d=25 then .heap else .auto,[22]⟩
def e6(l:List Lt)(A:List Am)(a:Am)(hi:InJ l (A++[a]) [])(hlen:(A.length+1)*40≤140737488355328):Z5 prog 6 [.sl 13 (l.map Lt.enc) .any,.sl 2 (A.map Am.enc) .any,a.enc] (.bool true):=by
 intro n H hn hT;have hTc:=hT.cut hn;have hfr:=YF.cut n n H (Qd _) 0;refine PC.up 1 (.bool _) ?_;refine aF func6 fun B=>?_
 refine gc ?_;refine cQ (e7 (n+1+1) _ (QO _) (hTc.full (QO _))) ?_;refine aS ?_;refine gu ?_;refine nD o6 ?_;simp only[go_sem,simprocAttr,o6,Uz,Nat.reduceBEq,UZ,U1,Nat.reduceEqDiff];have hone:∀q:List Am,∀y∈q.map Am.enc,y.cells.all AV.one=true:=fun q y hy=>by obtain⟨u,_,rfl⟩:=Qh.1 hy;rfl
 have hmx:A.length+1≤maxLen:=by unfold maxLen;omega
 refine⟨rfl,⟨hone A,om,om⟩,rfl,⟨hmx,om⟩,?_⟩;have hap:A.map Am.enc++[a.enc]=(A++[a]).map Am.enc:=by rw[QI];rfl
 rw[hap];refine cR (w8o l (A++[a]) [] .any (.buf (n+1) 22) .full hi) ?_;cases hg:Zcw l (A++[a]) []with
 |true=>
  refine gj ?_;exact Zn (.refl _) (.bool _) ⟨rfl,fun l k hl=>if_pos hl⟩
 |false=>
 refine nF ?_;refine Zbp rfl ?_;have hs:=hi.small hg;have hgA:VF A:=fun x hx=>hs.gA x (QC _ hx)
 have hga:a.Good:=hs.gA a sm;have hok:Ok (Y7 sto0 A):=ok0.Y7 hgA;have hl5:=hs.l5;have hA24:=hs.A24;rw[Qg]at hA24;have hw1:IntKind.i64.wrap ((l.length:Int) - 1)=(l.length:Int) - 1:=iw;refine nR ?_;refine nq hw1 ?_;refine kK ?_;refine Xz 7 200 54 13 rfl rfl ?_;have hbuf:∀(q:Nat→Prop) (r:List Lt),q 200→Inside (n+1) q (.sl 13 (r.map Lt.enc) (.buf (n+1) 200)):=fun q r h=>Abs.Yx (mB fun u=>u.blw _) h
 refine Zr (ss6 l A a n (Zbc n H)) l.length rfl ?_ ?_
 ·apply kZ;repeat' first|apply q0|exact xx|apply aI
  all_goals first|exact(Ye _).inside|exact(YX _).inside|exact hbuf _ [] rfl|(simp only[go_sem,simprocAttr,QbE,Qbj];exact .refl _)
 intro i hi';refine Yb rfl ?_;rcases Qe i l.length with h|h
 ·obtain⟨k,hk⟩:∃k:Nat,k=l.length - 1 - i:=⟨_,rfl⟩
  have hkl:k<l.length:=om;have hki:(l.length:Int) - 1 - (i:Int)=(k:Int):=om;have hk0:decide ((0:Int)≤(k:Int))=true:=by rw[decide_eq_true_eq];omega
  have hki2:(k:Int) - 1=(l.length:Int) - 1 - ((i+1:Nat):Int):=om;have hkb:(0:Int)≤(k:Int)∧(k:Int)<(l.length:Int):=om;have hrl:i<l.reverse.length:=by rw[QaN];exact h
  have hrv:l.reverse[i]=l[k]:=by rw[List.getElem_reverse];congr 1;omega
  have hm:(l.reverse.take i).map Lt.enc++[l[k].enc]=(l.reverse.take (i+1)).map Lt.enc:=by rw[Qn hrl,QI,hrv];rfl
  have hmin:(l.reverse.take i).length=i:=by rw[QJ,QaN];omega
  unfold ss6;rw[hki];refine nq2 hk0 h ?_;refine gH ?_;simp only[go_sem,simprocAttr,hkb,Lt.Zp _ _ hkl,hkl,hmin,Int.toNat_natCast];refine⟨rfl,⟨Zm om,om⟩,?_⟩;rw[hm];refine gd ?_;apply kZ;repeat' first|apply q0|exact xx|apply aI
  all_goals first|exact(Ye _).inside|exact(YX _).inside|exact hbuf _ _ rfl|(simp only[go_sem,simprocAttr];rw[iw,hki2];exact .refl _)
 have hil:i=l.length:=om;subst hil;have hk0:decide ((0:Int)≤(l.length:Int) - 1 - (l.length:Int))=false:=by rw[decide_eq_false_iff_not];omega
 have htr:l.reverse.take l.length=l.reverse:=QZ sm;unfold ss6;rw[htr];refine nr ?_;simp only[go_sem,simprocAttr,hk0,Ui];refine gG ?_;refine call9 rfl n 0 A .any (Qp n) hfr hgA om (QO _) hTc sS ?_;refine aS ?_;have hsm':∀x∈l.reverse,Sm x:=fun x hx=>hs.sm x (Qbi.1 hx)
 have hop':∀x∈l.reverse,0≤x.op∧x.op≤255:=fun x hx=>hi.op x (Qbi.1 hx)
 have hTp:=hTc.put hfr (Y7 sto0 A);have hTp2:=hTc.put hfr (Y7 sto0 (A++[a]));have hok2:Ok (Y7 sto0 (A++[a])):=ok0.Y7 hs.gA;have hH1:ZV (put (Zbc n H) n 0 (Y7 sto0 A)) n 0 (Y7 sto0 A):=ZV.put _ _ _ _;have hH2:ZV (put (Zbc n H) n 0 (Y7 sto0 (A++[a]))) n 0 (Y7 sto0 (A++[a])):=ZV.put _ _ _ _;have hcut2:∀l k,l<n→put (Zbc n H) n 0 (Y7 sto0 (A++[a])) l k=H l k:=ZiE (Qd n);have hMF:=Zlw hok.v hok2.v (ZqS A a) l l.reverse fun x=>Qbi.symm
 have hl1:=ZhI (Y7 sto0 A).A l [];have hd1:=Zg4 hok.v (l:=l) (b:=[]) om hs.sm sm;have hg1:=Zc3 hok.v l [];have hl3:=ZhI (Y7 sto0 (A++[a])).A l [];have hd3:=Zg4 hok2.v (l:=l) (b:=[]) om hs.sm sm;have hg3:=Zc3 hok2.v l [];obtain⟨R1,e1,hj1⟩:∃R e,ZN (Y7 sto0 A).A l []=(R,e):=⟨_,_,rfl⟩
 obtain⟨R2,e2,hj2⟩:∃R e,ZN (Y7 sto0 A).A l.reverse []=(R,e):=⟨_,_,rfl⟩
 obtain⟨R3,e3,hj3⟩:∃R e,ZN (Y7 sto0 (A++[a])).A l []=(R,e):=⟨_,_,rfl⟩
 rw[hj1,hj2,hj3]at hMF;rw[hj1]at hl1 hd1 hg1;rw[hj3]at hl3 hd3 hg3;simp only at hMF hl1 hd1 hl3 hd3;obtain⟨hM1,hM2,hM3,hM4⟩:=hMF;refine nR ?_;refine cQ (Zou hgA (hTp.full (QO _)) (QO _) (MH (Qp n)) (hH1.full (Qp n) _) om hs.sm hi.op (b:=[]) sm sm (ol:=.any) (ob:=.full) hj1) ?_;simp only[go_sem,simprocAttr,eInt];refine nR ?_;refine cQ (Zou hgA (hTp.full (QO _)) (QO _) (MH (Qp n)) (hH1.full (Qp n) _) (by rw[QaN];omega) hsm' hop' (b:=[]) sm sm (ol:=.buf (n+1) 200) (ob:=.full) hj2) ?_;simp only[go_sem,simprocAttr,eInt];refine nR ?_;refine Zpr rfl n 0 (Y7 sto0 A) a rfl (Qp n) hfr hok.fit hga (QO _) hTc sS ?_;rw[←Zep];obtain⟨W,hW⟩:∃W,W=put (Zbc n H) n 0 (Y7 sto0 (A++[a])):=⟨_,rfl⟩
 rw[←hW]at hH2 hTp2 hcut2⊢;simp only[go_sem,simprocAttr];refine nR ?_;refine cQ (Zou hs.gA (hTp2.full (QO _)) (QO _) (MH (Qp n)) (hH2.full (Qp n) _) om hs.sm hi.op (b:=[]) sm sm (ol:=.any) (ob:=.full) hj3) ?_;simp only[go_sem,simprocAttr,eInt];have hb2:(e2==120)=(e1==120):=by rw[UG,beq_iff_eq,beq_iff_eq];exact hM1.symm
 have hb3:(e3==120)=(e1==120):=by rw[UG,beq_iff_eq,beq_iff_eq];exact hM2.symm
 have hall:∀(q:Nat→Prop),Inside (n+1) q (.sl 1 (R1.map Zj) .any)∧Inside (n+1) q (.sl 1 (R3.map Zj) .any):=fun q=>⟨(Zw _).inside,(Zw _).inside⟩
 refine kK ?_;refine V5 ⟨[(89,.bool false),(15,.int .i64 e3),(14,.sl 1 (R3.map Zj) .any),(10,.sl 1 (R1.map Zj) .any)],[],W⟩ ?_ ?_
 ·cases hq:(e1==120)with
  |true=>
   rw[hq]at hb2 hb3;have hz:(e1==0)=false:=by rw[beq_iff_eq]at hq;rw[hq];rfl
   refine nr ?_;simp only[go_sem,simprocAttr,hq,hb2,hb3,hz,bne_self_eq_false];refine nN ?_;refine⟨rfl,?_⟩;exact KK
  |false=>
   rw[hq]at hb2 hb3;cases hz1:(e1==0)with
   |false=>
    refine nr ?_;simp only[go_sem,simprocAttr,hq,hb2,hb3,hz1,bne_self_eq_false];refine nN ?_;refine⟨rfl,?_⟩;exact KK
   |true=>
    cases hz2:(e2==0)with
    |false=>
     refine nr ?_;simp only[go_sem,simprocAttr,hq,hb2,hb3,hz1,hz2,bne_self_eq_false];refine nN ?_;refine⟨rfl,?_⟩;exact KK
    |true=>
     have hRR:R1=R2:=hM3 (by simpa using hz1) (by simpa using hz2);subst hRR;refine nr ?_;simp only[go_sem,simprocAttr,hq,hb2,hb3,hz1,hz2,bne_self_eq_false];refine cP (e21 R1 om (fun c hc=>by have:=hd1 c hc;omega) (fun c hc q hq=>Xw ((hg1.good c hc).val q hq))) ?_;refine nN ?_;refine⟨rfl,?_⟩;exact KK
 refine gN ?_;refine Zr (fun i=>⟨[(16,.int .i64 i),(15,.int .i64 e3),(14,.sl 1 (R3.map Zj) .any),(10,.sl 1 (R1.map Zj) .any)],[],W⟩) R1.length rfl ?_ ?_
 ·exact KK
 intro i hi2;refine Yb rfl ?_;rcases Qe i R1.length with h2|h2
 ·cases hz3:(e3==0)with
  |false=>
   refine nq2 h2 hz3 ?_;refine gt ?_;exact Zn (.refl _) (.bool _) ⟨rfl,hcut2⟩
  |true=>
   have hmem:=hM4 (by simpa using hz3) _ (Qa h2);have hany:(R3.any fun c=>Za4 c R1[i])=true:=Gx.2 ⟨_,hmem,ZfM _⟩;refine nr ?_;refine aq2 h2 hz3 ?_;refine gH ?_;refine aq2 (getD_map Zj _ _ h2) h2 ?_;refine Vd (Zf func14 rfl rfl) (e14 R3 R1[i] om (fun c hc=>by have:=hd3 c hc;omega) (fun c hc q hq=>Xw ((hg3.good c hc).val q hq))) (by simp only[go_sem,simprocAttr,Zj]) ?_;simp only[go_sem,simprocAttr,Zj];simp only[go_sem,simprocAttr,hany];refine nF ?_;refine Zbp rfl ?_;repeat refine kn rfl ?_
   refine gd ?_;exact KK
 ·refine nq (QG.2 h2) ?_;refine gt ?_;exact Zn (.refl _) (.bool _) ⟨rfl,hcut2⟩
end Go.Proofs.YtmdeagmbfhbbnaaGreatDoorR
