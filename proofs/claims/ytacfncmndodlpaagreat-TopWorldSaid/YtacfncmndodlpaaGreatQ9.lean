/- Part of a proof over the seat YtacfncmndodlpaaGreat. Its claim's last module says what is proved. -/
import Derived.Test.YtacfncmndodlpaaGreatQ6
import Derived.Test.YtacfncmndodlpaaGreatQ7
set_option linter.all false
set_option maxHeartbeats 12800000
namespace Go.Proofs.YtacfncmndodlpaaGreat
section
open Go.Proofs Tryz
open Go.Proofs Go.RowKit
def H5(p t:TX):Prop:=p.bx<t.bx∨p.bx=t.bx∧p.ck<t.ck
theorem kA.pw{cs:List (List TX)}(h:kA cs):cs.flatten.Pairwise H5:=by
 rw[List.pairwise_flatten];constructor
 ·intro c hc;obtain⟨a,ha⟩:=zk hc;have C:=h.ch a c ha;rw[za5];intro i j hi hj jk;obtain⟨h1,h2,-⟩:=C.aO i c[i] (za hi);obtain⟨g1,g2,-⟩:=C.aO j c[j] (za hj);exact .inr ⟨by omega,by omega⟩
 ·rw[za5];intro i j hi hj jk x hx y hy;obtain⟨k,hk⟩:=zk hx;obtain⟨m,hm⟩:=zk hy;have h1:=((h.ch i _ (za hi)).aO k x hk).1;have h2:=((h.ch j _ (za hj)).aO m y hm).1;exact .inl (by omega)
theorem iH.next{l:List TX}(h:iH l){i:Nat}{p t:TX}(hp:l[i]? =some p)(ht:l[i+1]? =some t):H5 p t:=by
 obtain⟨cs,hc,rfl⟩:=h.cs;have:=hc.pw;rw[za5]at this;obtain⟨h1,rfl⟩:=List.getElem?_eq_some_iff.1 hp;obtain⟨h2,rfl⟩:=List.getElem?_eq_some_iff.1 ht;exact this i (i+1) h1 h2 (by omega)
theorem iH.XF{A:HP}{L l':List TZ}(h:iH (bu L)){a:Nat}(ha:a<8)(hs:Same (tM a L) l')(hi:bR A l'):Eh A l':=by
 obtain⟨cs,hc,e⟩:=h.cs;obtain⟨c,tI⟩:∃c,cs[a]? =some c:=⟨_,za (by rw[hc.len];exact ha)⟩
 have C:=hc.ch a c tI;have hl:l'.map TZ.t=c:=by
  unfold Same tM at hs;rw[hs,←LC hc tI,←e];unfold bu;rw[List.filter_map];rfl
 have hg:∀(i:Nat) (z:TZ),l'[i]? =some z→c[i]? =some z.t:=fun i z hz=>by rw[←hl,zf,hz];rfl
 refine⟨hi,fun z hz=>?_,?_,fun i z hz=>(C.aO i _ (hg i z hz)).2.1,⟨a,fun z hz=>?_⟩,?_⟩
 ·obtain⟨i,hz⟩:=zk hz;exact(C.aO i _ (hg i z hz)).2.2.1
 ·have:=C.len;rw[←hl]at this;simpa using this
 ·obtain⟨i,hz⟩:=zk hz;exact(C.aO i _ (hg i z hz)).1
 ·have:=C.sum;rw[←hl,zR]at this;exact this
theorem XG:Spec prog 44 [.agg fD.toArray] [] (fun v B=>v= .bool true∧B=[]):=by
 refine x_sp func44 ntmps44 fun E cs Γ=>?_;refine gi (h:=?_);refine ao (aM rfl rfl fun p1=>?_);refine Wq ?_;refine aJ rfl (wR _ _) rfl ?_;refine dh (h:=?_);rw[decide_eq_true (by decide)];refine dq (h:=iu (h:=w_ (h:=?_)));refine m5 rfl (um rfl rfl rfl rfl ?_);refine fT (h:=?_);refine aq rfl (wR _ _) rfl ?_;refine dh (h:=?_);rw[decide_eq_true (by decide)];refine dq (h:=uJ (h:=?_));exact ap rfl [] ⟨rfl,rfl⟩ Sub.h
theorem XH{A:HP}{aa:Option Addr}{c:Nat}(R:Reads A 5 aa 8 kH):Spec prog 45 [.slice aa 8 c] [A] (fun v B=>v= .bool true∧B=[A]):=by
 refine x_sp func45 ntmps45 fun E cs Γ=>?_;refine j7 (h:=?_);refine aQ (α:=Nat) (fun i=>i≤8) (fun i=>[(3,iv i),(0,.slice aa 8 c)]) (fun _=>A::Γ) (fun i=>8-i) 0 (zj _) x_tv Sub.h ?_;intro i hi back;refine Wl ?_;by_cases h:i<8
 ·refine aA (h:=?_);refine bK rfl rfl R (j:=i) rfl h rfl fun b off ha=>?_;refine oC (h:=?_);refine fM rfl R ha (i:=i*5+0) (by omega) (rQ h (j:=0) rfl) rfl ?_;refine aJ rfl (wR _ _) rfl ?_;refine dh (h:=?_);rw[decide_eq_true (by decide)];refine nZ (h:=?_);exact aV (back (i+1) (by omega) (by omega))
 obtain rfl:i=8:=by omega
 refine Wq ?_;exact ap rfl [A] ⟨rfl,rfl⟩ Sub.h
theorem XI(al:Option Addr)(cl:Nat):Spec prog 47 [.slice al 0 cl] [] (fun v B=>v= .bool true∧B=[]):=by
 refine x_sp func47 ntmps47 fun E cs Γ=>?_;refine kD (h:=?_);refine aQ (α:=Nat) (fun i=>i=0) (fun i=>[(3,iv (i:Nat)),(0,.slice al 0 cl)]) (fun _=>Γ) (fun i=>0) 0 rfl x_tv Sub.h ?_;rintro i rfl back;refine mC (h:=?_);exact ap rfl [] ⟨rfl,rfl⟩ Sub.h
theorem XJ{A:HP}{a:Option Addr}{n c x:Nat}{l:List Nat}(R:Reads A 1 a n (l.map nv))(hl:n≤2^40)(hx:x∉l):Spec prog 51 [.slice a n c,nv x] [A] (fun v B=>v= .int .i64 (-1)∧B=[A]):=by
 refine x_sp func51 ntmps51 fun E cs Γ=>?_;have hn:l.length=n:=by simpa using R.1
 refine gJ (h:=?_);refine aQ (α:=Nat) (fun i=>i≤n) (fun i=>[(5,iv i),(0,.slice a n c),(1,nv x)]) (fun _=>A::Γ) (fun i=>n-i) 0 (zj _) x_tv Sub.h ?_;intro i hi back;refine Wl ?_;by_cases h:i<n
 ·obtain⟨y,hy⟩:=bc (l:=l) (i:=i) (by omega);have cE:y≠x:=fun e=>hx (e ▸ zc hy);refine aA (h:=?_);refine bK rfl rfl R (j:=i) rfl h rfl fun b off ha=>?_;refine aw (h:=?_);refine fM rfl R ha (i:=i) (by omega) (by rw[zf,hy];rfl) rfl ?_;refine Wq ?_;exact aV (back (i+1) (by omega) (by omega))
 obtain rfl:i=n:=by omega
 refine Wq ?_;exact ap rfl [A] ⟨rfl,rfl⟩ Sub.h
theorem XK{A:HP}(z:BZ)(I:z.In A):Spec prog 22 [z.val] [A] (fun v B=>v= .bool true∧B=[A]):=by
 refine x_sp func22 ntmps22 fun E cs Γ=>?_;have hl:=I.len;refine eh (h:=?_);refine ao (aM rfl rfl fun p1=>?_);refine Wq ?_;refine aJ rfl XG rfl ?_;refine cS (h:=gg (h:=?_));refine aq rfl (XH I.ra) rfl ?_;refine jC (h:=fT (h:=?_));refine aq rfl (Nw I.rt I.it I.ok (by omega)) rfl ?_;refine jC (h:=fT (h:=?_));refine aq rfl (XI z.al z.cl) rfl ?_;refine jO (h:=?_);refine aQ (α:=Nat) (fun i=>1≤i∧(i≤z.l.length∨i=1)) (fun i=>[(3,iv i),(1,dp p1)]) (fun _=>A::Row p1 0 z.cells::Γ) (fun i=>z.l.length-i) 1 ⟨by omega,.inr rfl⟩ x_tv Sub.h ?_;rintro i ⟨dW,hi⟩ back;refine Wl ?_;by_cases h:i<z.l.length
 ·obtain⟨p,hp⟩:=bc (l:=z.l) (i:=i-1) (by omega);obtain⟨t,ht⟩:=bc (l:=z.l) (i:=i) h;have aN:H5 p.t t.t:=I.wide.next (i:=i-1) (by unfold bu;rw[zf,hp];rfl) (by unfold bu;rw[zf,show i-1+1=i by omega,ht];rfl)
  refine Wq ?_;refine oG I.rt (by omega) fun bt ot vv=>?_;refine eL (α:=Nat×Nat) (fun _=>True) (fun q=>[(5,.pointer (some ⟨q.2,0,none⟩)),(4,.pointer (some ⟨q.1,0,none⟩)),(3,iv i),(1,dp p1)]) (fun q=>Row q.1 0 p.cells::Row q.2 0 t.cells::A::Row p1 0 z.cells::Γ) ?_ ?_
  ·rintro⟨p4,p5⟩ -;have dk:=back (i+1) ⟨by omega,by omega⟩ (by omega);rcases aN with h1|⟨h1,h2⟩
   ·refine Wq ?_;exact aV dk
   ·refine Wq ?_;exact aV dk
  ·intro td fin;refine rz 15 [11,12,13,14] (.look 0 (.look 1 (.look 2 (.look 3 (.look 4 (.look 5 (.look 6 (.look 7 (.look 8 (.look 9 (.look 10 (.alt (gZ [(11,true),(12,true),(13,true),(14,true)]) (gZ [(12,true),(11,true),(13,true),(14,true)]))))))))))))) [A,Row p1 0 z.cells] mixed (by kernel_rfl) bd ?_;refine dg rfl (om rfl) ?_;refine dg rfl (qY rfl rfl rfl) ?_;refine dg rfl (lU rfl) ?_;refine dg rfl (FB rfl rfl (gE (by omega))) ?_;refine dg rfl (aY rfl rfl vv (j:=i-1) (by omega) (by omega)) ?_;refine dg rfl (eQ rfl I.rt vv (i:=(i-1)*21) (us:=p.cells) (by omega) rfl fun j v hv=>cG hp hv) ?_;refine dg rfl (om rfl) ?_;refine dg rfl (qY rfl rfl rfl) ?_;refine dg rfl (lU rfl) ?_;refine dg rfl (aY rfl rfl vv (j:=i) rfl h) ?_;refine dg rfl (eQ rfl I.rt vv (i:=i*21) (us:=t.cells) (by omega) rfl fun j v hv=>cG ht hv) ?_;refine mf (gL _ ?_) (gL _ ?_)
   ·refine aE rfl (aC rfl fun p4=>⟨bd,?_⟩);refine aE rfl (aC rfl fun p5=>⟨bd,?_⟩);refine aE rfl (dt (us:=p.cells) rfl rfl (by rfl) (by rfl) (by rfl) ⟨bd,?_⟩);refine aE rfl (dt (us:=t.cells) rfl rfl (by rfl) (by rfl) (by rfl) ⟨bd,?_⟩);refine dU (h:=?_);exact aV (fin (p4,p5) trivial)
   ·refine aE rfl (aC rfl fun p5=>⟨bd,?_⟩);refine aE rfl (aC rfl fun p4=>⟨bd,?_⟩);refine aE rfl (dt (us:=p.cells) rfl rfl (by rfl) (by rfl) (by rfl) ⟨bd,?_⟩);refine aE rfl (dt (us:=t.cells) rfl rfl (by rfl) (by rfl) (by rfl) ⟨bd,?_⟩);refine dU (h:=?_);exact aV (fin (p4,p5) trivial)
 clear back;refine Wq ?_;refine aQ (α:=Nat) (fun i=>i≤8) (fun i=>[(6,iv i),(1,dp p1)]) (fun _=>A::Row p1 0 z.cells::Γ) (fun i=>8-i) 0 (zj _) x_tv Sub.h ?_;intro a ha back;refine lN (h:=?_);by_cases h8:a<8
 ·refine Wq ?_;refine aJ rfl (Xu (a:Int) I.rt I.it (by omega)) rfl ?_;rintro v B ⟨k,l',a',c',hs,en,rfl,rfl⟩;refine a_ (h:=?_);have C:=I.wide.XF h8 hs en;have hl6:=C.len;refine GQ a' (h:=k) fun k2 bH R2 eV=>?_;replace C:Eh (Mem k2) l':=⟨C.i.up bH,C.ok,C.len,C.aO,C.bx,C.sum⟩
  refine nr (h:=?_);refine oG I.ra (by decide) fun ba oa lf=>?_;by_cases h0:0<l'.length
  ·obtain⟨x,hx⟩:=bc (l:=l') (i:=0) h0;have Me:=C.aO 0 x hx;refine oG R2 h0 fun bl ol jc=>?_;refine aZ 34 (aX [1,29] [0,1,2,3,4,5,6,7,8,9,10,11,12,13,14,15,16,17,18,19,20,21,22,23,24,25,26,27,28,30,31,29,32,33]) [Mem k2,A,Row p1 0 z.cells] ?_;refine dD (h:=?_);refine aE rfl (aq rfl (NB R2 C) rfl ?_);refine mc (h:=Ws ?_);refine bE rfl rfl (aY rfl rfl jc (j:=0) rfl h0) ?_;refine lP (h:=?_);refine bE rfl rfl (b7 rfl R2 jc (i:=0*21+1) (by omega) (cG hx (j:=1) rfl)) ?_;rw[Me];refine lP (h:=Bt (h:=xS (h:=?_)));refine bE rfl rfl (aY rfl rfl lf (j:=a) rfl h8) ?_;refine lP (h:=?_);refine bE rfl rfl (b7 rfl I.ra lf (i:=a*5+0) (by omega) (rQ h8 (j:=0) rfl)) ?_;refine Ws ?_;refine bE rfl rfl (aY rfl rfl lf (j:=a) rfl h8) ?_;refine lP (h:=?_);refine bE rfl rfl (eQ rfl I.ra lf (i:=a*5+1) (us:=uc 18446744073709551616) (by omega) rfl (fun j v hv=>by
    have:=rQ h8 (j:=1+j) (v:=v) (by rw[zaF];exact hv);rwa[←zax]at this)) ?_
   refine xS (h:=?_);refine bE rfl rfl (Ct rfl) ?_;refine gp rfl rfl (aq (vs:=[.slice a' l'.length c',uv 18446744073709551616]) rfl (NC eV R2 C) rfl ?_);refine mc (h:=Ei (h:=vj (h:=?_)));exact aV (back (a+1) (by omega) (by omega))
  ·refine aZ 34 (aX [1,29] [0,1,2,3,4,5,6,7,8,9,10,11,12,13,14,15,16,17,18,19,20,21,22,23,24,25,26,27,28,30,31,29,32,33]) [Mem k2,A,Row p1 0 z.cells] ?_;refine dD (h:=?_);refine aE rfl (aq rfl (NB R2 C) rfl ?_);refine mc (h:=Ws ?_);refine bE rfl rfl (aY rfl rfl lf (j:=a) rfl h8) ?_;refine lP (h:=?_);refine bE rfl rfl (eQ rfl I.ra lf (i:=a*5+1) (us:=uc 18446744073709551616) (by omega) rfl (fun j v hv=>by
    have:=rQ h8 (j:=1+j) (v:=v) (by rw[zaF];exact hv);rwa[←zax]at this)) ?_
   refine xS (h:=?_);refine bE rfl rfl (Ct rfl) ?_;refine gp rfl rfl (aq (vs:=[.slice a' l'.length c',uv 18446744073709551616]) rfl (NC eV R2 C) rfl ?_);refine mc (h:=Ei (h:=vj (h:=?_)));exact aV (back (a+1) (by omega) (by omega))
 obtain rfl:a=8:=by omega
 clear back;refine Wq ?_;refine aQ (α:=Nat×Option Addr×Nat) (fun q=>q.1≤z.l.length) (fun q=>[(9,iv q.1),(8,.slice q.2.1 q.1 q.2.2),(1,dp p1)]) (fun q=>Sl 1 q.2.1 q.1 q.2.2 (((bB z.l).take q.1).map nv)::A::Row p1 0 z.cells::Γ) (fun q=>z.l.length-q.1) (0,none,0) (zj _) x_tv (ak.cq _ _) ?_;rintro⟨i,a',c'⟩ hi back;dsimp only at hi back⊢;refine Wl ?_;have xU:(bB z.l).length=z.l.length:=by simp[bB]
 by_cases h:i<z.l.length
 ·obtain⟨x,hx⟩:=bc (l:=z.l) (i:=i) h;have vw:=zc hx;have lg:(bB z.l)[i]? =some x.t.id:=by unfold bB;rw[zf,hx];rfl
  have bM:x.t.id∉(bB z.l).take i:=fun hm=>by
   have dH:(bB z.l).Nodup:=by
    have:=I.wide.ids;unfold bu at this;rw[zR]at this;exact this
   obtain⟨j,hj⟩:=zk hm;have eC:j<i:=by have:=(List.getElem?_eq_some_iff.1 hj).1;simp at this;omega
   rw[zao eC]at hj;obtain⟨e1,e2⟩:=List.getElem?_eq_some_iff.1 hj;obtain⟨e3,e4⟩:=List.getElem?_eq_some_iff.1 lg;exact za5.1 dH j i e1 e3 eC (e2.trans e4.symm)
  refine aA (h:=?_);refine bK rfl rfl I.rt (j:=i) rfl h rfl fun b off hb=>?_;refine aw (h:=?_);refine dA rfl I.rt hb (i:=i*21) (us:=x.cells) (by omega) rfl (fun j v hv=>cG hx hv) rfl ?_;refine aw (h:=?_);refine aq (vs:=[x.val]) rfl (Nt x (I.it x vw) (I.ok x vw)) rfl ?_;refine jC (h:=?_);have RS:=Sl.reads 1 a' i c' (((bB z.l).take i).map nv) (by simp;omega);refine aJ rfl (XJ RS (by omega) bM) rfl ?_;refine vu (h:=?_);refine cf rfl (by rfl) (by rfl) (by rfl) (by rfl) rfl fun a2=>?_;refine aw (h:=?_);refine cF rfl rfl (by rfl) (by rfl) (by rfl) (by omega) rfl fun a3 c3 hc=>?_;have e1:((bB z.l).take i).map nv++[nv x.t.id]=((bB z.l).take (i+1)).map nv:=by rw[zp,lg];simp
  rw[e1];refine Wq ?_;exact aV (back (i+1,a3,c3) (by dsimp only;omega) (by dsimp only;omega))
 obtain rfl:i=z.l.length:=by omega
 clear back;refine Wq ?_;refine aQ (α:=Nat) (fun i=>i=0) (fun i=>[(11,iv (i:Nat)),(1,dp p1)]) (fun _=>A::Row p1 0 z.cells::Γ) (fun i=>0) 0 rfl x_tv Sub.h ?_;rintro i rfl back;refine mC (h:=?_);exact ap rfl [A] ⟨rfl,rfl⟩ Sub.h
end
end Go.Proofs.YtacfncmndodlpaaGreat
