/- Part of a proof over the seat YtacfncmndodlpaaGreat. Its claim's last module says what is proved. -/
import Derived.Test.YtacfncmndodlpaaGreatQ11
import Derived.Test.YtacfncmndodlpaaGreatQ12
set_option linter.all false
set_option maxHeartbeats 12800000
namespace Go.Proofs.YtacfncmndodlpaaGreat
section
open Go.Proofs Tryz
open Go.Proofs Go.RowKit
structure CZ.kh(c:CZ):Prop where
 q:∃(a1 a2 a3:Option Addr) (n1 n2 n3 c1 c2 c3:Nat),c.q6= .slice a1 n1 c1∧c.q7= .slice a2 n2 c2∧c.q8= .slice a3 n3 c3∧n1≤2^47∧n2≤2^47∧n3≤2^47
 one:c.cells.all Value.oneCell'=true
 s:c.s.length≤2^47
abbrev ln(l:List CZ):List Value:=l.flatMap CZ.cells
theorem CZ.len(a:CZ):a.cells.length=21:=rfl
theorem Qr{l:List CZ}{i:Nat}{z:CZ}(h:l[i]? =some z){j:Nat}{v:Value}(hv:z.cells[j]? =some v):(ln l)[i*21+j]? =some v:=by
 obtain⟨h1,h2⟩:=List.getElem?_eq_some_iff.1 h;have:=oA (l:=l) (f:=CZ.cells) CZ.len h1 j (by have:=(List.getElem?_eq_some_iff.1 hv).1;rwa[CZ.len]at this);rw[this,h2,hv]
theorem CZ.kh.abz{c:CZ}(h:c.kh):[c.q0,c.q1,c.q2,c.q3,c.q4,c.q5,c.q6,c.q7,c.q8].all Value.oneCell'=true:=by
 have:=h.one;simp only[CZ.cells,List.all_cons,zh,List.all_nil]at this⊢;obtain⟨-,-,-,h0,h1,h2,h3,h4,h5,h6,h7,h8,-⟩:=this;exact⟨h0,h1,h2,h3,h4,h5,h6,h7,h8,trivial⟩
theorem CZ.blk{c:CZ}{j:Nat}{v:Value}(hv:[c.q0,c.q1,c.q2,c.q3,c.q4,c.q5,c.q6,c.q7,c.q8][j]? =some v):c.cells[3+j]? =some v:=by
 rw[zaF];show([c.q0,c.q1,c.q2,c.q3,c.q4,c.q5,c.q6,c.q7,c.q8]++c.cells.drop 12)[j]? =some v;rw[zt (List.getElem?_eq_some_iff.1 hv).1];exact hv
abbrev ib(b:GB)(al:Option Addr)(n cl:Nat):List Value:=[b.h0,b.h1,b.h2,b.h3,b.h4,b.h5,b.h6,.slice b.aa b.na b.ca,.slice b.ad b.l.length b.ct,.slice b.al b.m.length b.cl,.slice al n cl]
theorem Fk{b:GB}{al:Option Addr}{n cl:Nat}(h:b.cells.all Value.oneCell'=true):(ib b al n cl).all Value.oneCell'=true:=by
 have e:ib b al n cl=b.cells++[Value.slice al n cl]:=rfl;rw[e,zbj,h];rfl
theorem Fm{A:HP}(b:GB)(I:b.In A){al:Option Addr}{cl:Nat}{L:List CZ}(R:Reads A 21 al L.length (ln L))(hG:∀c∈L,c.kh)(hl:L.length≤2^47):
 Spec prog 13 [.agg (ib b al L.length cl).toArray] [A] (fun v B=>∃h:Bool,v= .bool h∧(h=false→∀c∈L,c.s.length≤20000)∧(L=[]→b.w≤4000→b.l.length≤60→b.m.length≤60→h=false)∧B=[A]):=by
 refine x_sp func13 ntmps13 fun E cs Γ=>?_;have h1:=I.one;have h2:=Fk (al:=al) (n:=L.length) (cl:=cl) h1;refine eh (h:=?_);refine ao (aM rfl rfl fun p1=>?_);refine Wq ?_;refine aQ (α:=Nat×Nat) (fun q=>q.1≤L.length∧(∀j c,j<q.1→L[j]? =some c→c.s.length≤q.2)∧(L=[]→q.2=0)∧q.2≤2^50) (fun q=>[(4,iv q.1),(3,iv (q.2:Nat)),(1,dp p1)]) (fun _=>A::Row p1 0 (ib b al L.length cl)::Γ) (fun q=>L.length-q.1) (0,0) ⟨zj _,fun j c h=>by omega,fun _=>rfl,zj _⟩ x_tv Sub.h ?_;rintro⟨i,w⟩ ⟨hi,hw,Qs,kV⟩ back;dsimp only at hi hw Qs kV back⊢;refine Wl ?_;by_cases h:i<L.length
 ·by_cases hx:w<1048576
  ·obtain⟨c,hc⟩:=bc (l:=L) (i:=i) h;have hm:=zc hc;have hg:=hG c hm;obtain⟨a1,a2,a3,n1,n2,n3,c1,c2,c3,e6,e7,e8,g1,g2,g3⟩:=hg.q;have hs:=hg.s;have hz:(bC c.s).size=c.s.length:=dV _;have h9:=hg.abz;rw[e6,e7,e8]at h9;have dk:=back (i+1,w+1+c.s.length+n1+n2+n3) ⟨by dsimp only;omega,fun j c' hj jz=>by
    dsimp only at hj⊢;rcases Nat.lt_succ_iff_lt_or_eq.1 hj with hj|rfl
    ·have:=hw j c' hj jz;omega
    ·rw[hc]at jz;obtain rfl:=zD jz;omega,fun e=>by subst e;simp at h,by dsimp only;omega⟩ (by dsimp only;omega)
   dsimp only at dk;rw[show((w+1+c.s.length+n1+n2+n3:Nat):Int)=(w:Int)+1+c.s.length+n1+n2+n3 by omega]at dk;refine aA (h:=?_);refine bK rfl rfl R (j:=i) rfl h rfl fun b1 off ha=>?_;refine oC (h:=?_);refine dA rfl R ha (i:=i*21+3) (us:=[c.q0,c.q1,c.q2,c.q3,c.q4,c.q5,c.q6,c.q7,c.q8]) (by omega) rfl (fun j v hv=>by
    have:=Qr hc (j:=3+j) (v:=v) (CZ.blk hv);rwa[←zax]at this) rfl ?_
   rw[e6,e7,e8];refine ao (aC rfl fun p5=>?_);refine dO (h:=?_);refine dt (us:=[c.q0,c.q1,c.q2,c.q3,c.q4,c.q5,.slice a1 n1 c1,.slice a2 n2 c2,.slice a3 n3 c3]) rfl rfl (by rfl) h9 (by rfl) ?_;refine eR (h:=?_);refine oG R (by omega) fun bt ot vv=>?_;refine aZ 22 (aX [] [0,1,2,3,4,5,6,7,8,9,10,11,12,13,14,15,16,17,18,19,20,21,22]) [A,Row p1 0 (ib b al L.length cl),Row p5 0 [c.q0,c.q1,c.q2,c.q3,c.q4,c.q5,.slice a1 n1 c1,.slice a2 n2 c2,.slice a3 n3 c3]] ?_;refine Ws ?_;refine au rfl (aY rfl rfl vv (j:=i) rfl h) ?_;refine j6 (h:=?_);refine au rfl (b7 rfl R vv (i:=i*21+1) (by omega) (Qr hc (j:=1) rfl)) ?_;refine kC (h:=?_);rw[hz];refine Wq ?_;exact aV dk
  ·have hI:=I;refine aA (h:=?_);refine aq (vs:=[b.val]) rfl (OW b I) rfl ?_;rintro v B ⟨h',rfl,hh,rfl⟩;refine a_ (h:=?_);cases h' with
   |true=>
    refine Wq ?_;exact ap rfl [A] ⟨true,rfl,(fun e=>by cases e),(fun e=>by rw[e]at h;simp at h),rfl⟩ Sub.h
   |false=>
    refine Wq ?_;exact ap rfl [A] ⟨true,rfl,(fun e=>by cases e),(fun e=>by rw[e]at h;simp at h),rfl⟩ Sub.h
 ·obtain rfl:i=L.length:=by omega
  refine aA (h:=?_);refine aq (vs:=[b.val]) rfl (OW b I) rfl ?_;rintro v B ⟨h',rfl,hh,rfl⟩;refine a_ (h:=?_);cases h' with
  |true=>
   refine Wq ?_;exact ap rfl [A] ⟨true,rfl,(fun e=>by cases e),fun _ x y z=>hh x y z,rfl⟩ Sub.h
  |false=>
   by_cases hx:w≤20000
   ·refine Wq ?_;exact ap rfl [A] ⟨false,rfl,fun _ c hc=>by
     obtain⟨j,hj⟩:=zk hc;have:=hw j c (List.getElem?_eq_some_iff.1 hj).1 hj;omega,fun _ _ _ _=>rfl,rfl⟩ Sub.h
   ·refine Wq ?_;exact ap rfl [A] ⟨true,rfl,(fun e=>by cases e),fun e=>by have:=Qs e;omega,rfl⟩ Sub.h
abbrev yx(b:GB)(al:Option Addr)(n cl:Nat)(x:Int):List Value:=ib b al n cl++[.int .i64 x,.slice none 0 0]
theorem abA{A:HP}(b:GB)(I:b.In A)(h1:b.w≤4000)(h2:b.l.length≤60)(h3:b.m.length≤60):
 Spec prog 14 [.agg (yx b none 0 0 0).toArray] [A] (fun v B=>v= .bool false∧B=[A]):=by
 refine x_sp func14 ntmps14 fun E cs Γ=>?_;have g1:=I.one;have g2:=Fk (al:=none) (n:=0) (cl:=0) g1;have g3:(yx b none 0 0 0).all Value.oneCell'=true:=by
  rw[yx,zbj,g2];rfl
 refine eh (h:=?_);refine ao (aM rfl rfl fun p1=>?_);refine aA (h:=?_);refine aq (vs:=[.agg (ib b none ([]:List CZ).length 0).toArray]) rfl (Fm b I (al:=none) (cl:=0) (L:=[]) ⟨rfl,fun _ _ _ _=> .inl rfl⟩ (fun c hc=>by cases hc) (zj _)) rfl ?_;rintro v B ⟨h,rfl,-,hh,rfl⟩;obtain rfl:=hh rfl h1 h2 h3;refine bW (h:=?_);exact ap rfl [A] ⟨rfl,rfl⟩ Sub.h
theorem GZ.In.sep{A:HP}{g:GZ}(I:g.In A){l:List HP}(h:A∈l):g.In (Sep l):=⟨I.one,I.nh,I.nb,I.rb.sep h,I.bb⟩
theorem GB.In.sep{A:HP}{b:GB}(I:b.In A){l:List HP}(h:A∈l):b.In (Sep l):=⟨I.one,I.na,I.nl,I.nm,I.rl.sep h,I.rm.sep h,fun g hg=>(I.il g hg).sep h,fun g hg=>(I.im g hg).sep h⟩
structure AZ.kh(A:HP)(a:AZ):Prop where
 c:a.c.kh
 rp:Reads A 1 a.pa a.ps.length (a.ps.map iv)
 pl:a.ps.length≤2^47
 pm:∀p∈a.ps,p≤9223372036854775807
 one:a.cells.all Value.oneCell'=true
 id:a.c.id<aI
 base:a.c.base<aT
 fI:a.c.fI<aT
theorem AZ.cmd{a:AZ}{j:Nat}{v:Value}(hv:a.c.cells[j]? =some v):a.cells[1+j]? =some v:=by
 rw[zaF];show(a.c.cells++a.cells.drop 22)[j]? =some v;rw[zt (List.getElem?_eq_some_iff.1 hv).1];exact hv
theorem abB{A:HP}(b:GB)(I:b.In A){al:Option Addr}{cl:Nat}{L:List AZ}(R:Reads A 24 al L.length (iN L))(hG:∀a∈L,a.kh A)(hl:L.length≤2^47):
 Spec prog 4 [.agg (ib b al L.length cl).toArray] [A] (fun v B=>∃h:Bool,v= .bool h∧(h=false→L.length≤200∧∀a∈L,a.c.s.length≤20000∧a.ps.length≤3000)∧B=[A]):=by
 refine x_sp func4 ntmps4 fun E cs Γ=>?_;have h1:=I.one;have h2:=Fk (al:=al) (n:=L.length) (cl:=cl) h1;refine eh (h:=?_);refine ao (aM rfl rfl fun p1=>?_);refine Wq ?_;refine aQ (α:=Nat×Nat×Option Addr×Nat) (fun q=>q.1≤L.length∧q.1≤300∧(∀j a,j<q.1→L[j]? =some a→a.ps.length≤q.2.1)∧q.2.1≤q.1*2^47) (fun q=>[(5,iv q.1),(4,iv (q.2.1:Nat)),(3,.slice q.2.2.1 q.1 q.2.2.2),(1,dp p1)]) (fun q=>Sl 21 q.2.2.1 q.1 q.2.2.2 (ln ((L.take q.1).map AZ.c))::A::Row p1 0 (ib b al L.length cl)::Γ) (fun q=>L.length-q.1) (0,0,none,0) ⟨zj _,zj _,fun j c h=>by omega,zj _⟩ x_tv ((ak.cq 21 _).trans (Sub.h (Δ:=Sl 21 none 0 0 []::A::Row p1 0 (ib b al L.length cl)::Γ))) ?_;rintro⟨i,w,a3,c3⟩ ⟨hi,Iu,hw,kV⟩ back;dsimp only at hi Iu hw kV back⊢;refine Wl ?_;by_cases h:i<L.length
 ·by_cases hx:i<300
  ·obtain⟨a,ha⟩:=bc (l:=L) (i:=i) h;have hg:=hG a (zc ha);have l_:=hg.pl;have dk:=fun a' c'=>back (i+1,w+a.ps.length,a',c') ⟨by dsimp only;omega,by dsimp only;omega,fun j x hj hy=>by
    dsimp only at hj⊢;rcases Nat.lt_succ_iff_lt_or_eq.1 hj with hj|rfl
    ·have:=hw j x hj hy;omega
    ·rw[ha]at hy;obtain rfl:=zD hy;omega,by dsimp only;omega⟩ (by dsimp only;omega)
   dsimp only at dk;refine aA (h:=?_);refine bK rfl rfl R (j:=i) rfl h rfl fun b1 off hb=>?_;refine oC (h:=?_);refine dA rfl R hb (i:=i*24+1) (us:=a.c.cells) (by omega) rfl (fun j v hv=>by
    have:=B7 ha (j:=1+j) (v:=v) (AZ.cmd hv);rwa[←zax]at this) rfl ?_
   refine aw (h:=?_);refine cf rfl (by rfl) (by rfl) (by rfl) (by rfl) rfl fun a2=>?_;refine aw (h:=?_);refine cF rfl rfl (by rfl) (by rfl) hg.c.one (by omega) rfl fun a4 c4 hc=>?_;have e1:ln ((L.take i).map AZ.c)++a.c.cells=ln ((L.take (i+1)).map AZ.c):=by rw[zp,ha];simp[ln]
   rw[e1];refine aA (h:=?_);refine bK rfl rfl R (j:=i) rfl h rfl fun b1 off hb=>?_;refine oC (h:=?_);refine fM rfl R hb (i:=i*24+23) (by omega) (B7 ha (j:=23) rfl) rfl ?_;refine Wq ?_;exact aV (dk a4 c4)
  ·have sr:((L.take i).map AZ.c).length=i:=by simp;omega
   have RS:=Sl.reads 21 a3 i c3 (ln ((L.take i).map AZ.c)) (by rw[ln,lF (f:=CZ.cells) (s:=21) CZ.len,sr]);refine Wq ?_;refine gh (Γ':=Sep [Sl 21 a3 i c3 (ln ((L.take i).map AZ.c)),A]::Row p1 0 (ib b al L.length cl)::Γ) ((ak.cA [_,_] _)) ?_;refine aw (h:=?_);refine aq (vs:=[.agg (ib b a3 ((L.take i).map AZ.c).length c3).toArray]) (by rw[sr];rfl) (Fm b (I.sep (l:=[Sl 21 a3 i c3 (ln ((L.take i).map AZ.c)),A]) (by simp)) (al:=a3) (cl:=c3) (L:=(L.take i).map AZ.c) (by rw[sr];exact RS.sep (by simp)) (fun c hc=>by
    obtain⟨a,ha,rfl⟩:=zbY.1 hc;exact(hG a (zaD ha)).c) (by rw[sr];omega)) rfl ?_
   rintro v B ⟨h',rfl,hh,-,rfl⟩;have sj:ak (Sep [Sl 21 a3 i c3 (ln ((L.take i).map AZ.c)),A]::Row p1 0 (ib b al L.length cl)::Γ) ([A]++Γ):=(ak.cx _ _).trans (show ak (Sl 21 a3 i c3 (ln ((L.take i).map AZ.c))::A::Row p1 0 (ib b al L.length cl)::Γ) (A::Γ)from Sub.h);refine a_ (h:=?_);cases h' with
   |true=>
    refine Wq ?_;exact ap rfl [A] ⟨true,rfl,(fun e=>by cases e),rfl⟩ sj
   |false=>
    refine Wq ?_;exact ap rfl [A] ⟨true,rfl,(fun e=>by cases e),rfl⟩ sj
 ·have sr:((L.take i).map AZ.c).length=i:=by simp;omega
  have RS:=Sl.reads 21 a3 i c3 (ln ((L.take i).map AZ.c)) (by rw[ln,lF (f:=CZ.cells) (s:=21) CZ.len,sr]);refine Wq ?_;refine gh (Γ':=Sep [Sl 21 a3 i c3 (ln ((L.take i).map AZ.c)),A]::Row p1 0 (ib b al L.length cl)::Γ) ((ak.cA [_,_] _)) ?_;refine aw (h:=?_);refine aq (vs:=[.agg (ib b a3 ((L.take i).map AZ.c).length c3).toArray]) (by rw[sr];rfl) (Fm b (I.sep (l:=[Sl 21 a3 i c3 (ln ((L.take i).map AZ.c)),A]) (by simp)) (al:=a3) (cl:=c3) (L:=(L.take i).map AZ.c) (by rw[sr];exact RS.sep (by simp)) (fun c hc=>by
   obtain⟨a,ha,rfl⟩:=zbY.1 hc;exact(hG a (zaD ha)).c) (by rw[sr];omega)) rfl ?_
  rintro v B ⟨h',rfl,hh,-,rfl⟩;have sj:ak (Sep [Sl 21 a3 i c3 (ln ((L.take i).map AZ.c)),A]::Row p1 0 (ib b al L.length cl)::Γ) ([A]++Γ):=(ak.cx _ _).trans (show ak (Sl 21 a3 i c3 (ln ((L.take i).map AZ.c))::A::Row p1 0 (ib b al L.length cl)::Γ) (A::Γ)from Sub.h);refine a_ (h:=?_);cases h' with
  |true=>
   refine Wq ?_;exact ap rfl [A] ⟨true,rfl,(fun e=>by cases e),rfl⟩ sj
  |false=>
   by_cases g1:L.length≤200
   ·by_cases g2:w≤3000
    ·refine Wq ?_;exact ap rfl [A] ⟨false,rfl,(fun _=>⟨g1,fun a ha=>by
      obtain⟨j,hj⟩:=zk ha;have lu:=(List.getElem?_eq_some_iff.1 hj).1;have:=hw j a (by omega) hj;refine⟨hh rfl a.c (zbY.2 ⟨a,?_,rfl⟩),by omega⟩;rw[zo (by omega)];exact ha⟩),rfl⟩ sj
    ·refine Wq ?_;exact ap rfl [A] ⟨true,rfl,(fun e=>by cases e),rfl⟩ sj
   ·refine Wq ?_;exact ap rfl [A] ⟨true,rfl,(fun e=>by cases e),rfl⟩ sj
end
section
open Go.Proofs Tryz
open Go.Proofs Go.RowKit
theorem abC{A:HP}{room:Nat}{aa:Option Addr}{ca:Nat}(ra:Reads A 5 aa 8 kH)(h1:1024≤room)(h2:room≤1048576):
 Spec prog 7 [.int .i64 room,.agg fD.toArray,.slice aa 8 ca,.slice none 0 0] [A] (fun v B=>∃(k:PH) (z:BZ),v= .tuple #[.agg (vO none 0 0 z true).toArray,.int .i64 0]∧B=[A,Mem k]):=by
 refine x_sp func7 ntmps7 fun E cs Γ=>?_;refine dx (h:=?_);refine ao (aM rfl rfl fun p5=>?_);refine ao (aC rfl fun p8=>?_);refine rE (h:=?_);refine aJ rfl Lo rfl ?_;rintro v B ⟨b,rfl,rfl⟩;rw[O6];refine n9 (h:=?_);refine aq (vs:=[dp b,.int .i64 room,.agg fD.toArray,.slice aa 8 ca]) rfl (Jt (A:=A) b Qm ra h1 h2) rfl ?_;rintro v B ⟨kp,q,rfl,rfl,hq,jR,ue⟩;refine bW (h:=?_);refine aZ 8 (aX [3,7] [0,1,2,4,5,3,6,7,8]) [A,Row p5 0 fD] ?_;refine Ws ?_;refine aE rfl (aq rfl (A0 ra (by omega) rfl) rfl ?_);rintro v B ⟨a2,c2,rfl,rfl,eV⟩;refine dc (h:=vb (h:=?_));refine aE rfl (aM (vs:=wC room a2 c2 (dp b) (dp kp) pV (.slice none 0 0) (.slice none 0 0) (.slice none 0 0)) rfl rfl fun wp=>⟨bd,?_⟩);refine df (h:=?_);refine bJ (ak.yd _) ?_;refine fw a2 (h:=PH.emp) fun m hm Ra tI=>?_;have vB:WS.Ok ⟨room,a2,c2,b,pV,.slice none 0 0,none,0,[],none,0,[],m⟩:=⟨Ra,Fe m 1,zj _,(fun p hp=>by cases hp),h1,h2,zj _,rfl⟩
 have Ju:WM.Ok room (.up kp q 0 0):=⟨hq,ue,jR⟩
 refine gy (Γ':=Sep (WS.hp wp ⟨room,a2,c2,b,pV,.slice none 0 0,none,0,[],none,0,[],m⟩ (.up kp q 0 0))::A::Row p8 0 [.slice none 0 0,.int .i64 0,.int .i64 0,.int .u64 0,.int .u64 0,.int .u64 0,.int .u64 0,.int .i64 0,.slice none 0 0,.slice none 0 0,.slice none 0 0,.bool false]::Γ) (fun E w st=>(ak.cA _ _).st (((ak.cq 4 _).trans (Sub.h (Δ:=[Row wp 0 (wC room a2 c2 (dp b) (dp kp) pV (.slice none 0 0) (.slice none 0 0) (.slice none 0 0)),Sl 4 none 0 0 [],Mem m,Row kp 0 (cC q.z (dp q.r0) (.map (some q.m0)) (dp q.r1) (.map (some q.m1)) false),bj q.r0 b (aW 0 q.ess),bj q.r1 b (aW 4 dm),Whole q.m0 (bz q.l q.c),Whole q.m1 (bz [] q.c1),aF b (V.QD q.bs 0 0),Mem q.k]++(A::Row p8 0 [.slice none 0 0,.int .i64 0,.int .i64 0,.int .u64 0,.int .u64 0,.int .u64 0,.int .u64 0,.int .i64 0,.slice none 0 0,.slice none 0 0,.slice none 0 0,.bool false]::Γ)))).st st)) ?_;refine Wq ?_;refine aQ (α:=Nat) (fun i=>i=0) (fun i=>[(50,iv (i:Nat)),(49,iv 0),(48,.slice none 0 0),(14,dp wp),(8,dp p8)]) (fun _=>Sep (WS.hp wp (⟨room,a2,c2,b,pV,.slice none 0 0,none,0,[],none,0,[],m⟩:WS) (.up kp q 0 0))::A::Row p8 0 [.slice none 0 0,.int .i64 0,.int .i64 0,.int .u64 0,.int .u64 0,.int .u64 0,.int .u64 0,.int .i64 0,.slice none 0 0,.slice none 0 0,.slice none 0 0,.bool false]::Γ) (fun _=>0) 0 rfl x_tv Sub.h ?_;rintro i rfl back;refine bQ (h:=?_);clear back;obtain⟨s,vQ⟩:∃s:WS,s=(⟨room,a2,c2,b,pV,.slice none 0 0,none,0,[],none,0,[],m⟩:WS):=⟨_,rfl⟩
 have hs:s.Ok:=by rw[vQ];exact vB
 have hr:s.room=room:=by rw[vQ]
 have vP:s.os=[]:=by rw[vQ]
 have hoa:s.oa=none:=by rw[vQ]
 have hoc:s.oc=0:=by rw[vQ]
 have hM:WM.Ok s.room (.up kp q 0 0):=by rw[vQ];exact Ju
 rw[←vQ];refine ya (h:=?_);refine gy (fun E w st=>(ak.cx _ _).st st) ?_;dsimp only[WS.hp];refine bW (h:=?_);refine aZ 15 (aX [14,15] [0,1,2,3,4,5,6,7,8,9,10,11,12,13,14,15]) [Row wp 0 (wC s.room s.aa s.ca (dp s.b) (dp kp) s.l s.kv (.slice s.pa s.ps.length s.pc) (.slice s.oa s.os.length s.oc))] ?_;refine Ws ?_;refine au rfl (Ky (.inr rfl) rfl rfl (.inr rfl)) ?_;refine vb (h:=?_);have nQ:([Value.slice s.oa s.os.length s.oc,s.l.a0,s.l.a1,s.l.a2,s.l.a3,s.l.a4,s.l.a5,s.l.a6,s.l.a7,s.l.a8,s.l.a9,Value.bool true].all Value.oneCell')=true:=by
  have:=hs.l1;unfold pU.One at this;simp only[List.all_cons,List.all_nil,zh]at this⊢;obtain⟨g0,g1,g2,g3,g4,g5,g6,g7,g8,g9,_⟩:=this;exact⟨rfl,g0,g1,g2,g3,g4,g5,g6,g7,g8,g9,rfl,trivial⟩
 refine aE rfl (aC rfl fun nA=>⟨bd,?_⟩);refine bN rfl rfl (dt (us:=[Value.slice s.oa s.os.length s.oc,s.l.a0,s.l.a1,s.l.a2,s.l.a3,s.l.a4,s.l.a5,s.l.a6,s.l.a7,s.l.a8,s.l.a9,Value.bool true]) rfl rfl (by rfl) nQ (by rfl) ?_);refine dQ (h:=?_);obtain⟨Fj,Bp,Qo⟩:=hM;refine aJ rfl (Jm kp q.z q.k Fj.iB (dp q.r0) (.map (some q.m0)) (dp q.r1) (.map (some q.m1)) false) rfl ?_;rintro w B ⟨k',z',rfl,rfl,I',sC,gW⟩;refine bW (h:=?_);refine ny q.k k' fun m1 j2 jv=>?_;exact bP (rs:=[.cell 8 48,.tmp 9]) (vs:=[.agg (vO s.oa s.os.length s.oc z' true).toArray,.int .i64 0]) ⟨bG (us:=vO s.oa s.os.length s.oc z' true) rfl rfl,bO rfl,trivial⟩ [A,Mem m1] ⟨m1,z',by rw[hoa,hoc,vP];rfl,rfl⟩ Sub.h
end
section
open Go.Proofs Tryz
open Go.Proofs Go.RowKit
theorem Qt(n:Int):Spec prog 8 [.int .i64 n] [] (fun v B=>v= .int .i64 n∧B=[]):=by
 refine x_sp func8 ntmps8 fun E cs Γ=>?_;refine kD (h:=?_);exact ap rfl [] ⟨rfl,rfl⟩ Sub.h
abbrev vR(n:Nat):List Value:=(List.replicate n ()).flatMap fun _=>ji
theorem abD(n:Nat):vR n++ji=vR (n+1):=by
 unfold vR;rw[List.replicate_succ',zaC];simp
theorem Qu(n:Int):Spec prog 5 [.int .i64 n] [] (fun v B=>∃(aa:Option Addr) (ca:Nat),v= .agg #[.int .i64 n,.int .i64 0,.int .u64 0,.int .u64 0,.int .u64 0,.int .u64 0,.int .i64 0,.slice aa 8 ca,.slice none 0 0,.slice none 0 0]∧B=[Sl 5 aa 8 ca kH]):=by
 refine x_sp func5 ntmps5 fun E cs Γ=>?_;refine gi (h:=?_);refine ao (aC rfl fun p2=>?_);refine Wq ?_;refine ao (aC rfl fun p3=>?_);refine Wq ?_;refine aQ (α:=Nat×Option Addr×Nat) (fun q=>q.1≤8) (fun q=>[(4,iv q.1),(3,dp p3),(2,dp p2)])
  (fun q=>Row p3 0 [.int .i64 n,.int .i64 0,.int .u64 0,.int .u64 0,.int .u64 0,.int .u64 0,.int .i64 0,.slice q.2.1 q.1 q.2.2,.slice none 0 0,.slice none 0 0]::Sl 5 q.2.1 q.1 q.2.2 (vR q.1)::Row p2 0 [.int .i64 0,.int .i64 0,.int .u64 0,.int .u64 0,.int .u64 0,.int .u64 0,.int .i64 0,.slice none 0 0,.slice none 0 0,.slice none 0 0]::Γ)
  (fun q=>8-q.1) (0,none,0) (zj _) x_tv ((ak.cq 5 _).trans (Sub.h (Δ:=Row p3 0 [.int .i64 n,.int .i64 0,.int .u64 0,.int .u64 0,.int .u64 0,.int .u64 0,.int .i64 0,.slice none 0 0,.slice none 0 0,.slice none 0 0]::Sl 5 none 0 0 []::Row p2 0 [.int .i64 0,.int .i64 0,.int .u64 0,.int .u64 0,.int .u64 0,.int .u64 0,.int .i64 0,.slice none 0 0,.slice none 0 0,.slice none 0 0]::Γ))) ?_
 rintro⟨i,a',c'⟩ hi back;dsimp only at hi back⊢;refine lN (h:=?_);by_cases h:i<8
 ·refine aA (h:=?_);refine cf rfl (by rfl) (by rfl) (by rfl) (by rfl) rfl fun a2=>?_;refine aw (h:=?_);refine cF rfl rfl (by rfl) (by rfl) (by rfl) (by omega) rfl fun a3 c3 hc=>?_;rw[show(vR i++_:List Value)=vR (i+1)from abD i];refine Wq ?_;exact aV (back (i+1,a3,c3) (by dsimp only;omega) (by dsimp only;omega))
 ·obtain rfl:i=8:=by omega
  refine Wq ?_;exact bP (rs:=[.cell 2 31]) (vs:=[.agg #[.int .i64 n,.int .i64 0,.int .u64 0,.int .u64 0,.int .u64 0,.int .u64 0,.int .i64 0,.slice a' 8 c',.slice none 0 0,.slice none 0 0]]) ⟨bG (us:=[.int .i64 n,.int .i64 0,.int .u64 0,.int .u64 0,.int .u64 0,.int .u64 0,.int .i64 0,.slice a' 8 c',.slice none 0 0,.slice none 0 0]) rfl rfl,trivial⟩ [Sl 5 a' 8 c' kH] ⟨a',c',rfl,rfl⟩ (Sub.h (Δ:=Sl 5 a' 8 c' (vR 8)::Γ))
theorem abE{A:HP}{a:Option Addr}{c:Nat}{L:List TZ}(R:Reads A 21 a L.length (av L))(hI:bR A L)(bn:∀z∈L,z.t.ok=true)(hl:L.length≤2^40):Spec prog 11 [.slice a L.length c] [A] (fun v B=>∃(a':Option Addr) (c':Nat),v= .slice a' L.length c'∧B=[A,Sl 1 a' L.length c' ((bB L).map nv)]):=by
 refine x_sp func11 ntmps11 fun E cs Γ=>?_;have xU:(bB L).length=L.length:=by simp[bB]
 refine j7 (h:=?_);refine aQ (α:=Nat×Option Addr×Nat) (fun q=>q.1≤L.length) (fun q=>[(4,iv q.1),(3,.slice q.2.1 q.1 q.2.2),(0,.slice a L.length c)]) (fun q=>Sl 1 q.2.1 q.1 q.2.2 (((bB L).take q.1).map nv)::A::Γ) (fun q=>L.length-q.1) (0,none,0) (zj _) x_tv (ak.cq _ _) ?_;rintro⟨i,a',c'⟩ hi back;dsimp only at hi back⊢;refine Wl ?_;by_cases h:i<L.length
 ·obtain⟨x,hx⟩:=bc (l:=L) (i:=i) h;have vw:=zc hx;have lg:(bB L)[i]? =some x.t.id:=by unfold bB;rw[zf,hx];rfl
  refine aA (h:=?_);refine bK rfl rfl R (j:=i) rfl h rfl fun b off hb=>?_;refine aw (h:=?_);refine dA rfl R hb (i:=i*21) (us:=x.cells) (by omega) rfl (fun j v hv=>cG hx hv) rfl ?_;refine aw (h:=?_);refine aq (vs:=[x.val]) rfl (Nt x (hI x vw) (bn x vw)) rfl ?_;refine de (h:=aw (h:=?_));refine cf rfl (by rfl) (by rfl) (by rfl) (by rfl) rfl fun a2=>?_;refine aw (h:=?_);refine cF rfl rfl (by rfl) (by rfl) (by rfl) (by omega) rfl fun a3 c3 hc=>?_;have e1:((bB L).take i).map nv++[nv x.t.id]=((bB L).take (i+1)).map nv:=by rw[zp,lg];simp
  rw[e1];refine Wq ?_;exact aV (back (i+1,a3,c3) (by dsimp only;omega) (by dsimp only;omega))
 obtain rfl:i=L.length:=by omega
 rw[←xU,zu,xU];refine Wq ?_;exact ap rfl [A,Sl 1 a' L.length c' ((bB L).map nv)] ⟨a',c',rfl,rfl⟩ Sub.h
theorem abF{A C:HP}{a b:Option Addr}{n c d:Nat}{l:List Nat}(R:Reads A 1 a n (l.map nv))(S:Reads C 1 b n (l.map nv))(hl:n≤2^40):Spec prog 10 [.slice a n c,.slice b n d] [A,C] (fun v B=>v= .bool true∧B=[A,C]):=by
 refine x_sp func10 ntmps10 fun E cs Γ=>?_;have hn:l.length=n:=by simpa using R.1
 refine gJ (h:=?_);refine aQ (α:=Nat) (fun i=>i≤n) (fun i=>[(5,iv i),(0,.slice a n c),(1,.slice b n d)]) (fun _=>A::C::Γ) (fun i=>n-i) 0 (zj _) x_tv Sub.h ?_;intro i hi back;refine Wl ?_;by_cases h:i<n
 ·obtain⟨y,hy⟩:=bc (l:=l) (i:=i) (by omega);refine Wq ?_;refine oG R (by omega) fun ba oa lf=>?_;refine oG S (by omega) fun bb ob ye=>?_;refine aZ 9 (aX [] [0,1,2,3,4,5,6,7,8]) [A,C] ?_;refine dK (h:=?_);refine au rfl (aY rfl rfl lf (j:=i) rfl h) ?_;refine au rfl (b7 rfl R lf (i:=i) (by omega) (by rw[zf,hy];rfl)) ?_;refine dK (h:=?_);refine au rfl (aY rfl rfl ye (j:=i) rfl h) ?_;refine au rfl (b7 rfl S ye (i:=i) (by omega) (by rw[zf,hy];rfl)) ?_;refine au rfl (FL rfl rfl (by omega)) ?_;refine dQ (h:=?_);exact aV (back (i+1) (by omega) (by omega))
 obtain rfl:i=n:=by omega
 refine Wq ?_;exact ap rfl [A,C] ⟨rfl,rfl⟩ Sub.h
theorem AZ.abG{a:AZ}(h:a.cells.all Value.oneCell'=true)(pa:Option Addr)(pc:Nat):({a with pa:=pa,pc:=pc}:AZ).cells.all Value.oneCell'=true:=by
 have e:a.cells=a.cells.take 23++[Value.slice a.pa a.ps.length a.pc]:=rfl;have e2:({a with pa:=pa,pc:=pc}:AZ).cells=a.cells.take 23++[Value.slice pa a.ps.length pc]:=rfl;rw[e,zbj,zh]at h;rw[e2,zbj,h.1];rfl
structure AZ.Jv(a a':AZ):Prop where
 kind:a'.kind=a.kind
 c:a'.c=a.c
 ps:a'.ps=a.ps
 n:a'.n=a.n
theorem AZ.kh.up{h k:PH}{a:AZ}(g:a.kh (Mem h))(p:PH.le h k):a.kh (Mem k):=⟨g.c,g.rp.up p,g.pl,g.pm,g.one,g.id,g.base,g.fI⟩
theorem abH{A:HP}{al:Option Addr}{cl:Nat}{L:List AZ}(R:Reads A 24 al L.length (iN L))(hG:∀a∈L,a.kh A)(hp:∀a∈L,a.ps.length≤2^40)(hl:L.length≤2^40):
 Spec prog 6 [.slice al L.length cl] [A] (fun v B=>∃(k:PH) (L':List AZ) (a:Option Addr) (c:Nat),L'.length≤30∧(∀x∈L',x.kh (Mem k)∧∃y∈L,AZ.Jv y x)∧v= .slice a L'.length c∧B=[A,Mem k,Sl 24 a L'.length c (iN L')]):=by
 refine x_sp func6 ntmps6 fun E cs Γ=>?_;refine j7 (h:=?_);refine aQ (α:=PH×List AZ×Option Addr×Nat) (fun q=>q.2.1.length≤L.length∧q.2.1.length≤30∧(∀x∈q.2.1,x.kh (Mem q.1)∧∃y∈L,AZ.Jv y x)) (fun q=>[(4,iv q.2.1.length),(3,.slice q.2.2.1 q.2.1.length q.2.2.2),(0,.slice al L.length cl)])
  (fun q=>A::Mem q.1::Sl 24 q.2.2.1 q.2.1.length q.2.2.2 (iN q.2.1)::Γ) (fun q=>L.length-q.2.1.length) (PH.emp,[],none,0) ⟨zj _,zj _,fun x hx=>by cases hx⟩ ⟨rfl,rfl,rfl,trivial⟩
  ((ak.cq 24 _).trans ((ak.mu _).trans (Sub.h (Δ:=A::Mem PH.emp::Sl 24 none 0 0 []::Γ)))) ?_
 rintro⟨k,L',a3,c3⟩ ⟨hi,Fo,hx⟩ back;dsimp only at hi Fo hx back⊢;refine Wl ?_;by_cases aN:L'.length<L.length
 ·by_cases ac4:L'.length<30
  ·obtain⟨a,ha⟩:=bc (l:=L) (i:=L'.length) aN;have hm:=zc ha;have hg:=hG a hm;refine aA (h:=?_);refine bK rfl rfl R (j:=L'.length) rfl aN rfl fun b0 D9 B8=>?_;refine aw (h:=?_);refine dA rfl R B8 (i:=L'.length*24) (us:=a.cells) (by omega) rfl (fun j v hv=>B7 ha hv) rfl ?_;refine ao (aC rfl fun p5=>?_);refine dO (h:=?_);refine dt (us:=a.cells) rfl rfl (by rfl) hg.one (by rfl) ?_;refine Wq ?_;refine aJ rfl (SO hg.rp (hp a hm)) rfl ?_;rintro v B ⟨a5,c5,rfl,rfl⟩;refine bW (h:=?_);refine GQ a5 (h:=k) fun k2 bH R5 A6=>?_;refine aw (h:=?_);refine cf rfl (by rfl) (by rfl) (by rfl) (by rfl) rfl fun a2=>?_;have nQ:=AZ.abG hg.one a5 c5;refine aw (h:=?_);refine cF rfl rfl (by rfl) (by rfl) nQ (by omega) rfl fun a4 c4 hc=>?_;have e1:iN L'++({a with pa:=a5,pc:=c5}:AZ).cells=iN (L'++[{a with pa:=a5,pc:=c5}]):=by simp[iN]
   rw[show(iN L'++_:List Value)=iN (L'++[{a with pa:=a5,pc:=c5}])from e1];have dk:=back (k2,L'++[{a with pa:=a5,pc:=c5}],a4,c4) ⟨by simp;omega,by simp;omega,fun x j8=>by
    rcases zL.1 j8 with h1|h1
    ·exact⟨(hx x h1).1.up bH,(hx x h1).2⟩
    ·obtain rfl:=zbr.1 h1;exact⟨⟨hg.c,R5,hg.pl,hg.pm,nQ,hg.id,hg.base,hg.fI⟩,a,hm,⟨rfl,rfl,rfl,rfl⟩⟩⟩ (by simp;omega)
   dsimp only at dk;rw[show(L'++[({a with pa:=a5,pc:=c5}:AZ)]).length=L'.length+1 by simp]at dk;refine Wq ?_;exact aV dk
  ·refine Wq ?_;exact ap rfl [A,Mem k,Sl 24 a3 L'.length c3 (iN L')] ⟨k,L',a3,c3,Fo,hx,rfl,rfl⟩ Sub.h
 ·refine Wq ?_;exact ap rfl [A,Mem k,Sl 24 a3 L'.length c3 (iN L')] ⟨k,L',a3,c3,Fo,hx,rfl,rfl⟩ Sub.h
end
section
open Go.Proofs Tryz
open Go.Proofs Go.RowKit
theorem abI:Spec prog 15 [] [] (fun v B=>v= .bool true∧B=[]):=by
 refine x_sp func15 ntmps15 fun E cs Γ=>?_;refine kD (h:=?_);refine aJ rfl (Qu 1024) rfl ?_;rintro v B ⟨aa,ca,rfl,rfl⟩;refine a_ (h:=?_);refine ao (aC rfl fun p1=>?_);refine Wq ?_;have RA:=Sl.reads 5 aa 8 ca kH rfl;refine aw (h:=?_);refine aq (vs:=[.int .i64 ((1024:Nat):Int),.agg fD.toArray,.slice aa 8 ca,.slice none 0 0]) rfl (abC (A:=Sl 5 aa 8 ca kH) RA (by decide) (by decide)) rfl ?_;rintro v B ⟨k,z,rfl,rfl⟩;refine nC (h:=?_);refine ao (aC rfl fun p2=>?_);refine Wq ?_;refine aJ rfl (Qt 0) rfl ?_;refine jO (h:=?_);exact ap rfl [] ⟨rfl,rfl⟩ Sub.h
abbrev qM(z:TZ):GZ:=⟨.int .i64 z.t.bx,.int .i64 z.t.ck,nv (ay z.t.bV 0),nv (ay z.t.bV 1),nv (ay z.t.bV 2),nv (ay z.t.bV 3),nv (ay z.t.cap 0),nv (ay z.t.cap 1),nv (ay z.t.cap 2),nv (ay z.t.cap 3),nv (ay z.t.bX 0),nv (ay z.t.bX 1),nv (ay z.t.bX 2),nv (ay z.t.bX 3),nv (ay z.t.val 0),nv (ay z.t.val 1),nv (ay z.t.val 2),nv (ay z.t.val 3),.int .i64 z.t.dr,z.ah,z.t.hs.length,z.ch,z.ab,z.cb,z.t.bl⟩
theorem abJ(l:List TZ):yb (l.map qM)=av l:=by
 unfold yb av;rw[List.flatMap_map]
theorem TZ.In.gz{A:HP}{z:TZ}(I:z.In A):(qM z).In A:=⟨rfl,z9 I.hl (by decide),z9 I.bl (by decide),I.rb,fun b hb=>z9 (I.bb b hb) (by decide)⟩
abbrev oT(z:BZ):GB:=⟨.int .i64 z.room,.int .i64 0,.int .u64 0,.int .u64 0,.int .u64 0,.int .u64 0,.int .i64 0,z.aa,8,z.ca,z.ad,z.ct,z.l.map qM,z.al,z.cl,[]⟩
theorem BZ.In.gb{A:HP}{z:BZ}(I:z.In A):(oT z).In A:=by
 have hl:=I.len;refine⟨rfl,(show 8≤2^47 by decide),by dsimp only;rw[zm];omega,zj _,?_,⟨rfl,fun _ _ _ _=> .inl rfl⟩,fun g hg=>?_,fun g hg=>by cases hg⟩
 ·dsimp only;rw[zm,abJ];exact I.rt
 ·obtain⟨x,hx,rfl⟩:=zbY.1 hg;exact(I.it x hx).gz
theorem Qv(s:List UInt8):s.length≤(cT s).length∧1≤(cT s).length:=by
 rw[xu];split
 ·rename_i h;unfold iK at h;simp only[zh,decide_eq_true_eq]at h;omega
 ·rw[zd];have:=xv 128 s.length;omega
theorem Jw(l:List (List UInt8)):1+(l.map List.length).sum≤(mg l).length:=by
 unfold mg;rw[zd];have e:l.flatten.length=(l.map List.length).sum:=List.length_flatten;have:=xv 192 l.flatten.length;omega
theorem Qw:∀bl:List (List UInt8),wB bl≤((bl.map cT).map List.length).sum
 |[]=>zq _
 |b::bl=>by
  have:=Qw bl;have:=(Qv b).1;unfold wB at*;simp only[zE,zbL]at*;omega
theorem Qx:∀hs:List Nat,8*hs.length≤((hs.map fun h=>cT (dw h)).map List.length).sum
 |[]=>zq _
 |h::hs=>by
  have:=Qx hs;have:=(Qv (dw h)).1;rw[xf]at this;simp only[zE,zbL,zy]at*;omega
theorem abK{t:TX}(h:t.ok=true):2+t.hs.length+t.bl.length+wB t.bl≤t.bytes.length:=by
 obtain⟨f1,f2,f3,f4,f5,f6,f7,f8,f9⟩:=mr h;obtain⟨g1,g2,g3,g4⟩:=pF f8;have hn:t.hs.length=t.bl.length:=by rw[g3];simp
 have e:=Jw [cT (aU t.bx.toNat),cT (aU t.ck.toNat),cT (aU t.bV),cT (aU t.cap),cT (aU t.bX),cT (aU t.val),cT (aU t.dr.toNat),mg (t.hs.map fun h=>cT (dw h)),mg (t.bl.map cT)];have e1:=Jw (t.hs.map fun h=>cT (dw h));have e2:=Jw (t.bl.map cT);have e3:=Qx t.hs;have e4:=Qw t.bl;simp only[zE,zal,zbL,List.sum_nil]at e;show _≤t.bytes.length;unfold TX.bytes;omega
theorem abL{t:TX}(w:t.Wf)(h:t.ok=true):1024*(2+t.hs.length+t.bl.length+wB t.bl)≤993*t.slot:=by
 have h1:=abK h;have h2:=TX.rB w h;have h3:t.bytes.length+16≤t.slot∧t.slot≤512:=by
  unfold TX.slot mi;split
  ·omega
  ·split
   ·omega
   ·split<;>omega
 omega
theorem weights:∀L:List TZ,(∀z∈L,z.t.Wf∧z.t.ok=true)→1024*(L.length+wG (L.map qM))≤993*cR L
 |[],_=>zq _
 |z::L,h=>by
  have ih:=weights L fun y hy=>h y (by simp[hy]);obtain⟨h1,h2⟩:=h z (by simp);have:=abL h1 h2;have e:wG ((z::L).map qM)=(qM z).w+wG (L.map qM):=rfl;have e2:cR (z::L)=z.t.slot+cR L:=rfl;have e3:(qM z).w=1+z.t.hs.length+z.t.bl.length+wB z.t.bl:=rfl;rw[e,e2,e3,zy];omega
theorem BZ.In.abM{A:HP}{z:BZ}(I:z.In A)(hs:cR z.l≤z.room)(hr:z.room=4096):(oT z).w≤4000:=by
 have h:=weights z.l fun x hx=>⟨(I.it x hx).wf,I.ok x hx⟩;have e:(oT z).w=8+((z.l.map qM).length+wG (z.l.map qM))+(0+0):=rfl;rw[e,zm];omega
abbrev cz0(k:Int):CZ:=⟨k,[],0,.int .i64 0,.int .u64 0,.int .u64 0,.int .u64 0,.int .u64 0,.int .i64 0,.slice none 0 0,.slice none 0 0,.slice none 0 0,0,0,0⟩
abbrev vS(k c:Int):AZ:=⟨k,cz0 c,0,none,0,[]⟩
def ki(a:AZ):AZ:=if a.kind=1∧a.c.kind=3 then {a with c:={a.c with kind:=5}}else a
theorem Qy{a:AZ}(h:a.cells.all Value.oneCell'=true):(ki a).cells.all Value.oneCell'=true:=by
 unfold ki;split
 ·have e:a.cells=[Value.int .i64 a.kind,Value.int .i64 a.c.kind]++a.cells.drop 2:=rfl;have e2:({a with c:={a.c with kind:=5}}:AZ).cells=[Value.int .i64 a.kind,Value.int .i64 5]++a.cells.drop 2:=rfl;rw[e,zbj,zh]at h;rw[e2,zbj,h.2];rfl
 ·exact h
theorem abN{A:HP}{a:AZ}(g:a.kh A)(h1:a.c.s.length≤20000)(h2:a.ps.length≤3000):(ki a).In A:=by
 refine⟨fun hk=>?_,?_,?_,?_,Qy g.one⟩
 ·unfold ki at hk⊢;split
  ·exact⟨(show(5:Int)≠3 by decide),by show a.c.s.length≤_;omega,g.id,g.base,g.fI⟩
  ·rename_i bM;rw[if_neg bM]at hk;exact⟨fun e=>bM ⟨hk,e⟩,by omega,g.id,g.base,g.fI⟩
 ·unfold ki;split<;>exact g.rp
 ·unfold ki;split<;>(show a.ps.length≤_;omega)
 ·unfold ki;split<;>exact g.pm
theorem Jx(A:HP)(k c:Int)(hc:c≠3):(vS k c).In A:=⟨fun _=>⟨hc,zj _,(show 0<aI by decide),(show 0<aT by decide),(show 0<aT by decide)⟩,⟨rfl,fun _ _ _ _=> .inl rfl⟩,zj _,(fun p hp=>by cases hp),rfl⟩
abbrev vT(L:List AZ):List AZ:=L.map ki++[vS 2 0,vS 3 0,vS 1 5]
theorem abO(L:List AZ):Qn L.length (vT L):=by
 have hl:(L.map ki).length=L.length:=by simp
 refine⟨by simp,fun a h=>?_,fun a h=>?_,fun a h=>?_⟩
 ·rw[zz (by omega),hl,zbX]at h;obtain rfl:=zD h;rfl
 ·rw[zz (by omega),hl,show L.length+1-L.length=1 by omega]at h;obtain rfl:=zD h;rfl
 ·rw[zz (by omega),hl,show L.length+2-L.length=2 by omega]at h;obtain rfl:=zD h;exact⟨rfl,rfl,rfl,rfl⟩
theorem abP{os:List ia}{an:ia}{j:Nat}{v:Value}(hv:an.cells[j]? =some v):(eK (os++[an]))[os.length*4+j]? =some v:=by
 rw[Fh,zz (by rw[Jq];omega),Jq,zS];exact hv
theorem Qz(z:BZ):ib (oT z) none 0 0=z.cells++[Value.slice none 0 0]:=by
 dsimp only[ib,oT];rw[zm];rfl
theorem abQ(z:BZ):yx (oT z) none 0 0 0=z.cells++[Value.slice none 0 0,.int .i64 0,.slice none 0 0]:=by
 rw[yx,Qz];simp
theorem abR{A:HP}(b:GB)(I:b.In A){al:Option Addr}{cl:Nat}{L:List AZ}(R:Reads A 24 al L.length (iN L))(hG:∀a∈L,a.kh A)(hl:L.length≤2^40):
 Spec prog 3 [.agg (ib b al L.length cl).toArray] [A] (fun v B=>v= .bool true∧B=[A]):=by
 refine x_sp func3 ntmps3 fun E cs Γ=>?_;have h1:=I.one;have h2:=Fk (al:=al) (n:=L.length) (cl:=cl) h1;refine eh (h:=?_);refine ao (aM rfl rfl fun p1=>?_);refine aA (h:=?_);refine aq (vs:=[.agg (ib b al L.length cl).toArray]) rfl (abB b I R hG (by omega)) rfl ?_;rintro v B ⟨hv,rfl,hh,rfl⟩;refine a_ (h:=?_);cases hv with
 |true=>
  refine Wq ?_;exact ap rfl [A] ⟨rfl,rfl⟩ Sub.h
 |false=>
  obtain⟨iq,QA⟩:=hh rfl;refine Wq ?_;refine aJ rfl (Qu 4096) rfl ?_;rintro v B ⟨aa,ca,rfl,rfl⟩;refine a_ (h:=?_);refine ao (aC rfl fun p3=>?_);refine Wq ?_;refine aJ rfl (abH R hG (fun a ha=>by have:=(QA a ha).2;omega) hl) rfl ?_;rintro v B ⟨k,L',a5,c5,Fo,yy,rfl,rfl⟩;refine bW (h:=?_);refine fw a5 (h:=k) fun k1 ey R5 A6=>?_;refine fw aa (h:=k1) fun k2 bH RA hcA=>?_;replace R5:=R5.up bH;replace yy:∀x∈L',x.kh (Mem k2)∧∃y∈L,AZ.Jv y x:=fun x hx=>⟨((yy x hx).1.up ey).up bH,(yy x hx).2⟩;refine aQ (α:=Nat×Option Addr×Nat) (fun q=>q.1≤L'.length) (fun q=>[(6,iv q.1),(5,.slice a5 L'.length c5),(4,.slice q.2.1 q.1 q.2.2),(3,dp p3)])
   (fun q=>Sl 24 q.2.1 q.1 q.2.2 (iN ((L'.take q.1).map ki))::Mem k2::Row p3 0 [.int .i64 4096,.int .i64 0,.int .u64 0,.int .u64 0,.int .u64 0,.int .u64 0,.int .i64 0,.slice aa 8 ca,.slice none 0 0,.slice none 0 0]::A::Γ) (fun q=>L'.length-q.1) (0,none,0) (zj _) ⟨rfl,rfl,rfl,rfl,trivial⟩
   ((ak.cq 24 _).trans (Sub.h (Δ:=Sl 24 none 0 0 []::Mem k2::Row p3 0 [.int .i64 4096,.int .i64 0,.int .u64 0,.int .u64 0,.int .u64 0,.int .u64 0,.int .i64 0,.slice aa 8 ca,.slice none 0 0,.slice none 0 0]::A::Γ))) ?_
  rintro⟨i,a4,c4⟩ hi back;dsimp only at hi back⊢;refine Wl ?_;by_cases h:i<L'.length
  ·obtain⟨a,ha⟩:=bc (l:=L') (i:=i) h;have hg:=(yy a (zc ha)).1;have nQ:=Qy hg.one;have e1:iN ((L'.take i).map ki)++(ki a).cells=iN ((L'.take (i+1)).map ki):=by rw[zp,ha];simp[iN]
   refine aA (h:=?_);refine bK rfl rfl R5 (j:=i) rfl h rfl fun b0 D9 B8=>?_;refine aw (h:=?_);refine dA rfl R5 B8 (i:=i*24) (us:=a.cells) (by omega) rfl (fun j v hv=>B7 ha hv) rfl ?_;refine ao (aC rfl fun p7=>?_);refine dO (h:=?_);refine dt (us:=a.cells) rfl rfl (by rfl) hg.one (by rfl) ?_;by_cases g1:a.kind=1
   ·by_cases g2:a.c.kind=3
    ·have ef:(ki a).cells=[.int .i64 a.kind,.int .i64 5,tv a.c.s,nv a.c.id,a.c.q0,a.c.q1,a.c.q2,a.c.q3,a.c.q4,a.c.q5,a.c.q6,a.c.q7,a.c.q8,.int .i64 a.c.n,nv (ay a.c.base 0),nv (ay a.c.base 1),nv (ay a.c.base 2),nv (ay a.c.base 3),nv (ay a.c.fI 0),nv (ay a.c.fI 1),nv (ay a.c.fI 2),nv (ay a.c.fI 3),.int .i64 a.n,.slice a.pa a.ps.length a.pc]:=by
      unfold ki;rw[if_pos ⟨g1,g2⟩]
     rw[ef]at e1 nQ;refine aA (h:=?_);refine cf rfl (by rfl) (by rfl) (by rfl) (by rfl) rfl fun a2=>?_;refine aw (h:=?_);refine cF rfl rfl (by rfl) (by rfl) nQ (by omega) rfl fun a6 c6 hc=>?_;rw[e1];refine Wq ?_;exact aV (back (i+1,a6,c6) (by dsimp only;omega) (by dsimp only;omega))
    ·have ef:(ki a).cells=a.cells:=by unfold ki;rw[if_neg fun h=>g2 h.2]
     rw[ef]at e1;refine aA (h:=?_);refine cf rfl (by rfl) (by rfl) (by rfl) (by rfl) rfl fun a2=>?_;refine aw (h:=?_);refine cF rfl rfl (by rfl) (by rfl) hg.one (by omega) rfl fun a6 c6 hc=>?_;rw[e1];refine Wq ?_;exact aV (back (i+1,a6,c6) (by dsimp only;omega) (by dsimp only;omega))
   ·have ef:(ki a).cells=a.cells:=by unfold ki;rw[if_neg fun h=>g1 h.1]
    rw[ef]at e1;refine aA (h:=?_);refine cf rfl (by rfl) (by rfl) (by rfl) (by rfl) rfl fun a2=>?_;refine aw (h:=?_);refine cF rfl rfl (by rfl) (by rfl) hg.one (by omega) rfl fun a6 c6 hc=>?_;rw[e1];refine Wq ?_;exact aV (back (i+1,a6,c6) (by dsimp only;omega) (by dsimp only;omega))
  obtain rfl:i=L'.length:=by omega
  clear back;rw[zu];refine aA (h:=?_);refine cf rfl (by rfl) (by rfl) (by rfl) (by rfl) rfl fun a2=>?_;refine aw (h:=?_);refine cF rfl rfl (by rfl) (by rfl) (by rfl) (by omega) rfl fun a6 c6 hc=>?_;have e3:∀l,l=iN [vS 2 0,vS 3 0,vS 1 5]→iN (L'.map ki)++l=iN (vT L'):=fun l e=>by rw[e];simp[iN,vT]
  rw[e3];rotate_left
  ·rfl
  have Jy:(vT L').length=L'.length+3:=by simp
  refine Wq ?_;refine GQ a6 (h:=k2) fun k3 dZ R6 xx=>?_;have c_:∀a∈vT L',a.In (Mem k3):=fun a ha=>by
   rcases zL.1 ha with h|h
   ·obtain⟨x,hx,rfl⟩:=zbY.1 h;obtain⟨y,hy,lk⟩:=(yy x hx).2;obtain⟨q1,q2⟩:=QA y hy;exact abN ((yy x hx).1.up dZ) (by rw[lk.c];exact q1) (by rw[lk.ps];exact q2)
   ·simp only[zbe,List.not_mem_nil,or_false]at h;rcases h with rfl|rfl|rfl
    ·exact Jx _ _ _ (by decide)
    ·exact Jx _ _ _ (by decide)
    ·exact Jx _ _ _ (by decide)
  refine aw (h:=?_);refine aq (vs:=[.int .i64 ((4096:Nat):Int),.agg fD.toArray,.slice aa 8 ca,.slice a6 (vT L').length c6]) (by rw[Jy];rfl) (abx (A:=Mem k3) (n:=L'.length) (acts:=vT L') (RA.up dZ) (by decide) (by decide) (by rw[Jy];exact R6) c_ (by rw[Jy];omega) (abO L')) rfl ?_;rintro v B ⟨k4,z,oa,oc,os,an,rfl,rfl,ho⟩;have fB:=ho.iB.len;have Ie:=ho.ol;have vP:(os++[an]).length=os.length+1:=by simp
  refine nC (h:=?_);refine ao (aC rfl fun p8=>?_);refine Wq ?_;refine aJ rfl (Qt 0) rfl ?_;refine cS (h:=gg (h:=?_));refine aq (vs:=[z.val]) rfl (Zw z ho.iB ho.sl) rfl ?_;refine vu (h:=?_);refine bK rfl rfl ho.ro (j:=os.length) (by rw[vP];omega) (by rw[vP];omega) rfl fun bo oo hbo=>?_;refine aw (h:=?_);refine dA rfl ho.ro hbo (i:=os.length*4) (us:=an.cells) (by omega) rfl (fun j v hv=>abP hv) rfl ?_;have xY:=ho.e;have xU:(bB z.l).length=z.l.length:=by simp[bB]
  have mV:an.n=z.l.length:=by rw[ho.n,xU]
  have xZ:=ho.ri;rw[xU]at xZ;refine ao (aC rfl fun je=>?_);refine Wq ?_;rw[xY,mV];refine aZ 13 (aX [9,10] [0,1,2,3,4,5,6,7,8,9,10,11,12]) [Row p8 0 (vO oa (os++[an]).length oc z true),Row je 0 [.int .i64 0,nv an.id,tv an.s,.slice an.a z.l.length an.c],Mem k4] ?_;refine Ws ?_;refine gp rfl rfl (aq (vs:=[.slice z.ad z.l.length z.ct]) rfl (abE ho.iB.rt ho.iB.it ho.iB.ok (by omega)) rfl ?_);rintro v B ⟨a7,c7,rfl,rfl⟩;refine dc (h:=?_);have RS:=Sl.reads 1 a7 z.l.length c7 ((bB z.l).map nv) (by simp[bB]);refine gp rfl rfl (aq (vs:=[.slice an.a z.l.length an.c,.slice a7 z.l.length c7]) rfl (abF xZ RS (by omega)) rfl ?_);refine mc (h:=qB (h:=xT (h:=dU (h:=aA (h:=?_)))));refine aq (vs:=[uv 0,uv 0]) rfl (HV (by decide) (by decide)) rfl ?_;refine dh (h:=?_);rw[show cV 0 0=0 from rfl];refine nZ (h:=?_);have QB:=ho.iB.abM ho.sl ho.room;have t_:(oT z).l.length≤60:=by dsimp only;rw[zm];omega
  refine fT (h:=?_);refine aq (vs:=[.agg (ib (oT z) none ([]:List CZ).length 0).toArray]) (by rw[show ib (oT z) none ([]:List CZ).length 0=_ from Qz z];rfl) (Fm (oT z) ho.iB.gb (al:=none) (cl:=0) (L:=[]) ⟨rfl,fun _ _ _ _=> .inl rfl⟩ (fun c hc=>by cases hc) (zj _)) rfl ?_;rintro v B ⟨h5,rfl,-,hh5,rfl⟩;obtain rfl:=hh5 rfl QB t_ (zj _);refine bW (h:=fT (h:=?_));refine aq (vs:=[.agg (yx (oT z) none 0 0 0).toArray]) (by rw[abQ];rfl) (abA (oT z) ho.iB.gb QB t_ (zj _)) rfl ?_;refine de (h:=?_);refine m5 rfl (Co rfl rfl ?_);refine ao (Fx rfl rfl rfl ?_);refine iu (h:=fT (h:=?_));refine aq rfl abI rfl ?_;refine cS (h:=uJ (h:=?_));exact ap rfl [A] ⟨rfl,rfl⟩ Sub.h
end
end Go.Proofs.YtacfncmndodlpaaGreat
