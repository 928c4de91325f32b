/- Part of a proof over the seat YtacfncmndodlpaaGreat. Its claim's last module says what is proved. -/
import Derived.Test.YtacfncmndodlpaaGreatQ6
import Derived.Laws.Externs
import Derived.Lib.Overlaps
set_option linter.all false
set_option maxHeartbeats 12800000
namespace Go.Proofs.YtacfncmndodlpaaGreat
section
open Go.Proofs Tryz
open Go.Proofs Go.RowKit
theorem Bu{A:HP}(z:BZ)(I:z.In A):Spec prog 43 [z.val] [A] (fun v B=>∃(k:PH) (z':BZ),v=z'.val∧B=[A,Mem k]∧z'.In (Mem k)∧z'.room=z.room∧Same z.l z'.l):=by
 refine x_sp func43 ntmps43 fun E cs Γ=>?_;have h3:=I.len;refine eh (h:=?_);refine ao (aM rfl rfl fun p1=>?_);refine ao (aC rfl fun p2=>?_);refine u6 (h:=?_);refine aZ 10 (aX [2,5,8,10,12,14] [0,1,3,4,6,7,2,9,5,8,10,11,12,13,14]) [A,Row p1 0 z.cells] ?_;refine Ws ?_;refine aE rfl (aq rfl (A0 I.ra (by omega) rfl) rfl ?_);rintro v B ⟨a2,c2,rfl,rfl,eV⟩;refine dc (h:=j6 (h:=?_));refine aE rfl (aq rfl (xt I.rt I.it (by omega)) rfl ?_);rintro v B ⟨k,l',a',c',hs,hi,rfl,rfl⟩;have lh:l'.length=z.l.length:=by have:=congrArg List.length hs;simpa using this
 refine dc (h:=?_);refine aE rfl (aq rfl (Ej z.al z.cl) rfl ?_);refine cn (h:=?_);refine bN rfl rfl (eZ rfl rfl rfl rfl (by simp) ?_);refine j6 (h:=?_);refine bN rfl rfl (eZ rfl rfl rfl rfl (by simp) ?_);refine j6 (h:=?_);refine bN rfl rfl (eZ rfl rfl rfl rfl (by simp) ?_);refine dQ (h:=?_);refine fw a2 (h:=k) fun k2 bH R2 eV=>?_;refine fw a' (h:=k2) fun k3 dZ R3 lH=>?_;refine bP (rs:=[.cell 2 31]) (vs:=[(BZ.mk z.room a2 c2 l' a' c' none 0).val]) ⟨bG (us:=(BZ.mk z.room a2 c2 l' a' c' none 0).cells) rfl rfl,trivial⟩ [A,Mem k3] ⟨k3,⟨z.room,a2,c2,l',a',c',none,0⟩,rfl,rfl,⟨R2.up dZ,R3,(hi.up bH).up dZ,lH,?_,I.lo,I.hi⟩,rfl,hs⟩ Sub.h;show iH (l'.map TZ.t);rw[hs];exact I.wide
end
section
open Go.Proofs Tryz
open Go.Proofs Go.RowKit
def lR(a n:Int)(z:TZ):Bool:=decide (z.t.bx<a)||(decide (z.t.bx=a)&&decide (z.t.ck<n))
def nE(a:Int)(z:TZ):Bool:=decide (z.t.bx≤a)
theorem NN{p:TZ→Bool}{l:List TZ}{i:Nat}{z:TZ}(h:l[i]? =some z):(l.take (i+1)).countP p=(l.take i).countP p+(if p z then 1 else 0):=by
 rw[zp,h,zaa,zbs,List.countP_singleton]
theorem NO{A:HP}{ad:Option Addr}{cap:Nat}{l:List TZ}(a n:Int)(R:Reads A 21 ad l.length (av l))(hl:l.length≤2^38):
 Spec prog 208 [.slice ad l.length cap,.int .i64 a,.int .i64 n] [A] (fun v B=>v= .tuple #[.int .i64 (l.countP (lR a n):Nat),.int .i64 (l.countP (nE a):Nat)]∧B=[A]):=by
 refine x_sp func208 ntmps208 fun E cs Γ=>?_;refine gJ (h:=?_);refine aQ (α:=Nat) (fun i=>i≤l.length) (fun i=>[(12,iv i),(11,iv l.length),(10,.slice ad l.length cap),(6,iv ((l.take i).countP (lR a n):Nat)),(7,iv ((l.take i).countP (nE a):Nat)),(1,iv a),(2,iv n)]) (fun _=>A::Γ) (fun i=>l.length-i) 0 (by omega) x_tv Sub.h ?_;intro i hi back;refine bQ (h:=?_);by_cases h:i<l.length
 ·obtain⟨z,hz⟩:=bc (l:=l) (i:=i) h;have e1:=NN (p:=lR a n) hz;have e2:=NN (p:=nE a) hz;have b1:(l.take i).countP (lR a n)≤i:=z9 List.countP_le_length (by rw[zw];omega);have b2:(l.take i).countP (nE a)≤i:=z9 List.countP_le_length (by rw[zw];omega);refine aA (h:=?_);refine bK rfl rfl R (j:=i) rfl h rfl fun b off ha=>?_;refine aw (h:=?_);refine dA rfl R ha (i:=i*21) (us:=z.cells) (by omega) rfl (fun j v hv=>cG hz hv) rfl ?_;rcases Int.lt_trichotomy z.t.bx a with h1|h1|h1
  ·have g1:lR a n z=true:=by simp[lR,h1]
   have g2:nE a z=true:=by simp[nE];omega
   have xc:z.t.bx≤a:=by omega
   rw[g1,if_pos rfl]at e1;rw[g2,if_pos rfl]at e2;refine ao (aC rfl fun p9=>?_);refine Wq ?_;have hb:=back (i+1) (by omega) (by omega);rw[e1,e2]at hb;exact aV hb
  ·have h0:¬z.t.bx<a:=by omega
   have xc:z.t.bx≤a:=by omega
   have g2:nE a z=true:=by simp[nE];omega
   rw[g2,if_pos rfl]at e2;by_cases h2:z.t.ck<n
   ·have g1:lR a n z=true:=by simp[lR,h1,h2]
    rw[g1,if_pos rfl]at e1;refine ao (aC rfl fun p9=>?_);refine Wq ?_;have hb:=back (i+1) (by omega) (by omega);rw[e1,e2]at hb;exact aV hb
   ·have g1:lR a n z=false:=by simp[lR,h0,h1,h2]
    rw[g1,if_neg (by decide)]at e1;refine ao (aC rfl fun p9=>?_);refine Wq ?_;have hb:=back (i+1) (by omega) (by omega);rw[e1,e2]at hb;exact aV hb
  ·have h0:¬z.t.bx<a:=by omega
   have rW:¬z.t.bx=a:=by omega
   have xc:¬z.t.bx≤a:=by omega
   have g2:nE a z=false:=by simp[nE];omega
   have g1:lR a n z=false:=by simp[lR,h0,rW]
   rw[g1,if_neg (by decide)]at e1;rw[g2,if_neg (by decide)]at e2;refine ao (aC rfl fun p9=>?_);refine Wq ?_;have hb:=back (i+1) (by omega) (by omega);rw[e1,e2]at hb;exact aV hb
 ·obtain rfl:i=l.length:=by omega
  rw[zu];refine Wq ?_;exact ap rfl [A] ⟨rfl,rfl⟩ Sub.h
end
section
open Go.Proofs Tryz
open Go.Proofs Go.RowKit
theorem NP{a n:Nat}{l:List TZ}{X c Y:List TX}(h:bu l=X++(c++Y))(hX:∀t∈X,t.bx<(a:Int))(hY:∀t∈Y,(a:Int)<t.bx)(hc:jN a c)(hn:n≤c.length):
 l.countP (lR a n)=X.length+n∧l.countP (nE a)=X.length+c.length:=by
 obtain⟨l1,NQ,rfl,h1,Bv⟩:=List.map_eq_append_iff.1 h;obtain⟨l2,l3,rfl,h2,h3⟩:=List.map_eq_append_iff.1 Bv;have e1:l1.length=X.length:=by rw[←h1,zm]
 have e2:l2.length=c.length:=by rw[←h2,zm]
 have f1:∀z∈l1,z.t.bx<(a:Int):=fun z hz=>hX _ (h1 ▸ zbY.2 ⟨z,hz,rfl⟩);have f3:∀z∈l3,(a:Int)<z.t.bx:=fun z hz=>hY _ (h3 ▸ zbY.2 ⟨z,hz,rfl⟩);have f2:∀(i:Nat) (z:TZ),l2[i]? =some z→z.t.bx=a∧z.t.ck=i:=fun i z hz=>by
  have:=hc.aO i z.t (by rw[←h2,zf,hz];rfl);exact⟨this.1,this.2.1⟩
 constructor
 ·rw[zbs,zbs,List.countP_eq_length.2 (fun z hz=>by simp[lR,f1 z hz]),(List.countP_eq_zero (l:=l3)).2 (fun z hz=>by have:=f3 z hz;simp[lR];omega),e1]
  conv=>lhs;rw[←zG n l2]
  rw[zbs,List.countP_eq_length.2 fun z hz=>?_,List.countP_eq_zero.2 fun z hz=>?_,zw]
  ·omega
  ·obtain⟨i,hi⟩:=zk hz;rw[zar]at hi;have:=f2 _ z hi;simp[lR,this];omega
  ·obtain⟨i,hi⟩:=zk hz;rw[zbb]at hi;split at hi
   ·have:=f2 i z hi;simp[lR,this];omega
   ·cases hi
 ·rw[zbs,zbs,List.countP_eq_length.2 (fun z hz=>by have:=f1 z hz;simp[nE];omega),(List.countP_eq_zero (l:=l3)).2 (fun z hz=>by have:=f3 z hz;simp[nE];omega),e1,(List.countP_eq_length (l:=l2)).2 (fun z hz=>by
   obtain⟨i,hi⟩:=zk hz;simp[nE,(f2 i z hi).1]),e2]
  omega
theorem NR{A:HP}{ad:Option Addr}{cap:Nat}{l1 l2 l3:List TZ}(R:Reads A 21 ad (l1++(l2++l3)).length (av (l1++(l2++l3))))(hc:(l1++(l2++l3)).length≤cap):Reads A 21 (cy 21 ad cap l1.length) l2.length (av l2):=
 M5 (DZ R hc).1
end
section
open Go.Proofs Tryz
open Go.Proofs Go.RowKit
theorem NS{A:HP}{ad:Option Addr}{cap:Nat}{xs:List Nat}(R:Reads A 1 ad xs.length (xs.map nv))(x:Nat)(hx:x<aI)(ni:∀y∈xs,y<aI)(hl:xs.length≤2^40):
 Spec prog 108 [.slice ad xs.length cap,nv x] [A] (fun v B=>∃r:Int,v= .int .i64 r∧B=[A]∧((r= -1∧x∉xs)∨∃i:Nat,r=i∧xs[i]? =some x)):=by
 refine x_sp func108 ntmps108 fun E cs Γ=>?_;refine gJ (h:=?_);refine aQ (α:=Nat) (fun i=>i≤xs.length∧x∉xs.take i) (fun i=>[(8,iv i),(7,iv xs.length),(0,.slice ad xs.length cap),(1,nv x)]) (fun _=>A::Γ) (fun i=>xs.length-i) 0 ⟨by omega,by simp⟩ x_tv Sub.h ?_;rintro i ⟨hi,bM⟩ back;refine bQ (h:=?_);by_cases h:i<xs.length
 ·obtain⟨y,hy⟩:=bc (l:=xs) (i:=i) h;refine aA (h:=?_);refine bK rfl rfl R (j:=i) rfl h rfl fun b off ha=>?_;refine aw (h:=?_);refine fM rfl R ha (i:=i*1) (by omega) (v:=nv y) (by rw[zaj,zf,hy];rfl) rfl ?_;by_cases e:x=y
  ·subst e;refine Wq ?_;exact ap rfl [A] ⟨i,rfl,rfl,.inr ⟨i,rfl,hy⟩⟩ Sub.h
  ·have e':¬(x:Int)=y:=by omega
   have e2:¬(y:Int)=x:=by omega
   refine Wq ?_;exact aV (back (i+1) ⟨by omega,fun hm=>by
    rw[zp,hy]at hm;rcases zL.1 hm with hm|hm
    ·exact bM hm
    ·exact e (by simpa using hm)⟩ (by omega))
 ·obtain rfl:i=xs.length:=by omega
  rw[zu]at bM;refine Wq ?_;exact ap rfl [A] ⟨-1,rfl,rfl,.inl ⟨rfl,bM⟩⟩ Sub.h
theorem Bw{A:HP}{ad:Option Addr}{cap:Nat}{xs:List Nat}(R:Reads A 1 ad xs.length (xs.map nv))(x:Nat)(hx:x<aI)(ni:∀y∈xs,y<aI)(hl:xs.length≤2^40):
 Spec prog 67 [.slice ad xs.length cap,nv x] [A] (fun v B=>v= .bool (decide (x∈xs))∧B=[A]):=by
 refine x_sp func67 ntmps67 fun E cs Γ=>?_;refine gJ (h:=?_);refine aJ rfl (NS R x hx ni hl) rfl ?_;rintro v B ⟨r,rfl,rfl,hr⟩;refine a_ (h:=?_);rcases hr with ⟨rfl,bM⟩|⟨i,rfl,hi⟩
 ·refine HM (h:=bU (h:=?_));exact ap rfl [A] ⟨by rw[decide_eq_false bM];rfl,rfl⟩ Sub.h
 ·have h0:(i:Int)≥0:=by omega
  refine ao (Kd rfl rfl (by omega) rfl ?_);refine bU (h:=?_);exact ap rfl [A] ⟨by rw[decide_eq_true (zc hi)];rfl,rfl⟩ Sub.h
end
section
open Go.Proofs Tryz
open Go.Proofs Go.RowKit
theorem Ek(l:List TZ):∀y∈bB l,y<aI:=fun y hy=>by
 obtain⟨z,_,rfl⟩:=zbY.1 hy;exact xH _
theorem XL{A:HP}(z:BZ)(I:z.In A)(hs:cR z.l≤z.room)(x:Nat)(hx:x<aI):
 Spec prog 223 [z.val,nv x] [A] (fun v B=>∃(k:PH) (z':TZ) (e:Int),v= .tuple #[z'.val,.int .i64 e]∧B=[A,Mem k]∧z'.In (Mem k)∧(e=0→z'.t∈bu z.l∧z'.t.id=x)∧(e≠0→x∉bB z.l)):=by
 refine x_sp func223 ntmps223 fun E cs Γ=>?_;have hl:=I.len;refine dx (h:=?_);refine ao (aM rfl rfl fun p2=>?_);refine ao (aC rfl fun p4=>?_);refine aA (h:=?_);refine aq (vs:=[z.val]) rfl (tO z I hs) rfl ?_;refine jC (h:=?_);refine aJ rfl (vl I.rt I.it I.ok (by omega)) rfl ?_;rintro v B ⟨a2,c2,rfl,rfl⟩;have RS:=Sl.reads 1 a2 z.l.length c2 ((bB z.l).map nv) (by simp);have pR:=NS (cap:=c2) (ad:=a2) (xs:=bB z.l) (A:=Sl 1 a2 z.l.length c2 ((bB z.l).map nv)) (by rw[zm];exact RS) x hx (Ek _) (by rw[zm];omega);rw[zm]at pR;refine a_ (h:=iu (h:=?_));refine aJ rfl pR rfl ?_;rintro v B ⟨r,rfl,rfl,hr⟩;refine a_ (h:=?_);rcases hr with ⟨rfl,bM⟩|⟨i,rfl,hi⟩
 ·refine Wq ?_;refine bJ (ak.mu _) ?_;refine bP (rs:=[.cell 4 88,.tmp 5]) (vs:=[ve.val,.int .i64 3]) ⟨bG (us:=tD) rfl rfl,bO rfl,trivial⟩ [A,Mem PH.emp] ⟨PH.emp,ve,3,rfl,rfl,HA _,fun h=>absurd h (by decide),fun _=>bM⟩ Sub.h
 ·rw[zf,zad]at hi;obtain⟨y,hy,rfl⟩:=hi;have ec:=(List.getElem?_eq_some_iff.1 hy).1;have vx:=I.it y (zc hy);have h0:¬(i:Int)<0:=by omega
  refine aA (h:=?_);refine bK rfl rfl I.rt (j:=i) rfl ec rfl fun b off ha=>?_;refine aw (h:=?_);refine dA rfl I.rt ha (i:=i*21) (us:=y.cells) (by omega) rfl (fun j v hv=>cG hy hv) rfl ?_;refine aw (h:=?_);refine aq (vs:=[y.val]) rfl (xr y vx) rfl ?_;rintro v B ⟨k,z',fe,eA,rfl,rfl⟩;refine bW (h:=?_);refine bP (rs:=[.cell 4 88,.tmp 5]) (vs:=[z'.val,.int .i64 0]) ⟨bG (us:=z'.cells) rfl rfl,bO rfl,trivial⟩ [A,Mem k] ⟨k,z',0,rfl,rfl,eA,fun _=>⟨zbY.2 ⟨y,zc hy,fe.symm⟩,by rw[fe]⟩,fun h=>absurd rfl h⟩ Sub.h
end
section
open Go.Proofs Tryz
open Go.Proofs Go.RowKit
def od(a b:Int):Int:=if a<b then -1 else if a>b then 1 else 0
theorem NT(a:Int):Spec prog 151 [.int .i64 a] [] (fun v B=>v= .bool false∧B=[]):=by
 refine x_sp func151 ntmps151 fun E cs Γ=>?_;refine kD (h:=?_);exact ap rfl [] ⟨rfl,rfl⟩ Sub.h
theorem NU(a:Int):Spec prog 150 [.int .u64 a] [] (fun v B=>v= .bool false∧B=[]):=by
 refine x_sp func150 ntmps150 fun E cs Γ=>?_;refine kD (h:=?_);exact ap rfl [] ⟨rfl,rfl⟩ Sub.h
theorem El(a b:Int):Spec prog 105 [.int .i64 a,.int .i64 b] [] (fun v B=>v= .int .i64 (od a b)∧B=[]):=by
 refine x_sp func105 ntmps105 fun E cs Γ=>?_;refine mR (h:=?_);refine aJ rfl (NT a) rfl ?_;refine jO (h:=?_);refine aJ rfl (NT b) rfl ?_;refine cS (h:=?_);unfold od;by_cases h1:a<b
 ·refine Wq ?_;exact ap rfl [] ⟨by rw[if_pos h1];rfl,rfl⟩ Sub.h
 ·by_cases h2:a>b
  ·refine Wq ?_;exact ap rfl [] ⟨by rw[if_neg h1,if_pos h2];rfl,rfl⟩ Sub.h
  ·refine Wq ?_;exact ap rfl [] ⟨by rw[if_neg h1,if_neg h2];rfl,rfl⟩ Sub.h
theorem XM(a b:Int):Spec prog 104 [.int .u64 a,.int .u64 b] [] (fun v B=>v= .int .i64 (od a b)∧B=[]):=by
 refine x_sp func104 ntmps104 fun E cs Γ=>?_;refine mR (h:=?_);refine aJ rfl (NU a) rfl ?_;refine jO (h:=?_);refine aJ rfl (NU b) rfl ?_;refine cS (h:=?_);unfold od;by_cases h1:a<b
 ·refine Wq ?_;exact ap rfl [] ⟨by rw[if_pos h1];rfl,rfl⟩ Sub.h
 ·by_cases h2:a>b
  ·refine Wq ?_;exact ap rfl [] ⟨by rw[if_neg h1,if_pos h2];rfl,rfl⟩ Sub.h
  ·refine Wq ?_;exact ap rfl [] ⟨by rw[if_neg h1,if_neg h2];rfl,rfl⟩ Sub.h
def tP:List Int→Int
 |[]=>0
 |x::xs=>if x≠0 then x else tP xs
abbrev NV(x:Int):Value:= .int .i64 x
theorem NW{A:HP}{ad:Option Addr}{cap:Nat}{xs:List Int}(R:Reads A 1 ad xs.length (xs.map NV))(hl:xs.length≤2^40):
 Spec prog 103 [.slice ad xs.length cap] [A] (fun v B=>v= .int .i64 (tP xs)∧B=[A]):=by
 refine x_sp func103 ntmps103 fun E cs Γ=>?_;refine j7 (h:=?_);refine aQ (α:=Nat) (fun i=>i≤xs.length∧tP (xs.drop i)=tP xs) (fun i=>[(8,iv i),(7,iv xs.length),(6,.slice ad xs.length cap),(3,iv 0)]) (fun _=>A::Γ) (fun i=>xs.length-i) 0 ⟨by omega,rfl⟩ x_tv Sub.h ?_;rintro i ⟨hi,ho⟩ back;refine bQ (h:=?_);by_cases h:i<xs.length
 ·obtain⟨y,hy⟩:=bc (l:=xs) (i:=i) h;have hd:xs.drop i=y::xs.drop (i+1):=by rw[zW h];rw[(List.getElem?_eq_some_iff.1 hy).2]
  rw[hd,tP]at ho;refine aA (h:=?_);refine bK rfl rfl R (j:=i) rfl h rfl fun b off ha=>?_;refine aw (h:=?_);refine fM rfl R ha (i:=i*1) (by omega) (v:=NV y) (by rw[zaj,zf,hy];rfl) rfl ?_;by_cases e:y=0
  ·subst e;rw[if_neg (by decide)]at ho;refine Wq ?_;exact aV (back (i+1) ⟨by omega,ho⟩ (by omega))
  ·rw[if_pos e]at ho;refine Wq ?_;exact ap rfl [A] ⟨by rw[←ho];rfl,rfl⟩ Sub.h
 ·obtain rfl:i=xs.length:=by omega
  rw[zb0]at ho;refine Wq ?_;exact ap rfl [A] ⟨by rw[←ho];rfl,rfl⟩ Sub.h
end
section
open Go.Proofs Tryz
open Go.Proofs Go.RowKit
def pS(x y:TX):Int:=tP [od x.bx y.bx,od x.ck y.ck]
theorem XN(x y:TX):pS x y<0↔x.bx<y.bx∨x.bx=y.bx∧x.ck<y.ck:=by
 simp only[pS,tP,od]
 repeat' split
 all_goals omega
theorem XO(x y:TX):pS x y=0↔x.bx=y.bx∧x.ck=y.ck:=by
 simp only[pS,tP,od]
 repeat' split
 all_goals omega
theorem NX(x y:TZ):Spec prog 293 [x.val,y.val] [] (fun v B=>v= .int .i64 (pS x.t y.t)∧B=[]):=by
 refine x_sp func293 ntmps293 fun E cs Γ=>?_;refine lL (h:=?_);refine ao (aM rfl rfl fun p2=>?_);refine ao (aM rfl rfl fun p3=>?_);refine nr (h:=?_);refine aZ 12 (aX [4,9,10,11] [0,1,2,3,5,6,7,8,4,9,10,11,12]) [Row p2 0 x.cells,Row p3 0 y.cells] ?_;refine Ws ?_;refine aE rfl (aq rfl (El x.t.bx y.t.bx) rfl ?_);refine cn (h:=?_);refine aE rfl (aq rfl (El x.t.ck y.t.ck) rfl ?_);refine cn (h:=?_);refine aE rfl (cf rfl (by rfl) (by rfl) (by rfl) (by rfl) rfl fun a2=>⟨bd,?_⟩);skip;have gU:=NW (cap:=2) (xs:=[od x.t.bx y.t.bx,od x.t.ck y.t.ck]) (Sl.reads 1 a2 2 2 _ rfl) (show 2≤2^40 by decide);simp only[zE,zal,zy,zaT,zO,Nat.reduceAdd]at gU;refine aE rfl (aq rfl gU rfl ?_);refine w9 (h:=?_);exact ap rfl [] ⟨rfl,rfl⟩ Sub.h
theorem XP{A:HP}{ad:Option Addr}{cap:Nat}{l:List TZ}(y:TZ)(R:Reads A 21 ad l.length (av l))(hl:l.length≤2^38){p:Nat}(hp:p≤l.length)(hm:∀(i:Nat) (z:TZ),l[i]? =some z→(pS z.t y.t<0↔i<p)):
 Spec prog 292 [.slice ad l.length cap,y.val,.func (.func 293) #[] #[]] [A] (fun v B=>∃f:Bool,v= .tuple #[.int .i64 p,.bool f]∧B=[A]∧(f=true↔∃z,l[p]? =some z∧pS z.t y.t=0)):=by
 refine x_sp func292 ntmps292 fun E cs Γ=>?_;refine dx (h:=?_);refine ao (aM rfl rfl fun p4=>?_);refine Wq ?_;refine aQ (α:=Nat×Nat) (fun q=>q.1≤p∧p≤q.2∧q.2≤l.length) (fun q=>[(9,iv q.1),(10,iv q.2),(8,iv l.length),(0,.slice ad l.length cap),(2,.func (.func 293) #[] #[]),(4,dp p4)]) (fun _=>Row p4 0 y.cells::A::Γ) (fun q=>q.2-q.1) (0,l.length) ⟨by simp,hp,zq _⟩ x_tv Sub.h ?_;rintro⟨i,j⟩ ⟨h1,h2,h3⟩ back;dsimp only at h1 h2 h3 back⊢;by_cases h:i<j
 ·have jk:((i:Int)+j)/2=((i+j)/2:Nat):=by omega
  obtain⟨m,H6⟩:∃m,m=(i+j)/2:=⟨_,rfl⟩
  have ja:m<l.length:=by omega
  obtain⟨z,hz⟩:=bc (l:=l) (i:=m) ja;refine jw R (by omega) fun b off ha=>?_;subst ha;refine Wq ?_;rw[show((i:Int)+j)=((i+j:Nat):Int)by omega];refine aw (h:=?_);refine ft rfl rfl ?_;rw[rV (x:=i+j) (by unfold aI;omega)];refine aw (h:=?_);refine wu (ky:= .u64) rfl rfl (by decide) rfl ?_;rw[show(((i+j:Nat):Int).fdiv (2^((1:Int).toNat)))=(m:Int)by rw[H6,zbt _ (by decide)];simp];refine aw (h:=?_);refine ft rfl rfl ?_;rw[show IntKind.i64.wrap (m:Int)=(m:Int)by rw[IntKind.wrap_i64];omega];refine nr (h:=?_);refine aZ 8 (aX [6] [0,1,2,3,4,5,6,7]) [Row p4 0 y.cells,A] ?_;refine uX (h:=?_);refine au rfl (aY (j:=m) rfl rfl rfl rfl ja) ?_;refine au rfl (eQ (us:=z.cells) rfl R rfl (i:=m*21) rfl rfl fun k v hv=>cG hz hv) ?_;refine iA (h:=?_);refine aE rfl (o5 (f:=293) (fs:=[]) (caps:=[]) rfl rfl (NX z y) rfl ?_);refine cn (h:=?_);have sU:=hm m z hz;by_cases hc:pS z.t y.t<0
  ·have:=sU.1 hc;refine xh (h:=dQ (h:=?_));exact aV (back (m+1,j) ⟨by dsimp only;omega,h2,h3⟩ (by dsimp only;omega))
  ·have:¬m<p:=fun h=>hc (sU.2 h);refine xi (h:=dQ (h:=?_));exact aV (back (i,m) ⟨h1,by dsimp only;omega,by dsimp only;omega⟩ (by dsimp only;omega))
 ·obtain rfl:i=p:=by omega
  obtain rfl:j=i:=by omega
  refine Wq ?_;by_cases l_:j<l.length
  ·obtain⟨z,hz⟩:=bc (l:=l) (i:=j) l_;refine jw R (by omega) fun b off ha=>?_;subst ha;refine aZ 14 (aX [11] [0,1,2,3,4,5,6,7,8,9,10,11,12,13,14,15]) [Row p4 0 y.cells,A] ?_;refine Ws ?_;refine bE rfl rfl (aY (j:=j) rfl rfl rfl rfl l_) ?_;refine bE rfl rfl (eQ (us:=z.cells) rfl R rfl (i:=j*21) rfl rfl fun k v hv=>cG hz hv) ?_;refine HL (h:=?_);refine gp rfl rfl (o5 (f:=293) (fs:=[]) (caps:=[]) rfl rfl (NX z y) rfl ?_);refine cn (h:=?_);by_cases h0:pS z.t y.t=0
   ·refine kC (h:=?_);exact ap rfl [A] ⟨true,rfl,rfl,fun _=>⟨z,hz,h0⟩,fun _=>rfl⟩ Sub.h
   ·refine kC (h:=?_);exact ap rfl [A] ⟨false,rfl,rfl,fun h=>(by cases h),fun ⟨z',h,h'⟩=>absurd (by rw[hz]at h;cases h;exact h') h0⟩ Sub.h
  ·obtain rfl:j=l.length:=by omega
   refine aZ 14 (aX [] [0,1,2,3,4,5,6,7,8,9,10,11,12,13,14,15]) [Row p4 0 y.cells,A] ?_;refine kC (h:=?_);refine ap rfl [A] ⟨false,rfl,rfl,?_⟩ Sub.h;rw[zam (zq _)];exact⟨fun h=>(by cases h),fun ⟨z',h,_⟩=>(by cases h)⟩
end
section
open Go.Proofs Tryz
open Go.RowKit Go.Proofs
theorem Em{P:Program}{E:Env}{Δ:List HP}{w:World}{a:Option Addr}{s len cap lo:Nat}{xs ys:List Value}(st:St E (Sl s a len cap xs::Δ) w)(fN:lo*s+ys.length≤len*s)(h1:ys.all Value.oneCell'=true):
 ∃w',((match cy s a cap lo with|some a=>storeCells a ys|none=>pure ()):Sem Unit).run P w= .ok () w'∧St E (Sl s a len cap (xs.take (lo*s)++ys++xs.drop (lo*s+ys.length))::Δ) w':=by
 obtain⟨g1,g2,gC⟩:=st.jJ;rcases gC with ⟨rfl,rfl,rfl,rfl,iG⟩|⟨b,off,junk,rfl,q2,iG⟩
 ·have:ys=[]:=List.length_eq_zero_iff.1 (by omega);subst this;exact⟨w,by simp[cy],by simpa using st⟩
 ·by_cases h0:ys=[]
  ·subst h0;refine⟨w,?_,by simpa using st⟩;unfold cy;split<;>simp[storeCells]
  ·have qS:0<ys.length:=List.length_pos_iff.2 h0;have e0:cy s (some ⟨b,off,none⟩) cap lo=some ⟨b,off+lo*s,none⟩:=by
    unfold cy;rw[if_neg (fun h=>by subst h;have:=zn s g2;omega)];simp[Addr.kL]
   obtain⟨w',ie,s1⟩:=wA (P:=P) (off:=off) ys (lo*s) w (fun B=>B::Δ) (xs++junk) E _ (km.here Δ b off _) iG (by simp;omega) (fun v hv=>zaQ.1 h1 v hv) (off+lo*s) 0 (by omega);refine⟨w',by rw[e0];exact ie,?_⟩;have e1:(xs++junk).take (lo*s)++ys++(xs++junk).drop (lo*s+ys.length)=(xs.take (lo*s)++ys++xs.drop (lo*s+ys.length))++junk:=by
    rw[zZ (by omega),zaE (by omega)];simp
   rw[e1]at s1;exact St.ou (by simp;omega) (by simp at q2⊢;omega) g2 s1
theorem NY{P:Program}{w w':World}{t t2 e s y:Nat}[T:cX P t e s y]{dst src:Option Addr}{L C m gD:Nat}{us:List Value}(ty:TypeId)(hf:(Builtin.firstCells s (min m L) (.slice src m gD)).run P w= .ok us.toArray w)
 (hr:((match dst with|some a=>storeCells a us|none=>pure ()):Sem Unit).run P w= .ok () w'):(Builtin.copy_ #[t,t2] ty #[.slice dst L C,.slice src m gD]).run P w= .ok (.int .i64 ((min m L:Nat):Int)) w':=by
 obtain⟨hu,inf,fA,bZ,mK⟩:=T.fL;have hm:Nat.min m L=min m L:=rfl;simp only[Builtin.copy_,Sem.run_bind,Sem.run_pure,Result.andThen_ok,cN hu,Builtin.lenOf,eB fA,bZ,hm,hf,List.getElem?_toArray,zaW,zaX];cases dst with
 |none=>simp only[Sem.run_pure]at hr;cases hr;simp[goInt]
 |some q=>simp only at hr;simp only[Sem.run_bind,hr,Result.andThen_ok,Sem.run_pure,goInt]
section ops
variable {P:Program} {X:Cx} {n:Nat} {ds:List Deferred} {ρ:aK} {Γ:List HP} {Nx:Value→List HP→Prop} {d:Nat} {ty:TypeId}
theorem Eo{A:HP}{t t2 e s y:Nat}{x z:Operand}{a a2:Option Addr}{len cap lo m gD:Nat}{xs ys:List Value}{Δ:List HP}[T:cX P t e s y](hx:ev ρ x=some (.slice (cy s a cap lo) (len-lo) (cap-lo)))(hz:ev ρ z=some (.slice a2 m gD))
 [TS:ig Γ a s len cap xs Δ] (R:Reads A s a2 m ys) [H:Has Δ A] (fN:lo+m≤len) (h1:ys.all Value.oneCell'=true) (hn:Nat.blt d n=true)
 (h:Nx (.int .i64 (m:Int)) (Sl s a len cap (xs.take (lo*s)++ys++xs.drop ((lo+m)*s))::Δ)):
 bm P X n ds (some d) (.call ⟨.builtin .copy,#[x,z],#[t,t2]⟩) ty Nx ρ Γ:=
 b_ (by simp) hn fun ee o w ax aS he bg hs=>by
  have st:=hs.perm TS.h;have ja:min m (len-lo)=m:=by omega
  have gG:=R.1;obtain⟨w',hr,s1⟩:=Em (P:=P) (lo:=lo) (ys:=ys) st (by rw[gG,←zA];exact zn s fN) h1;have hf:=oq (P:=P) (cap:=gD) (Γ:=Δ) (st.drop) R;rw[gG,←zA]at s1;refine⟨_,w',_,?_,s1,h⟩;have hc:=NY (P:=P) (t:=t) (t2:=t2) (L:=len-lo) (C:=cap-lo) o.type (by rw[ja];exact hf) hr;rw[ja]at hc;simp[execOp,ax,resolve,he x _ hx,he z _ hz,invoke,builtin,hc]
theorem XQ{t t2 e s y:Nat}{x z:Operand}{a:Option Addr}{len cap lo lo2 c:Nat}{xs:List Value}{Δ:List HP}[T:cX P t e s y](hx:ev ρ x=some (.slice (cy s a cap lo) (len-lo) (cap-lo)))(hz:ev ρ z=some (.slice (cy s a cap lo2) (len-lo2) (cap-lo2)))
 [TS:ig Γ a s len cap xs Δ] (fN:lo≤len) (XR:lo2≤len) (hc:c=min (len-lo2) (len-lo)) (h1:((xs.drop (lo2*s)).take (c*s)).all Value.oneCell'=true) (hn:Nat.blt d n=true)
 (h:Nx (.int .i64 (c:Int)) (Sl s a len cap (xs.take (lo*s)++(xs.drop (lo2*s)).take (c*s)++xs.drop ((lo+c)*s))::Δ)):
 bm P X n ds (some d) (.call ⟨.builtin .copy,#[x,z],#[t,t2]⟩) ty Nx ρ Γ:=
 b_ (by simp) hn fun ee o w ax aS he bg hs=>by
  have st:=hs.perm TS.h;obtain⟨g1,g2,_⟩:=st.jJ;have RS:=(Sl.reads s a len cap xs g1).sub cap lo2 len XR (zq _) g2;have R1:=RS.oZ c (by omega);have e1:(((xs.drop (lo2*s)).take ((len-lo2)*s)).take (c*s))=(xs.drop (lo2*s)).take (c*s):=by
   rw[zcd,zat (zn s (by omega))]
  rw[e1]at R1;have gG:=R1.1;obtain⟨w',hr,s1⟩:=Em (P:=P) (lo:=lo) (ys:=(xs.drop (lo2*s)).take (c*s)) st (by rw[gG,←zA];exact zn s (by omega)) h1;have hf:=oq (P:=P) (cap:=cap-lo2) st R1;rw[←Kt s c (len-lo2) (cap-lo2) (cap-lo2),hc]at hf;rw[gG,←zA]at s1;refine⟨_,w',_,?_,s1,h⟩;have tN:=NY (P:=P) (t:=t) (t2:=t2) (L:=len-lo) (C:=cap-lo) o.type hf (hc ▸ hr);rw[←hc]at tN;simp[execOp,ax,resolve,he x _ hx,he z _ hz,invoke,builtin,tN]
end ops
theorem St.XS{E:Env}{Δ:List HP}{w:World}{a:Option Addr}{s len cap m:Nat}{xs:List Value}(st:St E (Sl s a len cap xs::Δ) w)(h:len+m≤cap):∃ys:{ys:List Value//ys.length=m*s},St E (Sl s a (len+m) cap (xs++ys.1)::Δ) w:=by
 obtain⟨g1,g2,gC⟩:=st.jJ;rcases gC with ⟨rfl,rfl,rfl,rfl,iG⟩|⟨b,off,junk,rfl,q2,iG⟩
 ·obtain rfl:m=0:=by omega
  exact⟨⟨[],by simp⟩,by simpa using st⟩
 ·have hm:(len+m)*s≤cap*s:=zn s h;rw[zA]at hm;rw[zd]at q2;refine⟨⟨junk.take (m*s),by rw[zw];omega⟩,St.ou (junk:=junk.drop (m*s)) ?_ ?_ h ?_⟩
  ·rw[zd,zw,g1,zA];omega
  ·rw[zr,zG,zd];exact q2
  ·rw[zr,zG];exact iG
theorem ak.NZ{a:Option Addr}{s len cap k:Nat}{xs:List Value}(h:k≤len)(Γ:List HP):ak (Sl s a len cap xs::Γ) (Sl s a k cap (xs.take (k*s))::Γ):=ak.one (fun g hg=>by
 have kg:k*s≤len*s:=zn s h;rcases hg with ⟨rfl,rfl,rfl,rfl,rfl⟩|⟨b,off,junk,rfl,q1,q2,q3,rfl⟩
 ·obtain rfl:k=0:=by omega
  exact .inl ⟨rfl,rfl,rfl,by simp,rfl⟩
 ·refine .inr ⟨b,off,xs.drop (k*s)++junk,rfl,?_,?_,by omega,?_⟩
  ·rw[zw];omega
  ·rw[←zr,zG];exact q2
  ·rw[←zr,zG]) Γ
end
section
open Go.Proofs Tryz
open Go.RowKit Go.Proofs
section ops
variable {P:Program} {X:Cx} {n:Nat} {ds:List Deferred} {ρ:aK} {Γ:List HP} {Nx:Value→List HP→Prop} {d:Nat} {ty:TypeId}
theorem N0{op:Op}{ty:TypeId}(dH:∀c,op≠.defer c)
 (h:∀(e:Operand→Value) (o:Oper) (w:World),o.op=op→o.type=ty→(∀x v,ev ρ x=some v→e x=v)→St X.E Γ w→
  ∃v w' Γ',(execOp e o).run P w= .ok (.value v) w'∧St X.E Γ' w'∧Nx undef Γ'):
 bm P X n ds none op ty Nx ρ Γ:=by
 intro ops i o rest k ρF hle ho gB ax aS hw hK t w cP hm hs;obtain⟨v,w',Γ',hr,ju,uk⟩:=h (Act.mk t ds).eval o w ax aS (fun x v hx=>(hm.le hle).ev ds hx) hs;refine .step (m':=lone (X.base.atR ⟨t,ds⟩ (.inRegion ops rest::k)) X.cs w') (step_lone_go ?_)
  (hK _ _ uk _ w' cP hm ju)
 rw[stepGR_op ho (hw t hm),Oper.semAt_eq _ _ _ (by rw[ax];exact dH)];have fX:=Frame.finish_atR X.base ⟨t,ds⟩ ops i rest k v;have hp:((ops[i]?).bind (·.dst))=none:=by simp[ho,gB]
 rw[hp]at fX;simp only[stepG.apply,Sem.runT_eq,hr,if_true,GStep.bare_after,fX]
 rfl
theorem XT{t t2 e s y:Nat}{x z:Operand}{a:Option Addr}{len cap i j:Nat}{xs zv:List Value}{Δ:List HP}[T:cX P t e s y][NI:uw P t2][Z:cp P e zv](hx:ev ρ x=some (.slice a i cap))(hz:ev ρ z=some (.slice (cy s a cap j) (len-j) (cap-j)))
 [TS:ig Γ a s len cap xs Δ] (jk:i≤j) (hj:j≤len) (iT:Nat.blt 0 y=true) (h1:xs.all Value.oneCell'=true) (hb:(2*(i+(len-j))+192)*y≤2^48) (hn:Nat.blt d n=true)
 (h:Nx (.slice a (i+(len-j)) cap) (Sl s a len cap (xs.take (i*s)++xs.drop (j*s)++xs.drop ((i+(len-j))*s))::Δ)):
 bm P X n ds (some d) (.call ⟨.builtin .append,#[x,z],#[t,t2]⟩) ty Nx ρ Γ:=
 b_ (by simp) hn fun ee o w ax aS he bg hs=>by
  obtain⟨z0,fY,oY⟩:=cp.get (P:=P) (t:=e);have st:=hs.perm TS.h;obtain⟨g1,g2,_⟩:=st.jJ;have hjs:j*s≤len*s:=zn s hj;have hR:=Sl.reads s a len cap xs g1;have RS:=hR.sub cap j len hj (zq _) g2;have e1:(xs.drop (j*s)).take ((len-j)*s)=xs.drop (j*s):=by
   rw[zo];rw[zQ,Nat.sub_mul];omega
  rw[e1]at RS;have R0:=hR.oZ i (by omega);obtain⟨w',hr,s1⟩:=Em (P:=P) (lo:=i) (ys:=xs.drop (j*s)) st (by rw[zQ,g1];have:=zn s jk;omega) (zaQ.2 fun v hv=>zaQ.1 h1 v (zbf hv));have gG:=RS.1;rw[gG,←zA]at s1;refine⟨_,w',_,?_,s1,h⟩;rcases Kn (P:=P) (t:=t) (t2:=t2) (e:=e) (s:=s) (y:=y) (w:=w) (base:=a) (len:=i) (cap:=cap) (m:=len-j) (yv:= .slice (cy s a cap j) (len-j) (cap-j)) (new:=(xs.drop (j*s)).toArray) (fun w=>by simp[Builtin.lenOf])
   (fun w' jW=>oq (P:=P) (cap:=cap-j) (st.env jW) RS) (by simpa[zN]using iT) hb o.type (xs.take (i*s)).toArray (fun w' jW=>by
    exact oq (P:=P) (cap:=cap) (st.env jW) R0) z0 oY with ⟨fR,ha⟩|⟨bM,_⟩
  ·have Bm:(Builtin.append_ #[t,t2] o.type #[.slice a i cap,.slice (cy s a cap j) (len-j) (cap-j)]).run P w= .ok (.slice a (i+(len-j)) cap) w':=by
    rw[ha];unfold cy at hr;cases a with
    |none=>
     have:(if cap=i then (none:Option Addr)else Option.map (fun x:Addr=>x.add (i*s)) none)=none:=by split<;>rfl
     rw[this]at hr;simp only[Sem.run_pure]at hr;cases hr;simp
    |some q=>
     by_cases N1:cap=i
     ·have Ms:len-j=0:=by omega
      have:xs.drop (j*s)=[]:=List.length_eq_zero_iff.1 (by rw[gG,Ms,zbw]);rw[this]at hr⊢;rw[if_pos N1]at hr;simp[storeCells]at hr⊢;exact hr
     ·rw[if_neg N1]at hr;simp only[zb3]at hr;simp only[Sem.run_bind,hr,Result.andThen_ok,Sem.run_pure]
   simp[execOp,ax,resolve,he x _ hx,he z _ hz,invoke,builtin,Bm]
  ·omega
theorem XU{t e s y:Nat}{x:Operand}{a:Option Addr}{len cap k C:Nat}{xs zv:List Value}{Δ:List HP}[T:cX P t e s y][Z:cp P e zv](hx:ev ρ x=some (.slice (cy s a cap k) (len-k) C))[TS:ig Γ a s len cap xs Δ](hk:k≤len)
 (fB:zv.length=s) (h1:zv.all Value.oneCell'=true) (h:Nx undef (Sl s a len cap (xs.take (k*s)++zs zv (len-k))::Δ)):bm P X n ds none (.call ⟨.builtin .clear,#[x],#[t]⟩) ty Nx ρ Γ:=
 N0 (by simp) fun ee o w ax aS he hs=>by
  obtain⟨z0,fY,i0,mJ,hzero⟩:=cp.get (P:=P) (t:=e);obtain⟨hu,inf,fA,bZ,mK⟩:=T.fL;have st:=hs.perm TS.h;obtain⟨g1,g2,_⟩:=st.jJ;have kg:k*s≤len*s:=zn s hk;have N2:(zs zv (len-k)).length=(len-k)*s:=by rw[lv,fB]
  have nQ:(zs zv (len-k)).all Value.oneCell'=true:=by
   rw[zaQ];intro v hv;obtain⟨j,hj⟩:=List.mem_iff_getElem?.1 hv;have aN:=(List.getElem?_eq_some_iff.1 hj).1;rw[lv]at aN;rw[F0 zv (len-k) j aN]at hj;exact zaQ.1 h1 v (zc hj)
  obtain⟨w',hr,s1⟩:=Em (P:=P) (lo:=k) (ys:=zs zv (len-k)) st (by rw[N2,←zA];exact zn s (by omega)) nQ;have e2:xs.drop (k*s+(zs zv (len-k)).length)=[]:=by
   rw[List.drop_eq_nil_iff,N2,←zA,g1];exact zn s (by omega)
  rw[e2,zF]at s1;have qR:(Builtin.zeroCells z0.cells (len-k)).toList=zs zv (len-k):=by rw[CD,fY]
  refine⟨.tuple #[],w',_,?_,s1,h⟩;have fj:(Builtin.clear_ #[t] o.type #[.slice (cy s a cap k) (len-k) C]).run P w= .ok (.tuple #[]) w':=by
   cases kn:cy s a cap k with
   |none=>
    rw[kn]at hr;simp only[Sem.run_pure]at hr;cases hr;simp[Builtin.clear_,cN hu]
   |some q=>
    rw[kn]at hr;simp only at hr;cases N3:len-k with
    |zero=>
     rw[N3]at hr;simp[zs,storeCells]at hr;simp[Builtin.clear_,cN hu,hr]
    |succ m=>
     rw[N3]at hr qR;simp[Builtin.clear_,cN hu,zeroValue,m6 mJ,hzero,qR,hr]
  simp[execOp,ax,resolve,he x _ hx,invoke,builtin,fj]
theorem N4{t e s y:Nat}{x:Operand}{a:Option Addr}{len cap:Nat}[T:cX P t e s y](hx:ev ρ x=some (.slice a len cap)):bI P (.call ⟨.builtin .cap,#[x],#[t]⟩) ty ρ Γ (.int .i64 (cap:Int)):=
 ⟨by simp,fun ee o E w ax aS he bg hs=>by
  simp[execOp,ax,resolve,he x _ hx,invoke,builtin,Builtin.cap_,cN T.fL.1,goInt]⟩
theorem XV{t e s y:Nat}{x lo hi mx:Operand}{a:Option Addr}{len cap jl jh jm:Nat}{k1 k2 k3:IntKind}{il ih im:Int}[T:cX P t e s y](hx:ev ρ x=some (.slice a len cap))(fN:ev ρ lo=some (.int k1 il))(kM:ev ρ hi=some (.int k2 ih))(XW:ev ρ mx=some (.int k3 im))
 (h1:il=(jl:Int)) (h2:ih=(jh:Int)) (h0:im=(jm:Int)) (h3:jl≤jh) (h4:jh≤jm) (h5:jm≤cap):bI P (.slice t x (some lo) (some hi) (some mx)) ty ρ Γ (.slice (cy s a jm jl) (jh-jl) (jm-jl)):=
 ⟨by simp,fun ee o E w ax aS he bg hs=>by
  obtain⟨hu,inf,en,bZ,_⟩:=T.fL;simp[execOp,ax,he x _ hx,he lo _ fN,he hi _ kM,he mx _ XW,Instr.sliceAt,cN hu,Instr.slice,Instr.sliceBounds,m9 jl h1 h3,m9 jh h2 h4,m9 jm h0 h5,eB en,bZ,cy]⟩
theorem XX{A:HP}{t t2 e s y:Nat}{x z:Operand}{a:Option Addr}{len cap m:Nat}{i:Int}{kk:IntKind}{xs zv:List Value}[T:cX P t e s y][NI:lW P t2 kk][Z:cp P e zv](hx:ev ρ x=some (.slice a len cap))(hz:ev ρ z=some (.int .i64 i))(hi:i=(m:Int))
 (R:Reads A s a len xs) [H:Has Γ A] (xz:cap<len+m) (fB:zv.length=s) (iT:Nat.blt 0 y=true) (hb:(2*(len+m)+192)*y≤2^48) (hn:Nat.blt d n=true)
 (h:∀a' bi,len+m≤bi→Nx (.slice a' (len+m) bi) (Sl s a' (len+m) bi (xs++zs zv m)::Γ)):
 bm P X n ds (some d) (.call ⟨.builtin .append,#[x,z],#[t,t2]⟩) ty Nx ρ Γ:=
 b_ (by simp) hn fun ee o w ax aS he bg hs=>by
  subst hi;obtain⟨z0,fY,oY⟩:=cp.get (P:=P) (t:=e);have jK:z0.cells.size=s:=by rw[←fB,←fY];simp
  have g1:=R.1;have key:∃a' bi w',(Builtin.append_ #[t,t2] o.type #[.slice a len cap,.int .i64 m]).run P w= .ok (.slice a' (len+m) bi) w'∧len+m≤bi∧St X.E (Sl s a' (len+m) bi (xs++zs zv m)::Γ) w':=by
   have hold:∀(w':World),w'.heap=w.heap→(Builtin.firstCells s len (.slice a len cap)).run P w'= .ok xs.toArray w':=fun w' jW=>
    oq (P:=P) (cap:=cap) (hs.env jW) R
   rcases KR (P:=P) (t:=t) (t2:=t2) (e:=e) (s:=s) (y:=y) (w:=w) (base:=a) (cap:=cap) (m:=m) (by simpa[zN]using iT) hb o.type jK xs.toArray hold oY with ⟨fR,hr⟩|⟨bM,c,hc,hr⟩
   ·omega
   ·rw[fY]at hr;refine⟨_,c,_,hr,hc,?_⟩;have s1:=hs.drew.sD (xs++zs zv m++(Builtin.zeroCells z0.cells (c-(len+m))).toList) e;have e1:(xs++zs zv m++(Builtin.zeroCells z0.cells (c-(len+m))).toList).toArray=xs.toArray++(zs zv m).toArray++Builtin.zeroCells z0.cells (c-(len+m)):=by
     apply zbW;simp
    rw[e1]at s1;refine St.ou (by simp[g1,lv,fB,zA]) ?_ hc s1;have h3:=FV (c-(len+m)) z0.cells;rw[jK]at h3;rw[zd,h3,zd,g1,lv,fB,←zA,←zA];congr 1;omega
  obtain⟨a',bi,w',hr,hc,s1⟩:=key;refine⟨_,w',_,?_,s1,h a' bi hc⟩;simp[execOp,ax,resolve,he x _ hx,he z _ hz,invoke,builtin,hr]
end ops
theorem N5{w:World}{x:Addr}{v:Value}(h:w.cell? x=some v):(w.shape? x.block).isSome=true:=by
 unfold World.cell? at h;unfold World.shape?;split at h
 ·rfl
 ·cases h
theorem XY{P:Program}(w:World)(tS tR e:TypeId)(ht:P.underlying tS=some (.slice e))(size:Nat)(hz:∀w,(Go.sizeOf e).run P w= .ok size w)(a b:Option Addr)(la ca lb cb:Nat)
 (ha:la=0∨∃x v,a=some x∧w.cell? x=some v) (hb:lb=0∨∃y v,b=some y∧w.cell? y=some v∧w.frozen? y=false):
 ∃(r:Bool) (w':World),(Extern.SlicesOverlaps.overlaps #[tS,tS] #[tR] #[.slice a la ca,.slice b lb cb]).run P w= .ok (.bool r) w'∧(w'=w∨w'=w.drew):=by
 rw[show Extern.SlicesOverlaps.overlaps #[tS,tS] #[tR] #[.slice a la ca,.slice b lb cb]=(underlying tS>>=_)from rfl];cases a with
 |none=>exact⟨false,w,by simp[run_underlying ht,hz],.inl rfl⟩
 |some x=>
  cases b with
  |none=>exact⟨false,w,by simp[run_underlying ht,hz],.inl rfl⟩
  |some y=>
   by_cases h0:la=0∨lb=0∨size=0
   ·exact⟨false,w,by simp[run_underlying ht,hz,h0],.inl rfl⟩
   ·rcases ha with ha|⟨x',v,j8,hx⟩
    ·exact absurd (.inl ha) h0
    rcases hb with hb|⟨y',u,xV,hy,hf⟩
    ·exact absurd (.inr (.inl hb)) h0
    cases j8;cases xV;obtain⟨sx,Ep⟩:=Option.isSome_iff_exists.1 (N5 hx);obtain⟨sy,Bx⟩:=Option.isSome_iff_exists.1 (N5 hy);by_cases jc:x.block=y.block
    ·exact⟨decide (x.off<y.off+lb*size∧y.off<x.off+la*size),w,by simp[run_underlying ht,hz,h0,jc],.inl rfl⟩
    ·have hm:∃q:Bool,(mayBeOne x y).run P w= .ok q w:=by
      unfold mayBeOne stringish;simp only[Sem.run_bind,run_frozen,run_shape,Result.andThen_ok,Ep,Bx,hf,Sem.run_pure];cases w.frozen? x<;>exact⟨_,by simp[Ep,Bx,hf];rfl⟩
     obtain⟨q,hq⟩:=hm;cases q with
     |false=>exact⟨false,w,by simp[run_underlying ht,hz,h0,jc,hf,noView,viewAt,Ep,Bx,hq],.inl rfl⟩
     |true=>exact⟨_,w.drew,by simp[run_underlying ht,hz,h0,jc,hf,noView,viewAt,Ep,Bx,hq,Question.forced];rfl,.inr rfl⟩
end
section
open Go.Proofs Tryz
open Go.Proofs Go.RowKit
theorem qD(l:List TZ)(i:Nat)(m:TZ)(h:i<l.length):(av l).take (i*21)++m.cells++(av l).drop (i*21+m.cells.length)=av (l.set i m):=DH (f:=TZ.cells) (s:=21) TZ.len m l i h
theorem N6{α:Type}{l:List α}{i k:Nat}{n m:α}(hn:l[i]? =some n)(hm:l[k]? =some m):(l.set i m).set k n=fP l i k (List.getElem?_eq_some_iff.1 hn).1 (List.getElem?_eq_some_iff.1 hm).1:=D3 hn hm
theorem N7{l:List TZ}{i:Nat}{z:TZ}(h:l[i]? =some z):((av l).drop (i*21)).take 21=z.cells:=by
 obtain⟨h1,h2⟩:=List.getElem?_eq_some_iff.1 h;rw[CS (f:=TZ.cells) (s:=21) TZ.len,zW h1,h2,zT,zZ (by rw[TZ.len];omega),zo (by rw[TZ.len];omega)]
def xW(l ys:List TZ)(i:Nat):Prop:=ys.length=l.length∧∀k,k<l.length→ys[k]? =if k<i∨l.length≤k+i then l[l.length-1-k]? else l[k]?
theorem xW.step{l ys:List TZ}{i j:Nat}(h:xW l ys i)(jk:i+j+1=l.length)(aN:i<j)(h1:i<ys.length)(h2:j<ys.length):xW l (fP ys i j h1 h2) (i+1):=by
 obtain⟨hl,hk⟩:=h;refine⟨by rw[kG];exact hl,fun k tb=>?_⟩;have hi:=hk i (by omega);have hj:=hk j (by omega);rw[if_neg (by omega)]at hi hj;have N8:=hk k tb;unfold fP;rw[zae,zae,zH];by_cases e1:j=k
 ·subst e1;rw[if_pos rfl,if_pos h2,if_pos (by omega),show l.length-1-j=i by omega,←hi,za h1]
 ·rw[if_neg e1];by_cases e2:i=k
  ·subst e2;rw[if_pos rfl,if_pos h1,if_pos (by omega),show l.length-1-i=j by omega,←hj,za h2]
  ·rw[if_neg e2,N8];by_cases e3:k<i∨l.length≤k+i
   ·rw[if_pos e3,if_pos (by omega)]
   ·rw[if_neg e3,if_neg (by omega)]
theorem xW.done{l ys:List TZ}{i:Nat}(h:xW l ys i)(hi:l.length≤2*i+1):ys=l.reverse:=by
 obtain⟨hl,hk⟩:=h;refine zbP fun k=>?_;by_cases tb:k<l.length
 ·rw[hk k tb,List.getElem?_reverse tb];by_cases e:k<i∨l.length≤k+i
  ·rw[if_pos e]
  ·rw[if_neg e,show l.length-1-k=k by omega]
 ·rw[zam (by omega),zam (by simp;omega)]
theorem H7{bk off cap:Nat}(l:List TZ)(h0:0<l.length)(hl:l.length≤2^38):
 Spec prog 328 [.slice (some ⟨bk,off,none⟩) l.length cap] [Row bk off (av l)] (fun v B=>v= .tuple #[]∧B=[Row bk off (av l.reverse)]):=by
 refine x_sp func328 ntmps328 fun E cs Γ=>?_;refine j7 (h:=?_);rw[show(((l.length:Nat):Int)-1)=((l.length-1:Nat):Int)by omega];refine aQ (α:=List TZ×Nat) (fun q=>xW l q.1 q.2∧2*q.2≤l.length) (fun q=>[(2,iv q.2),(3,iv (((l.length-1:Nat):Int)-q.2)),(0,.slice (some ⟨bk,off,none⟩) l.length cap)]) (fun q=>Row bk off (av q.1)::Γ) (fun q=>l.length-q.2) (l,0)
  ⟨⟨rfl,fun k hk=>by rw[if_neg (by omega)]⟩,by simp⟩ ⟨rfl,by simp;rfl,rfl,trivial⟩ Sub.h ?_
 rintro⟨ys,i⟩ ⟨ht,hi⟩ back;dsimp only at ht hi back⊢;have gG:=ht.1;refine Wl ?_;by_cases h:i<l.length-1-i
 ·obtain⟨j,hj⟩:∃j,j=l.length-1-i:=⟨_,rfl⟩
  rw[show(((l.length-1:Nat):Int)-i)=(j:Int)by omega];obtain⟨z,hz⟩:=bc (l:=ys) (i:=i) (by omega);obtain⟨u,hu⟩:=bc (l:=ys) (i:=j) (by omega);have jk:i<j:=by omega
  refine Wq ?_;refine aZ 13 (aX [13,15] [0,1,2,3,4,5,6,7,8,9,10,11,12,13,14,15]) [Row bk off (av ys)] ?_;refine Ws ?_;refine au rfl (aY (j:=j) rfl rfl rfl rfl (by omega)) ?_;refine au rfl (oz (us:=u.cells) rfl (by rw[za9];omega) (by rw[zS];exact N7 hu) rfl) ?_;refine dK (h:=?_);refine au rfl (aY (j:=i) rfl rfl rfl rfl (by omega)) ?_;refine au rfl (oz (us:=z.cells) rfl (by rw[za9];omega) (by rw[zS];exact N7 hz) rfl) ?_;refine au rfl (aY (j:=i) rfl rfl rfl rfl (by omega)) ?_;refine bN rfl rfl (jH (us:=u.cells) rfl rfl rfl (TZ.one u) (by rw[za9];omega) (by rw[zS,da];show i*21+21≤_;omega) ?_);rw[zS,qD ys i u (by omega)];refine au rfl (aY (j:=j) rfl rfl rfl rfl (by omega)) ?_;refine bN rfl rfl (jH (us:=z.cells) rfl rfl rfl (TZ.one z) (by rw[za9];omega) (by rw[zS,da,zH];show j*21+21≤_;omega) ?_);rw[zS,qD _ j z (by rw[zH];omega),N6 hz hu];refine dQ (h:=?_);refine bf (back (fP ys i j _ _,i+1) ⟨ht.step (by omega) jk _ _,by dsimp only;omega⟩ (by dsimp only;omega)) ⟨rfl,by rw[show((l.length-1:Nat):Int)-((i+1:Nat):Int)=(j:Int)-1 by omega];rfl,rfl,trivial⟩ Sub.h
 ·have h':¬(i:Int)<((l.length-1:Nat):Int)-i:=by omega
  refine Wq ?_;rw[ht.done (by omega)];exact cJ _ ⟨rfl,rfl⟩ Sub.h
end
section
open Go.Proofs Tryz
open Go.Proofs Go.RowKit
theorem gy{P:Program}{X:Cx}{n:Nat}{ds:List Deferred}{todo:List Item}{ρ:aK}{Γ Γ':List HP}(hΓ:∀E w,St E Γ w→St E Γ' w)(h:Ex P X n ds todo ρ Γ'):Ex P X n ds todo ρ Γ:=
 dz (α:=Unit) (Γ':=fun _=>Γ') (fun E w s=>⟨(),hΓ E w s⟩) fun _=>h
theorem H8{s b off cap lo:Nat}(h:cap≠lo):cy s (some ⟨b,off,none⟩) cap lo=some ⟨b,off+lo*s,none⟩:=by
 unfold cy;rw[if_neg h];simp[Addr.kL]
theorem jQ(l1 l2:List TZ):av (l1++l2)=av l1++av l2:=by simp[av]
theorem Er{E:Env}{Γ:List HP}{w:World}{b off:Nat}{l1 l2:List TZ}:St E (Row b off (av (l1++l2))::Γ) w↔St E (Row b off (av l1)::Row b (off+l1.length*21) (av l2)::Γ) w:=by
 rw[jQ,St.wj,da]
theorem XZ{bk off cap:Nat}(l1 l2:List TZ)(h1:0<l1.length)(h2:0<l2.length)(hl:(l1++l2).length≤2^38)(hc:(l1++l2).length≤cap):
 Spec prog 327 [.slice (some ⟨bk,off,none⟩) (l1++l2).length cap,.int .i64 l1.length] [Row bk off (av (l1++l2))] (fun v B=>v= .tuple #[]∧B=[Row bk off (av (l2++l1))]):=by
 refine x_sp func327 ntmps327 fun E cs Γ=>?_;have hlen:(l1++l2).length=l1.length+l2.length:=zd;rw[hlen]at hl hc⊢;refine eg (h:=?_);refine gy (Γ':=Row bk off (av l1)::Row bk (off+l1.length*21) (av l2)::Γ) (fun E w s=>Er.1 s) ?_;refine qj (h:=fv (h:=?_));refine qP rfl rfl (jh:=l1.length) rfl (by omega) rfl ?_;refine aJ rfl (H7 l1 h1 (by omega)) rfl ?_;refine vu (h:=?_);refine oX rfl rfl (jl:=l1.length) rfl (by omega) rfl ?_;rw[H8 (by omega),zS];refine aJ rfl (H7 l2 h2 (by omega)) rfl ?_;refine de (h:=eR (h:=?_));refine gy (Γ':=Row bk off (av (l1.reverse++l2.reverse))::Γ) (fun E w s=>Er.2 (by rw[List.length_reverse];exact Sub.h.st s)) ?_;have Es:(l1.reverse++l2.reverse).length=l1.length+l2.length:=by simp
 rw[←Es];refine nW (h:=iu (h:=?_));refine aJ rfl (H7 (l1.reverse++l2.reverse) (by omega) (by omega)) rfl ?_;refine de (h:=eR (h:=?_));rw[List.reverse_append,List.reverse_reverse,List.reverse_reverse];exact cJ _ ⟨rfl,rfl⟩ Sub.h
theorem X0{bk off cap:Nat}(l1 l2:List TZ)(h1:0<l1.length)(h2:0<l2.length)(hl:(l1++l2).length≤2^38)(hc:(l1++l2).length≤cap):
 Spec prog 315 [.slice (some ⟨bk,off,none⟩) (l1++l2).length cap,.int .i64 l2.length] [Row bk off (av (l1++l2))] (fun v B=>v= .tuple #[]∧B=[Row bk off (av (l2++l1))]):=by
 refine x_sp func315 ntmps315 fun E cs Γ=>?_;have hlen:(l1++l2).length=l1.length+l2.length:=zd;refine gJ (h:=?_);rw[show(((l1++l2).length:Nat):Int)-(l2.length:Int)=(l1.length:Int)by omega];refine aJ rfl (XZ l1 l2 h1 h2 hl hc) rfl ?_;refine de (h:=eR (h:=?_));exact cJ _ ⟨rfl,rfl⟩ Sub.h
end
section
open Go.Proofs Tryz
open Go.Proofs Go.RowKit
section ops
variable {X:Cx} {n:Nat} {ds:List Deferred} {ρ:aK} {Γ:List HP} {Nx:Value→List HP→Prop} {d:Nat} {ty:TypeId}
theorem X1{A:HP}{args:List Operand}{ts:Array TypeId}{a2 a:Option Addr}{m c2 len cap lo:Nat}{ys xs:List Value}{Δ:List HP}(ha:gk ρ args=some [.slice a2 m c2,.slice (cy 21 a cap lo) (len-lo) (cap-lo)])
 (R:Reads A 21 a2 m ys) [H:Has Γ A] [TS:ig Γ a 21 len cap xs Δ] (fN:lo≤len) (hn:Nat.blt d n=true) (h:∀r,Nx (.bool r) Γ):bm prog X n ds (some d) (.call ⟨.value (.func 314),args.toArray,ts⟩) ty Nx ρ Γ:=
 b_ (by simp) hn fun ee o w ax aS he bg hs=>by
  have T:cX prog 28 88 21 200:=inferInstance;obtain⟨hu,inf,fA,bZ,mK⟩:=T.fL;obtain⟨g1,g2,gC⟩:=(hs.perm TS.h).jJ;have hA:m=0∨∃x v,a2=some x∧w.cell? x=some v:=by
   rcases hs.reads R with h0|⟨b,off,hb,hc⟩
   ·exact .inl h0
   ·by_cases hm:m=0
    ·exact .inl hm
    ·obtain⟨v,hv⟩:∃v,ys[0]? =some v:=⟨_,za (by rw[R.1];omega)⟩
     exact .inr ⟨_,v,hb,by simpa using hc 0 v hv⟩
  have hB:len-lo=0∨∃y v,cy 21 a cap lo=some y∧w.cell? y=some v∧w.frozen? y=false:=by
   by_cases hl:len-lo=0
   ·exact .inl hl
   ·rcases gC with ⟨_,h2,_⟩|⟨b,off,junk,rfl,q2,iG⟩
    ·omega
    ·obtain⟨v,hv⟩:∃v,(xs++junk)[lo*21]? =some v:=⟨_,za (by rw[q2];omega)⟩
     obtain⟨k1,k2⟩:=iG.pX hv;exact .inr ⟨_,v,H8 (by omega),k1,k2⟩
  obtain⟨r,w',hr,jW⟩:=XY (P:=prog) w 28 4 88 hu 21 (fun w=>by rw[eB fA,bZ]) a2 (cy 21 a cap lo) m c2 (len-lo) (cap-lo) hA hB;have N9:=run_callFunc_extern func314 (by kernel_rfl) (by kernel_rfl) (by kernel_rfl) (e:=Extern.SlicesOverlaps.overlaps #[28,28] #[4]) (by kernel_rfl) #[.slice a2 m c2,.slice (cy 21 a cap lo) (len-lo) (cap-lo)] w;rw[hr]at N9;refine⟨.bool r,w',Γ,?_,?_,h r⟩
  ·simp[execOp,ax,resolve,he _ _ (show ev ρ (.func 314)=some (.func (.func 314) #[] #[])from rfl),Deferred.ofValue,invoke,bg _ _ ha,N9,Result.andThen]
  ·rcases jW with rfl|rfl
   ·exact hs
   ·exact hs.drew
end ops
end
section
open Go.Proofs Tryz
open Go.Proofs Go.RowKit
theorem xX(l:List TZ):(av l).all Value.oneCell'=true:=by
 rw[zaQ];intro v hv;obtain⟨z,_,hz⟩:=List.mem_flatMap.1 hv;exact zaQ.1 (TZ.one z) v hz
theorem Et(l:List TZ)(i:Nat)(h:i≤l.length):(av l).take (i*21)=av (l.take i):=by
 conv=>lhs;rw[←zG i l]
 rw[jQ,zZ (by rw[da,zw];omega),zo (by rw[da,zw];omega)]
theorem Eu(l:List TZ)(i:Nat):(av l).drop (i*21)=av (l.drop i):=CS (f:=TZ.cells) (s:=21) TZ.len l i
theorem nF(z:TZ):av [z]=z.cells:=by simp[av]
theorem X2{a a2:Option Addr}{cap c2 i:Nat}{l:List TZ}(z:TZ)(hi:i≤l.length)(hl:l.length≤2^20):
 Spec prog 294 [.slice a l.length cap,.int .i64 i,.slice a2 1 c2] [Sl 21 a l.length cap (av l),Sl 21 a2 1 c2 z.cells] (fun v B=>∃a' c',v= .slice a' (l.length+1) c'∧B=[Sl 21 a' (l.length+1) c' (av (l.take i++z::l.drop i))]):=by
 refine x_sp func294 ntmps294 fun E cs Γ=>?_;have fX:av (l.take i++z::l.drop i)=av (l.take i)++z.cells++av (l.drop i):=by
  rw[jQ,show z::l.drop i=[z]++l.drop i from rfl,jQ,nF,zr]
 have acI:av (l.take i)++av (l.drop i)=av l:=by rw[←jQ,zG]
 have ga:(av (l.take i)).length=i*21:=by rw[da,zw,zat hi]
 have tz:(av (l.drop i)).length=(l.length-i)*21:=by rw[da,zQ]
 have R2:=Sl.reads 21 a2 1 c2 z.cells (by rw[TZ.len]);obtain⟨n,hn⟩:∃n,n=l.length:=⟨_,rfl⟩
 have RL:=Sl.reads 21 a n cap (av l) (by rw[da,hn]);rw[←hn]at hi hl tz⊢;refine eg (h:=?_);refine kN (fun E w s=>s.jJ.2.1) fun jy=>?_;refine aA (h:=?_);refine oX rfl rfl (jl:=i) rfl (by omega) rfl ?_;refine Wq ?_;by_cases c_:i=n
 ·subst c_;refine aA (h:=?_);refine cF rfl rfl (by rfl) (by rfl) (TZ.one z) (by omega) rfl fun a4 c4 gI=>?_;refine bU (h:=?_);have e:l.take i++z::l.drop i=l++[z]:=by rw[zo (by omega),zaP (by omega)]
  exact ap rfl [Sl 21 a4 (i+1) c4 (av (l.take i++z::l.drop i))] ⟨a4,c4,rfl,rfl⟩ (by rw[e,jQ,nF];exact Sub.h)
 ·have acJ:¬(i:Int)=n:=by omega
  by_cases xz:cap<n+1
  ·have gM:(n:Int)+((1:Nat):Int)>(cap:Int):=by omega
   have Ri:Reads (Sl 21 a n cap (av l)) 21 a i (av (l.take i)):=by
    have:=RL.oZ i hi;rwa[Et l i (by omega)]at this
   have Rt:Reads (Sl 21 a n cap (av l)) 21 (cy 21 a cap i) (n-i) (av (l.drop i)):=by
    have:=RL.sub cap i n hi (zq _) jy;rw[Eu,zo (by omega)]at this;exact this
   refine aA (h:=?_);refine bL (N4 rfl) rfl ?_;refine aA (h:=?_);refine qP rfl rfl (jh:=i) rfl (by omega) rfl ?_;refine Wq ?_;rw[show(n:Int)+((1:Nat):Int)-(i:Int)=((n+1-i:Nat):Int)by omega];refine aw (h:=?_);refine XX rfl rfl rfl Ri (by omega) (by rfl) (by rfl) (by omega) rfl fun a4 c4 gI=>?_;rw[show i+(n+1-i)=n+1 by omega]at gI⊢;refine aA (h:=?_);refine oX rfl rfl (jl:=i) rfl (by omega) rfl ?_;refine fv (h:=?_);refine Eo (a:=a4) rfl rfl R2 (by omega) (TZ.one z) rfl ?_;obtain⟨D,hD⟩:∃D,D=((av (l.take i)++zs tD (n+1-i)).drop ((i+1)*21)):=⟨_,rfl⟩
   have Ef:D.length=(n-i)*21:=by
    rw[hD,zQ,zd,ga,lv];show i*21+(n+1-i)*21-(i+1)*21=_;omega
   rw[←hD,zaL ga];refine u6 (h:=?_);refine Dp 8 (aX [8] [0,1,2,3,4,5,6,7,8]) [] ?_;refine Ws ?_;refine au rfl (uu (jl:=i+1) rfl rfl (by omega) (by omega)) ?_;refine dK (h:=?_);refine au rfl (uu (jl:=i) rfl rfl rfl (by omega)) ?_;refine bN rfl rfl (Eo (a:=a4) rfl rfl Rt (by omega) (xX _) rfl ?_);have iq:(av (l.take i)++z.cells).length=(i+1)*21:=by rw[zd,ga,TZ.len];omega
   have By:(av (l.take i)++z.cells++D).drop ((i+1+(n-i))*21)=[]:=zaP (by rw[zd,iq,Ef];omega);rw[zaL iq,By,zF,←fX];refine dQ (h:=?_);exact ap rfl [Sl 21 a4 (n+1) c4 (av (l.take i++z::l.drop i))] ⟨a4,c4,rfl,rfl⟩ Sub.h
  ·have gM:¬(n:Int)+((1:Nat):Int)>(cap:Int):=by omega
   refine aA (h:=?_);refine bL (N4 rfl) rfl ?_;refine aA (h:=?_);refine qP rfl rfl (jh:=n+1) rfl (by omega) rfl ?_;refine bU (h:=?_);refine dz (Γ':=fun ys:{ys:List Value//ys.length=1*21}=>Sl 21 a (n+1) cap (av l++ys.1)::Sl 21 a2 1 c2 z.cells::Γ) (fun E w s=>St.XS (len:=n) (m:=1) (cap:=cap) s (by omega)) ?_;rintro⟨ys,k_⟩;dsimp only;refine aA (h:=?_);refine oX rfl rfl (jl:=i+1) (by omega) (by omega) rfl ?_;refine aw (h:=?_);refine X1 (a:=a) (len:=n+1) (cap:=cap) (lo:=i+1) rfl R2 (by omega) rfl fun r=>?_;have aN:(av l).length=n*21:=by rw[da,hn]
   have N_:((av l++ys).drop (i*21)).take ((n-i)*21)=av (l.drop i):=by
    rw[zaE (by omega),Eu,zaL tz]
   cases r with
   |false=>
    refine Wq ?_;refine Dp 8 (aX [8] [0,1,2,3,4,5,6,7,8]) [] ?_;refine Ws ?_;refine au rfl (uu (jl:=i+1) rfl rfl (by omega) (by omega)) ?_;refine dK (h:=?_);refine au rfl (uu (jl:=i) rfl rfl rfl (by omega)) ?_;refine bN rfl rfl (XQ (a:=a) (lo:=i+1) (lo2:=i) (c:=n-i) rfl rfl (by omega) (by omega) (by omega) (by rw[N_];exact xX _) rfl ?_);have By:(av l++ys).drop ((i+1+(n-i))*21)=[]:=zaP (by rw[zd,aN,k_];omega);rw[N_,By,zF];obtain⟨Q,hQ⟩:∃Q,Q=(av l++ys).take ((i+1)*21):=⟨_,rfl⟩
    have X3:Q.length=(i+1)*21:=by rw[hQ,zw,zd,aN,k_];omega
    have X4:Q.take (i*21)=av (l.take i):=by
     rw[hQ,zcd,zat (by omega),zZ (by omega),Et l i (by omega)]
    rw[←hQ];refine dU (h:=qj (h:=fv (h:=?_)));refine oX rfl rfl (jl:=i) rfl (by omega) rfl ?_;refine fv (h:=?_);refine Eo (a:=a) (lo:=i) rfl rfl R2 (by omega) (TZ.one z) rfl ?_;rw[zZ (by omega),X4,zbK X3,←fX];refine Wq ?_;exact ap rfl [Sl 21 a (n+1) cap (av (l.take i++z::l.drop i))] ⟨a,cap,rfl,rfl⟩ Sub.h
   |true=>
    refine aA (h:=?_);refine oX rfl rfl (jl:=n) rfl (by omega) rfl ?_;refine fv (h:=?_);refine Eo (a:=a) (lo:=n) rfl rfl R2 (by omega) (TZ.one z) rfl ?_;have By:(av l++ys).drop ((n+1)*21)=[]:=zaP (by rw[zd,aN,k_];omega);rw[zaL aN,By,zF,show av l++z.cells=av (l++[z])by rw[jQ,nF]];refine eR (h:=?_);have Oa:(l++[z]).length=n+1:=by simp[hn]
    refine dz (α:={q:Nat×Nat×List Value//a=some ⟨q.1,q.2.1,none⟩∧(av (l++[z])++q.2.2).length=cap*21}) (Γ':=fun q=>Row q.1.1 q.1.2.1 (av (l.take i))::Row q.1.1 (q.1.2.1+i*21) (av (l.drop i++[z]))::Row q.1.1 (q.1.2.1+(n+1)*21) q.1.2.2::Sl 21 a2 1 c2 z.cells::Γ) (fun E w s=>by
     obtain⟨_,_,gC⟩:=s.jJ;rcases gC with ⟨_,h2,_⟩|⟨b,off,junk,hb,q2,iG⟩
     ·omega
     ·refine⟨⟨(b,off,junk),hb,q2⟩,?_⟩;have Ob:=St.wj.1 iG;rw[da,Oa]at Ob;have iU:St E (Row b off (av (l.take i++(l.drop i++[z])))::Row b (off+(n+1)*21) junk::Sl 21 a2 1 c2 z.cells::Γ) w:=by
       rw[←zr,zG];exact Ob
      have Oc:=Er.1 iU;rw[zw,zat (by omega)]at Oc;exact Oc) ?_
    rintro⟨⟨b,off,junk⟩,hb,q2⟩;dsimp only at hb q2⊢;subst hb;have Od:=X0 (bk:=b) (off:=off+i*21) (cap:=cap-i) (l.drop i) [z] (by rw[zQ];omega) (by simp) (by rw[zd,zQ];simp;omega) (by rw[zd,zQ];simp;omega);have lh:(l.drop i++[z]).length=n+1-i:=by rw[zd,zQ];simp;omega
    rw[lh]at Od;refine qj (h:=fv (h:=?_));refine oX rfl rfl (jl:=i) rfl (by omega) rfl ?_;rw[H8 (by omega)];refine iu (h:=?_);refine aJ rfl Od rfl ?_;refine de (h:=eR (h:=?_));refine gy (Γ':=Sl 21 (some ⟨b,off,none⟩) (n+1) cap (av (l.take i++z::l.drop i))::Γ) (fun E w s=>by
     have s1:St E (Row b off (av (l.take i))::Row b (off+(l.take i).length*21) (av (z::l.drop i))::Row b (off+(n+1)*21) junk::Γ) w:=by
      rw[zw,zat (by omega)];exact Sub.h.st s
     have s2:=Er.2 s1;have hlen:(l.take i++z::l.drop i).length=n+1:=by rw[zd,zw,zy,zQ];omega
     have s3:St E (Row b off (av (l.take i++z::l.drop i)++junk)::Γ) w:=St.wj.2 (by rw[da,hlen];exact s2);refine St.ou (by rw[da,hlen]) ?_ (by omega) s3;rw[zd,da,Oa]at q2;rw[zd,da,hlen];exact q2) ?_
    refine Wq ?_;exact ap rfl [Sl 21 (some ⟨b,off,none⟩) (n+1) cap (av (l.take i++z::l.drop i))] ⟨_,cap,rfl,rfl⟩ Sub.h
end
section
open Go.Proofs Tryz
open Go.Proofs Go.RowKit
theorem X5{a:Option Addr}{cap i j:Nat}{l:List TZ}(jk:i<j)(hj:j≤l.length)(hl:l.length≤2^20):
 Spec prog 209 [.slice a l.length cap,.int .i64 i,.int .i64 j] [Sl 21 a l.length cap (av l)] (fun v B=>v= .slice a (l.take i++l.drop j).length cap∧B=[Sl 21 a (l.take i++l.drop j).length cap (av (l.take i++l.drop j))]):=by
 refine x_sp func209 ntmps209 fun E cs Γ=>?_;obtain⟨n,hn⟩:∃n,n=l.length:=⟨_,rfl⟩
 obtain⟨k,hk⟩:∃k,k=i+(n-j):=⟨_,rfl⟩
 have dM:(l.take i++l.drop j).length=k:=by rw[zd,zw,zQ];omega
 have aN:(av l).length=n*21:=by rw[da,hn]
 have e1:(av l).take (i*21)++(av l).drop (j*21)=av (l.take i++l.drop j):=by rw[Et l i (by omega),Eu,jQ]
 have e2:(av (l.take i++l.drop j)).length=k*21:=by rw[da,dM]
 rw[dM];rw[←hn]at hj hl⊢;refine eg (h:=?_);refine kN (fun E w s=>s.jJ.2.1) fun jy=>?_;refine aA (h:=?_);refine bL (XV (jl:=i) (jh:=j) (jm:=n) rfl rfl rfl rfl rfl rfl rfl (by omega) hj jy) rfl ?_;refine Wq ?_;have cE:¬(i:Int)=j:=by omega
 refine Dp 6 (aX [6] [0,1,2,3,4,5,6,7]) [] ?_;refine dK (h:=?_);refine au rfl (Cu (jh:=i) rfl rfl rfl (by omega)) ?_;refine dK (h:=?_);refine au rfl (uu (jl:=j) rfl rfl rfl hj) ?_;refine bN rfl rfl (XT (a:=a) (len:=n) (i:=i) (j:=j) rfl rfl (by omega) hj (by rfl) (xX l) (by omega) rfl ?_);rw[←hk,e1];refine df (h:=aA (h:=?_));refine yH (jl:=k) (jh:=n) rfl rfl rfl rfl rfl (by omega) jy rfl ?_;refine dO (h:=?_);refine XU (a:=a) (len:=n) (k:=k) rfl (by omega) (by rfl) (by rfl) ?_;rw[zaL e2];refine eR (h:=?_);refine bJ (Γ':=Sl 21 a k cap (av (l.take i++l.drop j))::Γ) ?_ ?_
 ·have:=ak.NZ (a:=a) (s:=21) (len:=n) (cap:=cap) (k:=k) (xs:=av (l.take i++l.drop j)++zs tD (n-k)) (by omega) Γ;rw[zaL e2]at this;exact this
 refine Wq ?_;exact ap rfl [Sl 21 a k cap (av (l.take i++l.drop j))] ⟨rfl,rfl⟩ Sub.h
end
section
open Go.Proofs Tryz
open Go.Proofs Go.RowKit
abbrev eH:List Value:=[.int .i64 0,.int .i64 0,.int .u64 0,.int .u64 0,.int .u64 0,.int .u64 0,.int .i64 0,.slice none 0 0,.slice none 0 0,.slice none 0 0]
theorem TZ.In.sep{A:HP}{z:TZ}(I:z.In A){l:List HP}(h:A∈l):z.In (Sep l):=⟨I.rh.sep h,I.rb.sep h,I.ch,I.cb,I.wf,I.hl,I.bl,I.bb⟩
theorem bR.sep{A:HP}{zs:List TZ}(I:bR A zs){l:List HP}(h:A∈l):bR (Sep l) zs:=fun z hz=>(I z hz).sep h
theorem Oe{A:HP}(z:BZ)(I:z.In A):Spec prog 43 [z.val] [A] (fun v B=>∃(k:PH) (z':BZ),v=z'.val∧B=[A,Mem k,Sl 21 z'.ad z'.l.length z'.ct (av z'.l)]∧Reads (Mem k) 5 z'.aa 8 kH∧bR (Mem k) z'.l∧z'.room=z.room∧Same z.l z'.l):=by
 refine x_sp func43 ntmps43 fun E cs Γ=>?_;have h3:=I.len;refine eh (h:=?_);refine ao (aM rfl rfl fun p1=>?_);refine ao (aC rfl fun p2=>?_);refine u6 (h:=?_);refine aZ 10 (aX [2,5,8,10,12,14] [0,1,3,4,6,7,2,9,5,8,10,11,12,13,14]) [A,Row p1 0 z.cells] ?_;refine Ws ?_;refine aE rfl (aq rfl (A0 I.ra (by omega) rfl) rfl ?_);rintro v B ⟨a2,c2,rfl,rfl,eV⟩;refine dc (h:=j6 (h:=?_));refine aE rfl (aq rfl (xt I.rt I.it (by omega)) rfl ?_);rintro v B ⟨k,l',a',c',hs,hi,rfl,rfl⟩;refine dc (h:=?_);refine aE rfl (aq rfl (Ej z.al z.cl) rfl ?_);refine cn (h:=?_);refine bN rfl rfl (eZ rfl rfl rfl rfl (by simp) ?_);refine j6 (h:=?_);refine bN rfl rfl (eZ rfl rfl rfl rfl (by simp) ?_);refine j6 (h:=?_);refine bN rfl rfl (eZ rfl rfl rfl rfl (by simp) ?_);refine dQ (h:=?_);refine fw a2 (h:=k) fun k2 bH R2 eV=>?_;refine bP (rs:=[.cell 2 31]) (vs:=[(BZ.mk z.room a2 c2 l' a' c' none 0).val]) ⟨bG (us:=(BZ.mk z.room a2 c2 l' a' c' none 0).cells) rfl rfl,trivial⟩ [A,Mem k2,Sl 21 a' l'.length c' (av l')] ⟨k2,⟨z.room,a2,c2,l',a',c',none,0⟩,rfl,rfl,R2,hi.up bH,rfl,hs⟩ Sub.h
theorem X6{A:HP}(z:BZ)(I:z.In A){cs:List (List TX)}(eI:kA cs)(he:bu z.l=cs.flatten){a:Nat}{c:List TX}{t:TX}(hc:cs[a]? =some (c++[t])):
 Spec prog 163 [z.val,.int .i64 a,.int .i64 c.length] [A] (fun v B=>∃(k:PH) (z':BZ) (r:List TZ) (ar:Option Addr) (cr:Nat),v= .tuple #[z'.val,.slice ar r.length cr]∧B=[A,Mem k]∧z'.In (Mem k)∧z'.room=z.room∧bu z'.l=(cs.set a c).flatten∧
  bu r=[t]∧bR (Mem k) r∧Reads (Mem k) 21 ar r.length (av r)∧r.length≤cr):=by
 refine x_sp func163 ntmps163 fun E rX Γ=>?_;have h3:=I.len;refine dx (h:=?_);refine ao (aM rfl rfl fun p3=>?_);refine ao (aC rfl fun p6=>?_);refine aA (h:=?_);refine aq (vs:=[z.val]) rfl (Oe z I) rfl ?_;rintro v B ⟨k,z',rfl,rfl,Ra,Ii,jR,kI⟩;have lh:z'.l.length=z.l.length:=by have:=congrArg List.length kI;simpa using this
 have iV:bu z'.l=cs.flatten:=(show bu z'.l=bu z.l from kI).trans he;rw[qo hc]at iV;obtain⟨g1,g2⟩:=NP (n:=c.length) iV (fun t ht=>Da eI ht) (fun t ht=>Db eI ht) (eI.ch a _ hc) (by simp);obtain⟨l1,NQ,e_,h1,Bv⟩:=List.map_eq_append_iff.1 iV;obtain⟨l24,l3,rfl,X7,X8⟩:=List.map_eq_append_iff.1 Bv;obtain⟨l2,lt,rfl,h2,ht⟩:=List.map_eq_append_iff.1 X7;have e1:(cs.take a).flatten.length=l1.length:=by rw[←h1,zm]
 have e2:c.length=l2.length:=by rw[←h2,zm]
 have et:lt.length=1:=by have:=congrArg List.length ht;simpa using this
 obtain⟨x,rfl⟩:=List.length_eq_one_iff.1 et;rw[e1,e2]at g1;rw[e1,zd,e2]at g2;have hlen:z'.l.length=l1.length+(l2.length+1+l3.length):=by rw[e_];simp;omega
 have Ev:z'.l=(l1++l2)++([x]++l3):=by rw[e_];simp
 have fx:z'.l.take (l1.length+l2.length)++z'.l.drop (l1.length+(l2.length+1))=l1++l2++l3:=by
  rw[Ev,zaL (by simp),zbD,zaP (by simp),zd,show l1.length+(l2.length+1)-(l1.length+l2.length)=1 by omega];simp
 have RS:=Sl.reads 21 z'.ad z'.l.length z'.ct (av z'.l) (da _);refine a_ (h:=?_);refine ao (aC rfl fun p8=>?_);refine mS (h:=?_);refine kN (fun E w s=>(s.perm (ig.h (a:=z'.ad))).jJ.2.1) fun jy=>?_;have RP:Reads (Sl 21 z'.ad z'.l.length z'.ct (av z'.l)) 21 (cy 21 z'.ad z'.ct (l1.length+l2.length)) [x].length (av [x]):=by
  have:=RS;rw[show Sl 21 z'.ad z'.l.length z'.ct (av z'.l)=Sl 21 z'.ad z'.l.length z'.ct (av z'.l)from rfl]at this;have h5:Reads (Sl 21 z'.ad z'.l.length z'.ct (av z'.l)) 21 z'.ad ((l1++l2)++([x]++l3)).length (av ((l1++l2)++([x]++l3))):=Ev ▸ this;have h6:=NR h5 (cap:=z'.ct) (by rw[←Ev];exact jy);rwa[zd]at h6
 rw[e2];refine Wq ?_;refine aJ rfl (NO (a:Int) (l2.length:Int) RS (by omega)) rfl ?_;refine dh (h:=?_);rw[g1,g2];refine qC (h:=?_);refine gy (Γ':=Sep [Sl 21 z'.ad z'.l.length z'.ct (av z'.l),Mem k]::Row p8 0 z'.cells::Row p6 0 eH::A::Γ) (fun E w s=>(ak.cA [_,_] _).st (Sub.h.st s)) ?_;refine aA (h:=?_);refine yH (jl:=l1.length+l2.length) (jh:=l1.length+(l2.length+1)) rfl rfl rfl rfl rfl (by omega) (by omega) rfl ?_;rw[show l1.length+(l2.length+1)-(l1.length+l2.length)=[x].length by simp;omega];refine aJ rfl (xt (RP.sep (l:=[Sl 21 z'.ad z'.l.length z'.ct (av z'.l),Mem k]) (by simp)) (bR.sep (A:=Mem k) (fun y hy=>Ii y (by rw[Ev];exact zaG _ (zK _ hy))) (by simp)) (by simp)) rfl ?_;rintro v B ⟨k2,r,ar,cr,X9,X_,rfl,rfl⟩;refine xF (h:=?_);refine gy (Γ':=Sl 21 z'.ad z'.l.length z'.ct (av z'.l)::Mem k::Row p8 0 z'.cells::Row p6 0 eH::Mem k2::Sl 21 ar r.length cr (av r)::A::Γ) (fun E w s=>(ak.cx [Sl 21 z'.ad z'.l.length z'.ct (av z'.l),Mem k] (Row p8 0 z'.cells::Row p6 0 eH::Mem k2::Sl 21 ar r.length cr (av r)::A::Γ)).st (Sub.h.st s)) ?_;have Of:=X5 (a:=z'.ad) (cap:=z'.ct) (i:=l1.length+l2.length) (j:=l1.length+(l2.length+1)) (l:=z'.l) (by omega) (by omega) (by omega);rw[fx]at Of;refine Wq ?_;refine aJ rfl Of rfl ?_;refine jC (h:=?_);refine fw ar (h:=k2) fun k3 dZ R3 lH=>?_;refine fw z'.ad (h:=k3) fun k4 my R4 gI=>?_;refine ny k k4 fun k5 pQ rY=>?_;have dM:bu (l1++l2++l3)=(cs.set a c).flatten:=by
  rw[tm hc,bu,zg,zg,h1,h2,X8,zr]
 refine bP (rs:=[.cell 6 31,.tmp 7]) (vs:=[(BZ.mk z'.room z'.aa z'.ca (l1++l2++l3) z'.ad z'.ct z'.al z'.cl).val,.slice ar r.length cr]) ⟨bG (us:=(BZ.mk z'.room z'.aa z'.ca (l1++l2++l3) z'.ad z'.ct z'.al z'.cl).cells) rfl rfl,bO rfl,trivial⟩ [A,Mem k5] ⟨k5,⟨z'.room,z'.aa,z'.ca,l1++l2++l3,z'.ad,z'.ct,z'.al,z'.cl⟩,r,ar,cr,rfl,rfl,⟨Ra.up pQ,R4.up rY,?_,gI,?_,?_,?_⟩,jR,dM,?_,((X_.up dZ).up my).up rY,(R3.up my).up rY,lH⟩ Sub.h
 ·exact fun y hy=>(Ii y (by rw[e_];simp only[zL]at hy⊢;rcases hy with (hy|hy)|hy<;>simp[hy])).up pQ
 ·show iH (bu (l1++l2++l3));rw[dM];refine⟨⟨_,eI.set (eI.ch a _ hc).pop,rfl⟩,?_⟩;have h0:=I.wide.ids;rw[he,qo hc]at h0;rw[tm hc];refine List.Nodup.sublist (List.Sublist.map _ ?_) h0;exact zb2 (List.Sublist.append_right (List.sublist_append_left c [t]) _) _
 ·rw[jR];exact I.lo
 ·rw[jR];exact I.hi
 ·show r.map TZ.t=[t]
  rw[show r.map TZ.t=[x].map TZ.t from X9];exact ht
end
section
open Go.Proofs Tryz
open Go.Proofs Go.RowKit
theorem Ya{a m:Nat}{t:TX}{l:List TZ}{X c Y:List TX}(h:bu l=X++(c++Y))(hX:∀t∈X,t.bx<(a:Int))(hY:∀t∈Y,(a:Int)<t.bx)(hc:jN a c)(hm:m≤c.length)(hf:t.bx=a)(hn:t.ck=m):
 ∀(i:Nat) (z:TZ),l[i]? =some z→(pS z.t t<0↔i<X.length+m)∧(pS z.t t=0↔i=X.length+m∧m<c.length):=by
 intro i z hz;have ht:(X++(c++Y))[i]? =some z.t:=by rw[←h,zf,hz];rfl
 rw[XN,XO,hf,hn];by_cases h1:i<X.length
 ·rw[zt h1]at ht;have:=hX _ (zc ht);constructor<;>constructor<;>intro<;>omega
 ·rw[zz (by omega)]at ht;by_cases h2:i-X.length<c.length
  ·rw[zt h2]at ht;obtain⟨g1,g2,_⟩:=hc.aO _ _ ht;constructor<;>constructor<;>intro<;>omega
  ·rw[zz (by omega)]at ht;have:=hY _ (zc ht);constructor<;>constructor<;>intro<;>omega
def jE(c:List TX)(m:Nat)(t:TX):List TX:=if m<c.length then c.set m t else c++[t]
theorem Yb{A B:HP}(z:BZ)(x:TZ)(I:z.In A)(J:x.In B)(hs:cR z.l≤z.room)(mD:x.t.ok=true){cs:List (List TX)}(eI:kA cs)(he:bu z.l=cs.flatten){a m:Nat}{c:List TX}(hc:cs[a]? =some c)(hf:x.t.bx=a)(hn:x.t.ck=m)(hm:m≤c.length)
 (hw:iH (cs.set a (jE c m x.t)).flatten):
 Spec prog 260 [z.val,x.val] [A,B] (fun v C=>∃(k:PH) (z':BZ),v= .tuple #[z'.val,.int .i64 0]∧C=[A,B,Mem k]∧z'.In (Mem k)∧z'.room=z.room∧bu z'.l=(cs.set a (jE c m x.t)).flatten):=by
 refine x_sp func260 ntmps260 fun E rX Γ=>?_;have h3:=I.len;refine dx (h:=?_);refine ao (aM rfl rfl fun p2=>?_);refine ao (aM rfl rfl fun p3=>?_);refine ao (aC rfl fun p4=>?_);refine aA (h:=?_);refine aq (vs:=[z.val]) rfl (tO z I hs) rfl ?_;rintro v C ⟨rfl,rfl⟩;refine a_ (h:=Eb (h:=xG (h:=?_)));refine aq (vs:=[x.val]) rfl (rK x J) rfl ?_;rintro v C ⟨rfl,rfl⟩;rw[mD,if_pos rfl];refine n9 (h:=?_);refine aq (vs:=[z.val]) rfl (Oe z I) rfl ?_;rintro v C ⟨k,z',rfl,rfl,Ra,Ii,jR,kI⟩;have lh:z'.l.length=z.l.length:=by have:=congrArg List.length kI;simpa using this
 have iV:bu z'.l=cs.flatten:=(show bu z'.l=bu z.l from kI).trans he;rw[qo hc]at iV;have Ew:=Ya iV (fun t ht=>Da eI ht) (fun t ht=>Db eI ht) (eI.ch a _ hc) hm hf hn;have RS:=Sl.reads 21 z'.ad z'.l.length z'.ct (av z'.l) (da _);have xL:z'.l.length=(cs.take a).flatten.length+(c.length+(cs.drop (a+1)).flatten.length):=by
  have:=congrArg List.length iV;rw[zm,zd,zd]at this;exact this
 refine a_ (h:=?_);refine ao (aC rfl fun p6=>?_);refine mS (h:=?_);refine kN (fun E w s=>(s.perm (ig.h (a:=z'.ad))).jJ.2.1) fun jy=>?_;refine aA (h:=?_);refine aq (vs:=[.slice z'.ad z'.l.length z'.ct,x.val,.func (.func 293) #[] #[]]) rfl (XP x RS (by omega) (p:=(cs.take a).flatten.length+m) (by omega) fun i z hz=>(Ew i z hz).1) rfl ?_;rintro v C ⟨f,rfl,rfl,H9⟩;refine a_ (h:=?_);obtain⟨p,hp⟩:∃p,p=(cs.take a).flatten.length+m:=⟨_,rfl⟩
 rw[←hp]at H9 Ew⊢;cases f with
 |true=>
  obtain⟨y,hy,iT⟩:=H9.1 rfl;have rZ:=((Ew p y hy).2.1 iT).2;have l_:p<z'.l.length:=by omega
  refine Wr ?_;refine jw RS (by omega) fun b off ha=>?_;refine Wq ?_;refine aZ 6 (aX [4,6] [0,1,2,3,4,5,6]) [B,Row p3 0 x.cells,Row p6 0 z'.cells] ?_;refine Ws ?_;refine aE rfl (aq (vs:=[x.val]) rfl (xr x J) rfl ?_);rintro v C ⟨k2,x',j8,eA,rfl,rfl⟩;refine dc (h:=?_);refine au rfl (aY (j:=p) rfl rfl ha rfl l_) ?_;refine bN rfl rfl (j4 (us:=x'.cells) rfl rfl rfl (TZ.one x') ha (i:=p*21) rfl (by rw[da];show p*21+21≤_;omega) ?_);rw[qD z'.l p x' l_];refine dU (h:=?_);obtain⟨L,hL⟩:∃L,L=z'.l.set p x':=⟨_,rfl⟩
  have kd:z'.l.length=L.length:=by rw[hL,zH]
  have vy:∀w∈L,w∈z'.l∨w=x':=fun w hw=>zag (hL ▸ hw);have r_:bu L=(cs.set a (jE c m x.t)).flatten:=by
   rw[tm hc,jE,if_pos rZ,hL,bu,zak,show z'.l.map TZ.t=_ from iV,j8,hp,za6 _ _ (by omega),zS,List.set_append_left _ _ rZ]
  rw[←hL,kd];refine Wq ?_;refine fw z'.ad (h:=k2) fun k3 dZ R3 lH=>?_;refine ny k k3 fun k5 pQ rY=>?_;refine bP (rs:=[.cell 4 31,.tmp 5]) (vs:=[(BZ.mk z'.room z'.aa z'.ca L z'.ad z'.ct z'.al z'.cl).val,.int .i64 0]) ⟨bG (us:=(BZ.mk z'.room z'.aa z'.ca L z'.ad z'.ct z'.al z'.cl).cells) rfl rfl,bO rfl,trivial⟩ [A,B,Mem k5] ⟨k5,⟨z'.room,z'.aa,z'.ca,L,z'.ad,z'.ct,z'.al,z'.cl⟩,rfl,rfl,⟨Ra.up pQ,R3.up rY,?_,lH,?_,?_,?_⟩,jR,r_⟩ Sub.h
  ·intro w jW;rcases vy w jW with h|rfl
   ·exact(Ii w h).up pQ
   ·exact(eA.up dZ).up rY
  ·show iH (bu L);rw[r_];exact hw
  ·rw[jR];exact I.lo
  ·rw[jR];exact I.hi
 |false=>
  have rZ:¬m<c.length:=fun rZ=>by
   obtain⟨y,hy⟩:=bc (l:=z'.l) (i:=p) (by omega);exact absurd (H9.2 ⟨y,hy,(Ew p y hy).2.2 ⟨rfl,rZ⟩⟩) (by decide)
  have qm:m=c.length:=by omega
  refine Wq ?_;refine aZ 8 (aX [4,5,6,8] [0,1,2,3,4,5,6,7,8]) [B,Row p3 0 x.cells,Row p6 0 z'.cells] ?_;refine Ws ?_;refine aE rfl (aq (vs:=[x.val]) rfl (xr x J) rfl ?_);rintro v C ⟨k2,x',j8,eA,rfl,rfl⟩;refine dc (h:=?_);refine aE rfl (cf rfl (by rfl) (by rfl) (by rfl) (by rfl) rfl fun a2=>⟨bd,?_⟩);skip;refine aE rfl (aq rfl (X2 (a:=z'.ad) (cap:=z'.ct) (i:=p) (l:=z'.l) x' (by omega) (by omega)) rfl ?_);rintro v C ⟨a4,c4,rfl,rfl⟩;refine dc (h:=j6 (h:=?_));obtain⟨L,hL⟩:∃L,L=z'.l.take p++x'::z'.l.drop p:=⟨_,rfl⟩
  have kd:z'.l.length+1=L.length:=by rw[hL,zd,zw,zy,zQ];omega
  have vy:∀w∈L,w∈z'.l∨w=x':=fun w hw=>by
   rw[hL]at hw;rcases zL.1 hw with h|h
   ·exact .inl (zaD h)
   ·rcases zbe.1 h with h|h
    ·exact .inr h
    ·exact .inl (zbf h)
  have r_:bu L=(cs.set a (jE c m x.t)).flatten:=by
   rw[tm hc,jE,if_neg rZ,hL,bu,zg,zE,zaM,zbM,show z'.l.map TZ.t=_ from iV,j8,hp,qm,←zr,zaL (by simp),zbK (by simp)];simp
  rw[←hL,kd];refine bN rfl rfl (eZ rfl rfl rfl rfl (by simp) ?_);refine dQ (h:=?_);refine fw a4 (h:=k2) fun k3 dZ R3 lH=>?_;refine ny k k3 fun k5 pQ rY=>?_;refine bP (rs:=[.cell 4 31,.tmp 5]) (vs:=[(BZ.mk z'.room z'.aa z'.ca L a4 c4 z'.al z'.cl).val,.int .i64 0]) ⟨bG (us:=(BZ.mk z'.room z'.aa z'.ca L a4 c4 z'.al z'.cl).cells) rfl rfl,bO rfl,trivial⟩ [A,B,Mem k5] ⟨k5,⟨z'.room,z'.aa,z'.ca,L,a4,c4,z'.al,z'.cl⟩,rfl,rfl,⟨Ra.up pQ,R3.up rY,?_,lH,?_,?_,?_⟩,jR,r_⟩ Sub.h
  ·intro w jW;rcases vy w jW with h|rfl
   ·exact(Ii w h).up pQ
   ·exact(eA.up dZ).up rY
  ·show iH (bu L);rw[r_];exact hw
  ·rw[jR];exact I.lo
  ·rw[jR];exact I.hi
end
section
open Go.Proofs Tryz
open Go.Proofs Go.RowKit
theorem Og{A:HP}(z:BZ)(I:z.In A)(hs:cR z.l≤z.room):Spec prog 259 [z.val] [A] (fun v B=>∃(p1:Nat) (k:PH) (l':List TZ) (a':Option Addr) (c':Nat),v= .func (.func 291) #[] #[dp p1]∧B=[A,Mem k,Row p1 0 [.slice a' l'.length c']]∧Same z.l l'∧bR (Mem k) l'∧Reads (Mem k) 21 a' l'.length (av l')):=by
 refine x_sp func259 ntmps259 fun E cs Γ=>?_;have h3:=I.len;refine eh (h:=?_);refine ao (aM rfl rfl fun p1=>?_);refine rE (h:=?_);refine ao (aC rfl fun p3=>?_);refine aA (h:=?_);refine aq (vs:=[z.val]) rfl (tO z I hs) rfl ?_;refine jC (h:=?_);refine aJ rfl (xt I.rt I.it (by omega)) rfl ?_;rintro v B ⟨k,l',a',c',gW,hi,rfl,rfl⟩;refine n9 (h:=?_);refine oW rfl rfl rfl ?_;refine bU (h:=?_);refine fw a' (h:=k) fun k2 bH R2 eV=>?_;exact ap rfl [A,Mem k2,Row p3 0 [.slice a' l'.length c']] ⟨p3,k2,l',a',c',rfl,rfl,gW,hi.up bH,R2⟩ Sub.h
def Yc(x:TZ)(vs:List Value)(R:HP):Prop:=∃(k:PH) (x':TZ),x'.t=x.t∧x'.In (Mem k)∧vs=[x'.val]∧R=Mem k
theorem Oh{A:HP}(p1:Nat){a:Option Addr}{c:Nat}{l:List TZ}(R:Reads A 21 a l.length (av l))(I:bR A l)(hl:l.length≤2^38):xp prog 291 [] [dp p1] [Row p1 0 [.slice a l.length c],A] [A] l.length (fun i vs R=>∃x,l[i]? =some x∧Yc x vs R):=by
 intro lp S J hy;refine x_sp func291 ntmps291 fun E cs Γ=>?_;refine j7 (h:=?_);refine aQ (α:=Nat) (fun i=>i≤l.length) (fun i=>[(0,.func (.yield lp) #[] #[]),(7,iv i),(6,iv l.length),(5,.slice a l.length c)])
  (fun i=>S i::A::Γ) (fun i=>l.length-i) 0 (zj _) x_tv Sub.h ?_
 intro i hi back;refine bQ (h:=?_);by_cases h:i<l.length
 ·obtain⟨x,hx⟩:=bc (l:=l) (i:=i) h;have mw:=I x (zc hx);refine aA (h:=?_);refine bK rfl rfl R (j:=i) rfl h rfl fun b off ha=>?_;refine aw (h:=?_);refine dA rfl R ha (i:=i*21) (us:=x.cells) (by omega) rfl (fun j v hv=>cG hx hv) rfl ?_;refine ao (aC rfl fun p4=>?_);refine aA (h:=?_);refine aq (vs:=[x.val]) rfl (xr x mw) rfl ?_;rintro v B ⟨k2,x',j8,eA,rfl,rfl⟩;refine rc (h:=?_);refine qe rfl rfl (hy i [x'.val] (Mem k2) ⟨x,hx,k2,x',j8,eA,rfl,rfl⟩) rfl ?_;rintro y B (⟨rfl,rfl⟩|⟨rfl,rfl⟩)
  ·refine bW (h:=?_);exact aV (back (i+1) (by omega) (by omega))
  ·refine uZ (h:=?_);exact ap (vs:=[]) rfl ([A]++[J (i+1)]) (.inr ⟨_,rfl⟩) (by (refine a_ (h:=?_));exact Sub.h)
 ·obtain rfl:i=l.length:=by omega
  refine Wq ?_;exact cJ ([A]++[S l.length]) (.inl rfl) (by (refine a_ (h:=?_));exact Sub.h)
end
section
open Go.Proofs Tryz
open Go.Proofs Go.RowKit
theorem Yd(ad:Option Addr)(cap:Nat)(f:Value):Spec prog 326 [.slice ad 0 cap,f] [] (fun v B=>v= .int .i64 (-1)∧B=[]):=by
 refine x_sp func326 ntmps326 fun E cs Γ=>?_;refine mR (h:=?_);refine aQ (α:=Unit) (fun _=>True) (fun _=>[(8,iv 0),(7,iv (0:Nat))]) (fun _=>Γ) (fun _=>0) () trivial x_tv Sub.h ?_;intro _ _ back;refine j_ (h:=?_);exact ap rfl [] ⟨rfl,rfl⟩ Sub.h
theorem Ye(ad:Option Addr)(cap:Nat)(f:Value):Spec prog 311 [.slice ad 0 cap,f] [] (fun v B=>v= .bool false∧B=[]):=by
 refine x_sp func311 ntmps311 fun E cs Γ=>?_;refine mR (h:=?_);refine aJ rfl (Yd ad cap f) rfl ?_;refine cS (h:=HM (h:=bU (h:=?_)));exact ap rfl [] ⟨rfl,rfl⟩ Sub.h
theorem Yf{A:HP}(z:BZ)(I:z.In A)(x:Nat)(hx:x<aI):Spec prog 288 [z.val,nv x] [A] (fun v B=>v= .bool (decide (x∈bB z.l))∧B=[A]):=by
 refine x_sp func288 ntmps288 fun E cs Γ=>?_;have hl:=I.len;refine dx (h:=?_);refine ao (aM rfl rfl fun p2=>?_);refine ao (m8 rfl rfl rfl fun p3=>?_);refine nr (h:=?_);by_cases c_:x∈bB z.l
 ·refine aZ 11 (aX [2,4] [0,1,3,2,4,5,6,7,8,9,10,11]) [A,Row p2 0 z.cells,Row p3 0 [nv x]] ?_;refine rn (h:=nn (h:=?_));refine aE rfl (aq rfl (vl I.rt I.it I.ok (by omega)) rfl ?_);rintro v B ⟨a2,c2,rfl,rfl⟩;refine kx (h:=?_);have RS:=Sl.reads 1 a2 z.l.length c2 ((bB z.l).map nv) (by simp);have pR:=Bw (cap:=c2) (ad:=a2) (xs:=bB z.l) (A:=Sl 1 a2 z.l.length c2 ((bB z.l).map nv)) (by rw[zm];exact RS) x hx (Ek _) (by rw[zm];omega);rw[zm,decide_eq_true c_]at pR;refine a_ (h:=?_);refine aE rfl (aq rfl pR rfl ?_);refine mc (h:=kC (h:=?_));exact ap rfl [A] ⟨by rw[decide_eq_true c_];rfl,rfl⟩ Sub.h
 ·refine aZ 11 (aX [2,4,9] [0,1,3,2,4,5,6,7,8,9,10,11]) [A,Row p2 0 z.cells,Row p3 0 [nv x]] ?_;refine rn (h:=nn (h:=?_));refine aE rfl (aq rfl (vl I.rt I.it I.ok (by omega)) rfl ?_);rintro v B ⟨a2,c2,rfl,rfl⟩;refine kx (h:=?_);have RS:=Sl.reads 1 a2 z.l.length c2 ((bB z.l).map nv) (by simp);have pR:=Bw (cap:=c2) (ad:=a2) (xs:=bB z.l) (A:=Sl 1 a2 z.l.length c2 ((bB z.l).map nv)) (by rw[zm];exact RS) x hx (Ek _) (by rw[zm];omega);rw[zm,decide_eq_false c_]at pR;refine a_ (h:=?_);refine aE rfl (aq rfl pR rfl ?_);refine mc (h:=dD (h:=lP (h:=Bt (h:=?_))));refine bE rfl rfl (Rd rfl rfl) ?_;skip;refine gp rfl rfl (aq rfl (Ye z.al z.cl _) rfl ?_);refine cn (h:=xT (h:=df (h:=?_)));exact ap rfl [A] ⟨by rw[decide_eq_false c_];rfl,rfl⟩ Sub.h
end
section
open Go.Proofs Tryz
open Go.Proofs Go.RowKit
theorem Yg{A:HP}(z:BZ)(I:z.In A)(hs:cR z.l≤z.room){cs:List (List TX)}(eI:kA cs)(he:bu z.l=cs.flatten){a:Nat}{c:List TX}(hc:cs[a]? =some c):
 Spec prog 286 [z.val,.int .i64 a] [A] (fun v B=>∃(k:PH) (l':List TZ) (a':Option Addr) (c':Nat),v= .tuple #[.slice a' l'.length c',.int .i64 0]∧B=[A,Mem k,Sl 21 a' l'.length c' (av l')]∧bu l'=c∧bR (Mem k) l'):=by
 refine x_sp func286 ntmps286 fun E rX Γ=>?_;have ha:a<8:=by have:=(List.getElem?_eq_some_iff.1 hc).1;have:=eI.len;omega
 have hl:=I.len;have iL:=qo hc;rw[iL]at he;obtain⟨g1,g2⟩:=NP he (fun t ht=>Da eI ht) (fun t ht=>Db eI ht) (eI.ch a c hc) (zj _);obtain⟨l1,NQ,e_,h1,Bv⟩:=List.map_eq_append_iff.1 he;obtain⟨l2,l3,rfl,h2,h3⟩:=List.map_eq_append_iff.1 Bv;have e1:l1.length=(cs.take a).flatten.length:=by rw[←h1,zm]
 have e2:l2.length=c.length:=by rw[←h2,zm]
 have RT:=I.rt;have tH:=I.ct;have Oi:=I.it;rw[e_]at RT tH Oi;have R2:=NR RT tH;have hlen:z.l.length=l1.length+(l2.length+l3.length):=by rw[e_,zd,zd]
 have acK:=I.ct;rw[←e1,zbx]at g1;rw[←e1,←e2]at g2;refine dx (h:=?_);refine ao (aM rfl rfl fun p2=>?_);refine aA (h:=?_);refine aq (vs:=[z.val]) rfl (tO z I hs) rfl ?_;refine de (h:=?_);have WN:¬(a:Int)<0:=by omega
 have kF:¬(a:Int)≥8:=by omega
 refine Wq ?_;refine aJ rfl (NO (a:Int) 0 I.rt (by omega)) rfl ?_;refine dh (h:=?_);rw[show((0:Int))=((0:Nat):Int)from rfl,g1,g2];refine n9 (h:=?_);refine yH (jl:=l1.length) (jh:=l1.length+l2.length) rfl rfl rfl rfl rfl (by omega) (by omega) rfl ?_;rw[zS];refine aJ rfl (xt R2 (fun x hx=>Oi x (zaG _ (zK _ hx))) (by omega)) rfl ?_;rintro v B ⟨k,l',a',c',gW,hi,rfl,rfl⟩;refine a_ (h:=qh (h:=?_));exact ap rfl [A,Mem k,Sl 21 a' l'.length c' (av l')] ⟨k,l',a',c',rfl,rfl,(show bu l'=bu l2 from gW).trans h2,hi⟩ Sub.h
theorem Yh{a m:Nat}{c:List TX}{t:TX}(h:jN a c)(hm:m≤c.length)(hf:t.bx=a)(hn:t.ck=m)(bn:t.ok=true)(hw:t.Wf)(h6:(jE c m t).length≤6)(hs:((jE c m t).map TX.fF).sum≤18446744073709551616):jN a (jE c m t):=by
 refine⟨h6,fun i u hu=>?_,hs⟩;unfold jE at hu;split at hu
 ·rename_i aN;rw[zae]at hu;split at hu
  ·rename_i e;subst e;cases hu;exact⟨hf,hn,bn,hw⟩
  ·exact h.aO i u hu
 ·rename_i aN;by_cases hi:i<c.length
  ·rw[zt hi]at hu;exact h.aO i u hu
  ·rw[zz (by omega)]at hu;have:i-c.length=0:=by
    have:=(List.getElem?_eq_some_iff.1 hu).1;simp at this;omega
   rw[this]at hu;cases hu;exact⟨hf,by rw[hn];congr 1;omega,bn,hw⟩
theorem Yi{A B:HP}(z:BZ)(x:TZ)(I:z.In A)(J:x.In B)(hs:cR z.l≤z.room)(mD:x.t.ok=true){cs:List (List TX)}(eI:kA cs)(he:bu z.l=cs.flatten):
 Spec prog 258 [z.val,x.val] [A,B] (fun v C=>∃e:Int,v= .int .i64 e∧C=[A,B]∧(e=0→∃(a m:Nat) (c:List TX),cs[a]? =some c∧x.t.bx=a∧x.t.ck=m∧m≤c.length∧jN a (jE c m x.t)∧x.t.id∉bB z.l)):=by
 refine x_sp func258 ntmps258 fun E rX Γ=>?_;obtain⟨f1,f2,f3,f4,_⟩:=mr mD;obtain⟨a,ha⟩:∃a:Nat,x.t.bx=a:=⟨x.t.bx.toNat,by omega⟩
 obtain⟨m,hm⟩:∃m:Nat,x.t.ck=m:=⟨x.t.ck.toNat,by omega⟩
 have kF:a<8:=by omega
 obtain⟨c,hc⟩:∃c,cs[a]? =some c:=⟨_,za (by rw[eI.len];exact kF)⟩
 have lQ:=eI.ch a c hc;have lg:=xH x.t;refine dx (h:=?_);refine ao (aM rfl rfl fun p2=>?_);refine ao (aM rfl rfl fun p3=>?_);refine aA (h:=?_);refine aq (vs:=[x.val]) rfl (xy x J) rfl ?_;rintro v C ⟨rfl,rfl⟩;rw[mD,if_pos rfl,if_pos rfl];refine bW (h:=fT (h:=?_));refine aq (vs:=[z.val]) rfl (tO z I hs) rfl ?_;rintro v C ⟨rfl,rfl⟩;refine bW (h:=?_);rw[ha];refine aw (h:=?_);refine bK rfl rfl I.ra (j:=a) rfl kF rfl fun b off hb=>?_;refine aw (h:=?_);refine dA rfl I.ra hb (i:=a*5) (us:=ji) (by omega) rfl (fun j v hv=>rQ kF hv) rfl ?_;refine ao (aC rfl fun p7=>?_);refine Wq ?_;rw[ha];refine aw (h:=?_);refine aq (vs:=[z.val,.int .i64 a]) rfl (Yg z I hs eI he hc) rfl ?_;rintro v C ⟨k,l',a',c',rfl,rfl,fi,eA⟩;refine qC (h:=?_);have lh:l'.length=c.length:=by have:=congrArg List.length fi;simpa using this
 have xx:=lQ.len;have RS:=Sl.reads 21 a' l'.length c' (av l') (da _);refine gy (Γ':=Sep [Sl 21 a' l'.length c' (av l'),Mem k]::Row p7 0 ji::A::B::Row p3 0 x.cells::Row p2 0 z.cells::Γ) (fun E w s=>(ak.cA [_,_] _).st (Sub.h.st s)) ?_;refine Wq ?_;refine aJ rfl (V5 (a:=a) (A:=Sep [Sl 21 a' l'.length c' (av l'),Mem k]) (RS.sep (by simp)) (eA.sep (by simp)) (by rw[fi];exact lQ)) rfl ?_;rintro v C ⟨rfl,rfl⟩;refine qC (h:=?_);refine gy (Γ':=Sl 21 a' l'.length c' (av l')::Mem k::Row p7 0 ji::A::B::Row p3 0 x.cells::Row p2 0 z.cells::Γ) (fun E w s=>(ak.cx [Sl 21 a' l'.length c' (av l'),Mem k] (Row p7 0 ji::A::B::Row p3 0 x.cells::Row p2 0 z.cells::Γ)).st (Sub.h.st s)) ?_;refine eM (h:=?_);refine eL (α:=List TZ×Option Addr×Nat) (fun q=>bu q.1=jE c m x.t∧(∀w∈q.1,w∈l'∨w=x)∧m≤c.length∧x.t.id∉bB z.l∧q.1.length≤6) (fun q=>[(8,.slice q.2.1 q.1.length q.2.2),(7,dp p7)]) (fun q=>Sl 21 q.2.1 q.1.length q.2.2 (av q.1)::Mem k::Row p7 0 ji::A::B::Γ) ?_ ?_
 ·rintro⟨L,a4,c4⟩ ⟨hL,vy,rZ,bM,Ey⟩;dsimp only at hL vy Ey⊢;have hC:∀(Bk:dC L≤18446744073709551616),jN a (jE c m x.t):=fun Bk=>Yh lQ rZ ha hm mD J.wf (by rw[←hL,zm];exact Ey) (by rw[←hL,←DR];exact Bk);have RL:=Sl.reads 21 a4 L.length c4 (av L) (da _);have sa:bR (Sep [Sl 21 a4 L.length c4 (av L),Mem k,B]) L:=fun w hw=>by
   rcases vy w hw with h|rfl
   ·exact(eA w h).sep (by simp)
   ·exact J.sep (by simp)
  have sb:∀w∈L,w.t.ok=true:=fun w hw=>by
   rcases vy w hw with h|rfl
   ·obtain⟨i,hi⟩:=zk h;exact(lQ.aO i w.t (by rw[←fi,zf,hi];rfl)).2.2.1
   ·exact mD
  refine gy (Γ':=Sep [Sl 21 a4 L.length c4 (av L),Mem k,B]::Row p7 0 ji::A::Γ) (fun E w s=>(ak.cA [_,_,_] _).st (Sub.h.st s)) ?_;refine aA (h:=?_);refine aq (vs:=[.slice a4 L.length c4,uv 18446744073709551616]) rfl (We (RL.sep (by simp)) sa sb (by decide) (by omega)) rfl ?_;rintro v C ⟨q,rfl,rfl,hq⟩;refine a_ (h:=?_);cases q with
  |true=>
   refine Wq ?_;exact ap rfl [A,B] ⟨0,rfl,rfl,fun _=>⟨a,m,c,hc,rfl,hm,rZ,hC (hq rfl),bM⟩⟩ ((ak.cx [Sl 21 a4 L.length c4 (av L),Mem k,B] _).trans Sub.h)
  |false=>
   refine Wq ?_;exact ap rfl [A,B] ⟨12,rfl,rfl,fun h=>absurd h (by decide)⟩ ((ak.cx [Sl 21 a4 L.length c4 (av L),Mem k,B] _).trans Sub.h)
 intro td fin;refine aA (h:=?_);refine aq (vs:=[z.val,nv x.t.id]) rfl (Yf z I x.t.id lg) rfl ?_;rintro v C ⟨rfl,rfl⟩;refine a_ (h:=?_);by_cases bM:x.t.id∈bB z.l
 ·rw[decide_eq_true bM];refine Wq ?_;exact ap rfl [A,B] ⟨4,rfl,rfl,fun h=>absurd h (by decide)⟩ Sub.h
 rw[decide_eq_false bM];refine Wq ?_;rw[hm];have acL:¬(m:Int)<0:=by omega
 skip;by_cases kU:m>c.length
 ·have vz:(m:Int)>(l'.length:Nat):=by omega
  refine Wq ?_;exact ap rfl [A,B] ⟨10,rfl,rfl,fun h=>absurd h (by decide)⟩ Sub.h
 have vz:¬(m:Int)>(l'.length:Nat):=by omega
 refine Wq ?_;rw[hm];skip;by_cases aN:m<c.length
 ·have Yj:(m:Int)<(l'.length:Nat):=by omega
  have ja:m<l'.length:=by omega
  obtain⟨y,hy⟩:=bc (l:=l') (i:=m) ja;have vx:=eA y (zc hy);have Yk:=(lQ.aO m y.t (by rw[←fi,zf,hy];rfl)).2.2.1;refine Wq ?_;rw[hm,Int.sub_zero];refine jw RS (by omega) fun b4 Yl qE=>?_;refine aZ 7 (aX [5] [0,1,2,3,4,5,6]) [Sl 21 a' l'.length c' (av l'),Mem k,B,Row p3 0 x.cells] ?_;refine dK (h:=?_);refine au rfl (aY (j:=m) rfl rfl qE rfl ja) ?_;refine au rfl (eQ (us:=y.cells) rfl RS qE (i:=m*21) rfl rfl fun k v hv=>cG hy hv) ?_;refine iA (h:=?_);refine aE rfl (aq (vs:=[y.val,x.val]) rfl (Wc y x vx J Yk mD) rfl ?_);rintro v C ⟨e,rfl,rfl⟩;refine dc (h:=df (h:=?_));by_cases xY:e=0
  ·subst xY;refine aA (h:=?_);refine bK rfl rfl RS (j:=m) rfl ja rfl fun b5 Oj qF=>?_;refine dO (h:=?_);refine j4 (us:=x.cells) rfl rfl rfl (TZ.one x) qF (i:=m*21) rfl (by rw[da];show m*21+21≤_;omega) ?_;rw[qD l' m x ja];have kd:(l'.set m x).length=l'.length:=zH;have vA:=fin (l'.set m x,a',c') ⟨by rw[bu,zak,show l'.map TZ.t=c from fi,jE,if_pos aN],fun w hw=>zag hw,by omega,bM,by dsimp only;omega⟩;dsimp only at vA;rw[kd,hm]at vA;refine eR (h:=iz (h:=?_));exact aV vA
  ·refine Wq ?_;exact ap rfl [A,B] ⟨e,rfl,rfl,fun h=>absurd h xY⟩ Sub.h
 ·have Yj:¬(m:Int)<(l'.length:Nat):=by omega
  refine Wq ?_;by_cases h6:l'.length≥6
  ·have Ym:((l'.length:Nat):Int)≥6:=by omega
   refine Wq ?_;exact ap rfl [A,B] ⟨2,rfl,rfl,fun h=>absurd h (by decide)⟩ Sub.h
  ·have Ym:¬((l'.length:Nat):Int)≥6:=by omega
   refine aA (h:=?_);refine cf rfl (by rfl) (by rfl) (by rfl) (by rfl) rfl fun a5=>?_;refine aw (h:=?_);refine cF rfl rfl (by rfl) (by rfl) (TZ.one x) (by omega) rfl fun a4 c4 gI=>?_;have kd:(l'++[x]).length=l'.length+1:=by simp
   have vA:=fin (l'++[x],a4,c4) ⟨by rw[bu,zg,show l'.map TZ.t=c from fi,jE,if_neg aN];rfl,fun w hw=>by
    rcases zL.1 hw with h|h
    ·exact .inl h
    ·exact .inr (zbr.1 h),by omega,bM,by dsimp only;omega⟩
   dsimp only at vA;rw[kd,jQ,nF,hm]at vA;refine bU (h:=iz (h:=?_));exact aV vA
end
section
open Go.Proofs Tryz
open Go.Proofs Go.RowKit
def g_(a:Int)(z:TZ):Bool:=decide (z.t.bx=a)
theorem Yn{p:TZ→Bool}{l:List TZ}{i:Nat}{z:TZ}(h:l[i]? =some z):(l.take (i+1)).filter p=(l.take i).filter p++(if p z then [z]else []):=by
 rw[zp,h,zaa,zbc];congr 1;by_cases e:p z<;>simp[e]
theorem H_{A:HP}(z:BZ)(I:z.In A)(a:Int):Spec prog 162 [z.val,.int .i64 a] [A] (fun v B=>∃(a':Option Addr) (c':Nat),v= .slice a' (z.l.filter (g_ a)).length c'∧B=[A,Sl 21 a' (z.l.filter (g_ a)).length c' (av (z.l.filter (g_ a)))]):=by
 refine x_sp func162 ntmps162 fun E cs Γ=>?_;have h3:=I.len;refine dx (h:=?_);refine ao (aM rfl rfl fun p2=>?_);refine Wq ?_;refine aQ (α:=Nat×Option Addr×Nat) (fun q=>q.1≤z.l.length) (fun q=>[(11,iv q.1),(10,iv z.l.length),(9,.slice z.ad z.l.length z.ct),(5,.slice q.2.1 ((z.l.take q.1).filter (g_ a)).length q.2.2),(1,iv a)]) (fun q=>Sl 21 q.2.1 ((z.l.take q.1).filter (g_ a)).length q.2.2 (av ((z.l.take q.1).filter (g_ a)))::A::Γ) (fun q=>z.l.length-q.1) (0,none,0) (by simp) ⟨rfl,rfl,rfl,rfl,rfl,trivial⟩
  ((ak.cq 21 _).trans (Sub.h (Δ:=Sl 21 none 0 0 []::A::Γ))) ?_
 rintro⟨i,a3,c3⟩ hi back;dsimp only at hi back⊢;refine bQ (h:=?_);by_cases h:i<z.l.length
 ·obtain⟨x,hx⟩:=bc (l:=z.l) (i:=i) h;have Ez:=Yn (p:=g_ a) hx;have hlen:((z.l.take i).filter (g_ a)).length≤i:=z9 (zaR _ _) (by rw[zw];omega);refine aA (h:=?_);refine bK rfl rfl I.rt (j:=i) rfl h rfl fun b off ha=>?_;refine aw (h:=?_);refine dA rfl I.rt ha (i:=i*21) (us:=x.cells) (by omega) rfl (fun j v hv=>cG hx hv) rfl ?_;by_cases hf:x.t.bx=a
  ·have hp:g_ a x=true:=by simp[g_,hf]
   rw[hp,if_pos rfl]at Ez;refine ao (aC rfl fun p7=>?_);refine aA (h:=?_);refine cf rfl (by rfl) (by rfl) (by rfl) (by rfl) rfl fun a2=>?_;refine aw (h:=?_);refine cF rfl rfl (by rfl) (by rfl) (TZ.one x) (by omega) rfl fun a4 c4 gI=>?_;have hb:=back (i+1,a4,c4) (by dsimp only;omega) (by dsimp only;omega);dsimp only at hb;rw[Ez,jQ,nF,zd,zC]at hb;refine Wq ?_;exact aV hb
  ·have hp:g_ a x=false:=by simp[g_,hf]
   rw[hp,if_neg (by decide),zF]at Ez;have hb:=back (i+1,a3,c3) (by dsimp only;omega) (by dsimp only;omega);dsimp only at hb;rw[Ez]at hb;refine ao (aC rfl fun p7=>?_);refine Wq ?_;exact aV hb
 ·obtain rfl:i=z.l.length:=by omega
  rw[zu];refine Wq ?_;exact ap rfl [A,Sl 21 a3 (z.l.filter (g_ a)).length c3 (av (z.l.filter (g_ a)))] ⟨a3,c3,rfl,rfl⟩ Sub.h
end
section
open Go.Proofs Tryz
open Go.Proofs Go.RowKit
def Names(hp:List Nd)(l:List TZ)(i:Nat):Prop:=∀b,(∃n∈hp,n.a=b)↔b<i∧l.filter (g_ b)≠[]
theorem Yo{A:HP}(z:BZ)(I:z.In A):Spec prog 160 [z.val] [A] (fun v B=>∃(hp:List Nd) (a':Option Addr) (c':Nat),v= .slice a' hp.length c'∧B=[A,Sl 6 a' hp.length c' (cw hp)]∧gw hp∧Names hp z.l 8):=by
 refine x_sp func160 ntmps160 fun E cs Γ=>?_;have h3:=I.len;refine eh (h:=?_);refine ao (aM rfl rfl fun p1=>?_);refine Wq ?_;refine aQ (α:=Nat×List Nd×Option Addr×Nat) (fun q=>q.1≤8∧gw q.2.1∧Names q.2.1 z.l q.1) (fun q=>[(11,iv q.1),(10,iv (8:Nat)),(3,.slice q.2.2.1 q.2.1.length q.2.2.2),(1,dp p1)]) (fun q=>Sl 6 q.2.2.1 q.2.1.length q.2.2.2 (cw q.2.1)::Row p1 0 z.cells::A::Γ) (fun q=>8-q.1) (0,[],none,0) ⟨by omega,gw.nil,fun b=>by simp⟩ ⟨rfl,rfl,rfl,rfl,trivial⟩
  ((ak.cq 6 _).trans (Sub.h (Δ:=Sl 6 none 0 0 []::Row p1 0 z.cells::A::Γ))) ?_
 rintro⟨i,hp,a3,c3⟩ ⟨hi,hH,hN⟩ back;dsimp only at hi hH hN back⊢;refine bQ (h:=?_);by_cases h:i<8
 ·refine aA (h:=?_);refine aq (vs:=[z.val,.int .i64 i]) rfl (H_ z I (i:Int)) rfl ?_;rintro v B ⟨a4,c4,rfl,rfl⟩;obtain⟨r,hr⟩:∃r,r=z.l.filter (g_ i):=⟨_,rfl⟩
  have Es:r.length≤z.l.length:=by rw[hr];exact zaR _ _
  rw[←hr];refine a_ (h:=?_);by_cases h0:r.length=0
  ·have qN:r=[]:=List.length_eq_zero_iff.1 h0;have rW:((r.length:Nat):Int)=0:=by omega
   refine Wq ?_;refine aV (back (i+1,hp,a3,c3) ⟨by omega,hH,fun b=>?_⟩ (by dsimp only;omega));rw[hN b];by_cases hb:b=i
   ·subst hb;constructor
    ·rintro⟨h1,_⟩;omega
    ·rintro⟨_,h2⟩;exact absurd (hr ▸ qN) h2
   ·constructor<;>rintro⟨h1,h2⟩<;>exact⟨by omega,h2⟩
  ·have rW:¬((r.length:Nat):Int)=0:=by omega
   refine bU (h:=?_);refine gy (Γ':=Sep [Sl 21 a4 r.length c4 (av r),A]::Sl 6 a3 hp.length c3 (cw hp)::Row p1 0 z.cells::Γ) (fun E w s=>(ak.cA [_,_] _).st (Sub.h.st s)) ?_;refine aA (h:=?_);refine aq (vs:=[.slice a4 r.length c4,.agg fD.toArray]) rfl (MP (A:=Sep [Sl 21 a4 r.length c4 (av r),A]) ((Sl.reads 21 a4 r.length c4 (av r) (da _)).sep (by simp)) (bR.sep (A:=A) (fun w hw=>I.it w ((List.mem_filter.1 (hr ▸ hw)).1)) (by simp)) (fun w hw=>I.ok w ((List.mem_filter.1 (hr ▸ hw)).1)) (by omega) (by omega)) rfl ?_;rintro v B ⟨d,t,rfl,rfl,oI,kS,ht⟩;refine nC (h:=?_);refine ao (aC rfl fun p6=>?_);refine Wq ?_;have bM:∀n∈hp,n.a≠i:=fun n hn e=>by
    have:=(hN i).1 ⟨n,hn,e⟩;omega
   refine aw (h:=?_);refine aq (vs:=[.slice a3 hp.length c3,j9 ⟨i,d,t⟩]) rfl (WY (n:=⟨i,d,t⟩) (Sl.reads 6 a3 hp.length c3 (cw hp) (mA _)) hH ⟨h,oI,kS,ht⟩ bM) rfl ?_;rintro v B ⟨iy,a5,c5,rfl,rfl,oN,Yp⟩;refine bW (h:=?_);refine bf (back (i+1,iy,a5,c5) ⟨by omega,Yp,fun b=>?_⟩ (by dsimp only;omega)) x_tv (ak.trans (Δ:=Sep [Sl 21 a4 r.length c4 (av r),A]::Sl 6 a5 iy.length c5 (cw iy)::Row p1 0 z.cells::Γ) Sub.h ((ak.cx _ _).trans Sub.h));have hm:(∃n∈iy,n.a=b)↔(∃n∈hp,n.a=b)∨b=i:=by
    constructor
    ·rintro⟨n,hn,e⟩;rcases zL.1 (oN.mem_iff.1 hn)with h1|h1
     ·exact .inl ⟨n,h1,e⟩
     ·rw[zbr.1 h1]at e;exact .inr e.symm
    ·rintro(⟨n,hn,e⟩|e)
     ·exact⟨n,oN.mem_iff.2 (zK _ hn),e⟩
     ·exact⟨⟨i,d,t⟩,oN.mem_iff.2 (zaG _ (zbr.2 rfl)),e.symm⟩
   rw[hm,hN b];constructor
   ·rintro(⟨h1,h2⟩|rfl)
    ·exact⟨by omega,h2⟩
    ·exact⟨by omega,fun e=>h0 (by rw[hr,e];rfl)⟩
   ·rintro⟨h1,h2⟩;by_cases hb:b=i
    ·exact .inr hb
    ·exact .inl ⟨by omega,h2⟩
 ·obtain rfl:i=8:=by omega
  refine Wq ?_;exact ap rfl [A,Sl 6 a3 hp.length c3 (cw hp)] ⟨hp,a3,c3,rfl,rfl,hH,hN⟩ Sub.h
end
section
open Go.Proofs Tryz
open Go.Proofs Go.RowKit
theorem Ia{l:List TZ}{cs:List (List TX)}(eI:kA cs)(he:bu l=cs.flatten){a:Nat}{c:List TX}(hc:cs[a]? =some c):bu (l.filter (g_ a))=c:=by
 have h:=LC eI hc;rw[←he]at h;rw[←h];unfold bu;rw[List.filter_map];congr 1
theorem Ib{l:List TZ}{cs:List (List TX)}(eI:kA cs)(he:bu l=cs.flatten){a:Nat}{c:List TX}(hc:cs[a]? =some c):l.filter (g_ a)=[]↔c=[]:=by
 rw[←Ia eI he hc];simp
theorem BZ.In.up{h k:PH}{z:BZ}(I:z.In (Mem h))(p:PH.le h k):z.In (Mem k):=⟨I.ra.up p,I.rt.up p,I.it.up p,I.ct,I.wide,I.lo,I.hi⟩
structure Ol where
 m:PH
 y:BZ
 hp:List Nd
 ah:Option Addr
 ch:Nat
 D:List TZ
 aD:Option Addr
 cD:Nat
structure Yq(z:BZ)(q:Ol):Prop where
 yi:q.y.In (Mem q.m)
 room:q.y.room=z.room
 bn:gw q.hp
 nm:Names q.hp q.y.l 8
 di:bR (Mem q.m) q.D
 pm:(bu q.y.l++bu q.D).Perm (bu z.l)
theorem Om{A:HP}(z:BZ)(I:z.In A):Spec prog 111 [z.val] [A] (fun v B=>∃(k:PH) (z':BZ) (D:List TZ) (aD:Option Addr) (cD:Nat),v= .tuple #[z'.val,.slice aD D.length cD,.int .i64 0]∧B=[A,Mem k,Sl 21 aD D.length cD (av D)]∧z'.In (Mem k)∧z'.room=z.room∧cR z'.l≤z.room∧
 bR (Mem k) D∧(bu z'.l++bu D).Perm (bu z.l)):=by
 refine x_sp func111 ntmps111 fun E cs Γ=>?_;have h3:=I.len;refine eh (h:=?_);refine ao (aM rfl rfl fun p1=>?_);refine ao (aC rfl fun p2=>?_);refine aA (h:=?_);refine aq (vs:=[z.val]) rfl (NJ z I) rfl ?_;refine vu (h:=?_);refine aq (vs:=[z.val]) rfl (Bu z I) rfl ?_;rintro v B ⟨k0,y0,rfl,rfl,I0,qN,vB⟩;have Yr:bu y0.l=bu z.l:=vB;refine a_ (h:=?_);refine ao (aC rfl fun p5=>?_);refine aA (h:=?_);refine aq (vs:=[y0.val]) rfl (Yo y0 I0) rfl ?_;rintro v B ⟨j3,On,Oo,rfl,rfl,Ys,EA⟩;refine bW (h:=?_);refine aJ rfl (M3 I0.rt I0.it I0.ok (by have:=I0.len;omega)) rfl ?_;refine jC (h:=?_);refine aQ (α:=Ol) (Yq z) (fun q=>[(8,.slice q.aD q.D.length q.cD),(7,iv (cR q.y.l:Nat)),(6,.slice q.ah q.hp.length q.ch),(5,dp p5),(2,dp p2)]) (fun q=>Sl 21 q.aD q.D.length q.cD (av q.D)::Sl 6 q.ah q.hp.length q.ch (cw q.hp)::Row p5 0 q.y.cells::Row p2 0 eH::Mem q.m::A::Γ) (fun q=>q.y.l.length) ⟨k0,y0,j3,On,Oo,[],none,0⟩
  ⟨I0,qN,Ys,EA,(fun w hw=>by cases hw),by show(bu y0.l++[]).Perm _;rw[zF,Yr]⟩ x_tv ((ak.cq 21 _).trans (Sub.h (Δ:=Sl 21 none 0 0 []::Sl 6 On j3.length Oo (cw j3)::Row p5 0 y0.cells::Row p2 0 eH::Mem k0::A::Γ))) ?_
 rintro⟨m,y,hp,ah,ch,D,aD,cD⟩ ⟨yi,room,bn,nm,di,pm⟩ back;dsimp only at yi room bn nm di pm back⊢;have gG:=yi.len;refine Wl ?_;have hex:∀(hle:cR y.l≤z.room),Ex prog (jX prog 111 E cs (fun v B=>∃(k:PH) (z':BZ) (D:List TZ) (aD:Option Addr) (cD:Nat),v= .tuple #[z'.val,.slice aD D.length cD,.int .i64 0]∧B=[A,Mem k,Sl 21 aD D.length cD (av D)]∧z'.In (Mem k)∧z'.room=z.room∧cR z'.l≤z.room∧
  bR (Mem k) D∧(bu z'.l++bu D).Perm (bu z.l)) Γ) 102 [] [.code .ret] [(2,dp p2),(3,.slice aD D.length cD),(4,iv 0)] (Sl 21 aD D.length cD (av D)::Row p2 0 y.cells::Mem m::A::Γ):=fun hle=>by
  exact bP (rs:=[.cell 2 31,.tmp 3,.tmp 4]) (vs:=[y.val,.slice aD D.length cD,.int .i64 0]) ⟨bG (us:=y.cells) rfl rfl,bO rfl,bO rfl,trivial⟩ [A,Mem m,Sl 21 aD D.length cD (av D)] ⟨m,y,D,aD,cD,rfl,rfl,yi,room,hle,di,pm⟩ Sub.h
 by_cases kU:cR y.l>y.room
 case neg=>
  have vz:¬((cR y.l:Nat):Int)>y.room:=by omega
  refine Wq ?_;exact aV (hex (by omega))
 have vz:((cR y.l:Nat):Int)>y.room:=by omega
 obtain⟨tQ,eI,he⟩:=yi.wide.cs;by_cases h0:hp.length=0
 ·exfalso;have j3:hp=[]:=List.length_eq_zero_iff.1 h0;have Ic:y.l=[]:=by
   refine List.eq_nil_iff_forall_not_mem.2 fun w hw=>?_;obtain⟨_,_,g1,g2⟩:=yi.wide.ok (zbY.2 ⟨w,hw,rfl⟩);obtain⟨a,ha⟩:∃a:Nat,w.t.bx=a:=⟨w.t.bx.toNat,by omega⟩
   obtain⟨n,hn,_⟩:=(nm a).2 ⟨by omega,fun e=>by
    have:w∈y.l.filter (g_ a):=List.mem_filter.2 ⟨hw,by simp[g_,ha]⟩;rw[e]at this;cases this⟩
   rw[j3]at hn;cases hn
  rw[Ic]at kU;simp[cR]at kU
 have qS:((hp.length:Nat):Int)>0:=by omega
 obtain⟨n0,mV⟩:=bc (l:=hp) (i:=0) (by omega);obtain⟨a,ha⟩:∃a,a=n0.a:=⟨_,rfl⟩
 have sc:=(nm a).1 ⟨n0,zc mV,ha.symm⟩;obtain⟨c0,kY⟩:∃c,tQ[a]? =some c:=⟨_,za (by rw[eI.len];exact sc.1)⟩
 have Oq:c0≠[]:=fun e=>sc.2 ((Ib eI he kY).2 e);obtain⟨c,t,rfl⟩:∃c t,c0=c++[t]:=⟨c0.dropLast,c0.getLast Oq,(List.dropLast_concat_getLast Oq).symm⟩
 have Yt:=Ia eI he kY;obtain⟨o1,o2,ho,h1,h2⟩:=List.map_eq_append_iff.1 Yt;have tT:o2.length=1:=by have:=congrArg List.length h2;simpa using this
 obtain⟨w,rfl⟩:=List.length_eq_one_iff.1 tT;have EC:w.t=t:=by simpa using h2
 have eJ:o1.length=c.length:=by rw[←h1,zm]
 have Ot:w∈y.l:=(List.mem_filter.1 (ho ▸ zaG o1 (zbr.2 rfl):w∈y.l.filter (g_ a))).1;have Yu:=yi.it w Ot;have ED:=yi.ok w Ot;have lQ:=(eI.ch a _ kY).aO c.length t (by simp);have xx:o1.length≤5:=by have:=(eI.ch a _ kY).len;simp at this;omega
 have RH:=Sl.reads 6 ah hp.length ch (cw hp) (mA _);refine aA (h:=?_);refine bK rfl rfl RH (j:=0) rfl (by omega) rfl fun b off hb=>?_;refine oC (h:=?_);refine fM rfl RH hb (i:=0*6+0) (by omega) (v:= .int .i64 n0.a) (mW mV (j:=0) rfl) rfl ?_;rw[←ha];refine aA (h:=?_);refine aq (vs:=[y.val,.int .i64 a]) rfl (H_ y yi (a:Int)) rfl ?_;rintro v B ⟨a4,c4,rfl,rfl⟩;have Ie:(o1++[w]).length=o1.length+1:=by simp
 rw[ho];have RO:=Sl.reads 21 a4 (o1++[w]).length c4 (av (o1++[w])) (da _);refine bW (h:=?_);rw[show((((o1++[w]).length:Nat):Int)-1)=(o1.length:Int)by omega];refine aw (h:=?_);refine bK rfl rfl RO (j:=o1.length) rfl (by omega) rfl fun b2 AR gX=>?_;refine aw (h:=?_);refine dA rfl RO gX (i:=o1.length*21) (us:=w.cells) (by omega) rfl (fun j v hv=>cG (by simp) hv) rfl ?_;refine ao (aC rfl fun pB=>?_);refine Wq ?_;have Yv:((c.length:Nat):Int)=w.t.ck:=by rw[EC,lQ.2.1]
 refine aw (h:=?_);refine aq (vs:=[y.val,.int .i64 a,.int .i64 c.length]) (by rw[Yv];rfl) (X6 y yi eI he kY) rfl ?_;rintro v B ⟨k2,y2,r,ar,cr,rfl,rfl,Bz,Ou,nx,Ov,xZ,Ig,hrc⟩;have Es:r.length=1:=by have:=congrArg List.length Ov;simpa using this
 have Ow:kA (tQ.set a c):=eI.set (eI.ch a _ kY).pop;have eV:(tQ.set a c)[a]? =some c:=by rw[zae];simp[show a<tQ.length by rw[eI.len];exact sc.1]
 have Ef:D.length≤48:=by
  have:=pm.length_eq;simp at this;have:=I.len;omega
 refine n9 (h:=?_);refine pZ rfl rfl Ig (by rfl) (by rfl) (xX r) (by omega) rfl fun a8 c8 rq=>?_;refine aA (h:=?_);refine aq (vs:=[w.val]) rfl (MO w Yu ED) rfl ?_;refine de (h:=?_);have dP:(cR y2.l:Int)=(cR y.l:Int)-w.t.slot:=by
  have e1:=DW y.l;have e2:=DW y2.l;rw[nx,tm kY]at e2;rw[he,qo kY]at e1;unfold C_ at e1 e2;simp only[zg,zbI,zE,zal,zbL,List.sum_nil]at e1 e2;rw[EC];omega
 have acM:=DX w.t;have Bx:=DY y.l;refine Wq ?_;rw[←dP];refine aw (h:=?_);refine aq (vs:=[y2.val,.int .i64 a]) rfl (H_ y2 Bz (a:Int)) rfl ?_;rintro v B ⟨a5,c5,rfl,rfl⟩;obtain⟨O,hO⟩:∃O,O=y2.l.filter (g_ a):=⟨_,rfl⟩
 have Yw:bu O=c:=hO ▸ Ia Ow nx eV;have hOl:O.length=c.length:=by rw[←Yw,zm]
 rw[←hO];refine xF (h:=?_);refine ny m k2 fun m2 jv bH=>?_;have Ox:(bu y2.l++bu (D++r)).Perm (bu z.l):=by
  refine List.Perm.trans ?_ pm;rw[nx,tm kY,he,qo kY,show bu (D++r)=bu D++[t]by rw[←Ov];exact zg];generalize (tQ.take a).flatten=X;generalize (tQ.drop (a+1)).flatten=Y;generalize bu D=Z;have h4:([t]++(Y++Z)).Perm (Y++(Z++[t])):=by rw[←zr Y];exact zac
  simp only[zr];exact((h4.symm.append_left c).append_left X)
 have Oy:bR (Mem m2) (D++r):=fun u hu=>by
  rcases zL.1 hu with h|h
  ·exact(di u h).up jv
  ·exact(xZ u h).up bH
 have EE:∀b,b<8→b≠a→(y2.l.filter (g_ b)≠[]↔y.l.filter (g_ b)≠[]):=fun b hb lf=>by
  obtain⟨cb,Ay⟩:∃c,tQ[b]? =some c:=⟨_,za (by rw[eI.len];exact hb)⟩
  have Yx:(tQ.set a c)[b]? =some cb:=by rw[zae,if_neg (zb4 lf)];exact Ay
  exact(not_congr (Ib Ow nx Yx)).trans (not_congr (Ib eI he Ay)).symm
 have fG:∀(h:List Nd) b,(∃n∈h,n.a=b)↔b∈h.map Nd.a:=fun h b=>zbY.symm;have Yy:av D++av r=av (D++r):=(jQ D r).symm;have Yz:D.length+r.length=(D++r).length:=zd.symm;have Oz:y2.l.length<y.l.length:=by
  have e1:=congrArg List.length he;have e2:=congrArg List.length nx;rw[qo kY]at e1;rw[tm kY]at e2;simp only[zd,zm,zC]at e1 e2;omega
 rw[Yy,Yz];have RH:=Sl.reads 6 ah hp.length ch (cw hp) (mA _);by_cases OA:O.length=0
 ·have YA:((O.length:Nat):Int)=0:=by omega
  have YB:O=[]:=List.length_eq_zero_iff.1 OA;refine kN (fun E w s=>(s.perm (ig.h (a:=ah))).jJ.2.1) fun jy=>?_;refine Wq ?_;refine aJ rfl (Xz RH bn ⟨n0,zc mV,ha.symm⟩ jy) rfl ?_;rintro v B ⟨iy,a9,c9,rfl,rfl,vg,nG⟩;refine bW (h:=?_);refine aV (back ⟨m2,y2,iy,a9,c9,D++r,a8,c8⟩ ⟨Bz.up bH,Ou.trans room,nG,fun b=>?_,Oy,Ox⟩ Oz);have dH:(a::iy.map Nd.a).Nodup:=vg.nodup_iff.2 bn.nd;have hm:b∈iy.map Nd.a↔b∈hp.map Nd.a∧b≠a:=by
   rw[←vg.mem_iff];constructor
   ·intro h;exact⟨zP _ h,fun e=>by subst e;exact(zb5.1 dH).1 h⟩
   ·rintro⟨h1,h2⟩;rcases zbe.1 h1 with h|h
    ·exact absurd h h2
    ·exact h
  show(∃n∈iy,n.a=b)↔b<8∧y2.l.filter (g_ b)≠[];rw[fG,hm,←fG,nm b];constructor
  ·rintro⟨⟨h1,h2⟩,h3⟩;exact⟨h1,(EE b h1 h3).2 h2⟩
  ·rintro⟨h1,h2⟩;have lf:b≠a:=fun e=>by subst e;exact h2 (hO ▸ YB)
   exact⟨⟨h1,(EE b h1 lf).1 h2⟩,lf⟩
 ·have YA:¬((O.length:Nat):Int)=0:=by omega
  have OB:∀u∈O,u∈y2.l:=fun u hu=>(List.mem_filter.1 (hO ▸ hu)).1;refine gy (Γ':=Sep [Sl 21 a5 O.length c5 (av O),Mem m2]::Sl 21 a8 (D++r).length c8 (av (D++r))::Sl 6 ah hp.length ch (cw hp)::Row p5 0 y2.cells::Row p2 0 eH::A::Γ) (fun E w s=>(ak.cA [_,_] _).st (Sub.h.st s)) ?_;refine aA (h:=?_);refine aq (vs:=[.slice a5 O.length c5,.agg fD.toArray]) rfl (MP (A:=Sep [Sl 21 a5 O.length c5 (av O),Mem m2]) ((Sl.reads 21 a5 O.length c5 (av O) (da _)).sep (by simp)) (bR.sep (A:=Mem m2) (fun u hu=>(Bz.it u (OB u hu)).up bH) (by simp)) (fun u hu=>Bz.ok u (OB u hu)) (by omega) (by omega)) rfl ?_;rintro v B ⟨d,tt,rfl,rfl,oI,kS,YC⟩;refine nC (h:=?_);refine ao (aC rfl fun nA=>?_);refine aA (h:=?_);refine aq (vs:=[.slice ah hp.length ch,j9 ⟨a,d,tt⟩]) rfl (Xw (n:=⟨a,d,tt⟩) RH bn ⟨sc.1,oI,kS,YC⟩ ⟨n0,zc mV,ha.symm⟩) rfl ?_;rintro v B ⟨iy,a9,c9,rfl,rfl,vg,nG⟩;refine bW (h:=?_);refine bf (back ⟨m2,y2,iy,a9,c9,D++r,a8,c8⟩ ⟨Bz.up bH,Ou.trans room,nG,fun b=>?_,Oy,Ox⟩ Oz) x_tv (ak.trans (Δ:=Sep [Sl 21 a5 O.length c5 (av O),Mem m2]::Sl 21 a8 (D++r).length c8 (av (D++r))::Sl 6 a9 iy.length c9 (cw iy)::Row p5 0 y2.cells::Row p2 0 eH::A::Γ) Sub.h ((ak.cx _ _).trans Sub.h));show(∃n∈iy,n.a=b)↔b<8∧y2.l.filter (g_ b)≠[];rw[fG,vg.mem_iff,←fG,nm b];by_cases lf:b=a
  ·subst lf;exact⟨fun h=>⟨h.1,fun e=>OA (by rw[hO,e];rfl)⟩,fun h=>sc⟩
  ·exact⟨fun h=>⟨h.1,(EE b h.1 lf).2 h.2⟩,fun h=>⟨h.1,(EE b h.1 lf).1 h.2⟩⟩
end
section
open Go.Proofs Tryz
open Go.Proofs Go.RowKit
structure YD(z:BZ)(s:List UInt8)(k:PH)(z':BZ)(id:Nat):Prop where
 yi:z'.In (Mem k)
 room:z'.room=z.room
 sl:cR z'.l≤z.room
 tx:∃t:TX,t.ok=true∧t.Wf∧t.bytes=s∧id=t.id∧t.id∉bB z.l∧t∈bu z'.l∧∀u∈bu z'.l,u=t∨u∈bu z.l
def Ih(p:Nat)(j:Nat):HP:=Any fun q:List Value×Option Addr×Nat×Nat=>Fact (q.2.2.1≤j) (Sep [Row p 0 [.slice q.2.1 q.2.2.1 q.2.2.2],Sl 21 q.2.1 q.2.2.1 q.2.2.2 q.1])
theorem St.vC{E:Env}{p j:Nat}{Γ:List HP}{w:World}(st:St E (Ih p j::Γ) w):∃q:{q:List Value×Option Addr×Nat×Nat//q.2.2.1≤j},St E (Row p 0 [.slice q.1.2.1 q.1.2.2.1 q.1.2.2.2]::Sl 21 q.1.2.1 q.1.2.2.1 q.1.2.2.2 q.1.1::Γ) w:=by
 obtain⟨q,s1⟩:=st.ex;obtain⟨h,s2⟩:=s1.fact;exact⟨⟨q,h⟩,(ak.cx [_,_] _).st s2⟩
theorem ak.vC{p j len cap:Nat}{a:Option Addr}{xs:List Value}(h:len≤j)(Γ:List HP):ak (Row p 0 [.slice a len cap]::Sl 21 a len cap xs::Γ) (Ih p j::Γ):=
 (ak.cA [_,_] Γ).trans ((ak.fact h _).trans (ak.ex (A:=fun q:List Value×Option Addr×Nat×Nat=>Fact (q.2.2.1≤j) (Sep [Row p 0 [.slice q.2.1 q.2.2.1 q.2.2.2],Sl 21 q.2.1 q.2.2.1 q.2.2.2 q.1])) (xs,a,len,cap) Γ))
theorem YE{c:List TX}{m:Nat}{t:TX}(hm:m≤c.length):jE c m t=c.take m++t::c.drop (m+1):=by
 unfold jE;by_cases h:m<c.length
 ·rw[if_pos h,List.set_eq_take_append_cons_drop,if_pos h]
 ·obtain rfl:m=c.length:=by omega
  rw[if_neg h,zu,zaP (by omega)]
theorem Ij{cs:List (List TX)}{a m:Nat}{c:List TX}{t:TX}(hc:cs[a]? =some c)(hm:m≤c.length):∃P Q:List TX,(cs.set a (jE c m t)).flatten=P++t::Q∧(P++Q).Sublist cs.flatten:=by
 refine⟨(cs.take a).flatten++c.take m,c.drop (m+1)++(cs.drop (a+1)).flatten,?_,?_⟩
 ·rw[tm hc,YE hm];simp
 ·rw[qo hc];rw[zr];refine zb2 ?_ _;rw[←zr];refine List.Sublist.append_right ?_ _
  conv=>rhs;rw[←zG m c]
  refine zb2 ?_ _;rw[←zaS];exact List.drop_sublist 1 _
theorem YF{cs:List (List TX)}{a m:Nat}{c:List TX}{t:TX}(hc:cs[a]? =some c)(hm:m≤c.length)(dH:(cs.flatten.map TX.id).Nodup)(bM:t.id∉cs.flatten.map TX.id):((cs.set a (jE c m t)).flatten.map TX.id).Nodup:=by
 obtain⟨P,Q,h1,h2⟩:=Ij (t:=t) hc hm;rw[h1];have h3:=h2.map TX.id;have h4:=dH.sublist h3;have hp:((P++t::Q).map TX.id).Perm (t.id::(P++Q).map TX.id):=zau.map TX.id;rw[hp.nodup_iff,zb5];exact⟨fun h=>bM (h3.subset h),h4⟩
theorem YG{cs:List (List TX)}{a m:Nat}{c:List TX}{t:TX}(hc:cs[a]? =some c)(hm:m≤c.length){u:TX}(hu:u∈(cs.set a (jE c m t)).flatten):u=t∨u∈cs.flatten:=by
 obtain⟨P,Q,h1,h2⟩:=Ij (t:=t) hc hm;rw[h1]at hu;rcases zL.1 hu with h|h
 ·exact .inr (h2.subset (zK _ h))
 ·rcases zbe.1 h with h|h
  ·exact .inl h
  ·exact .inr (h2.subset (zaG _ h))
theorem YH{cs:List (List TX)}{a m:Nat}{c:List TX}{t:TX}(hc:cs[a]? =some c)(hm:m≤c.length):t∈(cs.set a (jE c m t)).flatten:=by
 obtain⟨P,Q,h1,h2⟩:=Ij (t:=t) hc hm;rw[h1];simp
theorem YI{A:HP}(z:BZ)(I:z.In A)(hs:cR z.l≤z.room)(s:List UInt8)(dP:s.length≤2^30):Spec prog 222 [z.val,tv s] [A] (fun v B=>∃(u:List Value) (id:Nat) (d:Value) (e:Int) (k:PH),v= .tuple #[.agg u.toArray,nv id,d,.int .i64 e]∧B=[A,Mem k]∧id<aI∧(e≠0→u=eH)∧(e=0→∃z':BZ,u=z'.cells∧YD z s k z' id)):=by
 refine x_sp func222 ntmps222 fun E rX Γ=>?_;have h3:=I.len;have acO:=DY z.l;obtain⟨cs,eI,he⟩:=I.wide.cs;refine dx (h:=?_);refine ao (aM rfl rfl fun p2=>?_);refine ao (aC rfl fun p4=>?_);refine BA (h:=?_);refine ao (aC rfl fun p6=>?_);refine aA (h:=?_);refine aq (vs:=[z.val]) rfl (tO z I hs) rfl ?_;refine jC (h:=?_);refine aJ rfl (MM s dP) rfl ?_;rintro v B ⟨k1,x,e1,rfl,rfl,J,hT⟩;refine a_ (h:=?_);by_cases rJ:e1=0
 case neg=>
  refine gj (h:=?_);refine ao (aC rfl fun p9=>?_);refine Wq ?_;refine bP (rs:=[.cell 4 31,.tmp 5,.cell 6 28,.tmp 7]) (vs:=[.agg eH.toArray,nv 0,.slice none 0 0,.int .i64 e1]) ⟨bG (us:=eH) rfl rfl,bO rfl,ns rfl (Cell.row (off:=0) rfl rfl),bO rfl,trivial⟩ [A,Mem k1] ⟨eH,0,_,e1,k1,rfl,rfl,by decide,fun _=>rfl,fun h=>absurd h rJ⟩ Sub.h
 subst rJ;obtain⟨mD,YJ⟩:=hT.snd rfl;refine gj (h:=?_);refine ao (aC rfl fun p9=>?_);refine aA (h:=?_);refine aq (vs:=[z.val,x.val]) rfl (Yi z x I J hs mD eI he) rfl ?_;rintro v B ⟨e2,rfl,rfl,YK⟩;refine a_ (h:=?_);by_cases nx:e2=0
 case neg=>
  refine Wq ?_;refine bP (rs:=[.cell 4 31,.tmp 5,.cell 6 28,.tmp 7]) (vs:=[.agg eH.toArray,nv 0,.slice none 0 0,.int .i64 e2]) ⟨bG (us:=eH) rfl rfl,bO rfl,ns rfl (Cell.row (off:=0) rfl rfl),bO rfl,trivial⟩ [A,Mem k1] ⟨eH,0,_,e2,k1,rfl,rfl,by decide,fun _=>rfl,fun h=>absurd h nx⟩ Sub.h
 subst nx;obtain⟨a,m,c,hc,hf,hn,hm,lQ,bM⟩:=YK rfl;refine aA (h:=?_);refine aq (vs:=[z.val]) rfl (Og z I hs) rfl ?_;rintro v B ⟨pe,ke,le,ae,ce,rfl,rfl,YL,YM,BB⟩;have acP:le.length=z.l.length:=by have:=congrArg List.length YL;simpa using this
 refine nU (h:=?_);refine bJ (ak.nO _) ?_;refine xq (Ds:=[]) rfl rfl (Oh (c:=ce) pe BB YM (by omega)) (fun j=>[Ih p6 j,Row p9 0 x.cells]) (fun _ _=>[Fact False jr]) (Δ2:=Mem k1::A::Row p4 0 eH::Row p2 0 z.cells::Γ) ?_ (by rfl) ?_ ?_ ?_ ?_
 ·refine a_ (h:=?_);exact(ak.cq 21 _).trans (ak.trans (Δ:=Row p6 0 [.slice none 0 0]::Sl 21 none 0 0 []::Row p9 0 x.cells::Mem k1::A::Row p4 0 eH::Row p2 0 z.cells::Γ) Sub.h (ak.vC (zq _) _))
 ·rintro j vs R ⟨y,hy,k,y',xV,eA,rfl,rfl⟩
  rfl
 ·rintro j vs R ⟨y,hy,k,y',xV,eA,rfl,rfl⟩;intro Y lp r Θ fZ eT cv nV nq;refine a_ (h:=?_);refine dz (Γ':=fun q:{q:List Value×Option Addr×Nat×Nat//q.2.2.1≤j}=>Row p6 0 [.slice q.1.2.1 q.1.2.2.1 q.1.2.2.2]::Sl 21 q.1.2.1 q.1.2.2.1 q.1.2.2.2 q.1.1::Row p9 0 x.cells::Rec lp r .ready none::Mem k::Θ) (fun E w st=>St.vC (Sub.h.st st)) ?_;rintro⟨⟨xs,a6,mZ,c6⟩,hq⟩;dsimp only at hq⊢;have lu:j<le.length:=(List.getElem?_eq_some_iff.1 hy).1;refine nW (h:=?_);refine ao (aC rfl fun pB=>?_);refine mS (h:=?_);refine nP (r:=r) eT ?_;by_cases hfe:y'.t.bx=x.t.bx
  ·by_cases cE:y'.t.ck=x.t.ck
   ·refine aA (h:=?_);refine cf rfl (by rfl) (by rfl) (by rfl) (by rfl) rfl fun a2=>?_;refine aw (h:=?_);refine cF rfl rfl (by rfl) (by rfl) (TZ.one y') (by omega) rfl fun a7 c7 Bd=>?_;refine Wq ?_;refine bJ ?_ (cv _);refine a_ (h:=?_);exact ak.trans (Δ:=Row p6 0 [.slice a7 (mZ+1) c7]::Sl 21 a7 (mZ+1) c7 (xs++y'.cells)::Row p9 0 x.cells::Rec lp r .busy none::Θ) Sub.h ((ak.vC (j:=j+1) (by omega) _).trans Sub.h)
   ·refine Wq ?_;refine bJ ?_ (cv _);refine a_ (h:=?_);exact ak.trans (Δ:=Row p6 0 [.slice a6 mZ c6]::Sl 21 a6 mZ c6 xs::Row p9 0 x.cells::Rec lp r .busy none::Θ) Sub.h ((ak.vC (j:=j+1) (by omega) _).trans Sub.h)
  ·refine Wq ?_;refine bJ ?_ (cv _);refine a_ (h:=?_);exact ak.trans (Δ:=Row p6 0 [.slice a6 mZ c6]::Sl 21 a6 mZ c6 xs::Row p9 0 x.cells::Rec lp r .busy none::Θ) Sub.h ((ak.vC (j:=j+1) (by omega) _).trans Sub.h)
 ·intro D;have hw:iH (cs.set a (jE c m x.t)).flatten:=⟨⟨_,eI.set lQ,rfl⟩,YF hc hm (he ▸ I.wide.ids) (by
   rw[←he,zR];exact bM)⟩
  refine dz (Γ':=fun q:{q:List Value×Option Addr×Nat×Nat//q.2.2.1≤le.length}=>Row p6 0 [.slice q.1.2.1 q.1.2.2.1 q.1.2.2.2]::Sl 21 q.1.2.1 q.1.2.2.1 q.1.2.2.2 q.1.1::Row p9 0 x.cells::Marks [D]::Mem k1::A::Row p4 0 eH::Row p2 0 z.cells::Γ) (fun E w st=>St.vC (Sub.h.st st)) ?_;rintro⟨⟨xs,a6,mZ,c6⟩,hq⟩;dsimp only at hq⊢;refine aA (h:=?_);refine aq (vs:=[z.val,x.val]) rfl (Yb z x I J hs mD eI he hc hf hn hm hw) rfl ?_;rintro v B ⟨k2,y,rfl,rfl,yi,OC,yt⟩;refine n9 (h:=?_);refine aq (vs:=[y.val]) rfl (Om y yi) rfl ?_;rintro v B ⟨k3,z',DD,aD,cD,rfl,rfl,zi,YN,YO,YP,oN⟩;refine n9 (h:=?_);refine aq (vs:=[x.val]) rfl (xy x J) rfl ?_;refine dh (h:=?_);rw[mD,if_pos rfl,if_pos rfl];refine qC (h:=?_);have tz:DD.length≤48:=by
   have h5:=oN.length_eq;have h6:=yi.len;simp at h5;omega
  have YQ:∀w∈DD,w.t.ok=true:=fun w hw=>(yi.wide.ok (oN.mem_iff.1 (zaG _ (zbY.2 ⟨w,hw,rfl⟩)))).1;have lg:=xH x.t;refine gy (Γ':=Sep [Sl 21 aD DD.length cD (av DD),Mem k3]::A::Row p6 0 [.slice a6 mZ c6]::Sl 21 a6 mZ c6 xs::Marks [D]::Row p4 0 z'.cells::Γ) (fun E w s=>(ak.cA [_,_] _).st (Sub.h.st s)) ?_;refine gg (h:=?_);refine aq rfl (vl (A:=Sep [Sl 21 aD DD.length cD (av DD),Mem k3]) ((Sl.reads 21 aD DD.length cD (av DD) (da _)).sep (by simp)) (YP.sep (by simp)) YQ (by omega)) rfl ?_;rintro v B ⟨ai,ci,rfl,rfl⟩;have pR:=Bw (cap:=ci) (ad:=ai) (xs:=bB DD) (A:=Sl 1 ai DD.length ci ((bB DD).map nv)) (by rw[zm];exact Sl.reads 1 ai DD.length ci _ (by simp)) x.t.id lg (Ek _) (by rw[zm];omega);rw[zm]at pR;refine a_ (h:=uI (h:=fT (h:=?_)));refine aq rfl pR rfl ?_;refine de (h:=?_);by_cases c_:x.t.id∈bB DD
  ·rw[decide_eq_true c_];refine Wq ?_;refine gy (Γ':=Sl 21 aD DD.length cD (av DD)::Mem k3::A::Row p6 0 [.slice none 0 0]::Marks [D]::Row p4 0 eH::Γ) (fun E w s=>(ak.cx [Sl 21 aD DD.length cD (av DD),Mem k3] (A::Row p6 0 [.slice none 0 0]::Marks [D]::Row p4 0 eH::Γ)).st (Sub.h.st s)) ?_;exact ry (rs:=[.cell 4 31,.tmp 5,.cell 6 28,.tmp 7]) (vs:=[.agg eH.toArray,nv 0,.slice none 0 0,.int .i64 5]) ⟨bG (us:=eH) rfl rfl,bO rfl,ns rfl (Cell.row (off:=0) rfl rfl),bO rfl,trivial⟩ [A,Mem k3] ⟨eH,0,_,5,k3,rfl,rfl,by decide,fun _=>rfl,fun h=>absurd h (by decide)⟩ Sub.h
  ·rw[decide_eq_false c_];refine ao (Fy rfl rfl rfl ?_);refine eR (h:=?_);refine gy (Γ':=Sl 21 aD DD.length cD (av DD)::Mem k3::A::Row p6 0 [.slice a6 mZ c6]::Sl 21 a6 mZ c6 xs::Marks [D]::Row p4 0 z'.cells::Γ) (fun E w s=>(ak.cx [Sl 21 aD DD.length cD (av DD),Mem k3] (A::Row p6 0 [.slice a6 mZ c6]::Sl 21 a6 mZ c6 xs::Marks [D]::Row p4 0 z'.cells::Γ)).st (Sub.h.st s)) ?_;refine rI (h:=eM (h:=?_));refine aZ 5 (aX [4,5,7] [0,1,2,3,4,5,6,7,8]) [Row p4 0 z'.cells,Row p6 0 [.slice a6 mZ c6]] ?_;refine Ws ?_;refine aE rfl (pZ rfl rfl (Sl.reads 21 aD DD.length cD (av DD) (da _)) (by rfl) (by rfl) (xX DD) (by omega) rfl fun a9 c9 Mx=>⟨bd,?_⟩);skip;refine bN rfl rfl (dt rfl rfl (by rfl) (by rfl) rfl ?_);refine pP (h:=?_);refine bN rfl rfl (eZ rfl rfl rfl rfl (by simp) ?_);refine df (h:=?_);refine ry (rs:=[.cell 4 31,.tmp 5,.cell 6 28,.tmp 7]) (vs:=[.agg z'.cells.toArray,nv x.t.id,.slice a9 (mZ+DD.length) c9,.int .i64 0]) ⟨bG (us:=z'.cells) rfl rfl,bO rfl,ns rfl (Cell.row (off:=0) rfl rfl),bO rfl,trivial⟩ [A,Mem k3] ⟨z'.cells,x.t.id,_,0,k3,rfl,rfl,lg,fun h=>absurd rfl h,fun _=>⟨z',rfl,zi,YN.trans OC,by rw[←OC];exact YO,x.t,mD,J.wf,YJ,rfl,bM,?_,fun u hu=>?_⟩⟩ Sub.h
   ·have h5:x.t∈bu y.l:=by rw[yt];exact YH hc hm
    rcases zL.1 (oN.mem_iff.2 h5)with h|h
    ·exact h
    ·obtain⟨w,hw,EC⟩:=zbY.1 h;exact absurd (zbY.2 ⟨w,hw,by rw[EC]⟩) c_
   ·have h5:u∈bu y.l:=oN.mem_iff.1 (zK _ hu);rw[yt]at h5;rw[he];exact YG hc hm h5
 ·intro D c i;refine a_ (h:=?_);exact uY
end
section
open Go.Proofs Tryz
open Go.Proofs Go.RowKit
theorem YR(ad:Option Addr)(cap:Nat)(n:Int):Spec prog 225 [.slice ad 0 cap,.int .i64 n] [] (fun v B=>∃e:Int,v= .tuple #[.slice none 0 0,.slice none 0 0,.int .i64 e]∧B=[]):=by
 refine x_sp func225 ntmps225 fun E cs Γ=>?_;refine mR (h:=?_);refine aJ rfl (MZ ad cap) rfl ?_;refine cS (h:=?_);by_cases h1:n<0
 ·refine Wq ?_;exact ap rfl [] ⟨1,rfl,rfl⟩ Sub.h
 by_cases h2:n>1099511627776
 ·refine Wq ?_;exact ap rfl [] ⟨1,rfl,rfl⟩ Sub.h
 refine Wq ?_;refine aJ rfl (Ej ad cap) rfl ?_;refine jO (h:=?_);refine aQ (α:=Unit) (fun _=>True) (fun _=>[(25,iv 0),(24,iv (0:Nat)),(7,.slice none 0 0),(8,.slice none 0 0)]) (fun _=>Γ) (fun _=>0) () trivial x_tv Sub.h ?_;intro _ _ back;refine j_ (h:=?_);exact ap rfl [] ⟨0,rfl,rfl⟩ Sub.h
theorem OD{A:HP}(z:TZ)(I:z.In A)(b:Nat)(hb:b<aT):Spec prog 265 [z.val,uv b] [A] (fun v B=>∃(x:Nat) (e:Int),v= .tuple #[uv x,.int .i64 e]∧B=[A]∧x<aT):=by
 refine x_sp func265 ntmps265 fun E cs Γ=>?_;refine dx (h:=?_);refine ao (aM rfl rfl fun p2=>?_);refine ao (aM rfl rfl fun p3=>?_);refine ao (aC rfl fun p4=>?_);refine aA (h:=?_);refine aq (vs:=[z.val]) rfl (rK z I) rfl ?_;refine de (h:=?_);cases bn:z.t.ok with
 |false=>
  rw[if_neg (by decide)];refine Wq ?_;exact bP (rs:=[.cell 4 24,.tmp 5]) (vs:=[uv 0,.int .i64 1]) ⟨bG (us:=uc 0) rfl rfl,bO rfl,trivial⟩ [A] ⟨0,1,rfl,rfl,by decide⟩ Sub.h
 |true=>
  rw[if_pos rfl];refine aA (h:=?_);refine aq (vs:=[uv z.t.cap,uv b]) rfl (Un z.t.cap b) rfl ?_;rintro v B ⟨x,e,rfl,rfl,hx⟩;refine dq (h:=?_);by_cases he:e=0
  ·subst he;refine gj (h:=?_);refine ao (aC rfl fun p7=>?_);refine aA (h:=?_);refine aq (vs:=[uv z.t.bV,uv x]) rfl (ml I.wf.bV hx) rfl ?_;refine cS (h:=?_);by_cases hc:cV z.t.bV x<0
   ·refine Wq ?_;exact bP (rs:=[.cell 4 24,.tmp 5]) (vs:=[uv z.t.bV,.int .i64 0]) ⟨bG (us:=uc z.t.bV) rfl rfl,bO rfl,trivial⟩ [A] ⟨z.t.bV,0,rfl,rfl,I.wf.bV⟩ Sub.h
   ·refine Wq ?_;exact bP (rs:=[.cell 4 24,.tmp 5]) (vs:=[uv x,.int .i64 0]) ⟨bG (us:=uc x) rfl rfl,bO rfl,trivial⟩ [A] ⟨x,0,rfl,rfl,hx⟩ Sub.h
  ·refine gj (h:=?_);refine ao (aC rfl fun p7=>?_);refine Wq ?_;exact bP (rs:=[.cell 4 24,.tmp 5]) (vs:=[uv 0,.int .i64 11]) ⟨bG (us:=uc 0) rfl rfl,bO rfl,trivial⟩ [A] ⟨0,11,rfl,rfl,by decide⟩ Sub.h
end
section
open Go.Proofs Tryz
open Go.Proofs Go.RowKit
def jS(b1 b2:Nat)(q:Int×List TX)(x:TX):Int×List TX:=if x.bx=q.1 then q else if x.cap<b1∨x.bX<b2 then (x.bx,q.2)else (q.1,q.2++[x])
def sd(b1 b2:Nat)(l:List TX):Int×List TX:=l.foldl (jS b1 b2) (-1,[])
abbrev nH(b1 b2:Nat)(l:List TX):List TX:=(sd b1 b2 l).2
theorem YS{b1 b2:Nat}{l:List TX}{i:Nat}{x:TX}(h:l[i]? =some x):sd b1 b2 (l.take (i+1))=jS b1 b2 (sd b1 b2 (l.take i)) x:=by
 unfold sd;rw[zp,h,zaa,zbO];rfl
theorem OE(b1 b2:Nat):∀(l:List TX) (q:Int×List TX),∃r,(l.foldl (jS b1 b2) q).2=q.2++r
 |[],q=>⟨[],by simp⟩
 |x::l,q=>by
  obtain⟨r,hr⟩:=OE b1 b2 l (jS b1 b2 q x);rw[zaN,hr];unfold jS;split
  ·exact⟨r,rfl⟩
  ·split
   ·exact⟨r,rfl⟩
   ·exact⟨[x]++r,by simp⟩
theorem YT(b1 b2:Nat)(l:List TX)(i:Nat):∃r,nH b1 b2 l=nH b1 b2 (l.take i)++r:=by
 have h:=OE b1 b2 (l.drop i) (sd b1 b2 (l.take i));unfold sd at h;rw[←zbO,zG]at h;exact h
theorem Ik(b1 b2:Nat)(l:List TX):(nH b1 b2 l).length≤l.length:=by
 have:∀(l:List TX) (q:Int×List TX),(l.foldl (jS b1 b2) q).2.length≤q.2.length+l.length:=by
  intro l;induction l with
  |nil=>intro q;simp
  |cons x l ih=>
   intro q;rw[zaN];refine z9 (ih _) ?_;rw[zy];unfold jS;split
   ·omega
   ·split
    ·dsimp only;omega
    ·dsimp only;rw[zd];simp;omega
 exact z9 (this l (-1,[])) (by simp)
theorem YU(l:List TX)(h:∀x∈l,0≤x.bx):nH 0 0 l=l:=by
 have:∀(l:List TX) (q:Int×List TX),q.1= -1→(∀x∈l,0≤x.bx)→l.foldl (jS 0 0) q=(-1,q.2++l):=by
  intro l;induction l with
  |nil=>intro q hq _;rw[List.foldl_nil,zF,←hq]
  |cons x l ih=>
   intro q hq hl;have hx:=hl x (by simp);rw[zaN];have e:jS 0 0 q x=(-1,q.2++[x]):=by
    unfold jS;rw[if_neg (by omega),if_neg (by omega),hq]
   rw[e,ih _ rfl fun y hy=>hl y (by simp[hy])];simp
 unfold nH sd;rw[this l _ rfl h];simp
def Il(x:TX)(vs:List Value)(R:HP):Prop:=∃(k:PH) (x':TZ),x'.t=x∧x'.In (Mem k)∧vs=[x'.val]∧R=Mem k
theorem YV{k:PH}(q7 q4 q5 pe:Nat){b1 b2:Nat}(h1:b1<aT)(h2:b2<aT){a:Option Addr}{c:Nat}{l:List TZ}(R:Reads (Mem k) 21 a l.length (av l))(I:bR (Mem k) l)(hl:l.length≤2^38):
 xp prog 298 [] [dp q7,dp q4,dp q5] [Row q7 0 [.func (.func 291) #[] #[dp pe]],Row q4 0 (uc b1),Row q5 0 (uc b2),Row pe 0 [.slice a l.length c],Mem k] [] (nH b1 b2 (bu l)).length (fun i vs R=>∃x,(nH b1 b2 (bu l))[i]? =some x∧Il x vs R):=by
 intro lp S J hy;refine x_sp func298 ntmps298 fun E cs Γ=>?_;refine eh (h:=?_);refine ao (m8 rfl rfl rfl fun p4=>?_);refine eR (h:=?_);refine Q5 ?_;refine bQ (h:=?_);refine ao (aC rfl fun p5=>?_);refine Wq ?_;obtain⟨T,hT⟩:∃T,T=bu l:=⟨_,rfl⟩
 rw[←hT]at hy⊢;refine bJ (ak.nO _) ?_;refine xq (Ds:=[]) rfl rfl (Oh (c:=c) pe R I hl) (fun j=>[S (nH b1 b2 (T.take j)).length,Row p4 0 [.func (.yield lp) #[] #[]],Row p5 0 [.int .i64 (sd b1 b2 (T.take j)).1],Row q4 0 (uc b1),Row q5 0 (uc b2)]) (fun cd _=>[Fact (cd= .ret) (Any fun i=>J i)]) (Δ2:=Γ) (Sub.h (Δ:=S 0::Row p4 0 [.func (.yield lp) #[] #[]]::Row p5 0 [.int .i64 (-1)]::Row q4 0 (uc b1)::Row q5 0 (uc b2)::Γ)) (by rfl) ?_ ?_ ?_ ?_
 ·rintro j vs R ⟨y,hy,k',y',xV,eA,rfl,rfl⟩
  rfl
 ·rintro j vs R ⟨y,ru,k',y',xV,eA,rfl,rfl⟩;intro Y l' r Θ fZ eT cv nV nq;have hx:T[j]? =some y'.t:=by rw[hT,zf,ru,xV];rfl
  have hq:=YS (b1:=b1) (b2:=b2) hx;obtain⟨q,OF⟩:∃q,q=sd b1 b2 (T.take j):=⟨_,rfl⟩
  have YW:nH b1 b2 (T.take j)=q.2:=by rw[OF]
  dsimp only at cv⊢;rw[YW];rw[←OF]at hq⊢;have OG:nH b1 b2 (T.take (j+1))=(jS b1 b2 q y'.t).2:=by rw[←hq]
  rw[OG,hq]at cv;refine a_ (h:=nW (h:=?_));refine ao (aC rfl fun p6=>?_);refine mS (h:=?_);refine nP (r:=r) eT ?_;by_cases hb:y'.t.bx=q.1
  ·have e:jS b1 b2 q y'.t=q:=by unfold jS;rw[if_pos hb]
   rw[e]at cv;refine Wq ?_;exact bJ (by (refine a_ (h:=?_));exact Sub.h) (cv _)
  ·refine aA (h:=?_);refine aq (vs:=[uv y'.t.cap,uv b1]) rfl (ml eA.wf.cap h1) rfl ?_;refine cS (h:=?_);by_cases jg:y'.t.cap<b1
   ·have pK:cV y'.t.cap b1<0:=by unfold cV;(repeat' split)<;>omega
    have e:jS b1 b2 q y'.t=(y'.t.bx,q.2):=by unfold jS;rw[if_neg hb,if_pos (.inl jg)]
    rw[e]at cv;refine Wq ?_;exact bJ (by (refine a_ (h:=?_));exact Sub.h) (cv _)
   have pK:¬cV y'.t.cap b1<0:=by unfold cV;(repeat' split)<;>omega
   refine aA (h:=?_);refine aq (vs:=[uv y'.t.bX,uv b2]) rfl (ml eA.wf.bX h2) rfl ?_;refine cS (h:=?_);by_cases eV:y'.t.bX<b2
   ·have BC:cV y'.t.bX b2<0:=by unfold cV;(repeat' split)<;>omega
    have e:jS b1 b2 q y'.t=(y'.t.bx,q.2):=by unfold jS;rw[if_neg hb,if_pos (.inr eV)]
    rw[e]at cv;refine Wq ?_;exact bJ (by (refine a_ (h:=?_));exact Sub.h) (cv _)
   have BC:¬cV y'.t.bX b2<0:=by unfold cV;(repeat' split)<;>omega
   have e:jS b1 b2 q y'.t=(q.1,q.2++[y'.t]):=by unfold jS;rw[if_neg hb,if_neg (by omega)]
   rw[e]at cv;have mX:(nH b1 b2 T)[q.2.length]? =some y'.t:=by
    obtain⟨rr,Ig⟩:=YT b1 b2 T (j+1);rw[Ig,OG,e];simp
   refine Wq ?_;refine aZ 5 (aX [2,3] [0,1,2,3,4]) [Row p4 0 [.func (.yield lp) #[] #[]],Row p6 0 y'.cells] ?_;refine nn (h:=iA (h:=?_));refine aE rfl (aq (vs:=[y'.val]) rfl (xr y' eA) rfl ?_);rintro v B ⟨k3,y3,YX,YY,rfl,rfl⟩;refine dc (h:=?_);refine aE rfl (qe rfl rfl (hy q.2.length [y3.val] (Mem k3) ⟨y'.t,mX,k3,y3,YX,YY,rfl,rfl⟩) rfl ?_);rintro v B (⟨rfl,rfl⟩|⟨rfl,rfl⟩)
   ·refine dc (h:=ql (h:=wW (h:=iz (h:=?_))));rw[zd,zC]at cv;exact bJ (by (refine a_ (h:=?_));exact Sub.h) (cv _)
   ·refine dc (h:=ql (h:=dU (h:=?_)));refine sF rfl ?_;refine bJ ?_ (nq _ _);refine(Sub.h (Δ:=J (q.2.length+1)::Rec l' r .busy none::Θ)).trans (ak.trans (ak.ex (A:=fun i=>J i) (q.2.length+1) _) ((ak.fact (p:=Code.ret= .ret) rfl _).trans ?_));refine a_ (h:=?_);exact Sub.h
 ·intro D;rw[show l.length=T.length by rw[hT,zm],zu];refine a_ (h:=iz (h:=?_));refine Cg ?_;exact Gi (Ds:=[D]) ([]++[S (nH b1 b2 T).length]) (.inl rfl) (by (refine dq (h:=?_));exact Sub.h)
 ·intro D cd j;refine dz (α:={i:Nat//cd= .ret}) (Γ':=fun i=>J i.1::Marks [D]::Mem k::Γ) (fun E w st=>by
   simp only[zl,zB]at st;have st:=(Sub.h (Δ:=Fact (cd= .ret) (Any fun i=>J i)::Marks [D]::Mem k::Γ)).st st;obtain⟨h,st⟩:=st.fact;obtain⟨i,st⟩:=st.ex;exact⟨⟨i,h⟩,st⟩) ?_
  rintro⟨i,rfl⟩;exact Aq (ts:=[]) rfl ([]++[J i]) (.inr ⟨i,rfl⟩) (by (refine dq (h:=?_));exact Sub.h)
end
section
open Go.Proofs Tryz
open Go.Proofs Go.RowKit
theorem YZ{A:HP}(z:BZ)(I:z.In A)(hs:cR z.l≤z.room)(b1 b2:Nat):Spec prog 264 [z.val,uv b1,uv b2] [A] (fun v B=>∃(q7 q4 q5 pe:Nat) (k:PH) (l':List TZ) (a':Option Addr) (c':Nat),v= .func (.func 298) #[] #[dp q7,dp q4,dp q5]∧
 B=[A,Row q7 0 [.func (.func 291) #[] #[dp pe]],Row q4 0 (uc b1),Row q5 0 (uc b2),Row pe 0 [.slice a' l'.length c'],Mem k]∧bu l'=bu z.l∧bR (Mem k) l'∧Reads (Mem k) 21 a' l'.length (av l')):=by
 refine x_sp func264 ntmps264 fun E cs Γ=>?_;refine dx (h:=?_);refine ao (aM rfl rfl fun p3=>?_);refine ao (aM rfl rfl fun p4=>?_);refine ao (aM rfl rfl fun p5=>?_);refine aA (h:=?_);refine aq (vs:=[z.val]) rfl (Og z I hs) rfl ?_;rintro v B ⟨pe,k,l',a',c',rfl,rfl,gW,hi,hr⟩;refine a_ (h:=?_);refine ao (aC rfl fun p7=>?_);refine aA (h:=?_);refine oW rfl rfl rfl ?_;refine bU (h:=?_);exact ap rfl [A,Row p7 0 [.func (.func 291) #[] #[dp pe]],Row p4 0 (uc b1),Row p5 0 (uc b2),Row pe 0 [.slice a' l'.length c'],Mem k] ⟨p7,p4,p5,pe,k,l',a',c',rfl,rfl,gW,hi,hr⟩ Sub.h
def Im(p:Nat)(T:List TX)(j:Nat):HP:=Any fun q:PH×List TZ×Option Addr×Nat=>Fact (bu q.2.1=T.take j∧bR (Mem q.1) q.2.1) (Sep [Row p 0 [.slice q.2.2.1 q.2.1.length q.2.2.2],Sl 21 q.2.2.1 q.2.1.length q.2.2.2 (av q.2.1),Mem q.1])
theorem St.BD{E:Env}{p j:Nat}{T:List TX}{Γ:List HP}{w:World}(st:St E (Im p T j::Γ) w):∃q:{q:PH×List TZ×Option Addr×Nat//bu q.2.1=T.take j∧bR (Mem q.1) q.2.1},St E (Row p 0 [.slice q.1.2.2.1 q.1.2.1.length q.1.2.2.2]::Sl 21 q.1.2.2.1 q.1.2.1.length q.1.2.2.2 (av q.1.2.1)::Mem q.1.1::Γ) w:=by
 obtain⟨q,s1⟩:=st.ex;obtain⟨h,s2⟩:=s1.fact;exact⟨⟨q,h⟩,(ak.cx [_,_,_] _).st s2⟩
theorem ak.BD{p j cap:Nat}{T:List TX}{m:PH}{L:List TZ}{a:Option Addr}(h:bu L=T.take j)(hi:bR (Mem m) L)(Γ:List HP):ak (Row p 0 [.slice a L.length cap]::Sl 21 a L.length cap (av L)::Mem m::Γ) (Im p T j::Γ):=
 (ak.cA [_,_,_] Γ).trans ((ak.fact (show _∧_ from ⟨h,hi⟩) _).trans (ak.ex (A:=fun q:PH×List TZ×Option Addr×Nat=>Fact (bu q.2.1=T.take j∧bR (Mem q.1) q.2.1) (Sep [Row p 0 [.slice q.2.2.1 q.2.1.length q.2.2.2],Sl 21 q.2.2.1 q.2.1.length q.2.2.2 (av q.2.1),Mem q.1])) (m,L,a,cap) Γ))
theorem Y0{As:List HP}{q7 q4 q5 n:Nat}{T:List TX}(it:xp prog 298 [] [dp q7,dp q4,dp q5] As [] n fun i vs R=>∃x,T[i]? =some x∧Il x vs R)(hn:n=T.length)(hT:T.length≤48){A1 A2 A3 A4 A5:HP}(EF:As=[A1,A2,A3,A4,A5]):
 Spec prog 297 [.slice none 0 0,.func (.func 298) #[] #[dp q7,dp q4,dp q5]] As (fun v B=>∃(m:PH) (L:List TZ) (a:Option Addr) (c:Nat),v= .slice a L.length c∧B=[Mem m,Sl 21 a L.length c (av L)]∧bu L=T∧bR (Mem m) L):=by
 subst EF;refine x_sp func297 ntmps297 fun E cs Γ=>?_;refine dx (h:=?_);refine ao (m8 rfl rfl rfl fun p2=>?_);refine Wq ?_;refine bJ (ak.nO _) ?_;refine xq (Ds:=[]) rfl rfl it (fun j=>[Im p2 T j]) (fun _ _=>[Fact False jr]) (Δ2:=Γ) ?_ (by rfl) ?_ ?_ ?_ ?_
 ·refine a_ (h:=?_);exact(ak.cq 21 _).trans ((ak.mu _).trans (ak.trans (Δ:=Row p2 0 [.slice none 0 0]::Sl 21 none 0 0 []::Mem PH.emp::Γ) Sub.h (ak.BD (L:=[]) rfl (fun w hw=>by cases hw) _)))
 ·rintro j vs R ⟨x,hx,k,x',j8,eA,rfl,rfl⟩
  rfl
 ·rintro j vs R ⟨x,hx,k,x',j8,eA,rfl,rfl⟩;intro Y lp r Θ fZ eT cv nV nq;refine a_ (h:=?_);refine dz (Γ':=fun q:{q:PH×List TZ×Option Addr×Nat//bu q.2.1=T.take j∧bR (Mem q.1) q.2.1}=>Row p2 0 [.slice q.1.2.2.1 q.1.2.1.length q.1.2.2.2]::Sl 21 q.1.2.2.1 q.1.2.1.length q.1.2.2.2 (av q.1.2.1)::Mem q.1.1::Rec lp r .ready none::Mem k::Θ) (fun E w st=>St.BD (Sub.h.st st)) ?_;rintro⟨⟨m,L,a,c⟩,hL,se⟩;dsimp only at hL se⊢;have lu:j<T.length:=(List.getElem?_eq_some_iff.1 hx).1;have kd:L.length=j:=by
   have:=congrArg List.length hL;rw[zm,zw]at this;omega
  refine nW (h:=?_);refine ao (aC rfl fun p5=>?_);refine mS (h:=?_);refine nP (r:=r) eT ?_;refine aA (h:=?_);refine cf rfl (by rfl) (by rfl) (by rfl) (by rfl) rfl fun a2=>?_;refine aw (h:=?_);refine cF rfl rfl (by rfl) (by rfl) (TZ.one x') (by omega) rfl fun a7 c7 Bd=>?_;refine Wq ?_;refine ny m k fun m2 jv bH=>?_;refine bJ ?_ (cv _);refine a_ (h:=?_);have Y1:L.length+1=(L++[x']).length:=by simp
  rw[Y1,show av L++x'.cells=av (L++[x'])by rw[jQ,nF]];refine ak.trans (Δ:=Row p2 0 [.slice a7 (L++[x']).length c7]::Sl 21 a7 (L++[x']).length c7 (av (L++[x']))::Mem m2::Rec lp r .busy none::Θ) Sub.h ((ak.BD (T:=T) (j:=j+1) ?_ ?_ _).trans Sub.h)
  ·rw[zp,hx,←hL,←j8];simp[bu]
  ·exact fun w hw=>by
    rcases zL.1 hw with h|h
    ·exact(se w h).up jv
    ·rw[zbr.1 h];exact eA.up bH
 ·intro D;refine dz (Γ':=fun q:{q:PH×List TZ×Option Addr×Nat//bu q.2.1=T.take n∧bR (Mem q.1) q.2.1}=>Row p2 0 [.slice q.1.2.2.1 q.1.2.1.length q.1.2.2.2]::Sl 21 q.1.2.2.1 q.1.2.1.length q.1.2.2.2 (av q.1.2.1)::Mem q.1.1::Marks [D]::Γ) (fun E w st=>St.BD (Sub.h.st (by simpa using st))) ?_;rintro⟨⟨m,L,a,c⟩,hL,se⟩;dsimp only at hL se⊢;rw[hn,zu]at hL;refine Wq ?_;exact Aq rfl [Mem m,Sl 21 a L.length c (av L)] ⟨m,L,a,c,rfl,rfl,hL,se⟩ Sub.h
 ·intro D c i;refine a_ (h:=?_);exact uY
end
section
open Go.Proofs Tryz
open Go.Proofs Go.RowKit
theorem Y2{As:List HP}{q7 q4 q5 n:Nat}{T:List TX}(it:xp prog 298 [] [dp q7,dp q4,dp q5] As [] n fun i vs R=>∃x,T[i]? =some x∧Il x vs R)(hn:n=T.length)(hT:T.length≤48){A1 A2 A3 A4 A5:HP}(EF:As=[A1,A2,A3,A4,A5]):
 Spec prog 263 [.func (.func 298) #[] #[dp q7,dp q4,dp q5]] As (fun v B=>∃(m:PH) (L:List TZ) (a:Option Addr) (c:Nat),v= .slice a L.length c∧B=[Mem m,Sl 21 a L.length c (av L)]∧bu L=T∧bR (Mem m) L):=by
 have ha:=Y0 it hn hT EF;subst EF;refine x_sp func263 ntmps263 fun E cs Γ=>?_;refine j7 (h:=?_);refine aJ rfl ha rfl ?_;rintro v B ⟨m,L,a,c,rfl,rfl,hL,hi⟩;refine xF (h:=?_);exact ap rfl [Mem m,Sl 21 a L.length c (av L)] ⟨m,L,a,c,rfl,rfl,hL,hi⟩ Sub.h
theorem OH{A:HP}(z:BZ)(I:z.In A)(hs:cR z.l≤z.room){b1 b2:Nat}(h1:b1<aT)(h2:b2<aT):Spec prog 226 [z.val,uv b1,uv b2] [A] (fun v B=>∃(m:PH) (L:List TZ) (a:Option Addr) (c:Nat),v= .tuple #[.slice a L.length c,.int .i64 0]∧B=[A,Mem m,Sl 21 a L.length c (av L)]∧bu L=nH b1 b2 (bu z.l)∧bR (Mem m) L):=by
 refine x_sp func226 ntmps226 fun E cs Γ=>?_;have h3:=I.len;refine dx (h:=?_);refine ao (aM rfl rfl fun p3=>?_);refine ao (aM rfl rfl fun p4=>?_);refine ao (aM rfl rfl fun p5=>?_);refine aA (h:=?_);refine aq (vs:=[z.val]) rfl (tO z I hs) rfl ?_;refine vu (h:=?_);refine aq (vs:=[z.val,uv b1,uv b2]) rfl (YZ z I hs b1 b2) rfl ?_;rintro v B ⟨q7,q4,q5,pe,k,l',a',c',rfl,rfl,fi,hi,hr⟩;have lh:l'.length=z.l.length:=by have:=congrArg List.length fi;simpa using this
 have kf:=YV (c:=c') q7 q4 q5 pe h1 h2 hr hi (by omega);rw[fi]at kf;refine a_ (h:=?_);refine aJ rfl (Y2 kf rfl (z9 (Ik _ _ _) (by rw[zm];exact h3)) rfl) rfl ?_;rintro v B ⟨m,L,a,c,rfl,rfl,hL,se⟩;refine a_ (h:=qh (h:=?_));exact ap rfl [A,Mem m,Sl 21 a L.length c (av L)] ⟨m,L,a,c,rfl,rfl,hL,se⟩ Sub.h
end
section
open Go.Proofs Tryz
open Go.Proofs Go.RowKit
theorem OI{A:HP}{aa:Option Addr}{ca room:Nat}(R:Reads A 5 aa 8 kH)(h1:1024≤room)(h2:room≤1048576):Spec prog 30 [.int .i64 room,.agg fD.toArray,.slice aa 8 ca] [A] (fun v B=>∃(k:PH) (z:BZ),v= .tuple #[z.val,.int .i64 0]∧B=[A,Mem k]∧z.In (Mem k)∧z.room=room∧z.l=[]):=by
 refine x_sp func30 ntmps30 fun E cs Γ=>?_;refine dx (h:=?_);refine ao (aM rfl rfl fun p4=>?_);refine ao (aC rfl fun p6=>?_);refine Wq ?_;refine aJ rfl (M0 (r:=room) (by omega)) rfl ?_;refine cS (h:=?_);refine ao (Co rfl rfl ?_);refine xG (h:=?_);refine aq rfl MX rfl ?_;refine cS (h:=gg (h:=?_));refine aq rfl (MY R) rfl ?_;refine jC (h:=?_);refine aZ 5 (aX [3,5] [0,1,2,3,4,5,6]) [A,Row p4 0 fD] ?_;refine dD (h:=x_ (h:=?_));refine aE rfl (aq rfl (A0 R (by omega) rfl) rfl ?_);rintro v B ⟨a2,c2,rfl,rfl,eV⟩;refine dc (h:=vb (h:=?_));refine bN rfl rfl (dt rfl rfl (by rfl) (by rfl) (by rfl) ?_);refine df (h:=?_);refine bJ (ak.mu _) ?_;refine fw a2 (h:=PH.emp) fun k2 bH R2 lH=>?_;refine bP (rs:=[.cell 6 31,.tmp 7]) (vs:=[(BZ.mk room a2 c2 [] none 0 none 0).val,.int .i64 0]) ⟨bG (us:=(BZ.mk room a2 c2 [] none 0 none 0).cells) rfl rfl,bO rfl,trivial⟩ [A,Mem k2] ⟨k2,BZ.mk room a2 c2 [] none 0 none 0,rfl,rfl,⟨R2,⟨rfl,fun _ _ _ _=> .inl rfl⟩,(fun w hw=>by cases hw),zq _,iH.TU,h1,h2⟩,rfl,rfl⟩ Sub.h
end
section
open Go.Proofs Tryz
open Go.Proofs Go.RowKit
theorem Y3(ad:Option Addr)(cap:Nat)(f:Value):Spec prog 194 [.slice ad 0 cap,.int .i64 0,.int .i64 0,f] [] (fun v B=>v= .tuple #[]∧B=[]):=by
 refine x_sp func194 ntmps194 fun E cs Γ=>?_;refine mR (h:=?_);refine aQ (α:=Unit) (fun _=>True) (fun _=>[(8,iv 1),(2,iv 0)]) (fun _=>Γ) (fun _=>0) () trivial x_tv Sub.h ?_;intro _ _ back;refine mC (h:=?_);exact cJ [] ⟨rfl,rfl⟩ Sub.h
theorem Y4(ad:Option Addr)(cap:Nat)(f:Value):Spec prog 149 [.slice ad 0 cap,.int .i64 0,f] [] (fun v B=>v= .tuple #[]∧B=[]):=by
 refine x_sp func149 ntmps149 fun E cs Γ=>?_;refine mR (h:=?_);refine aQ (α:=Unit) (fun _=>True) (fun _=>[(8,iv 20),(7,iv 0),(6,iv 20),(2,f),(1,iv 0),(0,.slice ad 0 cap)]) (fun _=>Γ) (fun _=>0) () trivial x_tv Sub.h ?_;intro _ _ back;refine mC (h:=?_);refine aJ rfl (Y3 ad cap f) rfl ?_;refine xJ (h:=eW (h:=?_));refine aQ (α:=Unit) (fun _=>True) (fun _=>[(6,iv 20),(1,iv 0)]) (fun _=>Γ) (fun _=>0) () trivial x_tv Sub.h ?_;intro _ _ back;refine mC (h:=?_);exact cJ [] ⟨rfl,rfl⟩ Sub.h
theorem Y5(ad:Option Addr)(cap:Nat)(f:Value):Spec prog 101 [.slice ad 0 cap,f] [] (fun v B=>v= .tuple #[]∧B=[]):=by
 refine x_sp func101 ntmps101 fun E cs Γ=>?_;refine mR (h:=?_);refine aJ rfl (Y4 ad cap f) rfl ?_;refine xJ (h:=?_);exact cJ [] ⟨rfl,rfl⟩ Sub.h
theorem Y6(ad:Option Addr)(cap:Nat):Spec prog 65 [.slice ad 0 cap] [] (fun v B=>v= .tuple #[.slice none 0 0,.bool true]∧B=[]):=by
 refine x_sp func65 ntmps65 fun E cs Γ=>?_;refine kD (h:=?_);refine aQ (α:=Unit) (fun _=>True) (fun _=>[(13,iv 0),(12,iv (0:Nat)),(2,.slice none 0 0),(0,.slice ad 0 cap)]) (fun _=>Γ) (fun _=>0) () trivial x_tv Sub.h ?_;intro _ _ back;refine j_ (h:=?_);refine aJ rfl (Ej ad cap) rfl ?_;refine jO (h:=?_);refine aJ rfl (Y5 none 0 _) rfl ?_;refine jO (h:=?_);refine aQ (α:=Unit) (fun _=>True) (fun _=>[(38,iv 0),(37,iv (0:Nat)),(2,.slice none 0 0)]) (fun _=>Γ) (fun _=>0) () trivial x_tv Sub.h ?_;intro _ _ back;refine j_ (h:=?_);exact ap rfl [] ⟨rfl,rfl⟩ Sub.h
end
section
open Go.Proofs Tryz
open Go.Proofs Go.RowKit
theorem EG{A:HP}(x y:TZ)(I:x.In A)(J:y.In A):Spec prog 156 [x.val,y.val] [A] (fun v B=>∃r:Int,v= .int .i64 r∧B=[A]):=by
 refine x_sp func156 ntmps156 fun E cs Γ=>?_;refine dx (h:=?_);refine ao (aM rfl rfl fun p2=>?_);refine ao (aM rfl rfl fun p3=>?_);refine aA (h:=?_);refine aq (vs:=[x.val]) rfl (xy x I) rfl ?_;refine dh (h:=?_);obtain⟨i,hi⟩:∃i:Nat,i=(if x.t.ok=true then x.t.id else 0):=⟨_,rfl⟩
 rw[←hi];refine n9 (h:=?_);refine aq (vs:=[y.val]) rfl (xy y J) rfl ?_;refine dh (h:=?_);obtain⟨j,hj⟩:∃j:Nat,j=(if y.t.ok=true then y.t.id else 0):=⟨_,rfl⟩
 rw[←hj];refine bW (h:=?_);refine aZ 15 (aX [4,9,12,13,14] [0,1,2,3,5,6,7,8,10,11,4,9,12,13,14,15]) [Row p2 0 x.cells,Row p3 0 y.cells] ?_;refine Ws ?_;refine aE rfl (aq rfl (El x.t.bx y.t.bx) rfl ?_);refine cn (h:=?_);refine aE rfl (aq rfl (El x.t.ck y.t.ck) rfl ?_);refine cn (h:=?_);refine aE rfl (aq (vs:=[nv i,nv j]) rfl (XM (i:Int) (j:Int)) rfl ?_);refine cn (h:=?_);refine aE rfl (cf rfl (by rfl) (by rfl) (by rfl) (by rfl) rfl fun a2=>⟨bd,?_⟩);skip;have gU:=NW (cap:=3) (xs:=[od x.t.bx y.t.bx,od x.t.ck y.t.ck,od (i:Int) (j:Int)]) (Sl.reads 1 a2 3 3 _ rfl) (show 3≤2^40 by decide);simp only[zE,zal,zy,zaT,zO,Nat.reduceAdd]at gU;refine aE rfl (aq rfl gU rfl ?_);refine w9 (h:=?_);exact ap rfl [A] ⟨_,rfl,rfl⟩ Sub.h
def EH(ad:Option Addr)(n cap:Nat)(k:PH)(l:List TZ)(B:List HP):Prop:=∃l':List TZ,l'.length=n∧l'.Perm l∧B=[Sl 21 ad n cap (av l'),Mem k]
theorem EI{l:List TZ}{i k:Nat}{n m:TZ}(hn:l[i]? =some n)(hm:l[k]? =some m):(av (l.set i m)).take (k*21)++n.cells++(av (l.set i m)).drop (k*21+n.cells.length)=av (fP l i k (List.getElem?_eq_some_iff.1 hn).1 (List.getElem?_eq_some_iff.1 hm).1):=by
 rw[qD _ _ _ (by rw[zH];exact(List.getElem?_eq_some_iff.1 hm).1),N6 hn hm]
theorem OJ{bk off n cap a b:Nat}{k:PH}{l:List TZ}(hn:l.length=n)(dS:a≤b)(hb:b≤n)(hN:n≤2^40)(hI:bR (Mem k) l):
 Spec prog 236 [.slice (some ⟨bk,off,none⟩) n cap,.int .i64 a,.int .i64 b,.func (.func 156) #[] #[]] [Sl 21 (some ⟨bk,off,none⟩) n cap (av l),Mem k] (fun v B=>v= .tuple #[]∧EH (some ⟨bk,off,none⟩) n cap k l B):=by
 refine x_sp func236 ntmps236 fun E cs Γ=>?_;refine gJ (h:=?_);refine aQ (α:=List TZ×Nat) (fun q=>q.1.length=n∧q.1.Perm l∧a<q.2∧q.2≤n+1) (fun q=>[(8,iv q.2),(3,.func (.func 156) #[] #[]),(2,iv b),(1,iv a),(0,.slice (some ⟨bk,off,none⟩) n cap)]) (fun q=>Sl 21 (some ⟨bk,off,none⟩) n cap (av q.1)::Mem k::Γ) (fun q=>n+1-q.2) (l,a+1)
  ⟨hn,.refl _,by dsimp only;omega,by dsimp only;omega⟩ x_tv Sub.h ?_
 rintro⟨ys,i⟩ ⟨hy,hp,hi,fS⟩ back;dsimp only at hy hp hi fS back⊢;refine Wl ?_;by_cases h:i<b
 ·refine Wb ?_;refine eL (α:=List TZ) (fun zs=>zs.length=n∧zs.Perm l) (fun _=>[(8,iv i),(3,.func (.func 156) #[] #[]),(2,iv b),(1,iv a),(0,.slice (some ⟨bk,off,none⟩) n cap)]) (fun zs=>Sl 21 (some ⟨bk,off,none⟩) n cap (av zs)::Mem k::Γ) ?_ ?_
  ·rintro zs ⟨hz,dG⟩;refine Wq ?_;exact aV (back (zs,i+1) ⟨hz,dG,by dsimp only;omega,by dsimp only;omega⟩ (by dsimp only;omega))
  ·intro td fin;refine Wq ?_;refine aQ (α:=List TZ×Nat) (fun q=>q.1.length=n∧q.1.Perm l∧a≤q.2∧q.2≤i) (fun q=>[(9,iv q.2),(8,iv i),(3,.func (.func 156) #[] #[]),(2,iv b),(1,iv a),(0,.slice (some ⟨bk,off,none⟩) n cap)]) (fun q=>Sl 21 (some ⟨bk,off,none⟩) n cap (av q.1)::Mem k::Γ) (fun q=>q.2) (ys,i)
    ⟨hy,hp,by dsimp only;omega,zq _⟩ x_tv Sub.h ?_
   rintro⟨zs,j⟩ ⟨hz,dG,hj,te⟩ eY;dsimp only at hz dG hj te eY⊢;have RS:=Sl.reads 21 (some ⟨bk,off,none⟩) n cap (av zs) (by rw[da,hz]);by_cases Wo:a<j
   ·obtain⟨x,hx⟩:=bc (l:=zs) (i:=j) (by omega);obtain⟨y,gu⟩:=bc (l:=zs) (i:=j-1) (by omega);have mw:=hI x (dG.mem_iff.1 (zc hx));have vx:=hI y (dG.mem_iff.1 (zc gu));refine lJ (h:=?_);refine aZ 17 (aX [14] [0,1,2,3,4,5,6,7,8,9,10,11,12,13,14,15,16]) [Sl 21 (some ⟨bk,off,none⟩) n cap (av zs),Mem k] ?_;refine Ws ?_;refine bE rfl rfl (aY (j:=j) rfl rfl rfl rfl (by omega)) ?_;refine bE rfl rfl (eQ (us:=x.cells) rfl RS rfl (i:=j*21) rfl rfl fun k v hv=>cG hx hv) ?_;refine oM (h:=D5 (h:=?_));refine bE rfl rfl (aY (j:=j-1) rfl rfl rfl (by omega) (by omega)) ?_;refine bE rfl rfl (eQ (us:=y.cells) rfl RS rfl (i:=(j-1)*21) rfl rfl fun k v hv=>cG gu hv) ?_;refine gp rfl rfl (o5 (f:=156) (fs:=[]) (caps:=[]) rfl rfl (EG x y mw vx) rfl ?_);rintro v B ⟨r,rfl,rfl⟩;refine dc (h:=?_);by_cases aN:r<0
    ·refine DV (h:=tJ (h:=Wl ?_));refine aZ 15 (aX [15,17] [0,1,2,3,4,5,6,7,8,9,10,11,12,13,14,15,16,17]) [Sl 21 (some ⟨bk,off,none⟩) n cap (av zs)] ?_;refine Ws ?_;refine au rfl (aY (j:=j-1) rfl rfl rfl (by omega) (by omega)) ?_;refine au rfl (eQ (us:=y.cells) rfl RS rfl (i:=(j-1)*21) rfl rfl fun k v hv=>cG gu hv) ?_;refine dK (h:=?_);refine au rfl (aY (j:=j) rfl rfl rfl rfl (by omega)) ?_;refine au rfl (eQ (us:=x.cells) rfl RS rfl (i:=j*21) rfl rfl fun k v hv=>cG hx hv) ?_;refine au rfl (aY (j:=j) rfl rfl rfl rfl (by omega)) ?_;refine bN rfl rfl (j4 (us:=y.cells) rfl rfl rfl (TZ.one y) rfl (i:=j*21) rfl (by rw[da];show j*21+21≤_;omega) ?_);rw[qD zs j y (by omega)];refine au rfl (aY (j:=j-1) rfl rfl rfl (by omega) (by omega)) ?_;refine bN rfl rfl (j4 (us:=x.cells) rfl rfl rfl (TZ.one x) rfl (i:=(j-1)*21) rfl (by rw[da,zH];show(j-1)*21+21≤_;omega) ?_);rw[EI hx gu];refine dQ (h:=?_);rw[show(j:Int)-1=((j-1:Nat):Int)by omega];exact aV (eY (fP zs j (j-1) _ _,j-1) ⟨by rw[kG];exact hz,(k8 _ _ _ _ _).trans dG,by dsimp only;omega,by dsimp only;omega⟩ (by dsimp only;omega))
    ·refine Bj (h:=rR (h:=iz (h:=?_)));exact aV (fin zs ⟨hz,dG⟩)
   ·refine lJ (h:=?_);refine aZ 17 (aX [] [0,1,2,3,4,5,6,7,8,9,10,11,12,13,14,15,16]) [Sl 21 (some ⟨bk,off,none⟩) n cap (av zs),Mem k] ?_;refine rS (h:=iz (h:=?_));exact aV (fin zs ⟨hz,dG⟩)
 ·refine Wq ?_;exact cJ _ ⟨rfl,ys,hy,hp,rfl⟩ Sub.h
end
section
open Go.Proofs Tryz
open Go.Proofs Go.RowKit
def OK(ad:Option Addr)(n cap:Nat)(l:List TZ)(B:List HP):Prop:=∃l':List TZ,l'.length=n∧l'.Perm l∧B=[Sl 21 ad n cap (av l')]
theorem Io{bk off n cap a b m:Nat}{l:List TZ}(hn:l.length=n)(ha:a+m≤n)(hb:b+m≤n)(hN:n≤2^40)(f:Value):
 Spec prog 300 [.slice (some ⟨bk,off,none⟩) n cap,.int .i64 a,.int .i64 b,.int .i64 m,f] [Sl 21 (some ⟨bk,off,none⟩) n cap (av l)] (fun v B=>v= .tuple #[]∧OK (some ⟨bk,off,none⟩) n cap l B):=by
 refine x_sp func300 ntmps300 fun E cs Γ=>?_;refine gJ (h:=?_);refine aQ (α:=List TZ×Nat) (fun q=>q.1.length=n∧q.1.Perm l∧q.2≤m) (fun q=>[(10,iv q.2),(3,iv m),(2,iv b),(1,iv a),(0,.slice (some ⟨bk,off,none⟩) n cap)]) (fun q=>Sl 21 (some ⟨bk,off,none⟩) n cap (av q.1)::Γ) (fun q=>m-q.2) (l,0)
  ⟨hn,.refl _,zj _⟩ x_tv Sub.h ?_
 rintro⟨zs,i⟩ ⟨hz,hp,hi⟩ back;dsimp only at hz hp hi back⊢;have RS:=Sl.reads 21 (some ⟨bk,off,none⟩) n cap (av zs) (by rw[da,hz]);refine Wl ?_;by_cases h:i<m
 ·obtain⟨x,hx⟩:=bc (l:=zs) (i:=a+i) (by omega);obtain⟨y,gu⟩:=bc (l:=zs) (i:=b+i) (by omega);refine Wq ?_;refine aZ 21 (aX [21,23] [0,1,2,3,4,5,6,7,8,9,10,11,12,13,14,15,16,17,18,19,20,21,22,23]) [Sl 21 (some ⟨bk,off,none⟩) n cap (av zs)] ?_;refine Ws ?_;refine au rfl (aY (j:=b+i) rfl rfl rfl (by omega) (by omega)) ?_;refine au rfl (eQ (us:=y.cells) rfl RS rfl (i:=(b+i)*21) rfl rfl fun k v hv=>cG gu hv) ?_;refine Ws ?_;refine au rfl (aY (j:=a+i) rfl rfl rfl (by omega) (by omega)) ?_;refine au rfl (eQ (us:=x.cells) rfl RS rfl (i:=(a+i)*21) rfl rfl fun k v hv=>cG hx hv) ?_;skip;refine au rfl (aY (j:=a+i) rfl rfl rfl (by omega) (by omega)) ?_;refine bN rfl rfl (j4 (us:=y.cells) rfl rfl rfl (TZ.one y) rfl (i:=(a+i)*21) rfl (by rw[da];show(a+i)*21+21≤_;omega) ?_);rw[qD zs (a+i) y (by omega)];refine au rfl (aY (j:=b+i) rfl rfl rfl (by omega) (by omega)) ?_;refine bN rfl rfl (j4 (us:=x.cells) rfl rfl rfl (TZ.one x) rfl (i:=(b+i)*21) rfl (by rw[da,zH];show(b+i)*21+21≤_;omega) ?_);rw[EI hx gu];refine dQ (h:=?_);exact aV (back (fP zs (a+i) (b+i) _ _,i+1) ⟨by rw[kG];exact hz,(k8 _ _ _ _ _).trans hp,by dsimp only;omega⟩ (by dsimp only;omega))
 ·refine Wq ?_;exact cJ _ ⟨rfl,zs,hz,hp,rfl⟩ Sub.h
theorem Y7{bk off n cap a m b:Nat}{l:List TZ}(hn:l.length=n)(ha:a<m)(hm:m<b)(hb:b≤n)(hN:n≤2^40)(f:Value):
 Spec prog 269 [.slice (some ⟨bk,off,none⟩) n cap,.int .i64 a,.int .i64 m,.int .i64 b,f] [Sl 21 (some ⟨bk,off,none⟩) n cap (av l)] (fun v B=>v= .tuple #[]∧OK (some ⟨bk,off,none⟩) n cap l B):=by
 refine x_sp func269 ntmps269 fun E cs Γ=>?_;refine gJ (h:=?_);rw[show(m:Int)-a=((m-a:Nat):Int)by omega,show(b:Int)-m=((b-m:Nat):Int)by omega];refine aQ (α:=List TZ×Nat×Nat) (fun q=>q.1.length=n∧q.1.Perm l∧0<q.2.1∧0<q.2.2∧q.2.1≤m∧m+q.2.2≤b) (fun q=>[(10,iv q.2.1),(11,iv q.2.2),(4,f),(2,iv m),(0,.slice (some ⟨bk,off,none⟩) n cap)]) (fun q=>Sl 21 (some ⟨bk,off,none⟩) n cap (av q.1)::Γ) (fun q=>q.2.1+q.2.2) (l,m-a,b-m)
  ⟨hn,.refl _,by dsimp only;omega,by dsimp only;omega,by dsimp only;omega,by dsimp only;omega⟩ x_tv Sub.h ?_
 rintro⟨zs,i,j⟩ ⟨hz,hp,mJ,D7,hi,hj⟩ back;dsimp only at hz hp mJ D7 hi hj back⊢;refine Wl ?_;by_cases cE:i=j
 ·subst cE;refine Wq ?_;rw[show(m:Int)-i=((m-i:Nat):Int)by omega];refine aJ rfl (Io (a:=m-i) (b:=m) (m:=i) hz (by omega) (by omega) hN f) rfl ?_;rintro v B ⟨rfl,ys,hy,hU,rfl⟩;refine mY (h:=?_);exact cJ _ ⟨rfl,ys,hy,hU.trans hp,rfl⟩ Sub.h
 ·have acQ:¬(i:Int)=j:=by omega
  refine Wq ?_;by_cases kU:i>j
  ·have vz:(i:Int)>j:=by omega
   refine Wq ?_;rw[show(m:Int)-i=((m-i:Nat):Int)by omega];refine aJ rfl (Io (a:=m-i) (b:=m) (m:=j) hz (by omega) (by omega) hN f) rfl ?_;rintro v B ⟨rfl,ys,hy,hU,rfl⟩;refine bW (h:=?_);rw[show(i:Int)-j=((i-j:Nat):Int)by omega];exact aV (back (ys,i-j,j) ⟨hy,hU.trans hp,by dsimp only;omega,D7,by dsimp only;omega,hj⟩ (by dsimp only;omega))
  ·have vz:¬(i:Int)>j:=by omega
   refine Wq ?_;rw[show(m:Int)-i=((m-i:Nat):Int)by omega,show(m:Int)+j-i=((m+j-i:Nat):Int)by omega];refine aJ rfl (Io (a:=m-i) (b:=m+j-i) (m:=i) hz (by omega) (by omega) hN f) rfl ?_;rintro v B ⟨rfl,ys,hy,hU,rfl⟩;refine bW (h:=?_);rw[show(j:Int)-i=((j-i:Nat):Int)by omega];exact aV (back (ys,i,j-i) ⟨hy,hU.trans hp,mJ,by dsimp only;omega,hi,by dsimp only;omega⟩ (by dsimp only;omega))
end
section
open Go.Proofs Tryz
open Go.Proofs Go.RowKit
theorem EJ{i j m:Nat}(h:m=(i+j)/2):(((i+j:Nat):Int).fdiv (2^((1:Int).toNat)))=(m:Int):=by
 rw[h,zbt _ (by decide)];simp
theorem EK{m:Nat}(h:m≤2^41):IntKind.i64.wrap (m:Int)=(m:Int):=by rw[IntKind.wrap_i64];omega
abbrev f156:Value:= .func (.func 156) #[] #[]
theorem OL{bk off n cap:Nat}{k:PH}(hN:n≤2^40):∀(d a m b:Nat) (l:List TZ),b-a≤d→l.length=n→a<m→m<b→b≤n→bR (Mem k) l→
 Spec prog 237 [.slice (some ⟨bk,off,none⟩) n cap,.int .i64 a,.int .i64 m,.int .i64 b,f156] [Sl 21 (some ⟨bk,off,none⟩) n cap (av l),Mem k] (fun v B=>v= .tuple #[]∧EH (some ⟨bk,off,none⟩) n cap k l B):=by
 intro d;induction d with
 |zero=>intro a m b l h1 _ h2 h3;omega
 |succ d ih=>
 intro a m b l hd hn ha hm hb hI;refine x_sp func237 ntmps237 fun E cs Γ=>?_;have mX:∀i,i<n→∃x,l[i]? =some x∧x.In (Mem k):=fun i hi=>⟨_,za (by omega),hI _ (zap _)⟩;have RS:=Sl.reads 21 (some ⟨bk,off,none⟩) n cap (av l) (by rw[da,hn]);refine eg (h:=?_);by_cases h1:m-a=1
 ·have xc:(m:Int)-a=1:=by omega
  refine Wq ?_;have dS:=mX a (by omega);obtain⟨xa,Ip,Iq⟩:=dS;refine aQ (α:=Nat×Nat) (fun q=>m≤q.1∧q.1≤q.2∧q.2≤b) (fun q=>[(10,iv q.1),(11,iv q.2),(4,f156),(2,iv m),(1,iv a),(0,.slice (some ⟨bk,off,none⟩) n cap)]) (fun _=>Sl 21 (some ⟨bk,off,none⟩) n cap (av l)::Mem k::Γ) (fun q=>q.2-q.1) (m,b) ⟨by dsimp only;omega,by dsimp only;omega,by dsimp only;omega⟩ x_tv Sub.h ?_;rintro⟨i,j⟩ ⟨g1,g2,g3⟩ back;dsimp only at g1 g2 g3 back⊢;by_cases h:i<j
  ·obtain⟨c,hc⟩:∃c,c=(i+j)/2:=⟨_,rfl⟩
   obtain⟨x,hx,mw⟩:=mX c (by omega);refine mC (h:=?_);rw[show((i:Int)+j)=((i+j:Nat):Int)by omega];refine aw (h:=?_);refine ft rfl rfl ?_;rw[rV (x:=i+j) (by unfold aI;omega)];refine aw (h:=?_);refine wu (ky:= .u64) rfl rfl (by decide) rfl ?_;rw[EJ hc];refine aw (h:=?_);refine ft rfl rfl ?_;rw[EK (by omega)];refine nr (h:=?_);refine aZ 11 (aX [9] [0,1,2,3,4,5,6,7,8,9,10]) [Sl 21 (some ⟨bk,off,none⟩) n cap (av l),Mem k] ?_;refine uX (h:=?_);refine au rfl (aY (j:=c) rfl rfl rfl rfl (by omega)) ?_;refine au rfl (eQ (us:=x.cells) rfl RS rfl (i:=c*21) rfl rfl fun k v hv=>cG hx hv) ?_;refine dK (h:=?_);refine au rfl (aY (j:=a) rfl rfl rfl rfl (by omega)) ?_;refine au rfl (eQ (us:=xa.cells) rfl RS rfl (i:=a*21) rfl rfl fun k v hv=>cG Ip hv) ?_;refine aE rfl (o5 (f:=156) (fs:=[]) (caps:=[]) rfl rfl (EG x xa mw Iq) rfl ?_);rintro v B ⟨r,rfl,rfl⟩;refine dc (h:=?_);by_cases hr:r<0
   ·refine xh (h:=dQ (h:=?_));exact aV (back (c+1,j) ⟨by dsimp only;omega,by dsimp only;omega,g3⟩ (by dsimp only;omega))
   ·refine xi (h:=dQ (h:=?_));exact aV (back (i,c) ⟨g1,by dsimp only;omega,by dsimp only;omega⟩ (by dsimp only;omega))
  ·obtain rfl:j=i:=by omega
   refine Wq ?_;refine aQ (α:=List TZ×Nat) (fun q=>q.1.length=n∧q.1.Perm l∧q.2<j) (fun q=>[(13,iv q.2),(10,iv j),(0,.slice (some ⟨bk,off,none⟩) n cap)]) (fun q=>Sl 21 (some ⟨bk,off,none⟩) n cap (av q.1)::Mem k::Γ) (fun q=>j-q.2) (l,a) ⟨hn,.refl _,by dsimp only;omega⟩ x_tv Sub.h ?_;rintro⟨zs,t⟩ ⟨hz,hp,ht⟩ eY;dsimp only at hz hp ht eY⊢;have RZ:=Sl.reads 21 (some ⟨bk,off,none⟩) n cap (av zs) (by rw[da,hz]);by_cases Y8:t<j-1
   ·have Ir:(t:Int)<(j:Int)-1:=by omega
    obtain⟨x,hx⟩:=bc (l:=zs) (i:=t) (by omega);obtain⟨y,gu⟩:=bc (l:=zs) (i:=t+1) (by omega);refine mC (h:=?_);refine aZ 15 (aX [15,17] [0,1,2,3,4,5,6,7,8,9,10,11,12,13,14,15,16,17]) [Sl 21 (some ⟨bk,off,none⟩) n cap (av zs)] ?_;refine Ws ?_;refine au rfl (aY (j:=t+1) rfl rfl rfl (by omega) (by omega)) ?_;refine au rfl (eQ (us:=y.cells) rfl RZ rfl (i:=(t+1)*21) rfl rfl fun k v hv=>cG gu hv) ?_;refine dK (h:=?_);refine au rfl (aY (j:=t) rfl rfl rfl rfl (by omega)) ?_;refine au rfl (eQ (us:=x.cells) rfl RZ rfl (i:=t*21) rfl rfl fun k v hv=>cG hx hv) ?_;refine au rfl (aY (j:=t) rfl rfl rfl rfl (by omega)) ?_;refine bN rfl rfl (j4 (us:=y.cells) rfl rfl rfl (TZ.one y) rfl (i:=t*21) rfl (by rw[da];show t*21+21≤_;omega) ?_);rw[qD zs t y (by omega)];refine au rfl (aY (j:=t+1) rfl rfl rfl (by omega) (by omega)) ?_;refine bN rfl rfl (j4 (us:=x.cells) rfl rfl rfl (TZ.one x) rfl (i:=(t+1)*21) rfl (by rw[da,zH];show(t+1)*21+21≤_;omega) ?_);rw[EI hx gu];refine dQ (h:=?_);exact aV (eY (fP zs t (t+1) _ _,t+1) ⟨by rw[kG];exact hz,(k8 _ _ _ _ _).trans hp,by dsimp only;omega⟩ (by dsimp only;omega))
   ·have Ir:¬(t:Int)<(j:Int)-1:=by omega
    refine Wq ?_;exact ap (vs:=[]) rfl [Sl 21 (some ⟨bk,off,none⟩) n cap (av zs),Mem k] ⟨rfl,zs,hz,hp,rfl⟩ Sub.h
 have xc:¬(m:Int)-a=1:=by omega
 by_cases h2:b-m=1
 ·have GM:(b:Int)-m=1:=by omega
  refine Wq ?_;obtain⟨xa,Ip,Iq⟩:=mX m (by omega);refine aQ (α:=Nat×Nat) (fun q=>a≤q.1∧q.1≤q.2∧q.2≤m) (fun q=>[(14,iv q.1),(15,iv q.2),(4,f156),(2,iv m),(1,iv a),(0,.slice (some ⟨bk,off,none⟩) n cap)]) (fun _=>Sl 21 (some ⟨bk,off,none⟩) n cap (av l)::Mem k::Γ) (fun q=>q.2-q.1) (a,m) ⟨by dsimp only;omega,by dsimp only;omega,by dsimp only;omega⟩ x_tv Sub.h ?_;rintro⟨i,j⟩ ⟨g1,g2,g3⟩ back;dsimp only at g1 g2 g3 back⊢;by_cases h:i<j
  ·obtain⟨c,hc⟩:∃c,c=(i+j)/2:=⟨_,rfl⟩
   obtain⟨x,hx,mw⟩:=mX c (by omega);refine mC (h:=?_);rw[show((i:Int)+j)=((i+j:Nat):Int)by omega];refine aw (h:=?_);refine ft rfl rfl ?_;rw[rV (x:=i+j) (by unfold aI;omega)];refine aw (h:=?_);refine wu (ky:= .u64) rfl rfl (by decide) rfl ?_;rw[EJ hc];refine aw (h:=?_);refine ft rfl rfl ?_;rw[EK (by omega)];refine nr (h:=?_);refine aZ 12 (aX [9] [0,1,2,3,4,5,6,7,8,9,10,11]) [Sl 21 (some ⟨bk,off,none⟩) n cap (av l),Mem k] ?_;refine uX (h:=?_);refine au rfl (aY (j:=m) rfl rfl rfl rfl (by omega)) ?_;refine au rfl (eQ (us:=xa.cells) rfl RS rfl (i:=m*21) rfl rfl fun k v hv=>cG Ip hv) ?_;refine dK (h:=?_);refine au rfl (aY (j:=c) rfl rfl rfl rfl (by omega)) ?_;refine au rfl (eQ (us:=x.cells) rfl RS rfl (i:=c*21) rfl rfl fun k v hv=>cG hx hv) ?_;refine aE rfl (o5 (f:=156) (fs:=[]) (caps:=[]) rfl rfl (EG xa x Iq mw) rfl ?_);rintro v B ⟨r,rfl,rfl⟩;refine dc (h:=?_);by_cases hr:r<0
   ·refine xh (h:=ql (h:=dQ (h:=?_)));exact aV (back (i,c) ⟨g1,by dsimp only;omega,by dsimp only;omega⟩ (by dsimp only;omega))
   ·refine xi (h:=ql (h:=dQ (h:=?_)));exact aV (back (c+1,j) ⟨by dsimp only;omega,by dsimp only;omega,g3⟩ (by dsimp only;omega))
  ·obtain rfl:j=i:=by omega
   refine Wq ?_;refine aQ (α:=List TZ×Nat) (fun q=>q.1.length=n∧q.1.Perm l∧q.2≤m) (fun q=>[(17,iv q.2),(14,iv j),(0,.slice (some ⟨bk,off,none⟩) n cap)]) (fun q=>Sl 21 (some ⟨bk,off,none⟩) n cap (av q.1)::Mem k::Γ) (fun q=>q.2) (l,m) ⟨hn,.refl _,by dsimp only;omega⟩ x_tv Sub.h ?_;rintro⟨zs,t⟩ ⟨hz,hp,ht⟩ eY;dsimp only at hz hp ht eY⊢;have RZ:=Sl.reads 21 (some ⟨bk,off,none⟩) n cap (av zs) (by rw[da,hz]);by_cases Y8:t>j
   ·have Ir:(t:Int)>(j:Int):=by omega
    obtain⟨x,hx⟩:=bc (l:=zs) (i:=t) (by omega);obtain⟨y,gu⟩:=bc (l:=zs) (i:=t-1) (by omega);refine mC (h:=?_);refine aZ 15 (aX [15,17] [0,1,2,3,4,5,6,7,8,9,10,11,12,13,14,15,16,17]) [Sl 21 (some ⟨bk,off,none⟩) n cap (av zs)] ?_;refine Ws ?_;refine au rfl (aY (j:=t-1) rfl rfl rfl (by omega) (by omega)) ?_;refine au rfl (eQ (us:=y.cells) rfl RZ rfl (i:=(t-1)*21) rfl rfl fun k v hv=>cG gu hv) ?_;refine dK (h:=?_);refine au rfl (aY (j:=t) rfl rfl rfl rfl (by omega)) ?_;refine au rfl (eQ (us:=x.cells) rfl RZ rfl (i:=t*21) rfl rfl fun k v hv=>cG hx hv) ?_;refine au rfl (aY (j:=t) rfl rfl rfl rfl (by omega)) ?_;refine bN rfl rfl (j4 (us:=y.cells) rfl rfl rfl (TZ.one y) rfl (i:=t*21) rfl (by rw[da];show t*21+21≤_;omega) ?_);rw[qD zs t y (by omega)];refine au rfl (aY (j:=t-1) rfl rfl rfl (by omega) (by omega)) ?_;refine bN rfl rfl (j4 (us:=x.cells) rfl rfl rfl (TZ.one x) rfl (i:=(t-1)*21) rfl (by rw[da,zH];show(t-1)*21+21≤_;omega) ?_);rw[EI hx gu];refine dQ (h:=?_);rw[show(t:Int)-1=((t-1:Nat):Int)by omega];exact aV (eY (fP zs t (t-1) _ _,t-1) ⟨by rw[kG];exact hz,(k8 _ _ _ _ _).trans hp,by dsimp only;omega⟩ (by dsimp only;omega))
   ·have Ir:¬(t:Int)>(j:Int):=by omega
    refine Wq ?_;exact ap (vs:=[]) rfl [Sl 21 (some ⟨bk,off,none⟩) n cap (av zs),Mem k] ⟨rfl,zs,hz,hp,rfl⟩ Sub.h
 have GM:¬(b:Int)-m=1:=by omega
 refine Wq ?_;obtain⟨md,H6⟩:∃c,c=(a+b)/2:=⟨_,rfl⟩
 rw[show((a:Int)+b)=((a+b:Nat):Int)by omega];refine aw (h:=?_);refine ft rfl rfl ?_;rw[rV (x:=a+b) (by unfold aI;omega)];refine aw (h:=?_);refine wu (ky:= .u64) rfl rfl (by decide) rfl ?_;rw[EJ H6];refine aw (h:=?_);refine ft rfl rfl ?_;rw[EK (by omega)];refine bU (h:=tq (h:=Wr ?_));refine eM (h:=?_);rw[show((md:Int)+m)=((md+m:Nat):Int)by omega];refine nW (h:=BA (h:=nr (h:=?_)));refine eL (α:=Nat×Nat) (fun q=>q.1≤q.2∧q.2≤md∧q.2≤m∧a≤q.1∧md+m≤q.1+b) (fun q=>[(20,iv q.1),(21,iv q.2),(19,iv ((md+m:Nat):Int)),(18,iv md),(4,f156),(3,iv b),(2,iv m),(1,iv a),(0,.slice (some ⟨bk,off,none⟩) n cap)]) (fun _=>Sl 21 (some ⟨bk,off,none⟩) n cap (av l)::Mem k::Γ) ?_ ?_;rotate_left
 ·intro td fin;by_cases kU:m>md
  ·have vz:(m:Int)>(md:Int):=by omega
   refine Wq ?_;rw[show(((md+m:Nat):Int)-b)=((md+m-b:Nat):Int)by omega];exact aV (fin (md+m-b,md) ⟨by dsimp only;omega,by dsimp only;omega,by dsimp only;omega,by dsimp only;omega,by dsimp only;omega⟩)
  ·have vz:¬(m:Int)>(md:Int):=by omega
   refine Wq ?_;exact aV (fin (a,m) ⟨by dsimp only;omega,by dsimp only;omega,by dsimp only;omega,by dsimp only;omega,by dsimp only;omega⟩)
 rintro⟨s0,r0⟩ ⟨g1,g2,g3,g4,g5⟩;dsimp only at g1 g2 g3 g4 g5⊢;refine tq (h:=Wr ?_);refine eM (h:=?_);rw[show((md+m:Nat):Int)-1=((md+m-1:Nat):Int)by omega];refine eL (α:=Nat) (fun s=>s0≤s∧s≤r0) (fun s=>[(20,iv s),(19,iv ((md+m:Nat):Int)),(18,iv md),(4,f156),(3,iv b),(2,iv m),(1,iv a),(0,.slice (some ⟨bk,off,none⟩) n cap)]) (fun _=>Sl 21 (some ⟨bk,off,none⟩) n cap (av l)::Mem k::Γ) ?_ ?_;rotate_left
 ·intro td fin;refine eW (h:=?_);refine aQ (α:=Nat×Nat) (fun q=>s0≤q.1∧q.1≤q.2∧q.2≤r0) (fun q=>[(20,iv q.1),(21,iv q.2),(22,iv ((md+m-1:Nat):Int)),(19,iv ((md+m:Nat):Int)),(18,iv md),(4,f156),(3,iv b),(2,iv m),(1,iv a),(0,.slice (some ⟨bk,off,none⟩) n cap)]) (fun _=>Sl 21 (some ⟨bk,off,none⟩) n cap (av l)::Mem k::Γ) (fun q=>q.2-q.1) (s0,r0) ⟨by dsimp only;omega,by dsimp only;omega,by dsimp only;omega⟩ x_tv Sub.h ?_;rintro⟨i,j⟩ ⟨e1,e2,e3⟩ back;dsimp only at e1 e2 e3 back⊢;by_cases h:i<j
  ·obtain⟨c,hc⟩:∃c,c=(i+j)/2:=⟨_,rfl⟩
   obtain⟨x,hx,mw⟩:=mX c (by omega);obtain⟨y,hy,vx⟩:=mX (md+m-1-c) (by omega);refine mC (h:=?_);rw[show((i:Int)+j)=((i+j:Nat):Int)by omega];refine aw (h:=?_);refine ft rfl rfl ?_;rw[rV (x:=i+j) (by unfold aI;omega)];refine aw (h:=?_);refine wu (ky:= .u64) rfl rfl (by decide) rfl ?_;rw[EJ hc];refine aw (h:=?_);refine ft rfl rfl ?_;rw[EK (by omega)];refine nr (h:=?_);refine aZ 14 (aX [11] [0,1,2,3,4,5,6,7,8,9,10,11,12,13]) [Sl 21 (some ⟨bk,off,none⟩) n cap (av l),Mem k] ?_;refine Ws ?_;refine au rfl (aY (j:=md+m-1-c) rfl rfl rfl (by omega) (by omega)) ?_;refine au rfl (eQ (us:=y.cells) rfl RS rfl (i:=(md+m-1-c)*21) rfl rfl fun k v hv=>cG hy hv) ?_;refine dK (h:=?_);refine au rfl (aY (j:=c) rfl rfl rfl rfl (by omega)) ?_;refine au rfl (eQ (us:=x.cells) rfl RS rfl (i:=c*21) rfl rfl fun k v hv=>cG hx hv) ?_;refine aE rfl (o5 (f:=156) (fs:=[]) (caps:=[]) rfl rfl (EG y x vx mw) rfl ?_);rintro v B ⟨r,rfl,rfl⟩;refine dc (h:=?_);by_cases hr:r<0
   ·refine xh (h:=ql (h:=dQ (h:=?_)));exact aV (back (i,c) ⟨e1,by dsimp only;omega,by dsimp only;omega⟩ (by dsimp only;omega))
   ·refine xi (h:=ql (h:=dQ (h:=?_)));exact aV (back (c+1,j) ⟨by dsimp only;omega,by dsimp only;omega,e3⟩ (by dsimp only;omega))
  ·obtain rfl:j=i:=by omega
   refine Wq ?_;exact aV (fin j ⟨e1,e3⟩)
 rintro s ⟨k1,k2⟩;obtain⟨e,he⟩:∃e,e=md+m-s:=⟨_,rfl⟩
 refine tq (h:=Wr ?_);refine eM (h:=?_);rw[show((md+m:Nat):Int)-s=(e:Int)by omega];refine eL (α:=List TZ) (fun zs=>zs.length=n∧zs.Perm l) (fun _=>[(20,iv s),(24,iv e),(19,iv ((md+m:Nat):Int)),(18,iv md),(4,f156),(3,iv b),(2,iv m),(1,iv a),(0,.slice (some ⟨bk,off,none⟩) n cap)]) (fun zs=>Sl 21 (some ⟨bk,off,none⟩) n cap (av zs)::Mem k::Γ) ?_ ?_;rotate_left
 ·intro td fin;by_cases q1:s<m
  ·by_cases q2:m<e
   ·refine Wq ?_;refine aJ rfl (Y7 (a:=s) (m:=m) (b:=e) hn q1 q2 (by omega) hN f156) rfl ?_;rintro v B ⟨rfl,ys,hy,hU,rfl⟩;refine mY (h:=?_);exact aV (fin ys ⟨hy,hU⟩)
   ·refine Wq ?_;exact aV (fin l ⟨hn,.refl _⟩)
  ·refine Wq ?_;exact aV (fin l ⟨hn,.refl _⟩)
 rintro zs ⟨hz,dG⟩;have Y9:bR (Mem k) zs:=fun w hw=>hI w (dG.mem_iff.1 hw);refine eM (h:=?_);refine eL (α:=List TZ) (fun zs=>zs.length=n∧zs.Perm l) (fun _=>[(24,iv e),(19,iv ((md+m:Nat):Int)),(18,iv md),(4,f156),(3,iv b),(2,iv m),(1,iv a),(0,.slice (some ⟨bk,off,none⟩) n cap)]) (fun zs=>Sl 21 (some ⟨bk,off,none⟩) n cap (av zs)::Mem k::Γ) ?_ ?_;rotate_left
 ·intro td fin;by_cases q1:a<s
  ·by_cases q2:s<md
   ·refine Wq ?_;refine aJ rfl (ih a s md zs (by omega) hz q1 q2 (by omega) Y9) rfl ?_;rintro v B ⟨rfl,ys,hy,hU,rfl⟩;refine mY (h:=?_);exact aV (fin ys ⟨hy,hU.trans dG⟩)
   ·refine Wq ?_;exact aV (fin zs ⟨hz,dG⟩)
  ·refine Wq ?_;exact aV (fin zs ⟨hz,dG⟩)
 rintro ws ⟨hw,mE⟩;have Y_:bR (Mem k) ws:=fun w hw=>hI w (mE.mem_iff.1 hw);by_cases q1:md<e
 ·by_cases q2:e<b
  ·refine Wq ?_;refine aJ rfl (ih md e b ws (by omega) hw q1 q2 hb Y_) rfl ?_;rintro v B ⟨rfl,ys,hy,hU,rfl⟩;refine mY (h:=?_);exact cJ _ ⟨rfl,ys,hy,hU.trans mE,rfl⟩ Sub.h
  ·refine Wq ?_;exact cJ _ ⟨rfl,ws,hw,mE,rfl⟩ Sub.h
 ·refine Wq ?_;exact cJ _ ⟨rfl,ws,hw,mE,rfl⟩ Sub.h
end
section
open Go.Proofs Tryz
open Go.Proofs Go.RowKit
theorem Zb{bk off n cap:Nat}{k:PH}{l:List TZ}(hn:l.length=n)(hN:n≤2^30)(hI:bR (Mem k) l):
 Spec prog 200 [.slice (some ⟨bk,off,none⟩) n cap,.int .i64 n,f156] [Sl 21 (some ⟨bk,off,none⟩) n cap (av l),Mem k] (fun v B=>v= .tuple #[]∧EH (some ⟨bk,off,none⟩) n cap k l B):=by
 refine x_sp func200 ntmps200 fun E cs Γ=>?_;have EL:∀zs:List TZ,zs.Perm l→bR (Mem k) zs:=fun zs hp w hw=>hI w (hp.mem_iff.1 hw);refine eg (h:=Wb ?_);refine eW (h:=?_);refine aQ (α:=List TZ×Nat) (fun q=>q.1.length=n∧q.1.Perm l∧q.2≤n) (fun q=>[(7,iv q.2),(8,iv ((q.2+20:Nat):Int)),(6,iv (20:Nat)),(2,f156),(1,iv n),(0,.slice (some ⟨bk,off,none⟩) n cap)]) (fun q=>Sl 21 (some ⟨bk,off,none⟩) n cap (av q.1)::Mem k::Γ) (fun q=>n-q.2) (l,0) ⟨hn,.refl _,zj _⟩ x_tv Sub.h ?_;rintro⟨zs,a⟩ ⟨hz,hp,ha⟩ back;dsimp only at hz hp ha back⊢;by_cases h:a+20≤n
 ·have h':((a+20:Nat):Int)≤(n:Int):=by omega
  refine mC (h:=?_);refine aJ rfl (OJ (a:=a) (b:=a+20) hz (by omega) h (by omega) (EL zs hp)) rfl ?_;rintro v B ⟨rfl,ys,hy,hU,rfl⟩;refine bW (h:=?_);exact aV (back (ys,a+20) ⟨hy,hU.trans hp,h⟩ (by dsimp only;omega))
 have h':¬((a+20:Nat):Int)≤(n:Int):=by omega
 refine mC (h:=?_);refine aJ rfl (OJ (a:=a) (b:=n) hz ha (zq _) (by omega) (EL zs hp)) rfl ?_;rintro v B ⟨rfl,ys,hy,hU,rfl⟩;refine nU (h:=?_);refine aQ (α:=List TZ×Nat) (fun q=>q.1.length=n∧q.1.Perm l∧0<q.2∧q.2≤2^32) (fun q=>[(6,iv q.2),(2,f156),(1,iv n),(0,.slice (some ⟨bk,off,none⟩) n cap)]) (fun q=>Sl 21 (some ⟨bk,off,none⟩) n cap (av q.1)::Mem k::Γ) (fun q=>n-q.2) (ys,20) ⟨hy,hU.trans hp,by dsimp only;omega,by dsimp only;omega⟩ x_tv Sub.h ?_;clear back hz hp ha h h' hy hU ys zs;rintro⟨zs,s⟩ ⟨hz,hp,vB,hs⟩ back;dsimp only at hz hp vB hs back⊢;by_cases hsn:s<n
 case neg=>
  refine Wq ?_;exact cJ _ ⟨rfl,zs,hz,hp,rfl⟩ Sub.h
 refine Wb ?_;refine eW (h:=Wb ?_);refine eL (α:=List TZ×Nat) (fun q=>q.1.length=n∧q.1.Perm l∧q.2≤n) (fun q=>[(7,iv q.2),(6,iv s),(2,f156),(1,iv n),(0,.slice (some ⟨bk,off,none⟩) n cap)]) (fun q=>Sl 21 (some ⟨bk,off,none⟩) n cap (av q.1)::Mem k::Γ) ?_ ?_
 ·rintro⟨ys,a⟩ ⟨hy,hU,ha⟩;dsimp only at hy hU ha⊢;by_cases hm:a+s<n
  ·have Is:(a:Int)+s<n:=by omega
   refine Wq ?_;rw[show((a:Int)+s)=((a+s:Nat):Int)by omega];refine aJ rfl (OL (by omega) n a (a+s) n ys (by omega) hy (by omega) hm (zq _) (EL ys hU)) rfl ?_;rintro v B ⟨rfl,ws,hw,mE,rfl⟩;refine bW (h:=?_);rw[show((s:Int)*2)=((s*2:Nat):Int)by omega];exact aV (back (ws,s*2) ⟨hw,mE.trans hU,by dsimp only;omega,by dsimp only;omega⟩ (by dsimp only;omega))
  ·have Is:¬(a:Int)+s<n:=by omega
   refine Wq ?_;rw[show((s:Int)*2)=((s*2:Nat):Int)by omega];exact aV (back (ys,s*2) ⟨hy,hU,by dsimp only;omega,by dsimp only;omega⟩ (by dsimp only;omega))
 ·intro td fin;rw[show(2*(s:Int))=((0+2*s:Nat):Int)by omega];refine eW (h:=?_);refine aQ (α:=List TZ×Nat) (fun q=>q.1.length=n∧q.1.Perm l∧q.2≤n) (fun q=>[(7,iv q.2),(8,iv ((q.2+2*s:Nat):Int)),(6,iv s),(2,f156),(1,iv n),(0,.slice (some ⟨bk,off,none⟩) n cap)]) (fun q=>Sl 21 (some ⟨bk,off,none⟩) n cap (av q.1)::Mem k::Γ) (fun q=>n-q.2) (zs,0) ⟨hz,hp,zj _⟩ x_tv Sub.h ?_;rintro⟨ys,a⟩ ⟨hy,hU,ha⟩ eY;dsimp only at hy hU ha eY⊢;by_cases h:a+2*s≤n
  ·have h':((a+2*s:Nat):Int)≤(n:Int):=by omega
   refine mC (h:=?_);rw[show((a:Int)+s)=((a+s:Nat):Int)by omega];refine aJ rfl (OL (by omega) n a (a+s) (a+2*s) ys (by omega) hy (by omega) (by omega) h (EL ys hU)) rfl ?_;rintro v B ⟨rfl,ws,hw,mE,rfl⟩;refine bW (h:=?_);rw[show(((a+2*s:Nat):Int)+2*(s:Int))=((a+2*s+2*s:Nat):Int)by omega];exact aV (eY (ws,a+2*s) ⟨hw,mE.trans hU,h⟩ (by dsimp only;omega))
  ·have h':¬((a+2*s:Nat):Int)≤(n:Int):=by omega
   refine Wq ?_;exact aV (fin (ys,a) ⟨hy,hU,ha⟩)
end
section
open Go.Proofs Tryz
open Go.Proofs Go.RowKit
theorem Zc(ad:Option Addr)(cap:Nat)(f:Value):Spec prog 236 [.slice ad 0 cap,.int .i64 0,.int .i64 0,f] [] (fun v B=>v= .tuple #[]∧B=[]):=by
 refine x_sp func236 ntmps236 fun E cs Γ=>?_;refine mR (h:=?_);refine aQ (α:=Unit) (fun _=>True) (fun _=>[(8,iv 1),(2,iv 0)]) (fun _=>Γ) (fun _=>0) () trivial x_tv Sub.h ?_;intro _ _ back;refine mC (h:=?_);exact cJ [] ⟨rfl,rfl⟩ Sub.h
theorem Zd(ad:Option Addr)(cap:Nat)(f:Value):Spec prog 200 [.slice ad 0 cap,.int .i64 0,f] [] (fun v B=>v= .tuple #[]∧B=[]):=by
 refine x_sp func200 ntmps200 fun E cs Γ=>?_;refine mR (h:=?_);refine aQ (α:=Unit) (fun _=>True) (fun _=>[(8,iv 20),(7,iv 0),(6,iv 20),(2,f),(1,iv 0),(0,.slice ad 0 cap)]) (fun _=>Γ) (fun _=>0) () trivial x_tv Sub.h ?_;intro _ _ back;refine mC (h:=?_);refine aJ rfl (Zc ad cap f) rfl ?_;refine xJ (h:=eW (h:=?_));refine aQ (α:=Unit) (fun _=>True) (fun _=>[(6,iv 20),(1,iv 0)]) (fun _=>Γ) (fun _=>0) () trivial x_tv Sub.h ?_;intro _ _ back;refine mC (h:=?_);exact cJ [] ⟨rfl,rfl⟩ Sub.h
theorem Ze{ad:Option Addr}{cap:Nat}{k:PH}{l:List TZ}(hN:l.length≤2^30)(hI:bR (Mem k) l):
 Spec prog 155 [.slice ad l.length cap,f156] [Sl 21 ad l.length cap (av l),Mem k] (fun v B=>v= .tuple #[]∧EH ad l.length cap k l B):=by
 refine x_sp func155 ntmps155 fun E cs Γ=>?_;refine eg (h:=?_);by_cases h0:l.length=0
 ·obtain rfl:l=[]:=List.length_eq_zero_iff.1 h0;refine aA (h:=?_);refine aq (vs:=[.slice ad 0 cap,.int .i64 0,f156]) rfl (Zd ad cap f156) rfl ?_;refine xJ (h:=?_);exact cJ _ ⟨rfl,[],rfl,.refl _,rfl⟩ Sub.h
 ·have RS:=Sl.reads 21 ad l.length cap (av l) (da _);refine jw RS (by omega) fun b off ha=>?_;subst ha;refine Wq ?_;refine aJ rfl (Zb rfl hN hI) rfl ?_;rintro v B ⟨rfl,ys,hy,hp,rfl⟩;refine mY (h:=?_);exact cJ _ ⟨rfl,ys,hy,hp,rfl⟩ Sub.h
theorem Zf{A:HP}{ad:Option Addr}{cap:Nat}{l:List TZ}(R:Reads A 21 ad l.length (av l))(I:bR A l)(hl:l.length≤2^20):
 Spec prog 109 [.slice ad l.length cap] [A] (fun v B=>∃(k:PH) (l':List TZ) (a':Option Addr) (c':Nat),v= .slice a' l'.length c'∧B=[A,Mem k,Sl 21 a' l'.length c' (av l')]∧(bu l').Perm (bu l)∧bR (Mem k) l'):=by
 refine x_sp func109 ntmps109 fun E cs Γ=>?_;refine j7 (h:=?_);refine aJ rfl (xt R I (by omega)) rfl ?_;rintro v B ⟨k,l',a',c',hs,hi,rfl,rfl⟩;have lh:l'.length=l.length:=by have:=congrArg List.length hs;simpa using this
 refine bW (h:=?_);refine aJ rfl (Ze (by omega) hi) rfl ?_;rintro v B ⟨rfl,ys,hy,hp,rfl⟩;rw[←hy];refine bW (h:=?_);exact ap rfl [A,Mem k,Sl 21 a' ys.length c' (av ys)] ⟨k,ys,a',c',by rw[hy];rfl,rfl,(hp.map TZ.t).trans (by rw[show l'.map TZ.t=l.map TZ.t from hs]),fun w hw=>hi w (hp.mem_iff.1 hw)⟩ Sub.h
end
section
open Go.Proofs Tryz
open Go.Proofs Go.RowKit
theorem Zg{A:HP}(x y:TZ)(Ix:x.In A)(Iy:y.In A)(hx:x.t.ok=true)(hy:y.t.ok=true):Spec prog 238 [x.val,y.val] [A] (fun v C=>∃b,v= .bool b∧C=[A]):=by
 refine x_sp func238 ntmps238 fun E cs Γ=>?_;refine dx (h:=?_);refine ao (aM rfl rfl fun p2=>?_);refine ao (aM rfl rfl fun p3=>?_);refine aA (h:=?_);refine aq (vs:=[x.val]) rfl (rK x Ix) rfl ?_;rintro v C ⟨rfl,rfl⟩;rw[hx,if_pos rfl];refine a_ (h:=?_);refine ao (FK rfl rfl (by omega) rfl ?_);refine xG (h:=?_);refine aq (vs:=[y.val]) rfl (rK y Iy) rfl ?_;rintro v C ⟨rfl,rfl⟩;rw[hy,if_pos rfl];refine a_ (h:=?_);by_cases h1:x.t.bx=y.t.bx
 ·by_cases h2:x.t.ck=y.t.ck
  ·refine Wq ?_;exact ap rfl [A] ⟨_,rfl,rfl⟩ Sub.h
  ·refine Wq ?_;exact ap rfl [A] ⟨_,rfl,rfl⟩ Sub.h
 ·refine Wq ?_;exact ap rfl [A] ⟨_,rfl,rfl⟩ Sub.h
theorem Zh{A:HP}(x y:TZ)(Ix:x.In A)(Iy:y.In A)(hx:x.t.ok=true)(hy:y.t.ok=true):Spec prog 201 [x.val,y.val] [A] (fun v C=>∃(b:Bool) (e:Int),v= .tuple #[.bool b,.int .i64 e]∧C=[A]):=by
 refine x_sp func201 ntmps201 fun E cs Γ=>?_;refine dx (h:=?_);refine ao (aM rfl rfl fun p2=>?_);refine ao (aM rfl rfl fun p3=>?_);refine aA (h:=?_);refine aq (vs:=[x.val,y.val]) rfl (Zg x y Ix Iy hx hy) rfl ?_;rintro v C ⟨b,rfl,rfl⟩;refine a_ (h:=?_);cases b with
 |false=>
  refine Wq ?_;exact ap rfl [A] ⟨_,_,rfl,rfl⟩ Sub.h
 |true=>
  refine aA (h:=?_);refine aq (vs:=[y.val]) rfl (DS y) rfl ?_;rintro v C ⟨rfl,rfl⟩;refine dq (h:=?_);refine ao (aC rfl fun p6=>?_);refine aA (h:=?_);refine aq (vs:=[x.val]) rfl (DS x) rfl ?_;rintro v C ⟨rfl,rfl⟩;refine dq (h:=uN (h:=?_));refine aQ (α:=Nat) (fun i=>i≤3) (fun i=>[(21,iv i),(20,.agg (pO x.t).toArray),(6,dp p6),(5,iv 0),(4,.bool false),(3,dp p3),(2,dp p2)]) (fun _=>Row p6 0 (pO y.t)::Row p3 0 y.cells::Row p2 0 x.cells::A::Γ) (fun i=>3-i) 0 (by omega) x_tv Sub.h ?_;intro i hi back;refine bQ (h:=?_);by_cases h:i<3
  ·have hf:=DT Ix.wf i;have hg:=DT Iy.wf i;refine aA (h:=?_);refine Gx rfl rfl rfl h (DU x.t h) rfl ?_;refine ao (aC rfl fun p8=>?_);refine Wq ?_;refine aZ 5 (aX [4] [0,1,2,3,4]) [Row p6 0 (pO y.t),Row p8 0 (uc (gx x.t i))] ?_;refine dD (h:=?_);refine au rfl (du (j:=i) rfl rfl rfl h) ?_;refine au rfl (oz (us:=uc (gx y.t i)) rfl (by rw[za9];omega) (by rw[show 0+i*4-0=i*4 by omega];exact DU y.t h) rfl) ?_;refine iA (h:=?_);refine aE rfl (aq (vs:=[uv (gx y.t i),uv (gx x.t i)]) rfl (ml hg hf) rfl ?_);rintro v C ⟨rfl,rfl⟩;refine kx (h:=dq (h:=dU (h:=?_)));by_cases h1:gx y.t i<gx x.t i
   ·rw[show cV (gx y.t i) (gx x.t i)= -1 by unfold cV;rw[if_pos h1]];refine Wq ?_;exact ap rfl [A] ⟨_,_,rfl,rfl⟩ Sub.h
   ·by_cases h2:gx y.t i>gx x.t i
    ·rw[show cV (gx y.t i) (gx x.t i)=1 by unfold cV;rw[if_neg h1,if_pos h2]];refine Wq ?_;exact ap rfl [A] ⟨_,_,rfl,rfl⟩ Sub.h
    ·rw[show cV (gx y.t i) (gx x.t i)=0 by unfold cV;rw[if_neg h1,if_neg h2]];refine Wq ?_;exact aV (back (i+1) (by omega) (by omega))
  ·obtain rfl:i=3:=by omega
   refine aA (h:=?_);refine aq (vs:=[x.val]) rfl (va x Ix) rfl ?_;rintro v C ⟨rfl,rfl⟩;rw[hx,if_pos rfl,if_pos rfl];refine n9 (h:=?_);refine aq (vs:=[y.val]) rfl (va y Iy) rfl ?_;rintro v C ⟨rfl,rfl⟩;rw[hy,if_pos rfl,if_pos rfl];refine bW (h:=?_);refine aJ rfl (V9 _ _) rfl ?_;rintro v C ⟨r,rfl,rfl⟩;refine dq (h:=?_);by_cases hr:r>0
   ·refine Wq ?_;exact ap rfl [A] ⟨_,_,rfl,rfl⟩ Sub.h
   ·refine Wq ?_;exact ap rfl [A] ⟨_,_,rfl,rfl⟩ Sub.h
end
section
open Go.Proofs Tryz
open Go.Proofs Go.RowKit
theorem Zi{A:HP}{ad:Option Addr}{cap:Nat}{l:List TZ}(R:Reads A 21 ad l.length (av l))(I:bR A l)(bn:∀z∈l,z.t.ok=true)(hl:l.length≤2^20):
 Spec prog 157 [.slice ad l.length cap] [A] (fun v B=>∃(L:List TZ) (a:Option Addr) (c:Nat),v= .slice a L.length c∧B=[A,Sl 21 a L.length c (av L)]∧(∀w∈L,w∈l)∧L.length≤l.length):=by
 refine x_sp func157 ntmps157 fun E cs Γ=>?_;refine j7 (h:=?_);refine aQ (α:=Nat×List TZ×Option Addr×Nat) (fun q=>q.1≤l.length∧(∀w∈q.2.1,w∈l)∧q.2.1.length≤q.1) (fun q=>[(11,iv q.1),(10,iv l.length),(9,.slice ad l.length cap),(3,.slice q.2.2.1 q.2.1.length q.2.2.2)]) (fun q=>Sl 21 q.2.2.1 q.2.1.length q.2.2.2 (av q.2.1)::A::Γ) (fun q=>l.length-q.1) (0,[],none,0) ⟨zj _,fun w hw=>(by cases hw),zq _⟩ x_tv ((ak.cq 21 _).trans (Sub.h (Δ:=Sl 21 none 0 0 []::A::Γ))) ?_;rintro⟨i,L,a3,c3⟩ ⟨hi,hL,kd⟩ back;dsimp only at hi hL kd back⊢;have RL:=Sl.reads 21 a3 L.length c3 (av L) (da _);refine bQ (h:=?_);by_cases h:i<l.length
 ·obtain⟨x,hx⟩:=bc (l:=l) (i:=i) h;have iJ:=zc hx;refine aA (h:=?_);refine bK rfl rfl R (j:=i) rfl h rfl fun b off ha=>?_;refine aw (h:=?_);refine dA rfl R ha (i:=i*21) (us:=x.cells) (by omega) rfl (fun j v hv=>cG hx hv) rfl ?_;refine ao (aC rfl fun p5=>?_);refine Wq ?_;by_cases h0:L.length=0
  ·have rW:(L.length:Int)-1<0:=by omega
   refine aZ 12 (aX [] [0,1,2,3,4,5,6,7,8,9,10,11]) [Sl 21 a3 L.length c3 (av L),Row p5 0 x.cells] ?_;refine kC (h:=aA (h:=?_));refine cf rfl (by rfl) (by rfl) (by rfl) (by rfl) rfl fun a2=>?_;refine aw (h:=?_);refine cF rfl rfl (by rfl) (by rfl) (TZ.one x) (by omega) rfl fun a4 c4 gI=>?_;have hb:=back (i+1,L++[x],a4,c4) ⟨by dsimp only;omega,fun w hw=>by
    rcases zL.1 hw with h|h
    ·exact hL w h
    ·rw[zbr.1 h];exact iJ,by dsimp only;rw[zd];simp;omega⟩ (by dsimp only;omega)
   dsimp only at hb;rw[zd,zC,jQ,nF]at hb;refine Wq ?_;exact aV hb
  ·obtain⟨m,hm⟩:∃m,m+1=L.length:=⟨L.length-1,by omega⟩
   rw[show((L.length:Int)-1)=(m:Int)by omega];have rW:¬(m:Int)<0:=by omega
   obtain⟨y,hy⟩:=bc (l:=L) (i:=m) (by omega);have gG:=hL y (zc hy);refine jw RL (by omega) fun b4 Yl qE=>?_;refine aZ 12 (aX [] [0,1,2,3,4,5,6,7,8,9,10,11]) [Sl 21 a3 L.length c3 (av L),Row p5 0 x.cells] ?_;refine Ws ?_;refine bE rfl rfl (aY (j:=m) rfl rfl qE rfl (by omega)) ?_;refine lP (h:=?_);refine bE rfl rfl (b7 (v:= .int .i64 y.t.ck) rfl RL qE (i:=m*21+1) (by omega) (cG hy (j:=1) rfl)) ?_;refine lP (h:=Bt (h:=?_));by_cases cE:y.t.ck=x.t.ck
   ·refine Ei (h:=xT (h:=wW (h:=eM (h:=?_))));refine aZ 11 (aX [5] [0,1,2,3,4,5,6,7,8,9,10]) [Sl 21 a3 L.length c3 (av L),Row p5 0 x.cells,A] ?_;refine dK (h:=?_);refine au rfl (aY (j:=m) rfl rfl qE rfl (by omega)) ?_;refine au rfl (eQ (us:=y.cells) rfl RL qE (i:=m*21) rfl rfl fun k v hv=>cG hy hv) ?_;refine iA (h:=?_);refine aE rfl (aq (vs:=[y.val,x.val]) rfl (Zh y x (I y gG) (I x iJ) (bn y gG) (bn x iJ)) rfl ?_);rintro v B ⟨q,e,rfl,rfl⟩;refine dc (h:=kC (h:=?_));cases q with
    |true=>
     refine aA (h:=?_);refine bK rfl rfl RL (j:=m) rfl (by omega) rfl fun b5 Oj qF=>?_;refine dO (h:=?_);refine j4 (us:=x.cells) rfl rfl rfl (TZ.one x) qF (i:=m*21) rfl (by rw[da];show m*21+21≤_;omega) ?_;rw[qD L m x (by omega)];have hb:=back (i+1,L.set m x,a3,c3) ⟨by dsimp only;omega,fun w hw=>by
      rcases zag hw with h|rfl
      ·exact hL w h
      ·exact iJ,by dsimp only;rw[zH];omega⟩ (by dsimp only;omega)
     dsimp only at hb;rw[zH]at hb;refine Wq ?_;exact aV hb
    |false=>
     refine Wq ?_;exact aV (back (i+1,L,a3,c3) ⟨by dsimp only;omega,hL,by dsimp only;omega⟩ (by dsimp only;omega))
   ·refine bE rfl rfl (Ru rfl rfl (by omega)) ?_;refine xT (h:=dU (h:=aA (h:=?_)));refine cf rfl (by rfl) (by rfl) (by rfl) (by rfl) rfl fun a2=>?_;refine aw (h:=?_);refine cF rfl rfl (by rfl) (by rfl) (TZ.one x) (by omega) rfl fun a4 c4 gI=>?_;have hb:=back (i+1,L++[x],a4,c4) ⟨by dsimp only;omega,fun w hw=>by
     rcases zL.1 hw with h|h
     ·exact hL w h
     ·rw[zbr.1 h];exact iJ,by dsimp only;rw[zd];simp;omega⟩ (by dsimp only;omega)
    dsimp only at hb;rw[zd,zC,jQ,nF]at hb;refine Wq ?_;exact aV hb
 ·obtain rfl:i=l.length:=by omega
  refine Wq ?_;exact ap rfl [A,Sl 21 a3 L.length c3 (av L)] ⟨L,a3,c3,rfl,rfl,hL,kd⟩ Sub.h
end
section
open Go.Proofs Tryz
open Go.Proofs Go.RowKit
theorem Zj{A:HP}{ad:Option Addr}{cap a:Nat}{l:List TZ}(R:Reads A 21 ad l.length (av l))(I:bR A l)(bn:∀z∈l,z.t.ok=true)(hf:∀z∈l,z.t.bx=a)(hl:l.length≤2^20):
 Spec prog 110 [.slice ad l.length cap,.agg ji.toArray] [A] (fun v B=>∃(L:List TZ) (a':Option Addr) (c:Nat),v= .slice a' L.length c∧B=[A,Sl 21 a' L.length c (av L)]∧(∀w∈L,w∈l)∧jN a (bu L)):=by
 refine x_sp func110 ntmps110 fun E cs Γ=>?_;refine dx (h:=?_);refine ao (aM rfl rfl fun p3=>?_);refine Wq ?_;refine aJ rfl (Zi R I bn hl) rfl ?_;rintro v B ⟨r,ar,cr,rfl,rfl,hr,Es⟩;refine a_ (h:=?_);have RR:=Sl.reads 21 ar r.length cr (av r) (da _);refine ao (yG rfl rfl ?_);refine Ar (h:=?_);refine eL (α:=List TZ×Option Addr×Nat) (fun q=>q.1.length≤6∧(∀w∈q.1,w∈l)∧∀(i:Nat) (z:TZ),q.1[i]? =some z→z.t.ck=i) (fun q=>[(5,.slice q.2.1 q.1.length q.2.2),(3,dp p3)]) (fun q=>Sl 21 q.2.1 q.1.length q.2.2 (av q.1)::Row p3 0 ji::A::Γ) ?_ ?_
 ·rintro⟨L,a5,c5⟩ ⟨h6,hL,tU⟩;dsimp only at h6 hL tU⊢;have RL:=Sl.reads 21 a5 L.length c5 (av L) (da _);refine kN (fun E w s=>s.jJ.2.1) fun jy=>?_;refine gy (Γ':=Sep [Sl 21 a5 L.length c5 (av L),A]::Row p3 0 ji::Γ) (fun E w s=>(ak.cA [_,_] _).st (Sub.h.st s)) ?_;refine aA (h:=?_);refine aq (vs:=[.slice a5 L.length c5,uv 18446744073709551616]) rfl (V6 (A:=Sep [Sl 21 a5 L.length c5 (av L),A]) (RL.sep (by simp)) (bR.sep (A:=A) (fun w hw=>I w (hL w hw)) (by simp)) (fun w hw=>bn w (hL w hw)) (by decide) (by omega)) rfl ?_;rintro v B ⟨k,rfl,rfl,hk,u5⟩;refine rc (h:=?_);refine qP rfl rfl (jh:=k) rfl (by omega) rfl ?_;refine bU (h:=?_);have fx:(L.take k).length=k:=by rw[zw];omega
  refine ap rfl [A,Sl 21 a5 (L.take k).length c5 (av (L.take k))] ⟨L.take k,a5,c5,by rw[fx];rfl,rfl,fun w hw=>hL w (zaD hw),⟨by rw[zm];omega,fun i t ht=>?_,by rw[←DR];exact u5⟩⟩ ?_
  ·rw[zf,zad]at ht;obtain⟨z,hz,rfl⟩:=ht;have pD:L[i]? =some z:=by
    rw[zbb]at hz;split at hz
    ·exact hz
    ·cases hz
   have fB:=hL z (zc pD);exact⟨hf z fB,tU i z pD,bn z fB,(I z fB).wf⟩
  ·refine ak.trans (Δ:=Sl 21 a5 L.length c5 (av L)::A::Row p3 0 ji::Γ) (ak.cx [Sl 21 a5 L.length c5 (av L),A] (Row p3 0 ji::Γ)) ?_;have:=ak.NZ (a:=a5) (s:=21) (len:=L.length) (cap:=c5) (k:=k) (xs:=av L) hk (A::Γ);rw[Et L k hk]at this;rw[fx];exact(Sub.h (Δ:=Sl 21 a5 L.length c5 (av L)::A::Γ)).trans (this.trans Sub.h)
 intro td fin;refine eW (h:=?_);refine aQ (α:=Nat×List TZ×Option Addr×Nat) (fun q=>q.1≤r.length∧q.2.1.length≤6∧(∀w∈q.2.1,w∈l)∧∀(i:Nat) (z:TZ),q.2.1[i]? =some z→z.t.ck=i) (fun q=>[(11,iv q.1),(10,iv r.length),(9,.slice ar r.length cr),(5,.slice q.2.2.1 q.2.1.length q.2.2.2),(3,dp p3)]) (fun q=>Sl 21 q.2.2.1 q.2.1.length q.2.2.2 (av q.2.1)::Sl 21 ar r.length cr (av r)::Row p3 0 ji::A::Γ) (fun q=>r.length-q.1) (0,[],none,0) ⟨zj _,by simp,fun w hw=>(by cases hw),fun i z h=>by simp at h⟩ x_tv ((ak.cq 21 _).trans (Sub.h (Δ:=Sl 21 none 0 0 []::Sl 21 ar r.length cr (av r)::Row p3 0 ji::A::Γ))) ?_;rintro⟨i,L,a5,c5⟩ ⟨hi,h6,hL,tU⟩ back;dsimp only at hi h6 hL tU back⊢;by_cases h:i<r.length
 ·obtain⟨x,hx⟩:=bc (l:=r) (i:=i) h;have iJ:=hr x (zc hx);obtain⟨_,_,f3,_⟩:=mr (bn x iJ);have f3':¬x.t.ck<0:=by omega
  refine nB (h:=?_);refine bK rfl rfl RR (j:=i) rfl h rfl fun b off ha=>?_;refine aw (h:=?_);refine dA rfl RR ha (i:=i*21) (us:=x.cells) (by omega) rfl (fun j v hv=>cG hx hv) rfl ?_;refine ao (aC rfl fun p7=>?_);refine Wq ?_;by_cases h66:L.length=6
  ·have Zk:((L.length:Nat):Int)=6:=by omega
   refine Wq ?_;exact aV (fin (L,a5,c5) ⟨h6,hL,tU⟩)
  ·have Zk:¬((L.length:Nat):Int)=6:=by omega
   refine Wq ?_;by_cases cE:x.t.ck=0+(L.length:Int)
   ·refine aA (h:=?_);refine cf rfl (by rfl) (by rfl) (by rfl) (by rfl) rfl fun a2=>?_;refine aw (h:=?_);refine cF rfl rfl (by rfl) (by rfl) (TZ.one x) (by omega) rfl fun a4 c4 gI=>?_;have hb:=back (i+1,L++[x],a4,c4) ⟨by dsimp only;omega,by dsimp only;rw[zd];simp;omega,fun w hw=>by
     rcases zL.1 hw with h|h
     ·exact hL w h
     ·rw[zbr.1 h];exact iJ,fun j z hz=>by
     by_cases hj:j<L.length
     ·rw[zt hj]at hz;exact tU j z hz
     ·rw[zz (by omega)]at hz;have h0:j-L.length=0:=by have:=(List.getElem?_eq_some_iff.1 hz).1;simp at this;omega
      rw[h0]at hz;cases hz;rw[cE];omega⟩ (by dsimp only;omega)
    dsimp only at hb;rw[zd,zC,jQ,nF]at hb;refine Wq ?_;exact aV hb
   ·refine Wq ?_;exact aV (fin (L,a5,c5) ⟨h6,hL,tU⟩)
 ·obtain rfl:i=r.length:=by omega
  refine j_ (h:=?_);exact aV (fin (L,a5,c5) ⟨h6,hL,tU⟩)
end
section
open Go.Proofs Tryz
theorem OM{T:List TX}(hT:(T.map TX.id).Nodup){x y:TX}(hx:x∈T)(hy:y∈T)(h:x.id=y.id):x=y:=by
 obtain⟨i,hi⟩:=zk hx;obtain⟨j,hj⟩:=zk hy;have h1:(T.map TX.id)[i]? =some x.id:=by rw[zf,hi];rfl
 have h2:(T.map TX.id)[j]? =some x.id:=by rw[zf,hj,h];rfl
 have e:=(zbg (List.getElem?_eq_some_iff.1 h1).1 hT).1 (h1.trans h2.symm);subst e;rw[hi]at hj;exact zD hj
theorem Zl{cs:List (List TX)}(h:kA cs):cs.flatten.Nodup:=by
 unfold List.Nodup;rw[List.pairwise_flatten];constructor
 ·intro c hc;obtain⟨a,ha⟩:=zk hc;rw[za5];intro i j hi hj jk e;have h1:=(h.ch a c ha).aO i c[i] (za hi);have h2:=(h.ch a c ha).aO j c[j] (za hj);rw[e]at h1;have:=h1.2.1.symm.trans h2.2.1;omega
 ·rw[za5];intro i j hi hj jk x hx y hy e;obtain⟨u,hu⟩:=zk hx;obtain⟨v,hv⟩:=zk hy;have h1:=(h.ch i cs[i] (za hi)).aO u x hu;have h2:=(h.ch j cs[j] (za hj)).aO v y hv;rw[e]at h1;have:=h1.1.symm.trans h2.1;omega
theorem Zm{cs:List (List TX)}(h:kA cs){T:List TX}(hT:(T.map TX.id).Nodup)(hm:∀t∈cs.flatten,t∈T):iH cs.flatten:=by
 refine⟨⟨cs,h,rfl⟩,?_⟩;unfold List.Nodup;rw[List.pairwise_map];exact List.Pairwise.imp_of_mem (fun hx hy cE e=>cE (OM hT (hm _ hx) (hm _ hy) e)) (Zl h)
end
section
open Go.Proofs Tryz
open Go.Proofs Go.RowKit
structure LN where
 l:List TZ
 a:Option Addr
 c:Nat
abbrev LN.v(q:LN):Value:= .slice q.a q.l.length q.c
def eO(_:Nat)(q:LN):HP:=Sl 21 q.a q.l.length q.c (av q.l)
abbrev mF:LN:=⟨[],none,0⟩
theorem ak.ON:∀(m k:Nat) (Γ:List HP),ak Γ (Sep (dN eO k (List.replicate m mF))::Γ)
 |0,k,Γ=>(ak.cA [] Γ)
 |m+1,k,Γ=>by
  refine(ak.ON m (k+1) Γ).trans ((ak.cq 21 _).trans ?_);exact(ak.cons _ (ak.cx _ _)).trans (ak.cA (eO k mF::dN eO (k+1) (List.replicate m mF)) Γ)
end
section
open Go.Proofs Tryz
open Go.Proofs Go.RowKit
def lane(a:Nat)(l:List TZ):List TZ:=l.filter fun z=>decide (z.t.bx=(a:Int))
theorem OO{a:Nat}{l:List TZ}{z:TZ}(h:z∈lane a l):z∈l∧z.t.bx=a:=by
 obtain⟨h1,h2⟩:=List.mem_filter.1 h;exact⟨h1,by simpa using h2⟩
theorem Zn{a:Nat}{l:List TZ}{x:TZ}(h:x.t.bx=a):lane a (l++[x])=lane a l++[x]:=by
 unfold lane;rw[zbc];simp[h]
theorem Zo{a:Nat}{l:List TZ}{x:TZ}(h:x.t.bx≠a):lane a (l++[x])=lane a l:=by
 unfold lane;rw[zbc];simp[h]
structure sf(q:List LN)(l:List TZ):Prop where
 len:q.length=8
 aO:∀(a:Nat) (n:LN),q[a]? =some n→n.l=lane a l
theorem sf.nil:sf (List.replicate 8 mF) []:=⟨by simp,fun a n h=>by
 rw[zaV]at h;split at h
 ·cases h;rfl
 ·cases h⟩
theorem sf.put{q:List LN}{l:List TZ}(h:sf q l){x:TZ}{a:Nat}(ha:x.t.bx=a){n:LN}(hn:q[a]? =some n)(a4:Option Addr)(c4:Nat):sf (q.set a ⟨n.l++[x],a4,c4⟩) (l++[x])where
 len:=by rw[zH];exact h.len
 aO:=fun b m hm=>by
  rw[zae]at hm;by_cases e:a=b
  ·subst e;rw[if_pos rfl]at hm;split at hm
   ·cases hm;rw[Zn ha,←h.aO a n hn]
   ·cases hm
  ·rw[if_neg e]at hm;rw[Zo (by rw[ha];omega)];exact h.aO b m hm
theorem Zp{α:Type}(G:Nat→α→HP)(xs:List α){i:Nat}{x:α}(h:xs[i]? =some x):G i x∈dN G 0 xs:=by
 obtain⟨hl,rfl⟩:=List.getElem?_eq_some_iff.1 h;have:=(dN.focus G xs 0 i hl).mem_iff (a:=G i xs[i]);rw[zO]at this;exact this.2 (by simp)
theorem Zq{q:List LN}{i:Nat}{n:LN}(h:q[i]? =some n)(B:HP):Reads (Sep [dT eO q,B]) 21 n.a n.l.length (av n.l):=
 Reads.sep (A:=dT eO q) (Reads.sep (A:=eO i n) (Sl.reads 21 n.a n.l.length n.c (av n.l) (da _)) (Zp eO q h)) (by simp)
abbrev qG(z:BZ)(n:Nat)(a:Option Addr)(c:Nat):List Value:=[.int .i64 z.room,.int .i64 0,.int .u64 0,.int .u64 0,.int .u64 0,.int .u64 0,.int .i64 0,.slice z.aa 8 z.ca,.slice a n c,.slice z.al 0 z.cl]
theorem ak.OP(Γ:List HP):ak Γ (dT eO (List.replicate 8 mF)::Γ):=ak.ON 8 0 Γ
theorem Zr{A C:HP}(z:BZ)(ra:Reads A 5 z.aa 8 kH)(lo:1024≤z.room)(hi:z.room≤1048576){ad:Option Addr}{cap:Nat}{l:List TZ}(R:Reads C 21 ad l.length (av l))(I:bR C l)(bn:∀w∈l,w.t.ok=true)(lg:((bu l).map TX.id).Nodup)(hl:l.length≤2^20):
 Spec prog 68 [z.val,.slice ad l.length cap] [A,C] (fun v B=>∃(k:PH) (z':BZ),v=z'.val∧B=[A,C,Mem k]∧z'.In (Mem k)∧z'.room=z.room∧cR z'.l≤z.room∧∀t∈bu z'.l,t∈bu l):=by
 refine x_sp func68 ntmps68 fun E cs Γ=>?_;refine dx (h:=?_);refine ao (aM rfl rfl fun p2=>?_);refine ao (aC rfl fun p4=>?_);refine eR (h:=l9 (h:=?_));refine F1 (m:=8) rfl rfl rfl rfl (by rfl) (by omega) (by omega) rfl fun a5=>?_;rw[show zs [Value.slice none 0 0] 8=(List.replicate 8 mF).map LN.v from rfl];refine Wq ?_;refine aJ rfl (Zf R I hl) rfl ?_;rintro v B ⟨k,l',a',c',rfl,rfl,hp,I'⟩;have lh:l'.length=l.length:=by have:=hp.length_eq;simpa using this
 have nG:∀w∈l',w.t.ok=true:=fun w hw=>by
  obtain⟨y,hy,e⟩:=zbY.1 (hp.mem_iff.1 (zbY.2 ⟨w,hw,rfl⟩));rw[←e];exact bn y hy
 have RR:=Sl.reads 21 a' l'.length c' (av l') (da _);refine bW (h:=?_);refine aQ (α:=Nat×List LN) (fun q=>q.1≤l'.length∧sf q.2 (l'.take q.1)) (fun q=>[(14,iv q.1),(13,iv l'.length),(12,.slice a' l'.length c'),(5,.slice a5 8 8),(4,dp p4),(2,dp p2)])
  (fun q=>Sl 1 a5 8 8 (q.2.map LN.v)::dT eO q.2::Sl 21 a' l'.length c' (av l')::Mem k::Row p4 0 eH::Row p2 0 z.cells::A::C::Γ) (fun q=>l'.length-q.1) (0,List.replicate 8 mF) ⟨zj _,sf.nil⟩ ⟨rfl,rfl,rfl,rfl,rfl,rfl,trivial⟩
  ((ak.OP _).trans (Sub.h (Δ:=Sl 1 a5 8 8 ((List.replicate 8 mF).map LN.v)::dT eO (List.replicate 8 mF)::Sl 21 a' l'.length c' (av l')::Mem k::Row p4 0 eH::Row p2 0 z.cells::A::C::Γ))) ?_
 rintro⟨i,q⟩ ⟨fS,hq⟩ back;dsimp only at fS hq back⊢;refine bQ (h:=?_);by_cases h:i<l'.length
 ·obtain⟨x,hx⟩:=bc (l:=l') (i:=i) h;obtain⟨f1,f2,_⟩:=mr (nG x (zc hx));obtain⟨a,ha⟩:∃a:Nat,x.t.bx=a:=⟨x.t.bx.toNat,by omega⟩
  have kF:a<q.length:=by rw[hq.len];omega
  obtain⟨n,hn⟩:=bc (l:=q) (i:=a) kF;have sc:q[a]=n:=(List.getElem?_eq_some_iff.1 hn).2;have vD:n.l.length≤l'.length:=by
   rw[hq.aO a n hn];exact z9 (zaR _ _) (by rw[zw];omega)
  refine aA (h:=?_);refine bK rfl rfl RR (j:=i) rfl h rfl fun b off jI=>?_;refine aw (h:=?_);refine dA rfl RR jI (i:=i*21) (us:=x.cells) (by omega) rfl (fun j v hv=>cG hx hv) rfl ?_;refine ao (aC rfl fun p7=>?_);refine mS (h:=?_);have qH:(q.map LN.v).length=8:=by rw[zm];exact hq.len
  have R5:=Sl.reads 1 a5 8 8 (q.map LN.v) (by rw[qH]);refine jw R5 (by omega) fun b5 Oj qF=>?_;refine bJ (Γ':=eO a q[a]::fb eO q a::Sl 1 a5 8 8 (q.map LN.v)::Row p7 0 x.cells::Sl 21 a' l'.length c' (av l')::Mem k::Row p4 0 eH::Row p2 0 z.cells::A::C::Γ) ((Sub.h (Δ:=dT eO q::Sl 1 a5 8 8 (q.map LN.v)::Row p7 0 x.cells::Sl 21 a' l'.length c' (av l')::Mem k::Row p4 0 eH::Row p2 0 z.cells::A::C::Γ)).trans (ak.focus eO q a kF _)) ?_;rw[sc,show eO a n=Sl 21 n.a n.l.length n.c (av n.l)from rfl];refine aZ 12 (aX [9,10,12] [0,1,2,3,4,5,6,7,8,9,10,11,12]) [Sl 1 a5 8 8 (q.map LN.v),Row p7 0 x.cells] ?_;refine Ws ?_;refine au rfl (aY rfl rfl qF (j:=a) ha (by omega)) ?_;refine au rfl (b7 rfl R5 qF (i:=a) (by omega) (v:=n.v) (by rw[zf,hn];rfl)) ?_;refine iA (h:=?_);refine aE rfl (cf rfl (by rfl) (by rfl) (by rfl) (by rfl) rfl fun a2=>⟨bd,?_⟩);refine aE rfl (cF rfl rfl (by rfl) (by rfl) (TZ.one x) (by omega) rfl fun a4 c4 gI=>⟨bd,?_⟩);skip;refine au rfl (aY rfl rfl qF (j:=a) ha (by omega)) ?_;refine bN rfl rfl (gm rfl rfl rfl qF (i:=a) (by omega) (by omega) ?_);refine dU (h:=?_);have hb:=back (i+1,q.set a ⟨n.l++[x],a4,c4⟩) ⟨by dsimp only;omega,by
   dsimp only;rw[zp,hx];exact hq.put ha hn a4 c4⟩ (by dsimp only;omega)
  dsimp only at hb;refine Wq ?_;refine bf hb ⟨rfl,rfl,rfl,rfl,rfl,rfl,trivial⟩ ?_;refine(Sub.h (Δ:=Sl 21 a4 (n.l.length+1) c4 (av n.l++x.cells)::fb eO q a::Sl 1 a5 8 8 ((q.map LN.v).set a (.slice a4 (n.l.length+1) c4))::Sl 21 a' l'.length c' (av l')::Mem k::Row p4 0 eH::Row p2 0 z.cells::A::C::Γ)).trans ?_;have hu:=ak.wT eO q a ⟨n.l++[x],a4,c4⟩ kF (Sl 1 a5 8 8 ((q.map LN.v).set a (.slice a4 (n.l.length+1) c4))::Sl 21 a' l'.length c' (av l')::Mem k::Row p4 0 eH::Row p2 0 z.cells::A::C::Γ);rw[show eO a ⟨n.l++[x],a4,c4⟩=Sl 21 a4 (n.l++[x]).length c4 (av (n.l++[x]))from rfl,zd,zC,jQ,nF]at hu;refine hu.trans ?_;have e:(q.set a ⟨n.l++[x],a4,c4⟩).map LN.v=(q.map LN.v).set a (.slice a4 (n.l.length+1) c4):=by
   rw[zak];congr 1;unfold LN.v;simp
  rw[e];exact Sub.h
 obtain rfl:i=l'.length:=by omega
 rw[zu]at hq;refine Wq ?_;refine gy (Γ':=Sep [dT eO q,Mem k]::Sl 1 a5 8 8 (q.map LN.v)::Row p4 0 eH::Row p2 0 (qG z 0 none 0)::A::C::Γ) (fun E w s=>(ak.cA [_,_] _).st (Sub.h.st s)) ?_;have qH:(q.map LN.v).length=8:=by rw[zm];exact hq.len
 have R5:=Sl.reads 1 a5 8 8 (q.map LN.v) (by rw[qH]);refine aQ (α:=Nat×List TZ×Option Addr×Nat×List (List TX)) (fun w=>w.1≤8∧w.2.1.length≤6*w.1∧bu w.2.1=w.2.2.2.2.flatten∧w.2.2.2.2.length=w.1∧(∀(a:Nat) (c:List TX),w.2.2.2.2[a]? =some c→jN a c)∧∀t∈w.2.1,t∈l') (fun w=>[(34,iv w.1),(33,iv (8:Nat)),(32,.slice a5 8 8),(4,dp p4),(2,dp p2)])
  (fun w=>Sl 21 w.2.2.1 w.2.1.length w.2.2.2.1 (av w.2.1)::Sep [dT eO q,Mem k]::Sl 1 a5 8 8 (q.map LN.v)::Row p4 0 eH::Row p2 0 (qG z w.2.1.length w.2.2.1 w.2.2.2.1)::A::C::Γ) (fun w=>8-w.1) (0,[],none,0,[]) ⟨by decide,by decide,rfl,rfl,(fun a c h=>by simp at h),(fun t h=>by cases h)⟩ ⟨rfl,rfl,rfl,rfl,rfl,trivial⟩
  ((ak.cq 21 _).trans (Sub.h (Δ:=Sl 21 none 0 0 []::Sep [dT eO q,Mem k]::Sl 1 a5 8 8 (q.map LN.v)::Row p4 0 eH::Row p2 0 (qG z 0 none 0)::A::C::Γ))) ?_
 rintro⟨i,L,a3,c3,rX⟩ ⟨Iu,Ey,hL,fj,lQ,oO⟩ back;dsimp only at Iu Ey hL fj lQ oO back⊢;refine bQ (h:=?_);by_cases h:i<8
 ·obtain⟨n,hn⟩:∃n,q[i]? =some n:=⟨_,za (by rw[hq.len];exact h)⟩
  have vD:=hq.aO i n hn;have fG:∀w∈n.l,w∈l'∧w.t.bx=i:=fun w hw=>OO (vD ▸ hw);have acR:n.l.length≤l'.length:=by rw[vD];exact zaR _ _
  refine aA (h:=?_);refine bK rfl rfl R5 (j:=i) rfl h rfl fun b off ha=>?_;refine aw (h:=?_);refine fM rfl R5 ha (i:=i) (by omega) (v:=n.v) (by rw[zf,hn];rfl) rfl ?_;refine qh (h:=?_);refine jw ra (by omega) fun bA acS OQ=>?_;refine aZ 11 (aX [8,9,11] [0,1,2,3,4,5,6,7,8,9,10,11]) [A,Row p2 0 (qG z L.length a3 c3)] ?_;refine Ws ?_;refine au rfl (aY rfl rfl OQ (j:=i) rfl (by omega)) ?_;refine au rfl (eQ rfl ra OQ (i:=i*5) (us:=ji) (by omega) rfl fun j v hv=>rQ h hv) ?_;skip;refine aE rfl (aq (vs:=[n.v,.agg ji.toArray]) rfl (Zj (A:=Sep [dT eO q,Mem k]) (Zq hn (Mem k)) (bR.sep (A:=Mem k) (fun w hw=>I' w (fG w hw).1) (by simp)) (fun w hw=>nG w (fG w hw).1) (fun w hw=>(fG w hw).2) (by omega)) rfl ?_);rintro v B ⟨L1,a1,c1,rfl,rfl,Iv,OR⟩;refine kx (h:=?_);have acT:L1.length≤6:=by have:=OR.len;simpa using this
  refine a_ (h:=?_);refine aE rfl (cF rfl rfl (by rfl) (by rfl) (xX L1) (by omega) rfl fun a4 c4 gI=>⟨bd,?_⟩);refine j6 (h:=?_);refine bN rfl rfl (eZ rfl rfl rfl rfl (by simp) ?_);refine dU (h:=?_);have hb:=back (i+1,L++L1,a4,c4,rX++[bu L1]) ⟨by dsimp only;omega,by dsimp only;rw[zd];omega,by
   show(L++L1).map TZ.t=_;rw[zg,show L.map TZ.t=rX.flatten from hL];simp,by dsimp only;rw[zd,fj];rfl,fun a c hc=>by
   dsimp only at hc;by_cases ha:a<rX.length
   ·rw[zt ha]at hc;exact lQ a c hc
   ·rw[zz (by omega)]at hc;have h0:a-rX.length=0:=by have:=(List.getElem?_eq_some_iff.1 hc).1;simp at this;omega
    rw[h0]at hc;cases hc;rw[show a=i by omega];exact OR,fun t ht=>by
   rcases zL.1 ht with ht|ht
   ·exact oO t ht
   ·exact(fG t (Iv t ht)).1⟩ (by dsimp only;omega)
  dsimp only at hb;rw[zd,jQ]at hb;rw[show(qG z L.length a3 c3).set (0+8-0) (.slice a4 (L.length+L1.length) c4)=qG z (L.length+L1.length) a4 c4 from rfl];refine Wq ?_;exact aV hb
 obtain rfl:i=8:=by omega
 have hT:((bu l').map TX.id).Nodup:=(hp.map TX.id).nodup_iff.2 lg;have hW:iH (bu L):=by
  rw[hL];refine Zm ⟨fj,lQ⟩ hT fun t ht=>?_;rw[←hL]at ht;obtain⟨w,hw,rfl⟩:=zbY.1 ht;exact zbY.2 ⟨w,oO w hw,rfl⟩
 refine ya (h:=?_);refine gy (Γ':=Sl 21 a3 L.length c3 (av L)::Mem k::Row p4 0 eH::Row p2 0 (qG z L.length a3 c3)::A::C::Γ) (fun E w s=>(Sub.h (Δ:=Sl 21 a3 L.length c3 (av L)::Mem k::Row p4 0 eH::Row p2 0 (qG z L.length a3 c3)::A::C::Γ)).st ((ak.cx [dT eO q,Mem k] (Sl 21 a3 L.length c3 (av L)::Row p4 0 eH::Row p2 0 (qG z L.length a3 c3)::A::C::Γ)).st (Sub.h.st s))) ?_;refine fw a3 (h:=k) fun k2 bH R2 eV=>?_;refine gy (Γ':=Sep [A,Mem k2]::Row p4 0 eH::Row p2 0 (qG z L.length a3 c3)::C::Γ) (fun E w s=>(ak.cA [_,_] _).st (Sub.h.st s)) ?_;have Iz:({z with l:=L,ad:=a3,ct:=c3}:BZ).In (Sep [A,Mem k2]):=⟨ra.sep (by simp),Reads.sep (A:=Mem k2) R2 (by simp),bR.sep (A:=Mem k2) (fun w hw=>(I' w (oO w hw)).up bH) (by simp),eV,hW,lo,hi⟩
 refine aA (h:=?_);refine aq (vs:=[BZ.val {z with l:=L,ad:=a3,ct:=c3}]) rfl (Om _ Iz) rfl ?_;rintro v B ⟨k3,z',D,aD,cD,rfl,rfl,I3,Zs,Zt,-,oN⟩;refine bW (h:=?_);refine bP (rs:=[.cell 4 31]) (vs:=[z'.val]) ⟨bG (us:=z'.cells) rfl rfl,trivial⟩ [A,C,Mem k3] ⟨k3,z',rfl,rfl,I3,Zs,Zt,fun t ht=>?_⟩ ?_
 ·have h1:=oN.mem_iff.1 (zK (bu D) ht);obtain⟨w,hw,rfl⟩:=zbY.1 h1;exact hp.mem_iff.1 (zbY.2 ⟨w,oO w hw,rfl⟩)
 ·exact(Sub.h (Δ:=Sep [A,Mem k2]::C::Mem k3::Γ)).trans ((ak.cx [A,Mem k2] (C::Mem k3::Γ)).trans Sub.h)
end
end Go.Proofs.YtacfncmndodlpaaGreat
