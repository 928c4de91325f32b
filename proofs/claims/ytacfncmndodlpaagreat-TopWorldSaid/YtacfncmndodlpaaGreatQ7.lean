/- Part of a proof over the seat YtacfncmndodlpaaGreat. Its claim's last module says what is proved. -/
import Derived.Test.YtacfncmndodlpaaGreatQ5
set_option linter.all false
set_option maxHeartbeats 12800000
namespace Go.Proofs.YtacfncmndodlpaaGreat
section
open Go.Proofs Tryz
open Go.Proofs Go.RowKit
theorem HV{a b:Nat}(ha:a<aT)(hb:b<aT):Spec prog 12 [uv a,uv b] [] (fun v B=>v= .int .i64 (cV a b)∧B=[]):=by
 refine x_sp func12 ntmps12 fun E cs Γ=>?_;refine lL (h:=?_);refine ao (aM rfl rfl fun p2=>?_);refine ao (aM rfl rfl fun p3=>?_);refine Wq ?_;refine aQ (α:=Nat) (fun k=>k≤4∧∀j,4≤j+k→j<4→ay a j=ay b j) (fun k=>[(5,iv (3-k)),(3,dp p3),(2,dp p2)])
  (fun _=>Row p3 0 (uc b)::Row p2 0 (uc a)::Γ) (fun k=>4-k) 0 ⟨by omega,fun j h1 h2=>by omega⟩ x_tv Sub.h ?_
 rintro k ⟨hk,up⟩ back;refine lN (h:=?_);by_cases h:k<4
 ·obtain⟨i,hi⟩:∃i,i=3-k:=⟨_,rfl⟩
  have fc:i<4:=by omega
  refine Wq ?_;refine aZ 7 (aX [] [0,1,2,3,4,5,6]) [Row p2 0 (uc a),Row p3 0 (uc b)] ?_;refine dD (h:=?_);refine au rfl (du (j:=i) rfl rfl (by omega) fc) ?_;refine au rfl (fk (i:=i) rfl (by omega) (fO a fc)) ?_;refine dD (h:=?_);refine au rfl (du (j:=i) rfl rfl (by omega) fc) ?_;refine au rfl (fk (i:=i) rfl (by omega) (fO b fc)) ?_;by_cases aN:ay a i<ay b i
  ·have hl:=Dg ha hb fc (fun j h1 h2=>up j (by omega) h2) aN;refine xh (h:=dQ (h:=?_));exact ap rfl [] ⟨by unfold cV;rw[if_pos hl];rfl,rfl⟩ Sub.h
  ·refine xi (h:=wW (h:=eM (h:=?_)));refine aZ 7 (aX [] [0,1,2,3,4,5,6]) [Row p2 0 (uc a),Row p3 0 (uc b)] ?_;refine dD (h:=?_);refine au rfl (du (j:=i) rfl rfl (by omega) fc) ?_;refine au rfl (fk (i:=i) rfl (by omega) (fO a fc)) ?_;refine dD (h:=?_);refine au rfl (du (j:=i) rfl rfl (by omega) fc) ?_;refine au rfl (fk (i:=i) rfl (by omega) (fO b fc)) ?_;by_cases kU:ay b i<ay a i
   ·have hl:=Dg hb ha fc (fun j h1 h2=>(up j (by omega) h2).symm) kU;refine au rfl (Kc rfl rfl (by omega)) ?_;refine dQ (h:=?_);exact ap rfl [] ⟨by unfold cV;rw[if_neg (by omega),if_pos hl];rfl,rfl⟩ Sub.h
   ·refine au rfl (FI rfl rfl (by omega)) ?_;refine dQ (h:=?_);rw[show(3-(k:Int)-1)=3-((k+1:Nat):Int)by omega];exact aV (back (k+1) ⟨by omega,fun j h1 h2=>by
     by_cases e:j=i
     ·subst e;omega
     ·exact up j (by omega) h2⟩ (by omega))
 ·obtain rfl:k=4:=by omega
  have e:=cmp_eq ha hb fun j h2=>up j (by omega) h2;refine Wq ?_;exact ap rfl [] ⟨by unfold cV;rw[if_neg (by omega),if_neg (by omega)];rfl,rfl⟩ Sub.h
def fp(a i:Nat):Nat:=ay a (i/2)/2^(32*(i%2))%4294967296
theorem Ng(a i:Nat):fp a i<4294967296:=za0 _ (by decide)
theorem Nh{a i:Nat}(hi:i<8):Spec prog 229 [uv a,.int .i64 i] [] (fun v B=>v=nv (fp a i)∧B=[]):=by
 refine x_sp func229 ntmps229 fun E cs Γ=>?_;refine lL (h:=?_);refine ao (aM rfl rfl fun p2=>?_);refine aA (h:=?_);refine dd (j:=i/2) rfl rfl (by omega) (by omega) rfl ?_;refine aw (h:=?_);refine iF (i:=i/2) rfl (by omega) (fO a (by omega)) rfl ?_;refine iu (h:=Dj (h:=G0 (h:=aw (h:=?_))));refine bL (mj (b:=32*(i%2)) rfl rfl (by omega) (by simp[IntKind.bits];omega)) rfl ?_;have oE:=fE a (i/2);refine aw (h:=?_);refine bL (j5 (fp a i) rfl rfl (zaI (zbv _ _) oE) (by decide) (.inl ⟨rfl,(zba _ 32).symm⟩)) rfl ?_;refine bU (h:=?_);exact ap rfl [] ⟨rfl,rfl⟩ Sub.h
theorem xM{n:Nat}(h:n<2^63):Spec prog 132 [.int .i64 n] [] (fun v B=>v=uv n∧B=[]):=by
 refine x_sp func132 ntmps132 fun E cs Γ=>?_;refine gi (h:=?_);refine ao (aC rfl fun p2=>?_);refine uM (h:=fv (h:=?_));refine ft rfl rfl ?_;rw[nY (by omega)];refine aw (h:=?_);refine tn rfl (by rfl) rfl ?_;refine dO (h:=?_);refine jH (us:=[nv n,nv 0,nv 0,nv 0]) rfl rfl rfl rfl rfl (by simp) ?_;rw[←AO (by unfold aI;omega)];refine eR (h:=?_);exact bP (rs:=[.cell 2 24]) (vs:=[uv n]) ⟨bG rfl rfl,trivial⟩ [] ⟨rfl,rfl⟩ Sub.h
theorem HW{k:Nat}(hk:k<4):Spec prog 52 [.int .i64 k] [] (fun v B=>v= .int .i64 ((128*2^k:Nat):Int)∧B=[]):=by
 refine x_sp func52 ntmps52 fun E cs Γ=>?_;refine kD (h:=?_);have hi:k=0∨k=1∨k=2∨k=3:=by omega
 refine aw (h:=?_);refine FC rfl rfl ⟨by omega,by simp[IntKind.bits];omega⟩ (gE (by rcases hi with rfl|rfl|rfl|rfl<;>decide)) rfl ?_;refine bU (h:=?_);exact ap rfl [] ⟨by rcases hi with rfl|rfl|rfl|rfl<;>rfl,rfl⟩ Sub.h
theorem W1{x y c:Nat}(hx:x<aI)(hy:y<aI)(hc:c≤1):((x+y)%aI+c)%aI=(x+y+c)%aI∧(x+y+c)/aI=(if ((x+y)%aI+c)%aI<(x+y)%aI then 1 else if (x+y)%aI<x then 1 else 0):=by
 unfold aI at*;refine⟨by omega,?_⟩;split
 ·omega
 ·split<;>omega
theorem HX{a b:Nat}(ha:a<aT)(hb:b<aT):Spec prog 129 [uv a,uv b] [] (fun v B=>v= .tuple #[uv (if a+b<aT then a+b else 0),.bool (decide (a+b<aT))]∧B=[]):=by
 refine x_sp func129 ntmps129 fun E cs Γ=>?_;refine lL (h:=?_);refine ao (aM rfl rfl fun p2=>?_);refine ao (aM rfl rfl fun p3=>?_);refine ao (aC rfl fun p4=>?_);refine rE (h:=?_);refine ao (aC rfl fun p6=>?_);refine Wq ?_;refine aQ (α:=Nat) (fun i=>i≤4) (fun i=>[(8,iv i),(7,nv (fm a b i)),(6,dp p6),(4,dp p4),(3,dp p3),(2,dp p2),(5,.bool false)])
  (fun i=>Row p6 0 (tp (fun i=>(ay a i+ay b i+fm a b i)%aI) i)::Row p4 0 [nv 0,nv 0,nv 0,nv 0]::Row p3 0 (uc b)::Row p2 0 (uc a)::Γ) (fun i=>4-i) 0 (by omega) x_tv (Sub.h (Δ:=Row p6 0 [nv 0,nv 0,nv 0,nv 0]::Row p4 0 [nv 0,nv 0,nv 0,nv 0]::Row p3 0 (uc b)::Row p2 0 (uc a)::Γ)) ?_
 intro i hi back;refine lN (h:=?_);by_cases h:i<4
 ·have ar:=W1 (fE a i) (fE b i) (uS a b i);obtain⟨s,hs⟩:∃s,s=(ay a i+ay b i)%aI:=⟨_,rfl⟩
  rw[←hs]at ar;refine Wq ?_;refine aZ 7 (aX [] [0,1,2,3,4,5,6,7]) [Row p2 0 (uc a),Row p3 0 (uc b)] ?_;refine dD (h:=?_);refine au rfl (du rfl rfl rfl h) ?_;refine au rfl (fk (i:=i) rfl (by omega) (fO a h)) ?_;refine dD (h:=?_);refine au rfl (du rfl rfl rfl h) ?_;refine au rfl (fk (i:=i) rfl (by omega) (fO b h)) ?_;refine au rfl (pA rfl rfl) ?_;rw[show(ay a i+ay b i)%18446744073709551616=s from hs.symm];refine df (h:=aA (h:=?_));refine dd (j:=i) rfl rfl rfl h rfl ?_;refine aw (h:=?_);refine iF (i:=i) rfl (by omega) (fO a h) rfl ?_;have dk:=back (i+1) (by omega) (by omega);rw[show fm a b (i+1)=(ay a i+ay b i+fm a b i)/aI from rfl]at dk;by_cases g1:s<ay a i
  ·refine aA (h:=?_);refine bL (pA rfl rfl) rfl ?_;refine Wq ?_;by_cases g2:(s+fm a b i)%18446744073709551616<s
   ·refine aA (h:=?_);refine dd rfl rfl rfl h rfl ?_;refine dO (h:=?_);refine iS (i:=i) rfl rfl rfl (by omega) (by simpa[zN]using h) ?_;refine Wq ?_;rw[ar.2,if_pos g2]at dk;rw[show(s+fm a b i)%18446744073709551616=(ay a i+ay b i+fm a b i)%aI from ar.1,xg _ h];exact aV dk
   ·refine aA (h:=?_);refine dd rfl rfl rfl h rfl ?_;refine dO (h:=?_);refine iS (i:=i) rfl rfl rfl (by omega) (by simpa[zN]using h) ?_;refine Wq ?_;rw[ar.2,if_neg g2,if_pos g1]at dk;rw[show(s+fm a b i)%18446744073709551616=(ay a i+ay b i+fm a b i)%aI from ar.1,xg _ h];exact aV dk
  ·refine aA (h:=?_);refine bL (pA rfl rfl) rfl ?_;refine Wq ?_;by_cases g2:(s+fm a b i)%18446744073709551616<s
   ·refine aA (h:=?_);refine dd rfl rfl rfl h rfl ?_;refine dO (h:=?_);refine iS (i:=i) rfl rfl rfl (by omega) (by simpa[zN]using h) ?_;refine Wq ?_;rw[ar.2,if_pos g2]at dk;rw[show(s+fm a b i)%18446744073709551616=(ay a i+ay b i+fm a b i)%aI from ar.1,xg _ h];exact aV dk
   ·refine aA (h:=?_);refine dd rfl rfl rfl h rfl ?_;refine dO (h:=?_);refine iS (i:=i) rfl rfl rfl (by omega) (by simpa[zN]using h) ?_;refine Wq ?_;rw[ar.2,if_neg g2,if_neg g1]at dk;rw[show(s+fm a b i)%18446744073709551616=(ay a i+ay b i+fm a b i)%aI from ar.1,xg _ h];exact aV dk
 ·obtain rfl:i=4:=by omega
  obtain⟨h1,h2⟩:=LI ha hb;by_cases h0:fm a b 4>0
  ·have:=h1 h0;rw[if_neg (by omega),decide_eq_false (by omega)];refine Wq ?_;exact bP (rs:=[.cell 4 24,.tmp 5]) (vs:=[uv 0,.bool false]) ⟨bG rfl rfl,bO rfl,trivial⟩ [] ⟨rfl,rfl⟩ Sub.h
  ·obtain⟨h3,h4⟩:=h2 (by omega);rw[if_pos h3,decide_eq_true h3];rw[h4];refine Wq ?_;exact bP (rs:=[.cell 4 24,.tmp 5]) (vs:=[uv (a+b),.bool true]) ⟨bG rfl rfl,bO rfl,trivial⟩ [] ⟨rfl,rfl⟩ Sub.h
theorem W2{n:Nat}(hn:n≤1008):Spec prog 83 [.int .i64 n] [] (fun v B=>v= .tuple #[.int .i64 (mi n:Nat),.bool true]∧B=[]):=by
 refine x_sp func83 ntmps83 fun E cs Γ=>?_;refine kD (h:=?_);refine aQ (α:=Nat) (fun i=>i≤3∧∀k<i,¬(n:Int)≤((128*2^k:Nat):Int)-16) (fun i=>[(0,iv n),(4,iv i),(2,iv 0),(3,.bool false)]) (fun _=>Γ) (fun i=>4-i) 0 ⟨by omega,fun k h=>by omega⟩ ⟨rfl,rfl,rfl,rfl,trivial⟩ (.refl _) ?_;rintro i ⟨hi,hk⟩ back;refine lN (h:=?_);have fc:i=0∨i=1∨i=2∨i=3:=by omega
 have mb:128*2^i≤1024:=by rcases fc with rfl|rfl|rfl|rfl<;>decide
 refine Wq ?_;refine aJ rfl (HW (k:=i) (by omega)) rfl ?_;refine cS (h:=aw (h:=?_));refine FA rfl rfl (gE (by omega)) rfl ?_;refine aw (h:=?_);refine FE rfl rfl rfl (fun hl=>?_) (fun hl=>?_)
 ·have e:mi n=i:=by
   have h0:0<i→112<n:=fun h=>by have:=hk 0 h;simp at this;omega
   have h1:1<i→240<n:=fun h=>by have:=hk 1 h;simp at this;omega
   have h2:2<i→496<n:=fun h=>by have:=hk 2 h;simp at this;omega
   unfold mi;rcases fc with rfl|rfl|rfl|rfl<;>simp at hl<;>(repeat' split)<;>omega
  refine Wq ?_;exact ap rfl [] ⟨by rw[e];rfl,rfl⟩ Sub.h
 ·have:i<3:=by
   rcases fc with rfl|rfl|rfl|rfl<;>simp at hl<;>omega
  refine Wq ?_;exact aV (back (i+1) ⟨by omega,fun k h=>by
   rcases Nat.lt_succ_iff_lt_or_eq.1 h with h|rfl
   ·exact hk k h
   ·exact hl⟩ (by omega))
theorem vp(s:List UInt8):Spec prog 84 [tv s] [] (fun v B=>v=IZ.val (.aP s)∧B=[]):=by
 refine x_sp func84 ntmps84 fun E cs Γ=>?_;refine gi (h:=?_);refine ao (aC rfl fun p2=>?_);refine Wq ?_;exact bP (rs:=[.cell 2 179]) (vs:=[IZ.val (.aP s)]) ⟨bG (us:=IZ.cells (.aP s)) rfl rfl,trivial⟩ [] ⟨rfl,rfl⟩ Sub.h
theorem W3:aU 0=[]:=rfl
theorem HY{x:Nat}(h:0<x):aU x=aU (x/256)++[UInt8.ofNat (x%256)]:=by
 obtain⟨m,hm⟩:∃m,m=(bT (x/256)+7)/8:=⟨_,rfl⟩
 have hb:(bT x+7)/8=m+1:=by
  by_cases h2:256≤x
  ·have:=AJ (x:=x) (k:=8) (by simpa using h2);simp only[Nat.reducePow]at this;omega
  ·have e:x/256=0:=by omega
   have h3:=uR (a:=x) (k:=8) (by simp;omega);rw[e]at hm;have:bT 0=0:=rfl;have:0<bT x:=by unfold bT;rw[if_neg (by omega)];omega
   omega
 unfold aU;rw[hb,←hm,zbJ,zg];congr 1
 ·apply zah;intro j hj;have:=List.mem_range.1 hj;rw[zbm,show m+1-1-j=(m-1-j)+1 by omega,zas,zY 256]
 ·simp
theorem W4{x:Nat}:aU x≠[]↔0<x:=by
 constructor
 ·intro h;by_cases e:x=0
  ·subst e;exact absurd W3 h
  ·omega
 ·intro h;rw[HY h];simp
theorem W5{x:Nat}:0<(aU x).length↔0<x:=by
 rw[List.length_pos_iff];exact W4
theorem xN{a:Nat}(ha:a<aT):Spec prog 88 [uv a] [] (fun v B=>v=tv (aU a)∧B=[]):=by
 refine x_sp func88 ntmps88 fun E cs Γ=>?_;refine gi (h:=?_);refine ao (aM rfl rfl fun p1=>?_);refine Wq ?_;refine aQ (α:=Nat×Option Addr×Nat) (fun p=>p.1≤32) (fun p=>[(4,iv ((p.1:Int)-1)),(3,.slice p.2.1 (aU (a/256^p.1)).length p.2.2),(1,dp p1),(2,tv [])])
  (fun p=>Sl 1 p.2.1 (aU (a/256^p.1)).length p.2.2 ((aU (a/256^p.1)).map bv)::Row p1 0 (uc a)::Γ) (fun p=>p.1) (32,none,0) (by omega) ?_ ?_ ?_
 ·have e:a/256^32=0:=zaO (by unfold aT at ha;simpa using ha);simp only[e];exact⟨rfl,rfl,rfl,rfl,trivial⟩
 ·have e:a/256^32=0:=zaO (by unfold aT at ha;simpa using ha);simp only[e];exact(ak.cq _ _)
 rintro⟨k,a',c'⟩ hk back;dsimp only at hk back⊢;refine lN (h:=?_);by_cases h:k=0
 ·subst h;have RS:=Sl.reads 1 a' (aU a).length c' ((aU a).map bv) (by simp);rw[show a/256^0=a by simp];refine aA (h:=?_);refine uy rfl RS rfl ?_;refine bU (h:=?_);exact ap rfl [] ⟨rfl,rfl⟩ Sub.h
 ·obtain⟨i,rfl⟩:∃i,k=i+1:=⟨k-1,by omega⟩
  rw[show((i+1:Nat):Int)-1=(i:Nat)by omega];refine aA (h:=?_);refine dd (j:=i/8) rfl rfl (by omega) (by omega) rfl ?_;refine aw (h:=?_);refine iF (i:=i/8) rfl (by omega) (fO a (by omega)) rfl ?_;refine iu (h:=Dj (h:=G0 (h:=aw (h:=?_))));refine bL (mj (b:=i%8*8) rfl rfl (by omega) (by simp[IntKind.bits];omega)) rfl ?_;refine aw (h:=?_);refine ft rfl rfl ?_;rw[GY,LM];have hq:a/256^(i+1)=a/256^i/256:=by rw[zas,zbm]
  rw[hq]at*;obtain⟨q,Bp⟩:∃q,q=a/256^i:=⟨_,rfl⟩
  rw[←Bp];have Ni:bv (UInt8.ofNat (q%256))= .int .u8 ((q%256:Nat):Int):=by simp[bv]
  have dk:∀(x:Option Addr) (c:Nat),_:=fun x c=>back (i,x,c) (by dsimp only;omega) (by dsimp only;omega);dsimp only at dk;rw[←Bp]at dk;have Nj:q/256<2^(8*32):=by
   have h1:q≤a:=by rw[Bp];exact zbv _ _
   have h2:a<2^(8*32):=by simpa using ha
   exact zaI (z9 (zbv _ _) h1) h2
  by_cases hz:q%256=0
  ·have ez:bv (UInt8.ofNat (q%256))= .int .u8 0:=by rw[hz];rfl
   rw[ez];by_cases hl:q/256=0
   ·have qU:(aU (q/256)).length=0:=by rw[hl];rfl
    have e0:aU q=aU (q/256):=by rw[hl,show q=0 by omega]
    rw[e0]at dk;refine Wq ?_;exact aV (dk a' c')
   ·have qU:0<(aU (q/256)).length:=W5.2 (by omega);have W6:=mh (a:=q/256) (k:=32) Nj;rw[HY (x:=q) (by omega)]at dk;simp only[zd,zy,zaT,zg,zE,zal,ez,zO]at dk;refine aA (h:=?_);refine cf rfl (by rfl) (by rfl) (by rfl) (by rfl) rfl fun a2=>?_;refine aw (h:=?_);refine cF rfl rfl (by rfl) (by rfl) (by rfl) (by omega) rfl fun a3 c3 hc=>?_;refine Wq ?_;exact aV (dk a3 c3)
  ·rw[Ni];have W6:=mh (a:=q/256) (k:=32) Nj;rw[HY (x:=q) (by omega)]at dk;simp only[zd,zy,zaT,zg,zE,zal,Ni,zO]at dk;refine aA (h:=?_);refine cf rfl (by rfl) (by rfl) (by rfl) (by rfl) rfl fun a2=>?_;refine aw (h:=?_);refine cF rfl rfl (by rfl) (by rfl) (by rfl) (by omega) rfl fun a3 c3 hc=>?_;refine Wq ?_;exact aV (dk a3 c3)
theorem HZ{n:Int}(h:0≤n∧n<2^63):Spec prog 87 [.int .i64 n] [] (fun v B=>v=IZ.val (.aP (aU n.toNat))∧B=[]):=by
 obtain⟨m,rfl⟩:∃m:Nat,n=m:=⟨n.toNat,by omega⟩
 refine x_sp func87 ntmps87 fun E cs Γ=>?_;refine gi (h:=?_);refine ao (aC rfl fun p2=>?_);refine eR (h:=qj (h:=?_));refine aJ rfl (xM (n:=m) (by omega)) rfl ?_;refine cS (h:=?_);refine aJ rfl (xN (a:=m) (by unfold aT;omega)) rfl ?_;refine cS (h:=?_);refine aJ rfl (vp (aU m)) rfl ?_;refine cS (h:=mS (h:=?_));exact bP (rs:=[.cell 2 179]) (vs:=[IZ.val (.aP (aU m))]) ⟨bG (us:=IZ.cells (.aP (aU m))) rfl rfl,trivial⟩ [] ⟨rfl,rfl⟩ Sub.h
theorem H0{b n:Nat}(hn:n<2^40)(hb:b=128∨b=192):Spec prog 183 [.int .i64 n,.int .i64 b] [] (fun v B=>v=tv (cZ b n)∧B=[]):=by
 refine x_sp func183 ntmps183 fun E cs Γ=>?_;refine qf (h:=?_);by_cases pH:n≤55
 ·have e:cZ b n=[UInt8.ofNat (b+n)]:=by unfold cZ;rw[if_pos pH]
  rw[e];refine aA (h:=?_);refine ft rfl rfl ?_;rw[show(b:Int)+n=((b+n:Nat):Int)by omega,DA];refine aw (h:=?_);refine cf rfl (by rfl) (by rfl) (by rfl) (by rfl) rfl fun a2=>?_;have RS:=Sl.reads 1 a2 1 1 [bv (UInt8.ofNat (b+n))] rfl;refine aw (h:=?_);refine uy (bs:=[UInt8.ofNat (b+n)]) rfl RS rfl ?_;refine bU (h:=?_);exact ap rfl [] ⟨rfl,rfl⟩ Sub.h
 ·have e:cZ b n=UInt8.ofNat (b+55+(aU n).length)::aU n:=by unfold cZ;rw[if_neg pH]
  rw[e];have hz:(bC (aU n)).size=(aU n).length:=dV _;have hle:=mh (a:=n) (k:=5) (by simp only[Nat.reduceMul,Nat.reducePow];omega);refine Wq ?_;refine aJ rfl (xM (n:=n) (by omega)) rfl ?_;refine cS (h:=?_);refine aJ rfl (xN (a:=n) (by unfold aT;omega)) rfl ?_;refine cS (h:=aA (h:=?_));refine ft rfl rfl ?_;rw[hz,show(b:Int)+55+((aU n).length:Int)=((b+55+(aU n).length:Nat):Int)by omega,DA];refine aw (h:=?_);refine cf rfl (by rfl) (by rfl) (by rfl) (by rfl) rfl fun a2=>?_;have RS:=Sl.reads 1 a2 1 1 [bv (UInt8.ofNat (b+55+(aU n).length))] rfl;refine aw (h:=?_);refine uy (bs:=[UInt8.ofNat (b+55+(aU n).length)]) rfl RS rfl ?_;refine aw (h:=?_);refine lr rfl rfl ?_;refine aw (h:=?_);refine yO rfl rfl (by rw[hz,dV];simp only[zy,zaT];omega) rfl ?_;rw[u0];refine bU (h:=?_);exact ap rfl [] ⟨rfl,rfl⟩ Sub.h
end
section
open Go.Proofs Tryz
open Go.Proofs Go.RowKit
abbrev bD:Nat:=4294967296
theorem Nk(i:Nat):bD^i=aI^(i/2)*2^(32*(i%2)):=by
 rw[show(aI:Nat)=2^64 from rfl,←za4,←zbF,show(bD:Nat)=2^32 from rfl,←za4];congr 1;omega
theorem W7(a i:Nat):fp a i=a/bD^i%bD:=by
 unfold fp ay;rw[Nk,←zbm];generalize a/18446744073709551616^(i/2)=x;have:i%2=0∨i%2=1:=by omega
 rcases this with h|h<;>rw[h]<;>simp only[zcc,zaj,Nat.reducePow,bD]<;>omega
theorem Nl(a i:Nat):a%bD^(i+1)=a%bD^i+fp a i*bD^i:=by
 rw[W7,zas,Nat.mod_mul,zY (a/_%_)]
theorem W8{v c i:Nat}(hv:v<bD^i)(hc:c<bD):ay v (i/2)|||c*2^(32*(i%2))=ay (v+c*bD^i) (i/2)∧∀q,q≠i/2→ay (v+c*bD^i) q=ay v q:=by
 have uU:bD^i=18446744073709551616^(i/2)*2^(32*(i%2)):=Nk i;have hq':i<2*(i/2)+2:=by omega
 generalize hq:i/2=q at*;generalize hr:32*(i%2)=r at*;have G4:r≤32:=by omega
 generalize hW:18446744073709551616^q=W at*;have G7:0<W:=by rw[←hW];exact zbE (by decide)
 have h1:v/W<2^r:=zaU (by rw[←uU];exact hv);have AL:2^r≤2^32:=zai (by decide) G4;have G8:ay v q=v/W:=by
  unfold ay;rw[hW,zaf];exact zaw h1 (z9 AL (by decide))
 have hs:(v+c*bD^i)/W=v/W+2^r*c:=by
  rw[uU,show c*(W*2^r)=W*(2^r*c)by rw[zaq,zY c],zbS _ _ G7]
 constructor
 ·rw[G8];unfold ay;rw[hW,hs,zY c,Nat.or_comm,←zbN h1,zaf,zaF];have h2:v/W+2^r*c<2^r*4294967296:=by
   have:2^r*c≤2^r*4294967295:=zaA _ (by unfold bD at hc;omega);omega
  have h3:2^r*4294967296≤2^32*4294967296:=zn _ AL;rw[zaF]at h2;exact zaw (by rwa[zaF]at h2) (z9 h3 (by decide))
 ·intro q' cE;unfold ay;rcases zb7 cE with h|h
  ·have AM:W=18446744073709551616^q'*(18446744073709551616*18446744073709551616^(q-q'-1)):=by
    rw[←hW,←Nat.pow_succ',←zbF];congr 1;omega
   rw[uU,AM,show c*(18446744073709551616^q'*(18446744073709551616*18446744073709551616^(q-q'-1))*2^r)=18446744073709551616^q'*(18446744073709551616*(18446744073709551616^(q-q'-1)*(2^r*c)))by
    simp only[zY,zaq,zbd],zbS _ _ (zbE (by decide)),Nat.add_mul_mod_self_left]
  ·have AN:bD^(i+1)≤18446744073709551616^q':=by
    rw[show(18446744073709551616:Nat)=bD^2 from rfl,←za4];exact zai (by decide) (by omega)
   have h2:v+c*bD^i<bD^(i+1):=by
    rw[zas];have:c*bD^i≤4294967295*bD^i:=zn _ (by unfold bD at hc;omega);unfold bD at*;omega
   have h3:v<18446744073709551616^q':=by
    have:v≤v+c*bD^i:=za8 _ _;omega
   rw[zaO (by omega),zaO h3]
theorem W9{v c i:Nat}(hv:v<bD^i)(hc:c<bD)(hi:i<8):(uc v).set (i/2) (nv (ay v (i/2)|||c*2^(32*(i%2))))=uc (v+c*bD^i):=by
 obtain⟨h1,h2⟩:=W8 hv hc;rw[h1];have hq:i/2<4:=by omega
 generalize i/2=q at*;have:q=0∨q=1∨q=2∨q=3:=by omega
 rcases this with rfl|rfl|rfl|rfl
 ·simp only[uc,List.set,h2 1 (by omega),h2 2 (by omega),h2 3 (by omega)]
 ·simp only[uc,List.set,h2 0 (by omega),h2 2 (by omega),h2 3 (by omega)]
 ·simp only[uc,List.set,h2 1 (by omega),h2 0 (by omega),h2 3 (by omega)]
 ·simp only[uc,List.set,h2 1 (by omega),h2 2 (by omega),h2 0 (by omega)]
def eG(l:List Nat):Nat:=l.foldr (fun d v=>d+bD*v) 0
theorem W_:eG []=0:=rfl
theorem xO(x:Nat)(l:List Nat):eG (x::l)=x+bD*eG l:=rfl
theorem H2:∀(l:List Nat) (j d:Nat),j<l.length→eG (l.set j d)+l.getD j 0*bD^j=eG l+d*bD^j
 |x::l,0,d,_=>by simp[eG];omega
 |x::l,j+1,d,h=>by
  have ih:=H2 l j d (by simpa using h);simp only[zaJ,List.getD_cons_succ];show x+bD*eG (l.set j d)+l.getD j 0*bD^(j+1)=x+bD*eG l+d*bD^(j+1);have e:∀z,z*bD^(j+1)=bD*(z*bD^j):=fun z=>by rw[zas];simp only[zY,zaq]
  rw[e,e,zax,zax,←zbG,←zbG,ih]
theorem Ec:∀(l m:List Nat),eG (l++m)=eG l+bD^l.length*eG m
 |[],m=>by simp[eG]
 |x::l,m=>by
  rw[zl,xO,xO,Ec l m,zbG,zy,zas,←zbd,zY bD (bD^_)];omega
theorem H3:∀(l:List Nat),(∀d∈l,d<bD)→eG l<bD^l.length
 |[],_=>by simp[eG]
 |x::l,h=>by
  have ih:=H3 l fun d hd=>h d (by simp[hd]);have hx:=h x (by simp);rw[xO,zy,zas];have:bD*(eG l+1)≤bD*bD^l.length:=zaA _ ih;rw[zY (bD^_)];rw[zbG]at this;omega
theorem Nm:∀(l:List Nat),(∀d∈l,d=0)→eG l=0
 |[],_=>rfl
 |x::l,h=>by rw[xO,h x (by simp),Nm l fun d hd=>h d (by simp[hd])];rfl
theorem Nn:∀(l:List Nat) (d:Nat),d∈l→0<d→0<eG l
 |x::l,d,h,hd=>by
  rw[xO];rcases zbe.1 h with rfl|h
  ·omega
  ·have:=Nn l d h hd;have:bD*1≤bD*eG l:=zaA _ this;unfold bD at*;omega
theorem Xa{x y s c:Nat}(hx:x<bD)(hy:y<bD)(hs:s<bD)(hc:c<bD):∃o k,o<bD∧k<bD∧x*y+s+c=bD*k+o∧x*y%aI=x*y∧(s+x*y)%aI=s+x*y∧(s+x*y+c)%aI=s+x*y+c∧(s+x*y+c)%bD=o∧(s+x*y+c)/bD=k:=by
 have hp:x*y≤4294967295*4294967295:=by
  unfold bD at hx hy;exact zaZ (by omega) (by omega)
 refine⟨(x*y+s+c)%bD,(x*y+s+c)/bD,za0 _ (by decide),?_,(Nat.div_add_mod _ _).symm,?_,?_,?_,?_,?_⟩<;>generalize x*y=p at* <;>(try unfold bD at*)<;>(try unfold aI at*)<;>omega
structure vq(a b i k:Nat)(L:List Nat)(c:Nat):Prop where
 len:L.length=16
 lt:∀d∈L,d<bD
 val:eG L+c*bD^(i+k)=a%bD^i*b+fp a i*(b%bD^k)*bD^i
 zero:∀j,i+8≤j→j<16→L[j]? =some 0
 c:c<bD
structure Ed(a b i:Nat)(L:List Nat):Prop where
 len:L.length=16
 lt:∀d∈L,d<bD
 val:eG L=a%bD^i*b
 zero:∀j,i+8≤j→j<16→L[j]? =some 0
theorem vq.step{a b i k c s o c':Nat}{L:List Nat}(h:vq a b i k L c)(hi:i<8)(hk:k<8)(hs:L[i+k]? =some s)(ho:o<bD)(jz:c'<bD)(e:fp a i*fp b k+s+c=bD*c'+o):vq a b i (k+1) (L.set (i+k) o) c':=by
 refine⟨by rw[zH];exact h.len,Dl h.lt ho,?_,fun j h1 h2=>?_,jz⟩
 ·have h1:=H2 L (i+k) o (by have:=h.len;omega);have h2:L.getD (i+k) 0=s:=by rw[ze,hs];rfl
  rw[h2]at h1;have h3:=h.val;have e2:bD^(i+(k+1))=bD*bD^(i+k):=by rw[←zax,zas,zY]
  have e3:=Nl b k;have e4:bD^(i+k)=bD^i*bD^k:=zbF _ _ _;have e5:fp a i*(b%bD^(k+1))*bD^i=fp a i*(b%bD^k)*bD^i+fp a i*fp b k*bD^(i+k):=by
   rw[e3,e4,zbG,zA];congr 1;simp only[zbd,zY,zaq]
  rw[e5,e2];have e6:c'*(bD*bD^(i+k))+o*bD^(i+k)=(bD*c'+o)*bD^(i+k):=by
   rw[zA];congr 1;simp only[zbd,zY,zaq]
  rw[←e]at e6;have e7:(fp a i*fp b k+s+c)*bD^(i+k)=fp a i*fp b k*bD^(i+k)+s*bD^(i+k)+c*bD^(i+k):=by rw[zA,zA]
  omega
 ·rw[zaK (by omega)];exact h.zero j h1 h2
theorem d8:bD^8=aT:=by decide
theorem vq.out{a b i c:Nat}{L:List Nat}(h:vq a b i 8 L c)(hi:i<8)(hb:b<aT):Ed a b (i+1) (L.set (i+8) c):=by
 refine⟨by rw[zH];exact h.len,Dl h.lt h.c,?_,fun j h1 h2=>?_⟩
 ·have h1:=H2 L (i+8) c (by have:=h.len;omega);have h2:L.getD (i+8) 0=0:=by rw[ze,h.zero _ (zq _) (by omega)];rfl
  rw[h2,zbw,zbx]at h1;rw[h1,h.val,Nl a i,zA,show b%bD^8=b from zaf (by rw[d8];exact hb)];congr 1;simp only[zY,zaq]
 ·rw[zaK (by omega)];exact h.zero j (by omega) h2
theorem Ed.start{a b i:Nat}{L:List Nat}(h:Ed a b i L):vq a b i 0 L 0:=
 ⟨h.len,h.lt,by rw[h.val];simp[Nat.mod_one],h.zero,by decide⟩
structure Bq(L:List Nat)(i:Nat):Prop where
 z:∀j,j<i→L[j+8]? =some 0
theorem Bq.lt{L:List Nat}(h:Bq L 8)(hl:L.length=16)(ht:∀d∈L,d<bD):eG L=eG (L.take 8)∧eG L<aT:=by
 have e:eG L=eG (L.take 8)+bD^(L.take 8).length*eG (L.drop 8):=by rw[←Ec,zG]
 have z:eG (L.drop 8)=0:=Nm _ fun d hd=>by
  obtain⟨j,hj⟩:=zk hd;rw[zar]at hj;have:=(List.getElem?_eq_some_iff.1 hj).1;have h2:=h.z j (by omega);rw[zaF]at h2;rw[h2]at hj;exact(zD hj).symm
 rw[z,zcc,zbx]at e;refine⟨e,?_⟩;rw[e,←d8];have:=H3 (L.take 8) fun d hd=>ht d (zaD hd);rwa[show(L.take 8).length=8 by simp;omega]at this
theorem Bq.ge{L:List Nat}{i d:Nat}(hl:L.length=16)(hd:L[i+8]? =some d)(h0:0<d):aT≤eG L:=by
 have e:eG L=eG (L.take 8)+bD^(L.take 8).length*eG (L.drop 8):=by rw[←Ec,zG]
 have p:0<eG (L.drop 8):=Nn _ d (zc (i:=i) (by rw[zar,zaF];exact hd)) h0;rw[show(L.take 8).length=8 by simp;omega,d8]at e;have:aT*1≤aT*eG (L.drop 8):=zaA _ p;omega
theorem Xb{L:List Nat}{i d:Nat}(h:L[i]? =some d):eG (L.take (i+1))=eG (L.take i)+d*bD^i:=by
 have:=(List.getElem?_eq_some_iff.1 h).1;rw[zp,h,zaa,Ec,xO,W_,show(L.take i).length=i by simp;omega,zcc,zbx,zY]
theorem xP{a b:Nat}(ha:a<aT)(hb:b<aT):Spec prog 182 [uv a,uv b] [] (fun v B=>v= .tuple #[uv (if a*b<aT then a*b else 0),.bool (decide (a*b<aT))]∧B=[]):=by
 refine x_sp func182 ntmps182 fun E cs Γ=>?_;refine lL (h:=?_);refine ao (aM rfl rfl fun p2=>?_);refine ao (aM rfl rfl fun p3=>?_);refine ao (aC rfl fun p4=>?_);refine rE (h:=?_);refine ao (aC rfl fun p6=>?_);refine Wq ?_;refine aQ (α:=Nat×List Nat) (fun q=>q.1≤8∧Ed a b q.1 q.2) (fun q=>[(7,iv q.1),(6,dp p6),(4,dp p4),(3,dp p3),(2,dp p2),(5,.bool false)])
  (fun q=>Row p6 0 (q.2.map nv)::Row p4 0 [nv 0,nv 0,nv 0,nv 0]::Row p3 0 (uc b)::Row p2 0 (uc a)::Γ) (fun q=>8-q.1) (0,List.replicate 16 0)
  ⟨by simp,rfl,by intro d hd;have:=List.eq_of_mem_replicate hd;subst this;decide,by simp[eG,List.replicate,Nat.mod_one],fun j h1 h2=>by
   dsimp only at h1⊢;rw[zaV,if_pos h2]⟩ x_tv (Sub.h (Δ:=Row p6 0 [nv 0,nv 0,nv 0,nv 0,nv 0,nv 0,nv 0,nv 0,nv 0,nv 0,nv 0,nv 0,nv 0,nv 0,nv 0,nv 0]::Row p4 0 [nv 0,nv 0,nv 0,nv 0]::Row p3 0 (uc b)::Row p2 0 (uc a)::Γ)) ?_
 rintro⟨i,L⟩ ⟨hi,O⟩ back;dsimp only at hi O back⊢;refine lN (h:=?_);by_cases h:i<8
 ·refine Wq ?_;refine aQ (α:=Nat×List Nat×Nat) (fun q=>q.1≤8∧vq a b i q.1 q.2.1 q.2.2) (fun q=>[(9,iv q.1),(8,nv q.2.2),(7,iv i),(6,dp p6),(4,dp p4),(3,dp p3),(2,dp p2),(5,.bool false)])
   (fun q=>Row p6 0 (q.2.1.map nv)::Row p4 0 [nv 0,nv 0,nv 0,nv 0]::Row p3 0 (uc b)::Row p2 0 (uc a)::Γ) (fun q=>8-q.1) (0,L,0) ⟨by simp,O.start⟩ x_tv Sub.h ?_
  rintro⟨k,L,c⟩ ⟨hk,I⟩ eY;dsimp only at hk I eY⊢;refine lN (h:=?_);have Dm:=I.len;by_cases h2:k<8
  ·obtain⟨s,hs⟩:=bc (l:=L) (i:=i+k) (by omega);have dP:=I.lt s (zc hs);have AQ:(L.map nv)[i+k]? =some (nv s):=by rw[zf,hs];rfl
   obtain⟨o,c',ho,jz,hE,j2,jv,Br,hO,hK⟩:=Xa (Ng a i) (Ng b k) dP I.c;refine Wq ?_;refine aZ 15 (aX [7,10] [0,1,2,3,4,5,6,8,9,13,7,10,11,12,14,15]) [Row p6 0 (L.map nv),Row p2 0 (uc a),Row p3 0 (uc b)] ?_;refine dK (h:=DC (h:=?_));refine au rfl (du (j:=i+k) rfl rfl (by omega) (by omega)) ?_;refine au rfl (fk (i:=i+k) rfl (by omega) AQ) ?_;refine Ws ?_;refine aE rfl (aq rfl (Nh (a:=a) h) rfl ?_);refine Ee (h:=?_);refine aE rfl (aq rfl (Nh (a:=b) h2) rfl ?_);refine Ee (h:=?_);refine au rfl (to rfl rfl) ?_;rw[show fp a i*fp b k%18446744073709551616=fp a i*fp b k from j2];refine au rfl (pA rfl rfl) ?_;rw[show(s+fp a i*fp b k)%18446744073709551616=s+fp a i*fp b k from jv];refine au rfl (pA rfl rfl) ?_;rw[show(s+fp a i*fp b k+c)%18446744073709551616=s+fp a i*fp b k+c from Br];have Xc:s+fp a i*fp b k+c<18446744073709551616:=by rw[←Br];exact za0 _ (by decide)
   refine df (h:=dq (h:=aA (h:=?_)));refine bL (j5 o rfl (b:=4294967295) rfl Xc (by decide) (.inl ⟨rfl,by rw[show s+fp a i*fp b k+c&&&4294967295=_ from zba _ 32];exact hO.symm⟩)) rfl ?_;refine fv (h:=?_);refine bL (mj (b:=32) rfl rfl rfl (by decide)) rfl ?_;rw[show(s+fp a i*fp b k+c)/2^32=c' from hK];refine aw (h:=?_);refine dd (j:=i+k) rfl rfl (by omega) (by omega) rfl ?_;refine dO (h:=?_);refine iS (i:=i+k) rfl rfl rfl (by omega) (by simp[zN];omega) ?_;rw[←zak (f:=nv)];refine Wq ?_;exact aV (eY (k+1,L.set (i+k) o,c') ⟨by dsimp only;omega,I.step h h2 hs ho jz hE⟩ (by dsimp only;omega))
  ·obtain rfl:k=8:=by omega
   refine aA (h:=?_);refine dd (j:=i+8) rfl rfl (by omega) (by omega) rfl ?_;refine dO (h:=?_);refine iS (i:=i+8) rfl rfl rfl (by omega) (by simp[zN];omega) ?_;rw[←zak (f:=nv)];refine Wq ?_;exact aV (back (i+1,L.set (i+8) c) ⟨by dsimp only;omega,I.out h hb⟩ (by dsimp only;omega))
 ·obtain rfl:i=8:=by omega
  have nt:=O.val;rw[show a%bD^8=a from zaf (by rw[d8];exact ha)]at nt;have hlen:=O.len;have aN:=O.lt;refine Wq ?_;refine ao (aC rfl fun pB=>?_);refine Wq ?_;refine aQ (α:=Nat) (fun i=>i≤8∧Bq L i) (fun i=>[(12,iv i),(11,dp pB),(6,dp p6),(4,dp p4),(5,.bool false)])
   (fun i=>Row pB 0 (uc (eG (L.take i)))::Row p6 0 (L.map nv)::Row p4 0 [nv 0,nv 0,nv 0,nv 0]::Γ) (fun i=>8-i) 0 ⟨by omega,⟨fun j h=>by omega⟩⟩ x_tv (by rw[show eG (List.take 0 L)=0 by rw[zbq];rfl];exact Sub.h (Δ:=Row pB 0 [nv 0,nv 0,nv 0,nv 0]::Row p6 0 (L.map nv)::Row p4 0 [nv 0,nv 0,nv 0,nv 0]::Γ)) ?_
  rintro i ⟨vr,F⟩ Xd;refine lN (h:=?_);by_cases h3:i<8
  ·obtain⟨s,hs⟩:=bc (l:=L) (i:=i+8) (by omega);obtain⟨d,hd⟩:=bc (l:=L) (i:=i) (by omega);have AQ:(L.map nv)[i+8]? =some (nv s):=by rw[zf,hs];rfl
   have gV:(L.map nv)[i]? =some (nv d):=by rw[zf,hd];rfl
   have tz:=aN d (zc hd);refine aA (h:=?_);refine dd (j:=i+8) rfl rfl (by omega) (by omega) rfl ?_;refine aw (h:=?_);refine iF (i:=i+8) rfl (by omega) AQ rfl ?_;by_cases h0:0<s
   ·have Dn:=Bq.ge hlen hs h0;rw[if_neg (by omega),decide_eq_false (by omega)];refine Wq ?_;exact bP (rs:=[.cell 4 24,.tmp 5]) (vs:=[uv 0,.bool false]) ⟨bG rfl rfl,bO rfl,trivial⟩ [] ⟨rfl,rfl⟩ Sub.h
   ·obtain rfl:s=0:=by omega
    have Xe:eG (L.take i)<bD^i:=by
     have:=H3 (L.take i) fun d hd=>aN d (zaD hd);rwa[show(L.take i).length=i by simp;omega]at this
    have gU:=W9 Xe tz h3;rw[←Xb hd]at gU;have dk:=Xd (i+1) ⟨by omega,⟨fun j hj=>by
     rcases Nat.lt_succ_iff_lt_or_eq.1 hj with hj|rfl
     ·exact F.z j hj
     ·exact hs⟩⟩ (by omega)
    rw[←gU]at dk;refine Wq ?_;refine aZ 15 (aX [15] [0,1,2,3,4,5,6,7,8,9,10,11,12,13,14,15]) [Row pB 0 (uc (eG (L.take i))),Row p6 0 (L.map nv)] ?_;refine Ws ?_;refine au rfl (du (j:=i/2) rfl rfl (by omega) (by omega)) ?_;refine au rfl (fk (i:=i/2) rfl (by omega) (fO _ (by omega))) ?_;refine dD (h:=?_);refine au rfl (du (j:=i) rfl rfl rfl (by omega)) ?_;refine au rfl (fk (i:=i) rfl (by omega) gV) ?_;refine dD (h:=LV (h:=LW (h:=?_)));refine au rfl (Dc (b:=32*(i%2)) rfl rfl (by omega) (by omega) ?_) ?_
    ·have:i%2=0∨i%2=1:=by omega
     unfold bD at tz;rcases this with h|h<;>rw[h]<;>simp only[zcc,zaj,Nat.reducePow]<;>omega
    refine au rfl (j5 _ rfl rfl (fE _ _) (by
     have:i%2=0∨i%2=1:=by omega
     unfold bD at tz;rcases this with h|h<;>rw[h]<;>simp only[zcc,zaj,Nat.reducePow]<;>omega) (.inr (.inl ⟨rfl,rfl⟩))) ?_
    refine au rfl (du (j:=i/2) rfl rfl (by omega) (by omega)) ?_;refine bN rfl rfl (iS (i:=i/2) rfl rfl rfl (by omega) (by simp[zN];omega) ?_);refine dQ (h:=?_);exact aV dk
  ·obtain rfl:i=8:=by omega
   obtain⟨e1,e2⟩:=F.lt hlen aN;rw[←e1,nt];rw[nt]at e2;rw[if_pos e2,decide_eq_true e2];refine Wq ?_;exact bP (rs:=[.cell 4 24,.tmp 5]) (vs:=[uv (a*b),.bool true]) ⟨bG rfl rfl,bO rfl,trivial⟩ [] ⟨rfl,rfl⟩ Sub.h
end
section
open Go.Proofs Tryz
open Go.Proofs Go.RowKit
theorem Xf{P:Program}{X:Cx}{n:Nat}{ds:List Deferred}{dst:Option Tmp}{op:Op}{ty:TypeId}{Nx:Value→List HP→Prop}{ρ:aK}{Γ:List HP}{α:Type}{Γ':α→List HP}(hΓ:∀E w,St E Γ w→∃a,St E (Γ' a) w)(h:∀a,bm P X n ds dst op ty Nx ρ (Γ' a)):bm P X n ds dst op ty Nx ρ Γ:=
 fun ops i o rest k ρF hle ho hd ax aS hw hk t w hn hm hs=>let ⟨a,s⟩:=hΓ _ _ hs;h a ops i o rest k ρF hle ho hd ax aS hw hk t w hn hm s
theorem Xg{P:Program}{X:Cx}{n:Nat}{ds:List Deferred}{dst:Option Tmp}{op:Op}{ty:TypeId}{Nx:Value→List HP→Prop}{ρ:aK}{Γ Δ Θ:List HP}{h:PH}{s len cap:Nat}{xs:List Value}(a:Option Addr)[T:ig Γ a s len cap xs Δ][U:Take Δ (Mem h) Θ]
 (H:∀k:PH,PH.le h k→Reads (Mem k) s a len xs→len≤cap→bm P X n ds dst op ty Nx ρ (Mem k::Θ)):bm P X n ds dst op ty Nx ρ Γ:=
 Xf (Γ':=fun k:{k:PH//PH.le h k∧Reads (Mem k) s a len xs∧len≤cap}=>Mem k.1::Θ) (fun E w st=>((st.perm T.h).perm (U.h.cons _)).freeze) fun k=>H k.1 k.2.1 k.2.2.1 k.2.2.2
theorem Xh{l:List IZ}{i:Nat}{x:IZ}(h:l[i]? =some x):It.gv ((l.take (i+1)).map IZ.er)=max (It.gv ((l.take i).map IZ.er)) x.er.dep:=by
 have aux:∀(l:List It) (y:It),It.gv (l++[y])=max (It.gv l) y.dep:=by
  intro l y;induction l with
  |nil=>simp[It.gv]
  |cons z l ih=>rw[zl,It.gv,ih,It.gv];omega
 rw[zp,h,zaa,zg];exact aux _ _
theorem Np{l:List IZ}{x:IZ}(h:x∈l):x.er.dep≤It.gv (l.map IZ.er):=DB (zaB h)
theorem Nq:∀{l:List It} {m:Nat},(∀x∈l,x.dep≤m)→It.gv l≤m
 |[],_,_=>zj _
 |x::l,m,h=>by
  rw[It.gv];have:=Nq (l:=l) (m:=m) fun y hy=>h y (by simp[hy]);have:=h x (by simp);omega
theorem Xi:∀(n:Nat) (A:HP) (z:IZ),SizeOf.sizeOf z<n→z.In A→z.er.dep≤2^40→
 Spec prog 130 [z.val] [A] (fun v B=>v= .int .i64 (z.er.dep:Nat)∧B=[A]):=by
 intro n;induction n with
 |zero=>intro A z hz;omega
 |succ n ih=>
  intro A z hz I Mu;refine x_sp func130 ntmps130 fun E cs Γ=>?_;cases z with
  |aP s=>
   have e4:(IZ.aP s).bq.length=0:=rfl;have e5:(IZ.er (.aP s)).dep=0:=by rw[IZ.er,It.dep]
   refine eh (h:=?_);refine ao (aM rfl rfl fun p1=>?_);refine Wq ?_;exact ap rfl [A] ⟨by rw[e5];rfl,rfl⟩ Sub.h
  |bS a c l=>
   obtain⟨R,hc,hl,hI⟩:=I.bq;have e4:(IZ.bS a c l).bq.length=l.length:=rfl;have e5:(IZ.er (.bS a c l)).dep=1+It.gv (l.map IZ.er):=by rw[IZ.er,IZ.nz,It.dep]
   rw[e5]at Mu⊢;obtain⟨D,hD⟩:∃D:Nat→Nat,∀i,D i=It.gv ((l.take i).map IZ.er):=⟨_,fun _=>rfl⟩
   have D0:D 0=0:=by rw[hD,zbq];simp[It.gv]
   have e6:(bC (IZ.bS a c l).text)=⟨#[]⟩:=rfl;refine eh (h:=?_);refine ao (aM rfl rfl fun p1=>?_);refine aA (h:=?_);refine yN rfl rfl rfl rfl ?_;refine Wq ?_;refine aQ (α:=Nat) (fun i=>i≤l.length) (fun i=>[(4,iv i),(3,iv (D i:Nat)),(1,dp p1)])
    (fun _=>A::Row p1 0 (IZ.cells (.bS a c l))::Γ) (fun i=>l.length-i) 0 (zj _) ⟨rfl,by rw[D0];rfl,rfl,trivial⟩ Sub.h ?_
   intro i hi back;refine Wl ?_;by_cases h:i<l.length
   ·obtain⟨x,hx⟩:=bc (l:=l) (i:=i) h;have fG:x∈(IZ.bS a c l).bq:=zc hx;have hs:=IZ.sub_lt fG;have hd:=Np (l:=l) (zc hx);have vt:It.gv ((l.take i).map IZ.er)≤2^40:=Nq fun y hy=>by
     obtain⟨y,Hb,rfl⟩:=zbY.1 hy;have:=Np (l:=l) (zaD Hb);omega
    have kS:D i≤2^40:=by rw[hD];exact vt
    have lY:D (i+1)=max (D i) x.er.dep:=by rw[hD,hD];exact Xh hx
    refine aA (h:=?_);refine bK rfl rfl R (j:=i) rfl (by rw[e4];omega) rfl fun b off ha=>?_;refine aw (h:=?_);refine dA (us:=x.cells) rfl R ha (i:=i*3) (by omega) rfl (fun j v hv=>tw hx hv) rfl ?_;refine aw (h:=?_);refine aq (vs:=[x.val]) rfl (ih A x (by omega) (hI x fG) (by omega)) rfl ?_;refine de (h:=aw (h:=?_));refine RJ rfl rfl rfl ?_;rw[show max (D i:Int) (x.er.dep:Int)=((D (i+1):Nat):Int)by rw[lY];omega];refine Wq ?_;exact aV (back (i+1) (by omega) (by omega))
   ·obtain rfl:i=l.length:=by omega
    have Ef:D l.length=It.gv (l.map IZ.er):=by rw[hD,zu]
    rw[Ef];refine Wq ?_;exact ap rfl [A] ⟨by rw[show((1+It.gv (l.map IZ.er):Nat):Int)=(It.gv (l.map IZ.er):Int)+1 by omega];rfl,rfl⟩ Sub.h
theorem Xj:∀(n:Nat) (A:HP) (z:IZ),SizeOf.sizeOf z<n→z.In A→z.er.enc.length≤65536→
 Spec prog 131 [z.val] [A] (fun v B=>v=tv z.er.enc∧B=[A]):=by
 intro n;induction n with
 |zero=>intro A z hz;omega
 |succ n ih=>
  intro A z hz I gY;refine x_sp func131 ntmps131 fun E cs Γ=>?_;cases z with
  |aP s=>
   have u9:(bC s).size=s.length:=dV _;have pI:(IZ.er (.aP s)).enc=cT s:=by rw[IZ.er,It.enc]
   rw[pI]at gY⊢;rw[xu]at gY⊢;have e4:(bC (IZ.aP s).text).size=s.length:=dV _;refine jx (h:=?_);by_cases h1:s.length=1
   ·obtain⟨c,rfl⟩:∃c,s=[c]:=by
     match s,h1 with
     |[c],_=>exact⟨c,rfl⟩
    have hc:iK [c]=decide (c.toNat<128):=by
     unfold iK;simp only[zC,decide_true,Bool.true_and,List.headD_cons];exact decide_eq_decide.2 UInt8.lt_iff_toNat_lt
    refine bQ (h:=?_);refine ao (aM rfl rfl fun p1=>?_);refine gg (h:=?_);refine bL (rD (bs:=[c]) (j:=0) rfl rfl rfl rfl) rfl ?_;rw[hc]at gY⊢;by_cases h2:c.toNat<128
    ·rw[decide_eq_true h2,if_pos rfl];refine Wq ?_;exact ap rfl [A] ⟨rfl,rfl⟩ Sub.h
    ·rw[decide_eq_false h2,if_neg (by decide)]at gY⊢;refine Wq ?_;refine aZ 7 (aX [3] [0,1,2,4,5,3,6,7]) [Row p1 0 (IZ.cells (.aP [c]))] ?_;refine Ws ?_;refine aE rfl (aq rfl (H0 (b:=128) (n:=[c].length) (by simp) (.inl rfl)) rfl ?_);refine cn (h:=?_);rw[zd]at gY;refine au rfl (Kx rfl rfl (by rw[dV,show(bC (IZ.aP [c]).text).size=1 from e4];omega)) ?_;rw[show bC (cZ 128 [c].length)++bC (IZ.aP [c]).text=bC (cZ 128 [c].length++[c])from u0 _ _];refine df (h:=?_);exact ap rfl [A] ⟨rfl,rfl⟩ Sub.h
   ·have hc:iK s=false:=by unfold iK;rw[decide_eq_false h1];rfl
    rw[hc,if_neg (by decide)]at gY⊢;refine bQ (h:=?_);refine ao (aM rfl rfl fun p1=>?_);refine Wq ?_;refine aZ 7 (aX [3] [0,1,2,4,5,3,6,7]) [Row p1 0 (IZ.cells (.aP s))] ?_;refine Ws ?_;rw[zd]at gY;refine aE rfl (aq (vs:=[.int .i64 (s.length:Nat),.int .i64 (128:Nat)]) (by rw[←u9];rfl) (H0 (b:=128) (n:=s.length) (by omega) (.inl rfl)) rfl ?_);refine cn (h:=?_);refine au rfl (Kx rfl rfl (by rw[dV,e4];omega)) ?_;rw[show bC (cZ 128 s.length)++bC (IZ.aP s).text=bC (cZ 128 s.length++s)from u0 _ _];refine df (h:=?_);exact ap rfl [A] ⟨rfl,rfl⟩ Sub.h
  |bS a c l=>
   obtain⟨R,hc,hl,hI⟩:=I.bq;have e4:(IZ.bS a c l).bq.length=l.length:=rfl;refine jx (h:=?_);have pI:=Ho a c l;rw[pI]at gY⊢;obtain⟨S,hS⟩:∃S:Nat→List UInt8,∀i,S i=It.cH ((l.take i).map IZ.er):=⟨_,fun _=>rfl⟩
   have S0:S 0=[]:=by rw[hS,zbq];simp[It.cH]
   have SL:S l.length=It.cH (l.map IZ.er):=by rw[hS,zu]
   rw[zd]at gY;have Nr:∀i,(S i).length≤65536:=fun i=>by
    have:=A8 (l:=l) i;rw[hS];omega
   have acG:(cZ 192 (S l.length).length).length≤65536:=by rw[SL];omega
   rw[←SL];refine bQ (h:=?_);refine ao (aM rfl rfl fun p1=>?_);refine Wq ?_;refine aQ (α:=Nat) (fun i=>i≤l.length) (fun i=>[(4,iv i),(3,tv (S i)),(2,tv []),(1,dp p1)])
    (fun _=>A::Row p1 0 (IZ.cells (.bS a c l))::Γ) (fun i=>l.length-i) 0 (zj _) ⟨rfl,by rw[S0];rfl,rfl,rfl,trivial⟩ Sub.h ?_
   intro i hi back;refine Wl ?_;have hz:(bC (S i)).size=(S i).length:=dV _;have nf:=Nr i;by_cases h:i<l.length
   ·obtain⟨x,hx⟩:=bc (l:=l) (i:=i) h;have fG:x∈(IZ.bS a c l).bq:=zc hx;have hs:=IZ.sub_lt fG;have lY:S (i+1)=S i++x.er.enc:=by rw[hS,hS];exact Hn hx
    have Xk:=Nr (i+1);have Xl:=Xk;rw[lY,zd]at Xl;refine aA (h:=?_);refine bK rfl rfl R (j:=i) rfl (by rw[e4];omega) rfl fun b off ha=>?_;refine aw (h:=?_);refine dA (us:=x.cells) rfl R ha (i:=i*3) (by omega) rfl (fun j v hv=>tw hx hv) rfl ?_;refine aw (h:=?_);refine aq (vs:=[x.val]) rfl (ih A x (by omega) (hI x fG) (by omega)) rfl ?_;refine de (h:=aw (h:=?_));refine yO rfl rfl (by rw[dV,dV];omega) rfl ?_;rw[u0,←lY];refine Wq ?_;exact aV (back (i+1) (by omega) (by omega))
   ·obtain rfl:i=l.length:=by omega
    refine aA (h:=?_);refine aq (vs:=[.int .i64 ((S l.length).length:Nat),.int .i64 (192:Nat)]) (by rw[←hz];rfl) (H0 (b:=192) (n:=(S l.length).length) (by omega) (.inr rfl)) rfl ?_;refine cS (h:=aw (h:=?_));refine lr rfl rfl ?_;refine aw (h:=?_);refine yO rfl rfl (by rw[dV,dV];omega) rfl ?_;rw[u0];refine bU (h:=?_);exact ap rfl [A] ⟨rfl,rfl⟩ Sub.h
theorem Xm{A:HP}(z:IZ)(F:Fit A z):Spec prog 86 [z.val] [A] (fun v B=>v= .tuple #[tv z.er.enc,.bool true]∧B=[A]):=by
 refine x_sp func86 ntmps86 fun E cs Γ=>?_;have hz:(bC z.er.enc).size=z.er.enc.length:=dV _;have h1:=F.len;have h2:=F.dep;refine eh (h:=?_);refine ao (aM rfl rfl fun p1=>?_);refine aA (h:=?_);refine aq (vs:=[z.val]) rfl (Xi _ A z (za7 _) F.i (by omega)) rfl ?_;refine vu (h:=?_);refine aq (vs:=[z.val]) rfl (Xj _ A z (za7 _) F.i F.len) rfl ?_;refine jC (h:=?_);exact ap rfl [A] ⟨rfl,rfl⟩ Sub.h
theorem Ns{A:HP}(z:TZ)(I:z.In A)(hz:z.t.ok=true):Spec prog 55 [z.val] [A] (fun v B=>v=tv z.t.bytes∧B=[A]):=by
 refine x_sp func55 ntmps55 fun E cs Γ=>?_;obtain⟨f1,f2,f3,f4,f5,f6,f7,f8,f9⟩:=mr hz;obtain⟨g1,g2,g3,g4⟩:=pF f8;have Hv:z.t.hs.length=z.t.bl.length:=by rw[g3];simp
 have Vn:∀(i:Nat),i≤z.t.bl.length→((dB ((z.t.hs.take i).map dw)).length=i∧(dB (z.t.bl.take i)).length=i):=fun i hi=>by
  simp only[dB,zm,zw];omega
 refine eh (h:=?_);refine ao (aM rfl rfl fun p1=>?_);refine Wq ?_;refine ao (aC rfl fun p3=>?_);refine ao (aC rfl fun p4=>?_);refine Wq ?_;refine aQ (α:=Nat×(Option Addr×Nat)) (fun q=>q.1≤z.t.bl.length) (fun q=>[(5,iv q.1),(4,dp p4),(3,dp p3),(1,dp p1)])
  (fun q=>Row p3 0 [.bool true,tv [],.slice q.2.1 q.1 q.2.2]::Sl 3 q.2.1 q.1 q.2.2 ((dB ((z.t.hs.take q.1).map dw)).flatMap IZ.cells)::Row p4 0 [.bool true,tv [],.slice none 0 0]::A::Row p1 0 z.cells::Γ)
  (fun q=>z.t.bl.length-q.1) (0,(none,0)) (by simp) ⟨rfl,rfl,rfl,rfl,trivial⟩
  ((ak.cq 3 _).trans (Sub.h (Δ:=Row p3 0 [.bool true,.string ⟨#[]⟩,.slice none 0 0]::Sl 3 none 0 0 []::Row p4 0 [.bool true,.string ⟨#[]⟩,.slice none 0 0]::A::Row p1 0 z.cells::Γ))) ?_
 rintro⟨i,⟨ah,ch⟩⟩ hi back;dsimp only at hi back⊢;refine Wl ?_;by_cases h:i<z.t.bl.length
 ·obtain⟨m,hm⟩:=bc (l:=z.t.hs) (i:=i) (by omega);have ja:=I.wf.hs m (zc hm);refine Wq ?_;refine oG I.rh (by omega) fun bh oh pJ=>?_;refine aZ 12 (aX [7,8,9,10,12] [0,1,2,3,4,5,6,7,8,9,10,11,12]) [Row p3 0 [.bool true,tv [],.slice ah i ch],Row p1 0 z.cells,A] ?_;refine Ws ?_;refine au rfl (aY rfl rfl pJ (j:=i) rfl (by omega)) ?_;refine au rfl (b7 rfl I.rh pJ (i:=i) (by omega) (by rw[zf,hm];rfl)) ?_;skip;refine aE rfl (aq rfl (UJ ja) rfl ?_);refine cn (h:=?_);refine aE rfl (aq rfl (vp (dw m)) rfl ?_);refine cn (h:=?_);refine aE rfl (cf rfl (by rfl) (by rfl) (by rfl) (by rfl) rfl fun a2=>⟨bd,?_⟩);refine aE rfl (cF rfl rfl (by rfl) (by rfl) (by rfl) (by omega) rfl fun a4 c4 gI=>⟨bd,?_⟩);refine j6 (h:=?_);refine bN rfl rfl (eZ rfl rfl rfl rfl (by simp) ?_);refine dU (h:=?_);dsimp only[Nat.reduceSub,Nat.reduceAdd,List.set];have e1:(dB ((z.t.hs.take i).map dw)).flatMap IZ.cells++(IZ.aP (dw m)).cells=(dB ((z.t.hs.take (i+1)).map dw)).flatMap IZ.cells:=by
   rw[zp,hm];simp only[zaa,zg,zE,zal,dB,zaC,zT,zbo,zF]
  rw[e1];refine Wq ?_;exact aV (back (i+1,(a4,c4)) (by dsimp only;omega) (by dsimp only;omega))
 ·obtain rfl:i=z.t.bl.length:=by omega
  rw[zo (by omega)];refine Wq ?_;refine bJ (ak.mu _) ?_;refine fw ah (h:=PH.emp) fun k1 ey R1 jg=>?_;refine aQ (α:=Nat×(Option Addr×Nat)) (fun q=>q.1≤z.t.bl.length) (fun q=>[(6,iv q.1),(4,dp p4),(3,dp p3),(1,dp p1)])
   (fun q=>Row p4 0 [.bool true,tv [],.slice q.2.1 q.1 q.2.2]::Sl 3 q.2.1 q.1 q.2.2 ((dB (z.t.bl.take q.1)).flatMap IZ.cells)::Mem k1::Row p3 0 [.bool true,tv [],.slice ah z.t.bl.length ch]::A::Row p1 0 z.cells::Γ)
   (fun q=>z.t.bl.length-q.1) (0,(none,0)) (by simp) ⟨rfl,rfl,rfl,rfl,trivial⟩
   ((ak.cq 3 _).trans (Sub.h (Δ:=Row p4 0 [.bool true,tv [],.slice none 0 0]::Sl 3 none 0 0 []::Mem k1::Row p3 0 [.bool true,tv [],.slice ah z.t.bl.length ch]::A::Row p1 0 z.cells::Γ))) ?_
  rintro⟨i,⟨ab,cb⟩⟩ hi back;dsimp only at hi back⊢;refine Wl ?_;by_cases h:i<z.t.bl.length
  ·obtain⟨b,hb⟩:=bc (l:=z.t.bl) (i:=i) h;refine Wq ?_;refine oG I.rb (by omega) fun bh oh pJ=>?_;refine aZ 11 (aX [7,8,9,11] [0,1,2,3,4,5,6,7,8,9,10,11]) [Row p4 0 [.bool true,tv [],.slice ab i cb],Row p1 0 z.cells,A] ?_;refine Ws ?_;refine au rfl (aY rfl rfl pJ (j:=i) rfl (by omega)) ?_;refine au rfl (b7 rfl I.rb pJ (i:=i) (by omega) (by rw[zf,hb];rfl)) ?_;skip;refine aE rfl (aq rfl (vp b) rfl ?_);refine cn (h:=?_);refine aE rfl (cf rfl (by rfl) (by rfl) (by rfl) (by rfl) rfl fun a2=>⟨bd,?_⟩);refine aE rfl (cF rfl rfl (by rfl) (by rfl) (by rfl) (by omega) rfl fun a4 c4 gI=>⟨bd,?_⟩);refine j6 (h:=?_);refine bN rfl rfl (eZ rfl rfl rfl rfl (by simp) ?_);refine dU (h:=?_);dsimp only[Nat.reduceSub,Nat.reduceAdd,List.set];have e1:(dB (z.t.bl.take i)).flatMap IZ.cells++(IZ.aP b).cells=(dB (z.t.bl.take (i+1))).flatMap IZ.cells:=by
    rw[zp,hb];simp only[zaa,zg,zE,zal,dB,zaC,zT,zbo,zF]
   rw[e1];refine Wq ?_;exact aV (back (i+1,(a4,c4)) (by dsimp only;omega) (by dsimp only;omega))
  obtain rfl:i=z.t.bl.length:=by omega
  rw[zu];refine Wq ?_;refine fw ab (h:=k1) fun k2 bH R2 eV=>?_;refine aZ 35 (aX [2,5,8,9,12,13,16,17,20,21,24,27,29] [0,1,3,4,6,7,10,11,14,15,18,19,22,23,25,26,2,5,8,9,12,13,16,17,20,21,24,27,28,29,30,31,32,33,34]) [Row p1 0 z.cells,Row p3 0 [.bool true,tv [],.slice ah z.t.bl.length ch],Row p4 0 [.bool true,tv [],.slice ab z.t.bl.length cb]] ?_;refine Ws ?_;refine aE rfl (aq rfl (HZ (n:=z.t.bx) (by omega)) rfl ?_);refine cn (h:=?_);refine aE rfl (aq rfl (HZ (n:=z.t.ck) (by omega)) rfl ?_);refine cn (h:=?_);refine aE rfl (aq rfl (xN (a:=z.t.bV) I.wf.bV) rfl ?_);refine cn (h:=?_);refine aE rfl (aq rfl (vp (aU z.t.bV)) rfl ?_);refine cn (h:=?_);refine aE rfl (aq rfl (xN (a:=z.t.cap) I.wf.cap) rfl ?_);refine cn (h:=?_);refine aE rfl (aq rfl (vp (aU z.t.cap)) rfl ?_);refine cn (h:=?_);refine aE rfl (aq rfl (xN (a:=z.t.bX) I.wf.bX) rfl ?_);refine cn (h:=?_);refine aE rfl (aq rfl (vp (aU z.t.bX)) rfl ?_);refine cn (h:=?_);refine aE rfl (aq rfl (xN (a:=z.t.val) I.wf.val) rfl ?_);refine cn (h:=?_);refine aE rfl (aq rfl (vp (aU z.t.val)) rfl ?_);refine cn (h:=?_);refine aE rfl (aq rfl (HZ (n:=z.t.dr) (by omega)) rfl ?_);refine cn (h:=?_);refine aE rfl (cf rfl (by rfl) (by rfl) (by rfl) (by rfl) rfl fun a9=>⟨bd,?_⟩);refine vb (h:=?_);refine aE rfl (Xg a9 (h:=k2) fun k3 dZ R9 Mx=>?_);have l1:(dB (z.t.hs.map dw)).length=z.t.bl.length:=by simp[dB];exact Hv
  have l2:(dB z.t.bl).length=z.t.bl.length:=by simp[dB]
  have i1:(IZ.bS ah ch (dB (z.t.hs.map dw))).In (Mem k3):=by
   refine .bS ah ch _ ?_ (by rw[l1];exact jg) (by rw[l1];omega) (DE fun b hb=>?_)
   ·rw[l1];exact(R1.up bH).up dZ
   ·obtain⟨m,_,rfl⟩:=zbY.1 hb;rw[xf];decide
  have i2:(IZ.bS ab cb (dB z.t.bl)).In (Mem k3):=by
   refine .bS ab cb _ ?_ (by rw[l2];exact eV) (by rw[l2];omega) (DE fun b hb=>I.bb b hb);rw[l2];exact R2.up dZ
  have hF:Fit (Mem k3) (u_ z.t a9 ah ch ab cb):=by
   refine⟨.bS a9 9 _ ?_ (zq _) (by show 9≤2^38;decide) fun x hx=>?_,by rw[A_];have:=TX.rB I.wf hz;omega,Hu _ _ _ _ _ _⟩
   ·have e:([IZ.aP (aU z.t.bx.toNat),.aP (aU z.t.ck.toNat),.aP (aU z.t.bV),.aP (aU z.t.cap),.aP (aU z.t.bX),.aP (aU z.t.val),.aP (aU z.t.dr.toNat),.bS ah ch (dB (z.t.hs.map dw)),.bS ab cb (dB z.t.bl)]:List IZ).flatMap IZ.cells=
     (IZ.aP (aU z.t.bx.toNat)).cells++(IZ.aP (aU z.t.ck.toNat)).cells++(IZ.aP (aU z.t.bV)).cells++(IZ.aP (aU z.t.cap)).cells++(IZ.aP (aU z.t.bX)).cells++(IZ.aP (aU z.t.val)).cells++(IZ.aP (aU z.t.dr.toNat)).cells++[.bool true,tv [],.slice ah z.t.bl.length ch]++[.bool true,tv [],.slice ab z.t.bl.length cb]:=by
     simp only[zT,zbo,zF,zr];show _++(_++(_++(_++(_++(_++(_++([.bool true,tv [],.slice ah (dB (z.t.hs.map dw)).length ch]++[.bool true,tv [],.slice ab (dB z.t.bl).length cb])))))))=_;rw[l1,l2]
    rw[e];exact R9
   ·simp only[zbe,List.not_mem_nil,or_false]at hx;have hN:∀a:Int,0≤a→a<2^63→(aU a.toNat).length≤2^40:=fun a h1 h2=>qw (by unfold aT;omega);rcases hx with rfl|rfl|rfl|rfl|rfl|rfl|rfl|rfl|rfl
    ·exact .aP _ (hN _ f1 (by omega))
    ·exact .aP _ (hN _ f3 (by omega))
    ·exact .aP _ (qw I.wf.bV)
    ·exact .aP _ (qw I.wf.cap)
    ·exact .aP _ (qw I.wf.bX)
    ·exact .aP _ (qw I.wf.val)
    ·exact .aP _ (hN _ f5 (by omega))
    ·exact i1
    ·exact i2
  refine aq (vs:=[(u_ z.t a9 ah ch ab cb).val]) rfl (Xm _ hF) rfl ?_;refine dh (h:=?_);rw[A_];refine rP (h:=dQ (h:=?_));exact ap rfl [A] ⟨rfl,rfl⟩ Sub.h
theorem Nt{A:HP}(z:TZ)(I:z.In A)(hz:z.t.ok=true):Spec prog 25 [z.val] [A] (fun v B=>v=nv z.t.id∧B=[A]):=by
 refine x_sp func25 ntmps25 fun E cs Γ=>?_;have hle:=TX.rB I.wf hz;refine eh (h:=?_);refine ao (aM rfl rfl fun p1=>?_);refine Wq ?_;refine aJ rfl (Ns z I hz) rfl ?_;refine de (h:=?_);refine aJ rfl (L_ z.t.bytes (by omega)) rfl ?_;refine xn (h:=?_);exact ap rfl [A] ⟨rfl,rfl⟩ Sub.h
theorem Xn{A:HP}(z:TZ)(I:z.In A)(hz:z.t.ok=true):Spec prog 53 [z.val] [A] (fun v B=>v= .int .i64 (z.t.slot:Nat)∧B=[A]):=by
 refine x_sp func53 ntmps53 fun E cs Γ=>?_;have hle:=TX.rB I.wf hz;have hb:(bC z.t.bytes).size=z.t.bytes.length:=dV _;refine eh (h:=?_);refine ao (aM rfl rfl fun p1=>?_);refine Wq ?_;refine aJ rfl (Ns z I hz) rfl ?_;refine de (h:=?_);refine ao (Kl rfl rfl ?_);refine aw (h:=?_);refine aq (vs:=[.int .i64 (z.t.bytes.length:Nat)]) (by rw[←hb];rfl) (W2 (n:=z.t.bytes.length) (by omega)) rfl ?_;refine jO (h:=?_);have Bs:mi z.t.bytes.length<4:=by unfold mi;(repeat' split)<;>omega
 refine aJ rfl (HW Bs) rfl ?_;refine xn (h:=?_);exact ap rfl [A] ⟨rfl,rfl⟩ Sub.h
end
section
open Go.Proofs Tryz
open Go.Proofs Go.RowKit
theorem Xo{A:HP}{ah ab:Option Addr}{ch cb:Nat}{hs:List Nat}{bl:List (List UInt8)}(RH:Reads A 1 ah bl.length (hs.map nv))(RB:Reads A 1 ab bl.length (bl.map tv))(hf:qn hs bl=true)(hw:∀h∈hs,h<aI):
 Spec prog 125 [.slice ah bl.length ch,.slice ab bl.length cb] [A] (fun v B=>v= .int .i64 0∧B=[A]):=by
 refine x_sp func125 ntmps125 fun E cs Γ=>?_;obtain⟨g1,g2,g3,g4⟩:=pF hf;have GO:hs.length=bl.length:=by rw[g3];simp
 refine gJ (h:=?_);refine aQ (α:=Nat) (fun i=>i≤bl.length) (fun i=>[(5,iv i),(1,.slice ab bl.length cb),(0,.slice ah bl.length ch)]) (fun _=>A::Γ) (fun i=>bl.length-i) 0 (zj _) x_tv Sub.h ?_;intro i hi back;refine Wl ?_;by_cases h:i<bl.length
 ·obtain⟨b,hb⟩:=bc (l:=bl) (i:=i) h;have Du:=g4 b (zc hb);have Nu:(bC b).size=b.length:=dV _;refine aA (h:=?_);refine bK rfl rfl RB (j:=i) rfl h rfl fun b1 off ha=>?_;refine aw (h:=?_);refine fM rfl RB ha (i:=i) (by omega) (by rw[zf,hb];rfl) rfl ?_;refine Wq ?_;exact aV (back (i+1) (by omega) (by omega))
 obtain rfl:i=bl.length:=by omega
 refine Wq ?_;refine aQ (α:=Nat) (fun i=>i≤bl.length) (fun i=>[(6,iv i),(1,.slice ab bl.length cb),(0,.slice ah bl.length ch)]) (fun _=>A::Γ) (fun i=>bl.length-i) 0 (zj _) x_tv Sub.h ?_;intro i hi back;refine Wl ?_;by_cases h:i<bl.length
 ·obtain⟨b,hb⟩:=bc (l:=bl) (i:=i) h;have Du:=g4 b (zc hb);have hm:hs[i]? =some (qt b):=by rw[g3,zf,hb];rfl
  refine Wq ?_;refine oG RH (by omega) fun bh oh pJ=>?_;refine oG RB (by omega) fun bb ob dS=>?_;refine aZ 10 (aX [8] [0,1,2,3,4,5,6,7,8,9]) [A] ?_;refine dK (h:=?_);refine au rfl (aY rfl rfl pJ (j:=i) rfl h) ?_;refine au rfl (b7 rfl RH pJ (i:=i) (by omega) (by rw[zf,hm];rfl)) ?_;refine dK (h:=?_);refine au rfl (aY rfl rfl dS (j:=i) rfl h) ?_;refine au rfl (b7 rfl RB dS (i:=i) (by omega) (by rw[zf,hb];rfl)) ?_;skip;refine aE rfl (aq rfl (UL b (by omega)) rfl ?_);refine cn (h:=?_);refine au rfl (FL rfl rfl (by omega)) ?_;refine dQ (h:=?_);exact aV (back (i+1) (by omega) (by omega))
 obtain rfl:i=bl.length:=by omega
 refine Wq ?_;exact ap rfl [A] ⟨rfl,rfl⟩ Sub.h
theorem Nv(z:TZ)(w:z.t.Wf)(hg:0≤z.t.dr∧z.t.dr≤1073741824)(hn:z.t.bl.length≤4)(hc:z.t.fF<aT):
 Spec prog 126 [z.val] [] (fun v B=>v= .tuple #[uv z.t.fF,.bool true]∧B=[]):=by
 refine x_sp func126 ntmps126 fun E cs Γ=>?_;obtain⟨g,AW⟩:∃g:Nat,z.t.dr=g:=⟨z.t.dr.toNat,by omega⟩
 have u5:z.t.fF=z.t.cap*g+z.t.bX*(131072*z.t.bl.length)+z.t.val:=by unfold TX.fF;rw[AW];rfl
 have h1:z.t.cap*g<aT:=by omega
 have h2:z.t.bX*(131072*z.t.bl.length)<aT:=by omega
 have h3:z.t.cap*g+z.t.bX*(131072*z.t.bl.length)<aT:=by omega
 refine gi (h:=?_);refine ao (aM rfl rfl fun p1=>?_);refine ao (aC rfl fun p2=>?_);refine nr (h:=?_);refine eL (α:=Nat) (fun _=>True) (fun p4=>[(1,dp p1),(2,dp p2),(3,.bool false),(4,dp p4),(5,.bool true)])
  (fun p4=>Row p4 0 (uc (z.t.cap*g))::Row p2 0 [nv 0,nv 0,nv 0,nv 0]::Row p1 0 z.cells::Γ) ?_ ?_
 rotate_left
 ·intro td fin;refine rz 11 [4,5,9,10] (.look 0 (.look 1 (.look 2 (.look 3 (.alt (.act 4 (.alt (gZ [(5,true),(6,false),(7,false),(8,false),(9,true),(10,true),(11,false)]) (gZ [(9,true),(5,true),(6,false),(7,false),(8,false),(10,true),(11,false)]))) (gZ [(9,true),(4,true),(5,true),(6,false),(7,false),(8,false),(10,true),(11,false)])))))) [Row p1 0 z.cells] mixed (by kernel_rfl) bd ?_;refine dg rfl (om rfl) ?_;refine dg rfl (oz (us:=uc z.t.cap) rfl rfl rfl rfl) ?_;refine dg rfl (om rfl) ?_;refine dg rfl (qY rfl rfl rfl) ?_;simp only[AW];refine mf (xd rfl (aq rfl (xM (n:=g) (by omega)) rfl ?_)) (gL _ ?_)
  ·refine cn (h:=?_);refine mf (gL _ ?_) (gL _ ?_)
   ·refine aE rfl (aq (vs:=[uv z.t.cap,uv g]) rfl (xP w.cap (b:=g) (by unfold aT;omega)) rfl ?_);refine cn (h:=?_);rw[if_pos h1,decide_eq_true h1];refine lM (h:=?_);refine aE rfl (aC rfl fun q4=>⟨bd,?_⟩);refine aE rfl (dt (us:=uc (z.t.cap*g)) rfl rfl (by rfl) (by rfl) (by rfl) ⟨bd,?_⟩);refine df (h:=?_);exact aV (fin q4 trivial)
   ·refine aE rfl (aC rfl fun q4=>⟨bd,?_⟩);refine aE rfl (aq (vs:=[uv z.t.cap,uv g]) rfl (xP w.cap (b:=g) (by unfold aT;omega)) rfl ?_);refine cn (h:=?_);rw[if_pos h1,decide_eq_true h1];refine lM (h:=?_);refine aE rfl (dt (us:=uc (z.t.cap*g)) rfl rfl (by rfl) (by rfl) (by rfl) ⟨bd,?_⟩);refine df (h:=?_);exact aV (fin q4 trivial)
  ·refine aE rfl (aC rfl fun q4=>⟨bd,?_⟩);refine aE rfl (aq rfl (xM (n:=g) (by omega)) rfl ?_);refine cn (h:=?_);refine aE rfl (aq (vs:=[uv z.t.cap,uv g]) rfl (xP w.cap (b:=g) (by unfold aT;omega)) rfl ?_);refine cn (h:=?_);rw[if_pos h1,decide_eq_true h1];refine lM (h:=?_);refine aE rfl (dt (us:=uc (z.t.cap*g)) rfl rfl (by rfl) (by rfl) (by rfl) ⟨bd,?_⟩);refine df (h:=?_);exact aV (fin q4 trivial)
 intro q4 _;refine eM (h:=?_);refine eL (α:=Nat) (fun _=>True) (fun p6=>[(1,dp p1),(2,dp p2),(3,.bool false),(4,dp q4),(5,.bool true),(6,dp p6),(7,.bool true)])
  (fun p6=>Row p6 0 (uc (z.t.bX*(131072*z.t.bl.length)))::Row q4 0 (uc (z.t.cap*g))::Row p2 0 [nv 0,nv 0,nv 0,nv 0]::Row p1 0 z.cells::Γ) ?_ ?_
 rotate_left
 ·intro td fin;refine rz 13 [6,7,11,12] (.look 0 (.look 1 (.look 2 (.look 3 (.look 4 (.look 5 (.alt (.act 6 (.alt (gZ [(7,true),(8,false),(9,false),(10,false),(11,true),(12,true),(13,false)]) (gZ [(11,true),(7,true),(8,false),(9,false),(10,false),(12,true),(13,false)]))) (gZ [(11,true),(6,true),(7,true),(8,false),(9,false),(10,false),(12,true),(13,false)])))))))) [Row p1 0 z.cells] mixed (by kernel_rfl) bd ?_;refine dg rfl (om rfl) ?_;refine dg rfl (oz (us:=uc z.t.bX) rfl rfl rfl rfl) ?_;refine dg rfl (om rfl) ?_;refine dg rfl (qY rfl rfl rfl) ?_;refine dg rfl (Ct rfl) ?_;refine dg rfl (Cr rfl rfl (gE (by omega))) ?_;rw[show(131072:Int)*(z.t.bl.length:Int)=((131072*z.t.bl.length:Nat):Int)by omega];refine mf (xd rfl (aq rfl (xM (n:=131072*z.t.bl.length) (by omega)) rfl ?_)) (gL _ ?_)
  ·refine cn (h:=?_);refine mf (gL _ ?_) (gL _ ?_)
   ·refine aE rfl (aq (vs:=[uv z.t.bX,uv (131072*z.t.bl.length)]) rfl (xP w.bX (b:=131072*z.t.bl.length) (by unfold aT;omega)) rfl ?_);refine cn (h:=?_);rw[if_pos h2,decide_eq_true h2];refine lM (h:=?_);refine aE rfl (aC rfl fun q4=>⟨bd,?_⟩);refine aE rfl (dt (us:=uc (z.t.bX*(131072*z.t.bl.length))) rfl rfl (by rfl) (by rfl) (by rfl) ⟨bd,?_⟩);refine df (h:=?_);exact aV (fin q4 trivial)
   ·refine aE rfl (aC rfl fun q4=>⟨bd,?_⟩);refine aE rfl (aq (vs:=[uv z.t.bX,uv (131072*z.t.bl.length)]) rfl (xP w.bX (b:=131072*z.t.bl.length) (by unfold aT;omega)) rfl ?_);refine cn (h:=?_);rw[if_pos h2,decide_eq_true h2];refine lM (h:=?_);refine aE rfl (dt (us:=uc (z.t.bX*(131072*z.t.bl.length))) rfl rfl (by rfl) (by rfl) (by rfl) ⟨bd,?_⟩);refine df (h:=?_);exact aV (fin q4 trivial)
  ·refine aE rfl (aC rfl fun q4=>⟨bd,?_⟩);refine aE rfl (aq rfl (xM (n:=131072*z.t.bl.length) (by omega)) rfl ?_);refine cn (h:=?_);refine aE rfl (aq (vs:=[uv z.t.bX,uv (131072*z.t.bl.length)]) rfl (xP w.bX (b:=131072*z.t.bl.length) (by unfold aT;omega)) rfl ?_);refine cn (h:=?_);rw[if_pos h2,decide_eq_true h2];refine lM (h:=?_);refine aE rfl (dt (us:=uc (z.t.bX*(131072*z.t.bl.length))) rfl rfl (by rfl) (by rfl) (by rfl) ⟨bd,?_⟩);refine df (h:=?_);exact aV (fin q4 trivial)
 intro q6 _;refine Wq ?_;refine aJ rfl (HX h1 h2) rfl ?_;refine dh (h:=?_);rw[if_pos h3,decide_eq_true h3];refine qq (h:=?_);refine ao (aC rfl fun p8=>?_);refine Wq ?_;refine aJ rfl (HX h3 w.val) rfl ?_;refine dh (h:=?_);rw[if_pos (by omega),decide_eq_true (by omega),←u5];refine nZ (h:=?_);exact bP (rs:=[.cell 2 24,.tmp 3]) (vs:=[uv z.t.fF,.bool true]) ⟨bG rfl rfl,bO rfl,trivial⟩ [] ⟨rfl,rfl⟩ Sub.h
theorem Xp{A:HP}(z:TZ)(I:z.In A)(hz:z.t.ok=true):Spec prog 80 [z.val] [A] (fun v B=>v= .bool true∧B=[A]):=by
 refine x_sp func80 ntmps80 fun E cs Γ=>?_;obtain⟨f1,f2,f3,f4,f5,f6,f7,f8,f9⟩:=mr hz;obtain⟨g1,g2,g3,g4⟩:=pF f8;refine eh (h:=?_);refine ao (aM rfl rfl fun p1=>?_);refine Wq ?_;refine aJ rfl (wR _ _) rfl ?_;refine dh (h:=?_);rw[decide_eq_true (p:=0≤z.t.bx∧z.t.bx≤7) (by omega)];refine dq (h:=gg (h:=?_));refine aq rfl (wR _ _) rfl ?_;refine dh (h:=?_);rw[decide_eq_true (p:=0≤z.t.ck∧z.t.ck≤1099511627776) (by omega)];refine dq (h:=gg (h:=?_));refine aq rfl (wR _ _) rfl ?_;refine dh (h:=?_);rw[decide_eq_true (p:=0≤z.t.dr∧z.t.dr≤1073741824) (by omega)];refine dq (h:=gg (h:=?_));refine aq rfl (HV I.wf.bV I.wf.cap) rfl ?_;refine dh (h:=?_);have qm:¬cV z.t.bV z.t.cap>0:=by unfold cV;split<;>(try split)<;>omega
 refine dq (h:=gg (h:=?_));refine aq (vs:=[.slice z.ah z.t.bl.length z.ch,.slice z.ab z.t.bl.length z.cb]) (by rw[show z.t.bl.length=z.t.hs.length by rw[g3];simp];rfl) (Xo (hs:=z.t.hs) (bl:=z.t.bl) (by have:=I.rh;rwa[show z.t.hs.length=z.t.bl.length by rw[g3];simp]at this) I.rb f8 I.wf.hs) rfl ?_;refine jC (h:=?_);refine aJ rfl (Nv z I.wf ⟨f5,f6⟩ g2 f9) rfl ?_;refine xk (h:=?_);refine ao (aC rfl fun p3=>?_);refine Wq ?_;exact ap rfl [A] ⟨rfl,rfl⟩ Sub.h
theorem Nw{A:HP}{a:Option Addr}{c:Nat}{L:List TZ}(R:Reads A 21 a L.length (av L))(hI:∀z∈L,z.In A)(bn:∀z∈L,z.t.ok=true)(hl:L.length≤2^40):Spec prog 46 [.slice a L.length c] [A] (fun v B=>v= .bool true∧B=[A]):=by
 refine x_sp func46 ntmps46 fun E cs Γ=>?_;refine j7 (h:=?_);refine aQ (α:=Nat) (fun i=>i≤L.length) (fun i=>[(3,iv i),(0,.slice a L.length c)]) (fun _=>A::Γ) (fun i=>L.length-i) 0 (zj _) x_tv Sub.h ?_;intro i hi back;refine Wl ?_;by_cases h:i<L.length
 ·obtain⟨z,hz⟩:=bc (l:=L) (i:=i) h;have hm:=zc hz;refine aA (h:=?_);refine bK rfl rfl R (j:=i) rfl h rfl fun b1 off ha=>?_;refine aw (h:=?_);refine dA rfl R ha (i:=i*21) (us:=z.cells) (by omega) rfl (fun j v hv=>cG hz hv) rfl ?_;refine aw (h:=?_);refine aq (vs:=[z.val]) rfl (Xp z (hI z hm) (bn z hm)) rfl ?_;refine jC (h:=?_);exact aV (back (i+1) (by omega) (by omega))
 obtain rfl:i=L.length:=by omega
 refine Wq ?_;exact ap rfl [A] ⟨rfl,rfl⟩ Sub.h
end
section
open Go.Proofs Tryz
open Go.Proofs Go.RowKit
theorem Xq{A:HP}{a:Option Addr}{len cap:Nat}{bs:List Nat}(R:Reads A 1 a len (bs.map nv))(hlen:len≤2^40):
 Spec prog 127 [.slice a len cap] [A] (fun v B=>∃a' bi,v= .slice a' len bi∧B=[A,Sl 1 a' len bi (bs.map nv)]):=by
 have hl:bs.length=len:=by simpa using R.1
 refine x_sp func127 ntmps127 fun E cs Γ=>?_;refine jx (h:=Wl ?_);refine aQ (α:=Nat×Option Addr×Nat) (fun p=>p.1≤len) (fun p=>[(0,.slice a len cap),(3,.slice p.2.1 p.1 p.2.2),(4,iv p.1)]) (fun p=>Sl 1 p.2.1 p.1 p.2.2 ((bs.take p.1).map nv)::A::Γ)
  (fun p=>len-p.1) (0,none,0) (zj _) x_tv (ak.cq _ _) ?_
 rintro⟨i,a',c'⟩ hi back;dsimp only at hi back⊢;refine eU (h:=?_);refine m7 rfl rfl rfl (fun h=>?_) (fun h=>?_)
 ·refine eU (h:=?_);refine bK rfl rfl R (j:=i) rfl (by omega) rfl fun b off ha=>?_;refine aw (h:=?_);refine fM rfl R ha (i:=i) (by omega) (uA nv (by omega)) rfl ?_;refine aw (h:=?_);refine cf rfl (by rfl) (by rfl) (by rfl) (by rfl) rfl fun a2=>?_;refine aw (h:=?_);refine cF rfl rfl (by rfl) (by rfl) (by rfl) (by omega) rfl fun a3 c3 hc=>?_;refine eU (h:=?_);refine sG rfl rfl (qa (by omega)) rfl ?_;refine bU (h:=?_);rw[F7 nv bs i (by omega)];exact aV (back (i+1,a3,c3) (by dsimp only;omega) (by dsimp only;omega))
 ·refine Wl ?_;have e:i=len:=by omega
  subst e;rw[CI bs _ (by omega)];exact ap rfl [A,Sl 1 a' _ c' (bs.map nv)] ⟨a',c',rfl,rfl⟩ Sub.h
theorem Xr{A:HP}{a:Option Addr}{len cap:Nat}{bs:List (List UInt8)}(R:Reads A 1 a len (bs.map tv))(hlen:len≤2^40):
 Spec prog 128 [.slice a len cap] [A] (fun v B=>∃a' bi,v= .slice a' len bi∧B=[A,Sl 1 a' len bi (bs.map tv)]):=by
 have hl:bs.length=len:=by simpa using R.1
 refine x_sp func128 ntmps128 fun E cs Γ=>?_;refine jx (h:=Wl ?_);refine aQ (α:=Nat×Option Addr×Nat) (fun p=>p.1≤len) (fun p=>[(0,.slice a len cap),(3,.slice p.2.1 p.1 p.2.2),(4,iv p.1)]) (fun p=>Sl 1 p.2.1 p.1 p.2.2 ((bs.take p.1).map tv)::A::Γ)
  (fun p=>len-p.1) (0,none,0) (zj _) x_tv (ak.cq _ _) ?_
 rintro⟨i,a',c'⟩ hi back;dsimp only at hi back⊢;refine eU (h:=?_);refine m7 rfl rfl rfl (fun h=>?_) (fun h=>?_)
 ·refine eU (h:=?_);refine bK rfl rfl R (j:=i) rfl (by omega) rfl fun b off ha=>?_;refine aw (h:=?_);refine fM rfl R ha (i:=i) (by omega) (uA tv (by omega)) rfl ?_;refine aw (h:=?_);refine cf rfl (by rfl) (by rfl) (by rfl) (by rfl) rfl fun a2=>?_;refine aw (h:=?_);refine cF rfl rfl (by rfl) (by rfl) (by rfl) (by omega) rfl fun a3 c3 hc=>?_;refine eU (h:=?_);refine sG rfl rfl (qa (by omega)) rfl ?_;refine bU (h:=?_);rw[F7 tv bs i (by omega)];exact aV (back (i+1,a3,c3) (by dsimp only;omega) (by dsimp only;omega))
 ·refine Wl ?_;have e:i=len:=by omega
  subst e;rw[CI bs _ (by omega)];exact ap rfl [A,Sl 1 a' _ c' (bs.map tv)] ⟨a',c',rfl,rfl⟩ Sub.h
theorem Xs{A:HP}(z:TZ)(I:z.In A):Spec prog 81 [z.val] [A] (fun v B=>∃(k:PH) (z':TZ),z'.t=z.t∧z'.In (Mem k)∧v=z'.val∧B=[A,Mem k]):=by
 refine x_sp func81 ntmps81 fun E cs Γ=>?_;refine eh (h:=?_);refine ao (aM rfl rfl fun p1=>?_);refine ao (aC rfl fun p2=>?_);refine uM (h:=Dr (h:=?_));refine ao (aC rfl fun p3=>?_);refine Wq ?_;refine aJ rfl (Xq I.rh I.hl) rfl ?_;rintro v B ⟨a5,c5,rfl,rfl⟩;refine bW (h:=?_);refine aJ rfl (Xr I.rb I.bl) rfl ?_;rintro v B ⟨a8,c8,rfl,rfl⟩;refine bW (h:=?_);refine bJ (ak.mu _) ?_;refine fw a5 (h:=PH.emp) fun k1 ey R5 A6=>?_;refine fw a8 (h:=k1) fun k2 bH R8 rq=>?_;skip;exact bP (rs:=[.cell 2 88]) (vs:=[TZ.val (Dy z.t a5 c5 a8 c8)]) ⟨bG rfl rfl,trivial⟩ [A,Mem k2] ⟨k2,Dy z.t a5 c5 a8 c8,rfl,⟨R5.up bH,R8,A6,rq,I.wf,I.hl,I.bl,I.bb⟩,rfl,rfl⟩ Sub.h
def tM(a:Int)(L:List TZ):List TZ:=L.filter fun z=>decide (z.t.bx=a)
theorem Xt{a:Int}{L:List TZ}{i:Nat}{z:TZ}(h:L[i]? =some z):tM a (L.take (i+1))=tM a (L.take i)++(if z.t.bx=a then [z]else []):=by
 unfold tM;rw[zp,h,zbc];congr 1;by_cases e:z.t.bx=a<;>simp[e]
theorem Xu{A:HP}{a:Option Addr}{c:Nat}{L:List TZ}(xQ:Int)(R:Reads A 21 a L.length (av L))(hI:bR A L)(hl:L.length≤2^38):
 Spec prog 48 [.slice a L.length c,.int .i64 xQ] [A] (fun v B=>∃(k:PH) (l':List TZ) (a':Option Addr) (c':Nat),Same (tM xQ L) l'∧bR (Mem k) l'∧v= .slice a' l'.length c'∧B=[A,Mem k,Sl 21 a' l'.length c' (av l')]):=by
 refine x_sp func48 ntmps48 fun E cs Γ=>?_;refine gJ (h:=?_);refine aQ (α:=Nat×PH×List TZ×Option Addr×Nat) (fun q=>q.1≤L.length∧q.2.2.1.length≤q.1∧Same (tM xQ (L.take q.1)) q.2.2.1∧bR (Mem q.2.1) q.2.2.1) (fun q=>[(6,iv q.1),(5,.slice q.2.2.2.1 q.2.2.1.length q.2.2.2.2),(0,.slice a L.length c),(1,iv xQ)])
  (fun q=>A::Mem q.2.1::Sl 21 q.2.2.2.1 q.2.2.1.length q.2.2.2.2 (av q.2.2.1)::Γ) (fun q=>L.length-q.1) (0,PH.emp,[],none,0) ⟨by simp,zq _,by simp[Same,tM],fun z hz=>by cases hz⟩ ⟨rfl,rfl,rfl,rfl,trivial⟩
  ((ak.cq 21 _).trans ((ak.mu _).trans (Sub.h (Δ:=A::Mem PH.emp::Sl 21 none 0 0 []::Γ)))) ?_
 rintro⟨i,k,l',a3,c3⟩ ⟨hi,fi,hs,I'⟩ back;dsimp only at hi fi hs I' back⊢;refine Wl ?_;by_cases aN:i<L.length
 ·obtain⟨z,hz⟩:=bc (l:=L) (i:=i) aN;have jP:=hI z (zc hz);have Eg:=Xt (a:=xQ) hz;refine aA (h:=?_);refine bK rfl rfl R (j:=i) rfl aN rfl fun b off ha=>?_;refine oC (h:=?_);refine fM rfl R ha (i:=i*21+0) (by omega) (cG hz (j:=0) rfl) rfl ?_;by_cases hf:z.t.bx=xQ
  ·rw[if_pos hf]at Eg;refine aA (h:=?_);refine bK rfl rfl R (j:=i) rfl aN rfl fun b off ha=>?_;refine aw (h:=?_);refine dA rfl R ha (i:=i*21) (us:=z.cells) (by omega) rfl (fun j v hv=>cG hz hv) rfl ?_;refine aw (h:=?_);refine aq (vs:=[z.val]) rfl (Xs z jP) rfl ?_;rintro v B ⟨k2,z',fe,eA,rfl,rfl⟩;refine rc (h:=?_);refine cf rfl (by rfl) (by rfl) (by rfl) (by rfl) rfl fun a2=>?_;refine aw (h:=?_);refine cF rfl rfl (by rfl) (by rfl) (by rfl) (by omega) rfl fun a4 c4 hc=>?_;have e:av l'++z'.cells=av (l'++[z']):=by simp[av]
   rw[show(av l'++_:List Value)=av (l'++[z'])from e];have dk:=fun k3 h=>back (i+1,k3,l'++[z'],a4,c4) h (by dsimp only;omega);dsimp only at dk;rw[show(l'++[z']).length=l'.length+1 by simp]at dk;refine Wq ?_;refine ny k k2 fun k3 hk bH=>?_;exact aV (dk k3 ⟨by omega,by omega,by
    unfold Same at hs⊢;rw[Eg,zg,zg,hs];simp[fe],(I'.up hk).snoc (eA.up bH)⟩)
  ·rw[if_neg hf,zF]at Eg;refine Wq ?_;exact aV (back (i+1,k,l',a3,c3) ⟨by dsimp only;omega,by dsimp only;omega,by rw[Eg];exact hs,I'⟩ (by dsimp only;omega))
 ·obtain rfl:i=L.length:=by omega
  rw[zu]at hs;refine Wq ?_;exact ap rfl [A,Mem k,Sl 21 a3 l'.length c3 (av l')] ⟨k,l',a3,c3,hs,I',rfl,rfl⟩ Sub.h
def ld(L:List TZ):Nat:=(L.map fun z=>z.t.fF).sum
theorem Ny{L:List TZ}{i:Nat}{z:TZ}(h:L[i]? =some z):ld (L.take (i+1))=ld (L.take i)+z.t.fF:=by
 unfold ld;rw[zp,h];simp
theorem Nz(L:List TZ)(i:Nat):ld (L.take i)≤ld L:=by
 have e:ld L=ld (L.take i)+ld (L.drop i):=by
  unfold ld;rw[←zbI,←zg,zG]
 omega
theorem NA{A:HP}{a:Option Addr}{c:Nat}{L:List TZ}(R:Reads A 21 a L.length (av L))(hI:bR A L)(bn:∀z∈L,z.t.ok=true)(hl:L.length≤2^38)(hs:ld L<aT):
 Spec prog 82 [.slice a L.length c] [A] (fun v B=>v= .tuple #[uv (ld L),.bool true]∧B=[A]):=by
 refine x_sp func82 ntmps82 fun E cs Γ=>?_;refine eh (h:=?_);refine ao (aC rfl fun p2=>?_);refine Wq ?_;refine ao (aC rfl fun p4=>?_);refine Wq ?_;refine aQ (α:=Nat) (fun i=>i≤L.length) (fun i=>[(5,iv i),(4,dp p4),(2,dp p2),(0,.slice a L.length c)]) (fun i=>Row p4 0 (uc (ld (L.take i)))::Row p2 0 [nv 0,nv 0,nv 0,nv 0]::A::Γ) (fun i=>L.length-i) 0 (zj _) ⟨rfl,rfl,rfl,rfl,trivial⟩
  (by rw[show ld (L.take 0)=0 by rw[zbq];rfl];exact Sub.h (Δ:=Row p4 0 [nv 0,nv 0,nv 0,nv 0]::Row p2 0 [nv 0,nv 0,nv 0,nv 0]::A::Γ)) ?_
 intro i hi back;refine Wl ?_;have hle:=Nz L i;by_cases h:i<L.length
 ·obtain⟨z,hz⟩:=bc (l:=L) (i:=i) h;have hm:=zc hz;have Xv:=Nz L (i+1);rw[Ny hz]at Xv;obtain⟨f1,f2,f3,f4,f5,f6,f7,f8,f9⟩:=mr (bn z hm);obtain⟨g1,g2,g3,g4⟩:=pF f8;have dk:=back (i+1) (by omega) (by omega);rw[Ny hz]at dk;refine aA (h:=?_);refine bK rfl rfl R (j:=i) rfl h rfl fun b1 off ha=>?_;refine aw (h:=?_);refine dA rfl R ha (i:=i*21) (us:=z.cells) (by omega) rfl (fun j v hv=>cG hz hv) rfl ?_;refine aw (h:=?_);refine aq (vs:=[z.val]) rfl (Nv z (hI z hm).wf ⟨f5,f6⟩ g2 f9) rfl ?_;refine xk (h:=?_);refine ao (aC rfl fun p6=>?_);refine aA (h:=?_);refine aq (vs:=[uv (ld (L.take i)),uv z.t.fF]) rfl (HX (by omega) f9) rfl ?_;refine dh (h:=?_);rw[if_pos (by omega),decide_eq_true (by omega)];refine qq (h:=?_);refine ao (aC rfl fun p8=>?_);refine Wq ?_;exact aV dk
 obtain rfl:i=L.length:=by omega
 rw[zu];refine Wq ?_;exact bP (rs:=[.cell 2 24,.tmp 3]) (vs:=[uv (ld L),.bool true]) ⟨bG rfl rfl,bO rfl,trivial⟩ [A] ⟨rfl,rfl⟩ Sub.h
structure Eh(A:HP)(L:List TZ):Prop where
 i:bR A L
 ok:∀z∈L,z.t.ok=true
 len:L.length≤6
 aO:∀(i:Nat) (z:TZ),L[i]? =some z→z.t.ck=i
 bx:∃a,∀z∈L,z.t.bx=a
 sum:ld L≤18446744073709551616
theorem NB{A:HP}{a:Option Addr}{c:Nat}{L:List TZ}(R:Reads A 21 a L.length (av L))(C:Eh A L):Spec prog 49 [.slice a L.length c] [A] (fun v B=>v= .bool true∧B=[A]):=by
 refine x_sp func49 ntmps49 fun E cs Γ=>?_;have hl:=C.len;have Bk:=C.sum;obtain⟨fa,tc⟩:=C.bx;refine jx (h:=gg (h:=?_));refine aq rfl (Nw R C.i C.ok (by omega)) rfl ?_;refine jC (h:=?_);refine aQ (α:=Nat) (fun i=>1≤i∧(i≤L.length∨i=1)) (fun i=>[(3,iv i),(0,.slice a L.length c),(2,.bool false)]) (fun i=>A::Γ) (fun i=>L.length-i) 1 ⟨by omega,.inr rfl⟩ x_tv Sub.h ?_;rintro i ⟨h1,hi⟩ back;refine Wl ?_;by_cases h:i<L.length
 ·obtain⟨z,hz⟩:=bc (l:=L) (i:=i) h;obtain⟨y,hy⟩:=bc (l:=L) (i:=i-1) (by omega);obtain⟨x,hx⟩:=bc (l:=L) (i:=0) (by omega);have e1:=C.aO i z hz;have e2:=C.aO _ y hy;have e3:=tc z (zc hz);have e4:=tc x (zc hx);refine Wq ?_;refine oG R (by omega) fun b off ha=>?_;refine aZ 25 (aX [] [0,1,2,3,4,5,6,7,8,9,10,11,12,13,14,15,16,17,18,19,20,21,22,23,24]) [A] ?_;refine dK (h:=?_);refine au rfl (aY rfl rfl ha (j:=i) rfl h) ?_;refine j6 (h:=?_);refine au rfl (b7 rfl R ha (i:=i*21+0) (by omega) (cG hz (j:=0) rfl)) ?_;refine dD (h:=?_);refine au rfl (aY rfl rfl ha (j:=0) rfl (by omega)) ?_;refine j6 (h:=?_);refine au rfl (b7 rfl R ha (i:=0*21+0) (by omega) (cG hx (j:=0) rfl)) ?_;rw[e3,e4];refine Ws ?_;refine bE rfl rfl (aY rfl rfl ha (j:=i) rfl h) ?_;refine lP (h:=?_);refine bE rfl rfl (b7 rfl R ha (i:=i*21+1) (by omega) (cG hz (j:=1) rfl)) ?_;refine oM (h:=D5 (h:=?_));refine bE rfl rfl (aY rfl rfl ha (j:=i-1) (by omega) (by omega)) ?_;refine lP (h:=?_);refine bE rfl rfl (b7 rfl R ha (i:=(i-1)*21+1) (by omega) (cG hy (j:=1) rfl)) ?_;rw[e1,e2];refine bE rfl rfl (Cp rfl rfl (qa (by omega))) ?_;refine Ei (h:=vj (h:=?_));exact aV (back (i+1) ⟨by omega,by omega⟩ (by omega))
 ·refine Wq ?_;refine aJ rfl (NA R C.i C.ok (by omega) (by unfold aT;omega)) rfl ?_;refine de (h:=gj (h:=?_));refine ao (aC rfl fun p4=>?_);refine Wq ?_;exact ap rfl [A] ⟨rfl,rfl⟩ Sub.h
theorem NC{A:HP}{a:Option Addr}{c:Nat}{L:List TZ}(hc:L.length≤c)(R:Reads A 21 a L.length (av L))(C:Eh A L):Spec prog 50 [.slice a L.length c,uv 18446744073709551616] [A] (fun v B=>v= .int .i64 (L.length:Nat)∧B=[A]):=by
 refine x_sp func50 ntmps50 fun E cs Γ=>?_;have hl:=C.len;have Bk:=C.sum;refine dx (h:=?_);refine ao (aM rfl rfl fun p3=>?_);refine Wq ?_;refine aQ (α:=Nat) (fun i=>i=L.length) (fun i=>[(5,iv i),(0,.slice a L.length c),(3,dp p3),(4,iv 0)]) (fun i=>Row p3 0 (uc 18446744073709551616)::A::Γ) (fun i=>i) L.length rfl x_tv Sub.h ?_;rintro i rfl back;refine lN (h:=?_);by_cases h:0<L.length
 ·refine aA (h:=?_);refine qP (jh:=L.length) rfl rfl rfl hc rfl ?_;refine aJ rfl (NA R C.i C.ok (by omega) (by unfold aT;omega)) rfl ?_;refine de (h:=gj (h:=?_));refine ao (aC rfl fun p6=>?_);refine gg (h:=?_);refine aq (vs:=[uv (ld L),uv 18446744073709551616]) rfl (HV (by unfold aT;omega) (by decide)) rfl ?_;refine dh (h:=?_);have qm:cV (ld L) 18446744073709551616≤0:=by unfold cV;(repeat' split)<;>omega
  refine nZ (h:=?_);exact ap rfl [A] ⟨rfl,rfl⟩ Sub.h
 ·have e:L.length=0:=by omega
  rw[e];refine Wq ?_;exact ap rfl [A] ⟨rfl,rfl⟩ Sub.h
end
end Go.Proofs.YtacfncmndodlpaaGreat
