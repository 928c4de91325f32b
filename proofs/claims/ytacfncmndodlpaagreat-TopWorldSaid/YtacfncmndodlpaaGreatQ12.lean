/- Part of a proof over the seat YtacfncmndodlpaaGreat. Its claim's last module says what is proved. -/
import Derived.Test.YtacfncmndodlpaaGreatQ8
import Derived.Test.YtacfncmndodlpaaGreatQ9
set_option linter.all false
set_option maxHeartbeats 12800000
namespace Go.Proofs.YtacfncmndodlpaaGreat
section
open Go.Proofs Tryz
open Go.Proofs Go.RowKit
theorem Zu{n:Nat}(h1:1024≤n)(h2:n≤1048576):Spec prog 23 [.int .i64 n] [] (fun v B=>v= .bool true∧B=[]):=by
 refine x_sp func23 ntmps23 fun E cs Γ=>?_;refine ko (h:=aA (h:=?_));refine aq (vs:=[.int .i64 ((3:Nat):Int)]) rfl (HW (k:=3) (by decide)) rfl ?_;refine dh (h:=?_);rw[show(128*2^3:Nat)=1024 from rfl];refine nZ (h:=?_);exact ap rfl [] ⟨rfl,rfl⟩ Sub.h
theorem Zv{A:HP}{a:Option Addr}{c:Nat}{L:List TZ}(R:Reads A 21 a L.length (av L))(hI:bR A L)(bn:∀z∈L,z.t.ok=true)(hl:L.length≤48):Spec prog 24 [.slice a L.length c] [A] (fun v B=>v= .int .i64 (cR L:Nat)∧B=[A]):=by
 refine x_sp func24 ntmps24 fun E cs Γ=>?_;refine j7 (h:=?_);refine aQ (α:=Nat) (fun i=>i≤L.length) (fun i=>[(4,iv i),(3,iv (cR (L.take i):Nat)),(0,.slice a L.length c)]) (fun _=>A::Γ) (fun i=>L.length-i) 0 (zj _) x_tv Sub.h ?_;intro i hi back;refine Wl ?_;have hle:=DY (L.take i);rw[zw]at hle;by_cases h:i<L.length
 ·obtain⟨z,hz⟩:=bc (l:=L) (i:=i) h;have hm:=zc hz;have dP:=DX z.t;have dk:=back (i+1) (by omega) (by omega);rw[M1 hz]at dk;refine aA (h:=?_);refine bK rfl rfl R (j:=i) rfl h rfl fun b1 off ha=>?_;refine aw (h:=?_);refine dA rfl R ha (i:=i*21) (us:=z.cells) (by omega) rfl (fun j v hv=>cG hz hv) rfl ?_;refine aw (h:=?_);refine aq (vs:=[z.val]) rfl (Xn z (hI z hm) (bn z hm)) rfl ?_;refine jC (h:=?_);exact aV dk
 obtain rfl:i=L.length:=by omega
 rw[zu];refine Wq ?_;exact ap rfl [A] ⟨rfl,rfl⟩ Sub.h
theorem Zw{A:HP}(z:BZ)(I:z.In A)(hs:cR z.l≤z.room):Spec prog 9 [z.val] [A] (fun v B=>v= .bool true∧B=[A]):=by
 refine x_sp func9 ntmps9 fun E cs Γ=>?_;have hl:=I.len;have fN:=I.lo;have kM:=I.hi;refine eh (h:=?_);refine ao (aM rfl rfl fun p1=>?_);refine nr (h:=?_);refine aZ 15 (aX [1,5,10] [0,1,2,3,4,5,6,7,8,9,11,12,10,13,14,15]) [A,Row p1 0 z.cells] ?_;refine iA (h:=?_);refine aE rfl (aq rfl (XK z I) rfl ?_);refine mc (h:=dD (h:=lP (h:=Bt (h:=?_))));refine gp rfl rfl (aq rfl (Zu I.lo I.hi) rfl ?_);refine cn (h:=Ws ?_);refine gp rfl rfl (aq rfl (Zv I.rt I.it I.ok hl) rfl ?_);refine mc (h:=?_);refine bE rfl rfl (Ro rfl rfl (by omega)) ?_;refine au rfl (Cn rfl rfl) ?_;refine df (h:=?_);exact ap rfl [A] ⟨rfl,rfl⟩ Sub.h
structure GZ where
 v0:Value
 v1:Value
 v2:Value
 v3:Value
 v4:Value
 v5:Value
 v6:Value
 v7:Value
 v8:Value
 v9:Value
 v10:Value
 v11:Value
 Zx:Value
 Zy:Value
 Zz:Value
 ZA:Value
 ZB:Value
 ZC:Value
 ZD:Value
 ah:Option Addr
 nh:Nat
 ch:Nat
 ab:Option Addr
 cb:Nat
 bl:List (List UInt8)
abbrev GZ.cells(g:GZ):List Value:=[g.v0,g.v1,g.v2,g.v3,g.v4,g.v5,g.v6,g.v7,g.v8,g.v9,g.v10,g.v11,g.Zx,g.Zy,g.Zz,g.ZA,g.ZB,g.ZC,g.ZD,.slice g.ah g.nh g.ch,.slice g.ab g.bl.length g.cb]
abbrev GZ.val(g:GZ):Value:= .agg g.cells.toArray
structure GZ.In(A:HP)(g:GZ):Prop where
 one:g.cells.all Value.oneCell'=true
 nh:g.nh≤2^47
 nb:g.bl.length≤2^47
 rb:Reads A 1 g.ab g.bl.length (g.bl.map tv)
 bb:∀b∈g.bl,b.length≤2^47
def wB(bl:List (List UInt8)):Nat:=(bl.map List.length).sum
theorem ZE{bl:List (List UInt8)}{i:Nat}{b:List UInt8}(h:bl[i]? =some b):wB (bl.take (i+1))=wB (bl.take i)+b.length:=by
 unfold wB;rw[zp,h];simp
theorem ZF(bl:List (List UInt8))(i:Nat):wB (bl.take i)≤wB bl:=by
 have e:wB bl=wB (bl.take i)+wB (bl.drop i):=by
  unfold wB;rw[←zbI,←zg,zG]
 omega
def GZ.w(g:GZ):Nat:=1+g.nh+g.bl.length+wB g.bl
theorem OT{A:HP}(g:GZ)(I:g.In A):Spec prog 133 [g.val] [A] (fun v B=>∃w:Nat,v= .int .i64 w∧w≤g.w∧w≤2^50∧B=[A]):=by
 refine x_sp func133 ntmps133 fun E cs Γ=>?_;have h1:=I.one;have h2:=I.nh;have h3:=I.nb;refine eh (h:=?_);refine ao (aM rfl rfl fun p1=>?_);refine Wq ?_;obtain⟨W,hW⟩:∃W:Nat→Nat,∀i,W i=1+g.nh+g.bl.length+wB (g.bl.take i):=⟨_,fun _=>rfl⟩
 have W0:W 0=1+g.nh+g.bl.length:=by rw[hW,zbq];rfl
 refine aQ (α:=Nat) (fun i=>i≤g.bl.length∧W i≤2^49) (fun i=>[(4,iv i),(3,iv (W i:Nat)),(1,dp p1)]) (fun _=>A::Row p1 0 g.cells::Γ) (fun i=>g.bl.length-i) 0 ⟨zj _,by rw[W0];omega⟩ ⟨rfl,by rw[W0];simp;rfl,rfl,trivial⟩ Sub.h ?_;rintro i ⟨hi,hw⟩ back;refine Wl ?_;have hle:W i≤g.w:=by
  have:=ZF g.bl i;rw[hW];unfold GZ.w;omega
 by_cases h:i<g.bl.length
 ·by_cases hx:W i<1048576
  ·obtain⟨b,hb⟩:=bc (l:=g.bl) (i:=i) h;have jc:=I.bb b (zc hb);have Nu:(bC b).size=b.length:=dV _;have e:W (i+1)=W i+b.length:=by rw[hW,hW,ZE hb];omega
   have dk:=back (i+1) ⟨by omega,by omega⟩ (by omega);refine aA (h:=?_);refine bK rfl rfl I.rb (j:=i) rfl h rfl fun b1 off ha=>?_;refine aw (h:=?_);refine fM rfl I.rb ha (i:=i) (by omega) (by rw[zf,hb];rfl) rfl ?_;refine Wq ?_;rw[Nu,show(W i:Int)+(b.length:Int)=((W (i+1):Nat):Int)by omega];exact aV dk
  ·refine Wq ?_;exact ap rfl [A] ⟨W i,rfl,hle,by omega,rfl⟩ Sub.h
 ·refine Wq ?_;exact ap rfl [A] ⟨W i,rfl,hle,by omega,rfl⟩ Sub.h
abbrev yb(l:List GZ):List Value:=l.flatMap GZ.cells
theorem GZ.len(z:GZ):z.cells.length=21:=rfl
theorem ZG{l:List GZ}{i:Nat}{z:GZ}(h:l[i]? =some z){j:Nat}{v:Value}(hv:z.cells[j]? =some v):(yb l)[i*21+j]? =some v:=by
 obtain⟨h1,h2⟩:=List.getElem?_eq_some_iff.1 h;have:=oA (l:=l) (f:=GZ.cells) GZ.len h1 j (by have:=(List.getElem?_eq_some_iff.1 hv).1;rwa[GZ.len]at this);rw[this,h2];exact hv
def wG(l:List GZ):Nat:=(l.map GZ.w).sum
theorem OU{l:List GZ}{i:Nat}{b:GZ}(h:l[i]? =some b):wG (l.take (i+1))=wG (l.take i)+b.w:=by
 unfold wG;rw[zp,h];simp
theorem OV(l:List GZ)(i:Nat):wG (l.take i)≤wG l:=by
 have e:wG l=wG (l.take i)+wG (l.drop i):=by
  unfold wG;rw[←zbI,←zg,zG]
 omega
theorem ZH{A:HP}{a:Option Addr}{c:Nat}{L:List GZ}(R:Reads A 21 a L.length (yb L))(hI:∀g∈L,g.In A)(hl:L.length≤2^47):Spec prog 89 [.slice a L.length c] [A] (fun v B=>∃w:Nat,v= .int .i64 w∧w≤L.length+wG L∧w≤2^51∧B=[A]):=by
 refine x_sp func89 ntmps89 fun E cs Γ=>?_;refine j7 (h:=?_);refine aQ (α:=Nat×Nat) (fun q=>q.1≤L.length∧q.2≤L.length+wG (L.take q.1)∧q.2≤2^51) (fun q=>[(4,iv q.1),(3,iv (q.2:Nat)),(0,.slice a L.length c)]) (fun _=>A::Γ) (fun q=>L.length-q.1) (0,L.length) ⟨zj _,za8 _ _,by dsimp only;omega⟩ x_tv Sub.h ?_;rintro⟨i,w⟩ ⟨hi,hw,kV⟩ back;dsimp only at hi hw kV back⊢;refine Wl ?_;have hle:=OV L i;by_cases h:i<L.length
 ·by_cases hx:w<1048576
  ·obtain⟨z,hz⟩:=bc (l:=L) (i:=i) h;have hm:=zc hz;have eD:=OU hz;refine aA (h:=?_);refine bK rfl rfl R (j:=i) rfl h rfl fun b1 off ha=>?_;refine aw (h:=?_);refine dA rfl R ha (i:=i*21) (us:=z.cells) (by omega) rfl (fun j v hv=>ZG hz hv) rfl ?_;refine aw (h:=?_);refine aq (vs:=[z.val]) rfl (OT z (hI z hm)) rfl ?_;rintro v B ⟨u,rfl,ZI,mL,rfl⟩;refine bW (h:=?_);exact aV (back (i+1,w+u) ⟨by dsimp only;omega,by dsimp only;omega,by dsimp only;omega⟩ (by dsimp only;omega))
  ·refine Wq ?_;exact ap rfl [A] ⟨w,rfl,by omega,by omega,rfl⟩ Sub.h
 ·refine Wq ?_;exact ap rfl [A] ⟨w,rfl,by omega,by omega,rfl⟩ Sub.h
structure GH where
 g:GZ
 k:Value
abbrev GH.cells(h:GH):List Value:=h.g.cells++[h.k]
abbrev EM(l:List GH):List Value:=l.flatMap GH.cells
theorem GH.len(z:GH):z.cells.length=22:=rfl
theorem ZJ{l:List GH}{i:Nat}{z:GH}(h:l[i]? =some z){j:Nat}{v:Value}(hv:z.cells[j]? =some v):(EM l)[i*22+j]? =some v:=by
 obtain⟨h1,h2⟩:=List.getElem?_eq_some_iff.1 h;have:=oA (l:=l) (f:=GH.cells) GH.len h1 j (by have:=(List.getElem?_eq_some_iff.1 hv).1;rwa[GH.len]at this);rw[this,h2];exact hv
theorem ZK{A:HP}{a:Option Addr}{c:Nat}{L:List GH}(R:Reads A 22 a L.length (EM L))(hI:∀g∈L,g.g.In A)(hl:L.length≤2^47):Spec prog 90 [.slice a L.length c] [A] (fun v B=>∃w:Nat,v= .int .i64 w∧w≤L.length+wG (L.map GH.g)∧w≤2^51∧B=[A]):=by
 refine x_sp func90 ntmps90 fun E cs Γ=>?_;refine j7 (h:=?_);refine aQ (α:=Nat×Nat) (fun q=>q.1≤L.length∧q.2≤L.length+wG ((L.map GH.g).take q.1)∧q.2≤2^51) (fun q=>[(4,iv q.1),(3,iv (q.2:Nat)),(0,.slice a L.length c)]) (fun _=>A::Γ) (fun q=>L.length-q.1) (0,L.length) ⟨zj _,za8 _ _,by dsimp only;omega⟩ x_tv Sub.h ?_;rintro⟨i,w⟩ ⟨hi,hw,kV⟩ back;dsimp only at hi hw kV back⊢;refine Wl ?_;have hle:=OV (L.map GH.g) i;by_cases h:i<L.length
 ·by_cases hx:w<1048576
  ·obtain⟨z,hz⟩:=bc (l:=L) (i:=i) h;have hm:=zc hz;have eD:=OU (l:=L.map GH.g) (i:=i) (b:=z.g) (by rw[zf,hz];rfl);refine aA (h:=?_);refine bK rfl rfl R (j:=i) rfl h rfl fun b1 off ha=>?_;refine oC (h:=?_);refine dA rfl R ha (i:=i*22) (us:=z.g.cells) (by omega) rfl (fun j v hv=>ZJ hz (j:=j) (by rw[GH.cells,zt (List.getElem?_eq_some_iff.1 hv).1];exact hv)) rfl ?_;refine aw (h:=?_);refine aq (vs:=[z.g.val]) rfl (OT z.g (hI z hm)) rfl ?_;rintro v B ⟨u,rfl,ZI,mL,rfl⟩;refine bW (h:=?_);exact aV (back (i+1,w+u) ⟨by dsimp only;omega,by dsimp only;omega,by dsimp only;omega⟩ (by dsimp only;omega))
  ·refine Wq ?_;exact ap rfl [A] ⟨w,rfl,by omega,by omega,rfl⟩ Sub.h
 ·refine Wq ?_;exact ap rfl [A] ⟨w,rfl,by omega,by omega,rfl⟩ Sub.h
structure GB where
 h0:Value
 h1:Value
 h2:Value
 h3:Value
 h4:Value
 h5:Value
 h6:Value
 aa:Option Addr
 na:Nat
 ca:Nat
 ad:Option Addr
 ct:Nat
 l:List GZ
 al:Option Addr
 cl:Nat
 m:List GH
abbrev GB.cells(b:GB):List Value:=[b.h0,b.h1,b.h2,b.h3,b.h4,b.h5,b.h6,.slice b.aa b.na b.ca,.slice b.ad b.l.length b.ct,.slice b.al b.m.length b.cl]
abbrev GB.val(b:GB):Value:= .agg b.cells.toArray
structure GB.In(A:HP)(b:GB):Prop where
 one:b.cells.all Value.oneCell'=true
 na:b.na≤2^47
 nl:b.l.length≤2^47
 nm:b.m.length≤2^47
 rl:Reads A 21 b.ad b.l.length (yb b.l)
 rm:Reads A 22 b.al b.m.length (EM b.m)
 il:∀g∈b.l,g.In A
 im:∀g∈b.m,g.g.In A
def GB.w(b:GB):Nat:=b.na+(b.l.length+wG b.l)+(b.m.length+wG (b.m.map GH.g))
theorem ZL{A:HP}(b:GB)(I:b.In A):Spec prog 56 [b.val] [A] (fun v B=>∃w:Nat,v= .int .i64 w∧w≤b.w∧B=[A]):=by
 refine x_sp func56 ntmps56 fun E cs Γ=>?_;have h1:=I.one;have h2:=I.na;refine eh (h:=?_);refine ao (aM rfl rfl fun p1=>?_);refine nr (h:=?_);refine aZ 11 (aX [5,9] [0,1,2,3,4,7,8,5,6,9,10,11]) [A,Row p1 0 b.cells] ?_;refine Ws ?_;refine aE rfl (aq rfl (ZH I.rl I.il I.nl) rfl ?_);rintro v B ⟨w1,rfl,q9,kV,rfl⟩;refine dc (h:=DC (h:=?_));refine aE rfl (aq rfl (ZK I.rm I.im I.nm) rfl ?_);rintro v B ⟨w3,rfl,hw3,hw4,rfl⟩;refine dc (h:=DC (h:=df (h:=?_)));exact ap rfl [A] ⟨b.na+w1+w3,by rw[show((b.na+w1+w3:Nat):Int)=(b.na:Int)+w1+w3 by omega];rfl,by unfold GB.w;omega,rfl⟩ Sub.h
theorem OW{A:HP}(b:GB)(I:b.In A):Spec prog 26 [b.val] [A] (fun v B=>∃h:Bool,v= .bool h∧(b.w≤4000→b.l.length≤60→b.m.length≤60→h=false)∧B=[A]):=by
 refine x_sp func26 ntmps26 fun E cs Γ=>?_;have h1:=I.one;have h2:=I.na;have h3:=I.nl;have h4:=I.nm;refine eh (h:=?_);refine ao (aM rfl rfl fun p1=>?_);refine Wq ?_;refine aJ rfl (ZL b I) rfl ?_;rintro v B ⟨w,rfl,hw,rfl⟩;refine a_ (h:=?_);by_cases g1:w≤4000
 ·by_cases g2:b.l.length≤60
  ·by_cases g3:b.m.length≤60
   ·refine Wq ?_;exact ap rfl [A] ⟨false,rfl,fun _ _ _=>rfl,rfl⟩ Sub.h
   ·refine Wq ?_;exact ap rfl [A] ⟨true,rfl,fun _ _ h=>(g3 h).elim,rfl⟩ Sub.h
  ·refine Wq ?_;exact ap rfl [A] ⟨true,rfl,fun _ h=>(g2 h).elim,rfl⟩ Sub.h
 ·refine Wq ?_;exact ap rfl [A] ⟨true,rfl,fun h=>(g1 (z9 hw h)).elim,rfl⟩ Sub.h
end
end Go.Proofs.YtacfncmndodlpaaGreat
