/- Part of a proof over the seat YtacfncmndodlpaaGreat. Its claim's last module says what is proved. -/
import Derived.Test.YtacfncmndodlpaaGreatQ5
set_option linter.all false
set_option maxHeartbeats 12800000
namespace Go.Proofs.YtacfncmndodlpaaGreat
section
open Go.Proofs Tryz
open Go.Proofs Go.RowKit
theorem gw.set{l:List Nd}(H:gw l){n:Nd}{i:Nat}{m:Nd}(hm:l[i]? =some m)(hn:n.Wf)(ha:m.a=n.a){l':List Nd}(hp:l'.Perm (l.set i n))(hh:Heap ei (dR l') l'.length):gw l':=by
 refine gw.MS (l:=l.set i n) (fun k hk=>?_) ?_ hp hh
 ·rcases zag hk with hk|rfl
  ·exact H.wf k hk
  ·exact hn
 ·have:(l.set i n).map Nd.a=l.map Nd.a:=by
   rw[zak];have h1:(l.map Nd.a)[i]? =some n.a:=by rw[zf,hm];simp[ha]
   obtain⟨h2,h3⟩:=List.getElem?_eq_some_iff.1 h1;rw[←h3,List.set_getElem_self]
  rw[this];exact H.nd
theorem ND{l:List Nd}{a:Nat}(h:∃m∈l,m.a=a){r:Int}(hp:Bg l a r):∃(i:Nat) (m:Nd),r=i∧l[i]? =some m∧m.a=a:=by
 rcases hp with ⟨_,hp⟩|⟨j,m,rfl,hj,ha,-⟩
 ·obtain⟨m,hm,rfl⟩:=h;exact absurd rfl (hp m hm)
 ·exact⟨j,m,rfl,hj,by omega⟩
theorem Xw{A:HP}{ad:Option Addr}{cap:Nat}{l:List Nd}{n:Nd}(R:Reads A 6 ad l.length (cw l))(H:gw l)(hn:n.Wf)(c_:∃m∈l,m.a=n.a):
 Spec prog 167 [.slice ad l.length cap,j9 n] [A] (fun v B=>∃(l':List Nd) (a':Option Addr) (c':Nat),v= .tuple #[.slice a' l'.length c',.int .i64 0]∧B=[A,Sl 6 a' l'.length c' (cw l')]∧(l'.map Nd.a).Perm (l.map Nd.a)∧gw l'):=by
 refine x_sp func167 ntmps167 fun E cs Γ=>?_;have b1:=hn.1;have hl:=H.len;refine dx (h:=?_);refine ao (aM rfl rfl fun p3=>?_);refine Wq ?_;refine aJ rfl (HJ R H) rfl ?_;refine de (h:=Eb (h:=xG (h:=?_)));refine aq (vs:=[j9 n]) rfl (DQ hn) rfl ?_;refine jO (h:=?_);refine aJ rfl (Bh R (n.a:Int) (by omega)) rfl ?_;rintro v B ⟨r,rfl,rfl,hr⟩;obtain⟨i,m,rfl,hi,ha⟩:=ND c_ hr;have ec:i<l.length:=(List.getElem?_eq_some_iff.1 hi).1;refine a_ (h:=?_);have:¬(i:Int)<0:=by omega
 refine Wq ?_;refine aJ rfl (Dx R (by omega) (DO l)) rfl ?_;rintro v B ⟨a2,c2,rfl,rfl,eV⟩;refine xF (h:=?_);refine jw (Sl.reads 6 a2 l.length c2 (cw l) (mA l)) (by omega) fun b off ha=>?_;subst ha;refine aA (h:=?_);refine FM rfl rfl (j:=i) rfl ec rfl ?_;refine dO (h:=?_);refine j4 (us:=fH n) rfl rfl rfl (vi n) rfl (i:=i*6) rfl (by rw[mA];show i*6+6≤_;omega) ?_;rw[xI l i n ec];refine Wq ?_;obtain⟨L,hL⟩:∃L,L=l.set i n:=⟨_,rfl⟩
 have kd:l.length=L.length:=by rw[hL,zH]
 rw[←hL,kd];refine aJ rfl (Nf (i:=i) (l:=L) (by omega) (by omega) (fun k hk=>?_) (hL ▸ Bo.of ec H.hp n)) rfl ?_
 ·rcases zag (hL ▸ hk)with hk|rfl
  ·exact H.wf k hk
  ·exact hn
 rintro v B ⟨l',rfl,rfl,xL,hp,hh⟩;refine bW (h:=?_);have oN:L.map Nd.a=l.map Nd.a:=by
  rw[hL,zak];have h1:(l.map Nd.a)[i]? =some n.a:=by rw[zf,hi];simp[ha]
  obtain⟨h2,h3⟩:=List.getElem?_eq_some_iff.1 h1;rw[←h3,List.set_getElem_self]
 exact ap rfl [A,Sl 6 (some ⟨b,off,none⟩) l'.length c2 (cw l')] ⟨l',_,c2,by rw[xL];rfl,rfl,oN ▸ hp.map Nd.a,H.set hi hn ha (hL ▸ hp) hh⟩ Sub.h
end
section
open Go.Proofs Tryz
open Go.Proofs Go.RowKit
theorem Xx(l:List Nd)(k:Nat):(cw l).take (k*6)=cw (l.take k):=by
 by_cases h:k≤l.length
 ·conv=>lhs;rw[←zG k l]
  unfold cw;rw[zaC,zZ (by rw[mA,zw];omega),zo (by rw[mA,zw];omega)]
 ·rw[zo (by rw[mA];omega),zo (by omega)]
theorem NE{l:List Nd}(H:Heap ei (dR l) l.length)(k:Nat)(h:k≤l.length):Heap ei (dR (l.take k)) (l.take k).length:=by
 intro j h0 hj;rw[zw]at hj;have hp:=mz h0;unfold dR;rw[ze,ze,zao (by omega),zao (by omega)];have:=H j h0 (by omega);unfold dR at this;rwa[ze,ze]at this
theorem gw.sub{l:List Nd}(H:gw l){n:Nd}{l':List Nd}(hp:(n::l').Perm l)(hh:Heap ei (dR l') l'.length):gw l':=
 ⟨fun k hk=>H.wf k (hp.mem_iff.1 (zP _ hk)),((hp.map Nd.a).nodup_iff.2 H.nd).of_cons,hh⟩
theorem NF{l:List Nd}{k:Nat}{m:Nd}(hk:k+1=l.length)(hm:l[k]? =some m):l=l.take k++[m]:=by
 obtain⟨h1,h2⟩:=List.getElem?_eq_some_iff.1 hm
 conv=>lhs;rw[←zG k l,zW h1,h2,zaP (by omega)]
theorem Xy{l:List Nd}{i k:Nat}{m u:Nd}(hk:k+1=l.length)(hi:i<k)(hm:l[k]? =some m)(hu:l[i]? =some u):(u::(l.take k).set i m).Perm l:=by
 have h:=NF hk hm;have fS:(l.take k)[i]? =some u:=by rw[zao hi];exact hu
 obtain⟨h1,h2⟩:=List.getElem?_eq_some_iff.1 fS
 conv=>rhs;rw[h]
 have e1:(l.take k)=(l.take k).take i++u::(l.take k).drop (i+1):=by
  conv=>lhs;rw[←zG i (l.take k),zW h1,h2]
 have e2:(l.take k).set i m=(l.take k).take i++m::(l.take k).drop (i+1):=List.set_eq_take_append_cons_drop.trans (by rw[if_pos h1]);rw[e2]
 conv=>rhs;rw[e1]
 generalize (l.take k).take i=a;generalize (l.take k).drop (i+1)=b;refine(zau (a:=u) (l₁:=[]) (l₂:=a++m::b)).symm.trans ?_;refine List.Perm.trans (l₂:=u::(a++(b++[m]))) ?_ ?_
 ·exact .cons _ (.append_left _ (List.perm_append_singleton m b).symm)
 ·rw[zr,zl];exact zau.symm
theorem Xz{A:HP}{ad:Option Addr}{cap:Nat}{l:List Nd}{a:Nat}(R:Reads A 6 ad l.length (cw l))(H:gw l)(c_:∃m∈l,m.a=a)(jy:l.length≤cap):
 Spec prog 165 [.slice ad l.length cap,.int .i64 a] [A] (fun v B=>∃(l':List Nd) (a':Option Addr) (c':Nat),v= .tuple #[.slice a' l'.length c',.int .i64 0]∧B=[A,Sl 6 a' l'.length c' (cw l')]∧(a::l'.map Nd.a).Perm (l.map Nd.a)∧gw l'):=by
 refine x_sp func165 ntmps165 fun E cs Γ=>?_;have hl:=H.len;refine gJ (h:=?_);refine aJ rfl (HJ R H) rfl ?_;refine jC (h:=?_);refine aJ rfl (Bh R (a:Int) (by omega)) rfl ?_;rintro v B ⟨r,rfl,rfl,hr⟩;obtain⟨i,m,rfl,hi,ha⟩:=ND c_ hr;have ec:i<l.length:=(List.getElem?_eq_some_iff.1 hi).1;obtain⟨k,hk⟩:∃k,k+1=l.length:=⟨l.length-1,by omega⟩
 have GP:(((l.length:Nat):Int)-1)=(k:Int):=by omega
 have RT:Reads A 6 ad (l.take k).length (cw (l.take k)):=by
  rw[zw,zat (by omega),←Xx];exact R.oZ k (by omega)
 have ga:(l.take k).length=k:=by rw[zw,zat (by omega)]
 refine a_ (h:=?_);have:¬(i:Int)<0:=by omega
 refine Wq ?_;rw[GP];refine aw (h:=?_);refine qP rfl rfl (jh:=k) rfl (by omega) rfl ?_;refine aw (h:=?_);refine aq (vs:=[.slice ad k cap]) rfl (ga ▸ Dx RT (by omega) (DO _)) rfl ?_;rintro v B ⟨a2,c2,rfl,rfl,eV⟩;refine xF (h:=?_);have hiL:i≤k:=by omega
 by_cases HG:i<k
 ·obtain⟨u,hu⟩:=bc (l:=l) (i:=k) (by omega);have aN:(i:Int)<k:=by omega
  have RL:Reads (Sl 6 a2 k c2 (cw (l.take k))) 6 a2 k (cw (l.take k)):=Sl.reads 6 a2 k c2 _ (by rw[mA,ga]);refine jw RL (by omega) fun b off hb=>?_;subst hb;refine jw R (by omega) fun b0 D9 hb=>?_;subst hb;refine aA (h:=?_);refine FM rfl rfl (j:=k) rfl (by omega) rfl ?_;refine aw (h:=?_);refine dA rfl R rfl (i:=k*6) (us:=fH u) (by omega) rfl (fun j v hv=>mW hu hv) rfl ?_;refine aw (h:=?_);refine FM rfl rfl (j:=i) rfl HG rfl ?_;refine dO (h:=?_);refine j4 (us:=fH u) rfl rfl rfl (vi u) rfl (i:=i*6) rfl (by rw[mA,ga];show i*6+6≤_;omega) ?_;rw[xI (l.take k) i u (by omega)];refine Wq ?_;obtain⟨L,hL⟩:∃L,L=(l.take k).set i u:=⟨_,rfl⟩
  have kd:k=L.length:=by rw[hL,zH,ga]
  rw[←hL];have xR:(m::L).Perm l:=hL ▸ Xy hk HG hu hi;refine aw (h:=?_);refine aq (vs:=[.slice (some ⟨b,off,none⟩) k c2,.int .i64 i]) rfl (kd ▸ Nf (cap:=c2) (bk:=b) (off:=off) (i:=i) (l:=L) (by omega) (by omega) (fun k' XA=>H.wf k' (xR.mem_iff.1 (zP _ XA))) (hL ▸ Bo.of (by omega) (NE H.hp k (by omega)) u)) rfl ?_;rintro v B ⟨l',rfl,rfl,xL,hp,hh⟩;refine bW (h:=?_);exact ap rfl [A,Sl 6 (some ⟨b,off,none⟩) l'.length c2 (cw l')] ⟨l',_,c2,by rw[xL];rfl,rfl,ha ▸ ((hp.cons m).trans xR).map Nd.a,H.sub ((hp.cons m).trans xR) hh⟩ Sub.h
 ·obtain rfl:i=k:=by omega
  refine Wq ?_;have xR:(m::l.take i).Perm l:=by
   conv=>rhs;rw[NF hk hi]
   exact(List.perm_append_singleton m _).symm
  exact ap rfl [A,Sl 6 a2 (l.take i).length c2 (cw (l.take i))] ⟨l.take i,a2,c2,by rw[ga];rfl,rfl,ha ▸ xR.map Nd.a,H.sub xR (NE H.hp i (by omega))⟩ (by rw[ga];exact Sub.h)
end
section
open Go.Proofs Tryz
open Go.Proofs Go.RowKit
theorem qz.mono:∀{S:List qy} {a b:Int},qz a S→b≤a→qz b S
 |[],_,_,_,_=>trivial
 |(x,c)::S,a,b,⟨h1,h2⟩,h=>⟨by omega,h2⟩
theorem NG:∀(ds:List (List TX)) (n:Nat) (l:List TZ),n+ds.length≤8→(∀(i:Nat) (c:List TX),ds[i]? =some c→jN (n+i) c)→bu l=ds.flatten→∃S,qz ((n:Int)-1) S∧fQ S=l
 |[],n,l,_,_,h=>⟨[],trivial,(show l=[]by simpa using h) ▸ rfl⟩
 |c::ds,n,l,hn,hc,h=>by
  rw[zce]at h;obtain⟨l1,l2,rfl,h1,h2⟩:=List.map_eq_append_iff.1 h;obtain⟨S,hS,hj⟩:=NG ds (n+1) l2 (by rw[zy]at hn;omega) (fun i c' hi=>by have:=hc (i+1) c' hi;rwa[show n+(i+1)=n+1+i by omega]at this) h2;have vn:qz (n:Int) S:=by simpa using hS
  by_cases e:l1=[]
  ·subst e;exact⟨S,vn.mono (by omega),by rw[hj];rfl⟩
  ·refine⟨(n,l1)::S,⟨by omega,by rw[zy]at hn;omega,?_,e,vn⟩,by rw[vm,hj]⟩;have:=hc 0 c rfl;rw[←h1]at this;exact this
theorem iH.XB{l:List TZ}(h:iH (bu l)):∃S,qz (-1) S∧fQ S=l:=by
 obtain⟨cs,hc,he⟩:=h.cs;exact NG cs 0 l (by rw[hc.len];omega) (fun i c hi=>by rw[zO];exact hc.ch i c hi) he
theorem iH.len{l:List TX}(h:iH l):l.length≤48:=by
 obtain⟨cs,hc,rfl⟩:=h.cs;rw[List.length_flatten];have h1:∀x∈cs.map List.length,x≤6:=fun x hx=>by
  obtain⟨c,qm,rfl⟩:=zbY.1 hx;obtain⟨i,hi⟩:=zk qm;exact(hc.ch i c hi).len
 have h2:∀(L:List Nat),(∀x∈L,x≤6)→L.sum≤L.length*6:=by
  intro L;induction L with
  |nil=>intro _;simp
  |cons x L ih=>
   intro hL;have:=ih fun y hy=>hL y (by simp[hy]);have:=hL x (by simp);simp only[zbL,zy];omega
 have:=h2 _ h1;rw[zm,hc.len]at this;omega
structure BZ where
 room:Nat
 aa:Option Addr
 ca:Nat
 l:List TZ
 ad:Option Addr
 ct:Nat
 al:Option Addr
 cl:Nat
abbrev BZ.cells(z:BZ):List Value:=[.int .i64 z.room,.int .i64 0,.int .u64 0,.int .u64 0,.int .u64 0,.int .u64 0,.int .i64 0,.slice z.aa 8 z.ca,.slice z.ad z.l.length z.ct,.slice z.al 0 z.cl]
abbrev BZ.val(z:BZ):Value:= .agg z.cells.toArray
structure BZ.In(A:HP)(z:BZ):Prop where
 ra:Reads A 5 z.aa 8 kH
 rt:Reads A 21 z.ad z.l.length (av z.l)
 it:bR A z.l
 ct:z.l.length≤z.ct
 wide:iH (bu z.l)
 lo:1024≤z.room
 hi:z.room≤1048576
theorem BZ.In.ok{A:HP}{z:BZ}(I:z.In A):∀x∈z.l,x.t.ok=true:=fun x hx=>(I.wide.ok (zbY.2 ⟨x,hx,rfl⟩)).1
theorem BZ.In.len{A:HP}{z:BZ}(I:z.In A):z.l.length≤48:=by have:=I.wide.len;simpa using this
theorem NH:∀{S:List qy} {last:Int},qz last S→∀{i:Nat} {a:Nat} {c:List TZ},S[i]? =some (a,c)→a<8∧jN a (bu c)∧c≠[]∧∀z∈c,z∈fQ S
 |[],_,_,i,a,c,h=>by simp at h
 |(a',c')::S,last,⟨h1,h2,h3,h4,h5⟩,0,a,c,h=>by
  obtain⟨rfl,rfl⟩:=Prod.mk.injEq _ _ _ _ ▸ zD h;exact⟨h2,h3,h4,fun z hz=>by rw[vm];exact zK _ hz⟩
 |(a',c')::S,last,⟨h1,h2,h3,h4,h5⟩,i+1,a,c,h=>by
  obtain⟨g1,g2,g3,g4⟩:=NH h5 (i:=i) (by simpa using h);exact⟨g1,g2,g3,fun z hz=>by rw[vm];exact zaG _ (g4 z hz)⟩
theorem XC(ad:Option Addr)(len cap:Nat):Spec prog 203 [.slice ad len cap] [] (fun v B=>∃p1,v= .func (.func 241) #[] #[dp p1]∧B=[Row p1 0 [.slice ad len cap]]):=by
 refine x_sp func203 ntmps203 fun E cs Γ=>?_;refine gi (h:=?_);refine ao (m8 rfl rfl rfl fun p1=>?_);refine ta (h:=?_);refine oW rfl rfl rfl ?_;refine bU (h:=?_);exact ap rfl [Row p1 0 [.slice ad len cap]] ⟨p1,rfl,rfl⟩ Sub.h
theorem NJ{A:HP}(z:BZ)(I:z.In A):Spec prog 159 [z.val] [A] (fun v B=>v= .bool true∧B=[A]):=by
 refine x_sp func159 ntmps159 fun E cs Γ=>?_;obtain⟨S,hS,hj⟩:=I.wide.XB;have hlen:=I.len;have RT:=I.rt;rw[←hj]at RT;refine eh (h:=?_);refine ao (aM rfl rfl fun p1=>?_);refine ao (aC rfl fun p2=>?_);refine Wq ?_;refine aJ rfl MX rfl ?_;refine cS (h:=gg (h:=?_));refine aq rfl (MY I.ra) rfl ?_;refine jC (h:=fT (h:=?_));refine aq rfl (MZ z.al z.cl) rfl ?_;refine cS (h:=?_);have H4:¬((z.l.length:Nat):Int)>48:=by omega
 refine Wq ?_;refine aJ rfl (XC _ _ _) rfl ?_;rintro v B ⟨pc,rfl,rfl⟩;refine nU (h:=?_);refine bJ (ak.nO _) ?_;have kf:=Wk (ad:=z.ad) (cap:=z.ct) pc (hj ▸ I.ct) hS (by rw[hj];omega);rw[hj]at kf;refine Wj (Ds:=[]) rfl rfl kf (fun _=>[Row p1 0 z.cells,Row p2 0 [.bool false],A]) (fun X Y i=>Reads.sep I.rt (by simp)) (fun _ _=>[Fact False jr]) (Δ2:=Γ) ?_ (by rfl) ?_ ?_ ?_ ?_
 ·refine a_ (h:=?_);exact Sub.h
 ·intro i vs hi;obtain⟨a,c,a',c',_,rfl,_⟩:=(D1 S z.ad z.ct RT (hj ▸ I.ct)).2 i vs hi
  rfl
 ·intro i vs hi;obtain⟨a,c,a',c',nf,rfl,Rc,tN⟩:=(D1 S z.ad z.ct RT (hj ▸ I.ct)).2 i vs hi;obtain⟨kF,lQ,cE,xC⟩:=NH hS nf;have XD:bR A c:=fun x hx=>I.it x (hj ▸ xC x hx);intro Y l r Θ fZ eT cv nV nq;refine a_ (h:=Wl ?_);refine nP (r:=r) eT ?_;refine Wq ?_;refine aJ rfl (V3 Rc XD lQ) rfl ?_;refine de (h:=gj (h:=?_));refine ao (aC rfl fun p5=>?_);refine Wq ?_;have fj:0<c.length:=List.length_pos_iff.2 cE;obtain⟨z0,fY⟩:=bc (l:=c) (i:=0) fj;have XE:=vk lQ fY;have u5:dC c≤18446744073709551616:=by rw[DR];exact lQ.sum
  refine jw Rc fj fun b off hb=>?_;subst hb;refine jw I.ra (by omega) fun b2 AR gX=>?_;refine aZ 26 (aX [23] [0,1,2,3,4,5,6,7,8,9,10,11,12,13,14,15,16,17,18,19,20,21,22,23,24,25]) [A,Row p1 0 z.cells,Row p5 0 (uc (dC c))] ?_;refine Ws ?_;refine bE rfl rfl (aY (j:=0) rfl rfl rfl rfl fj) ?_;refine lP (h:=?_);refine bE rfl rfl (b7 (v:= .int .i64 0) rfl Rc rfl (i:=0*21+1) (by omega) (by rw[cG fY (j:=1) rfl,XE.2.1];rfl)) ?_;refine lP (h:=Bt (h:=xS (h:=?_)));refine bE rfl rfl (aY (j:=a) rfl rfl gX rfl kF) ?_;refine lP (h:=?_);refine bE rfl rfl (b7 (v:= .int .i64 0) rfl I.ra gX (i:=a*5+0) (by omega) (rQ kF rfl)) ?_;refine Ws ?_;refine bE rfl rfl (aY (j:=a) rfl rfl gX rfl kF) ?_;refine lP (h:=?_);refine bE rfl rfl (eQ (us:=[.int .u64 0,.int .u64 1,.int .u64 0,.int .u64 0]) rfl I.ra gX (i:=a*5+1) (by omega) rfl (fun j v hv=>by
   have hj:j<4:=(List.getElem?_eq_some_iff.1 hv).1;rw[zax];refine rQ kF ?_;rw[←hv,show ji= .int .i64 0::[.int .u64 0,.int .u64 1,.int .u64 0,.int .u64 0]from rfl,zaF,zaX])) ?_
  refine gp rfl rfl (aq (vs:=[uv (dC c),uv 18446744073709551616]) rfl (ml (zaI u5 (by decide)) (by decide)) rfl ?_);refine cn (h:=?_);have acH:¬cV (dC c) 18446744073709551616>0:=by unfold cV;(repeat' split)<;>omega
  refine NK (h:=xT (h:=wW (h:=iz (h:=?_))));refine bJ ?_ (cv _);refine a_ (h:=?_);exact Sub.h
 ·intro D;refine bW (h:=?_);refine aJ rfl (vl I.rt I.it I.ok (by omega)) rfl ?_;rintro v B ⟨ai,ci,rfl,rfl⟩;refine bW (h:=?_);refine aQ (α:=Unit) (fun _=>True) (fun _=>[(78,iv 0),(77,iv (0:Nat)),(7,.slice ai z.l.length ci),(1,dp p1),(2,dp p2)]) (fun _=>Sl 1 ai z.l.length ci ((bB z.l).map nv)::Row p1 0 z.cells::Row p2 0 [.bool false]::A::Marks [D]::Γ) (fun _=>0) () trivial x_tv Sub.h ?_;intro _ _ back;refine Wq ?_;have NL:=HS (ad:=ai) (cap:=ci) (xs:=bB z.l) (by rw[zm];omega);rw[zm]at NL;refine aJ rfl NL rfl ?_;rintro v B ⟨rfl,ys,gG,hyp,rfl⟩;have dH:ys.Nodup:=by
   refine hyp.nodup_iff.2 ?_;have:=I.wide.ids;rw[zR]at this;exact this
  have NM:=WR (cap:=ci) (Sl.reads 1 ai ys.length ci (ys.map nv) (by simp)) dH (by omega);rw[gG]at NM;refine mY (h:=eM (h:=?_));refine aZ 12 (aX [1,11] [0,3,4,5,6,7,8,9,1,2,10,11]) [Sl 1 ai z.l.length ci (ys.map nv),Row p1 0 z.cells] ?_;refine Ws ?_;refine aE rfl (aq rfl NM rfl ?_);refine mc (h:=?_);refine au rfl (Ct rfl) ?_;refine au rfl (Kh rfl rfl (by omega)) ?_;refine aE rfl (eZ rfl rfl rfl rfl (by simp) ⟨bd,?_⟩);refine dU (h:=?_);refine ry (rs:=[.cell 2 4]) (vs:=[.bool true]) ⟨ns rfl (Cell.row (off:=0) rfl rfl),trivial⟩ [A] ⟨rfl,rfl⟩ Sub.h
 ·intro D c i;refine a_ (h:=?_);exact uY
end
section
open Go.Proofs Tryz
open Go.Proofs Go.RowKit
theorem tO{A:HP}(z:BZ)(I:z.In A)(hs:cR z.l≤z.room):Spec prog 174 [z.val] [A] (fun v B=>v= .int .i64 0∧B=[A]):=by
 refine x_sp func174 ntmps174 fun E cs Γ=>?_;have h1:=I.lo;have h2:=I.hi;have h3:=I.len;refine eh (h:=?_);refine ao (aM rfl rfl fun p1=>?_);refine Wq ?_;refine aZ 17 (aX [2,6,12] [0,1,2,3,4,5,6,7,8,9,10,11,13,14,12,15,16]) [A,Row p1 0 z.cells] ?_;refine rn (h:=?_);refine aE rfl (aq rfl (M0 (r:=z.room) (by omega)) rfl ?_);refine cn (h:=ql (h:=dD (h:=HL (h:=?_))));refine gp rfl rfl (aq (vs:=[z.val]) rfl (NJ z I) rfl ?_);refine mc (h:=Ws ?_);refine gp rfl rfl (aq rfl (M3 I.rt I.it I.ok (by omega)) rfl ?_);refine mc (h:=?_);have hn:¬((cR z.l:Nat):Int)>z.room:=by omega
 refine NK (h:=vj (h:=?_));exact ap rfl [A] ⟨rfl,rfl⟩ Sub.h
theorem Ej(ad:Option Addr)(cap:Nat):Spec prog 78 [.slice ad 0 cap] [] (fun v B=>v= .slice none 0 0∧B=[]):=by
 refine x_sp func78 ntmps78 fun E cs Γ=>?_;refine kD (h:=?_);refine aQ (α:=Unit) (fun _=>True) (fun _=>[(8,iv 0),(7,iv (0:Nat)),(3,.slice none 0 0)]) (fun _=>Γ) (fun _=>0) () trivial x_tv Sub.h ?_;intro _ _ back;refine j_ (h:=?_);exact ap rfl [] ⟨rfl,rfl⟩ Sub.h
end
end Go.Proofs.YtacfncmndodlpaaGreat
