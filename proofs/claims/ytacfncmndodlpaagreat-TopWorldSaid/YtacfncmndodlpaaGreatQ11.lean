/- Part of a proof over the seat YtacfncmndodlpaaGreat. Its claim's last module says what is proved. -/
import Derived.Test.YtacfncmndodlpaaGreatQ8
import Derived.Test.YtacfncmndodlpaaGreatQ10
import Derived.MapKept
set_option linter.all false
set_option maxHeartbeats 12800000
namespace Go.Proofs.YtacfncmndodlpaaGreat
section
open Go.Proofs Tryz
open Go.Proofs Go.RowKit
theorem EN{l l':List TZ}(h:Same l l'):cR l'=cR l:=by
 rw[DW,DW];exact congrArg C_ h
theorem Iw(x:Nat):([nv x]).all Value.oneCell'=true:=rfl
theorem ZM{A C:HP}{aa:Option Addr}{ca room:Nat}(ra:Reads A 5 aa 8 kH)(h1:1024≤room)(h2:room≤1048576){ad:Option Addr}{cap:Nat}{l:List TZ}(R:Reads C 21 ad l.length (av l))(I:bR C l)(bn:∀w∈l,w.t.ok=true)(hl:l.length≤2^20)(ah:Option Addr)(ch:Nat):
 Spec prog 33 [.int .i64 room,.agg fD.toArray,.slice aa 8 ca,.slice ad l.length cap,.slice ah 0 ch] [A,C] (fun v B=>∃(k:PH) (z':BZ),v= .tuple #[z'.val,.int .i64 0]∧B=[A,C,Mem k]∧z'.In (Mem k)∧z'.room=room∧cR z'.l≤room∧∀t∈bu z'.l,t∈bu l):=by
 refine x_sp func33 ntmps33 fun E cs Γ=>?_;refine dx (h:=?_);refine ao (aM rfl rfl fun p6=>?_);refine ao (aC rfl fun je=>?_);refine aA (h:=?_);refine aq (vs:=[.int .i64 room,.agg fD.toArray,.slice aa 8 ca]) rfl (OI ra h1 h2) rfl ?_;rintro v B ⟨k0,z0,rfl,rfl,I0,qN,fY⟩;refine nC (h:=?_);refine ao (aC rfl fun fg=>?_);refine Wq ?_;refine aJ rfl (Y6 ah ch) rfl ?_;refine jO (h:=?_);refine aQ (α:=Unit) (fun _=>True) (fun _=>[(49,iv 0),(48,iv (0:Nat)),(47,.slice none 0 0),(16,.slice none 0 0),(12,dp fg),(10,dp je),(3,.slice ad l.length cap)]) (fun _=>Row fg 0 (BZ.cells {z0 with al:=none,cl:=0})::Row je 0 eH::Mem k0::A::C::Γ) (fun _=>0) () trivial x_tv Sub.h ?_;intro _ _ back;refine j_ (h:=?_);refine aQ (α:=Nat×List TZ×Option Addr×Nat×Option Addr×Nat) (fun q=>q.1≤l.length∧q.2.1.length≤q.1∧(bB q.2.1).Nodup∧∀w∈q.2.1,w∈l) (fun q=>[(66,iv q.1),(65,iv l.length),(64,.slice ad l.length cap),(16,.slice q.2.2.2.2.1 q.2.1.length q.2.2.2.2.2),(21,.slice q.2.2.1 q.2.1.length q.2.2.2.1),(12,dp fg),(10,dp je)])
  (fun q=>Sl 1 q.2.2.2.2.1 q.2.1.length q.2.2.2.2.2 ((bB q.2.1).map nv)::Sl 21 q.2.2.1 q.2.1.length q.2.2.2.1 (av q.2.1)::Row fg 0 (BZ.cells {z0 with al:=none,cl:=0})::Row je 0 eH::Mem k0::A::C::Γ) (fun q=>l.length-q.1) (0,[],none,0,none,0)
  ⟨zj _,zq _,by simp,fun w hw=>by cases hw⟩ x_tv ((ak.cq 21 _).trans ((ak.cq 1 _).trans (Sub.h (Δ:=Sl 1 none 0 0 []::Sl 21 none 0 0 []::Row fg 0 (BZ.cells {z0 with al:=none,cl:=0})::Row je 0 eH::Mem k0::A::C::Γ)))) ?_
 rintro⟨i,L,a3,c3,a5,c5⟩ ⟨hi,se,dH,oO⟩ eY;dsimp only at hi se dH oO eY⊢;refine bQ (h:=?_);by_cases h:i<l.length
 ·obtain⟨x,hx⟩:=bc (l:=l) (i:=i) h;have iJ:=zc hx;have mD:=bn x iJ;refine aA (h:=?_);refine bK rfl rfl R (j:=i) rfl h rfl fun b off ha=>?_;refine aw (h:=?_);refine dA rfl R ha (i:=i*21) (us:=x.cells) (by omega) rfl (fun j v hv=>cG hx hv) rfl ?_;refine ao (aC rfl fun ZN=>?_);refine aA (h:=?_);refine aq (vs:=[x.val]) rfl (xy x (I x iJ)) rfl ?_;refine dh (h:=?_);rw[mD];rw[if_pos rfl,if_pos rfl];refine bW (h:=?_);have RI:Reads (Sl 1 a5 L.length c5 ((bB L).map nv)) 1 a5 (bB L).length ((bB L).map nv):=by
   rw[show(bB L).length=L.length by simp];exact Sl.reads 1 a5 L.length c5 ((bB L).map nv) (by simp)
  have ec:(bB L).length=L.length:=by simp
  refine aw (h:=?_);refine aq (vs:=[.slice a5 (bB L).length c5,nv x.t.id]) (by rw[ec];rfl) (Bw RI x.t.id (xH _) (fun y hy=>by
   obtain⟨w,_,rfl⟩:=zbY.1 hy;exact xH _) (by rw[ec];omega)) rfl ?_
  refine de (h:=?_);by_cases c_:x.t.id∈bB L
  ·rw[decide_eq_true c_];have hb:=eY (i+1,L,a3,c3,a5,c5) ⟨by dsimp only;omega,by dsimp only;omega,dH,oO⟩ (by dsimp only;omega);dsimp only at hb;refine Wq ?_;exact aV hb
  ·rw[decide_eq_false c_];have hb:=fun (a3:Option Addr) (c3:Nat) (a5:Option Addr) (c5:Nat)=>eY (i+1,L++[x],a3,c3,a5,c5) ⟨by dsimp only;omega,by dsimp only;rw[zd];simp;omega,by
    dsimp only;unfold bB;rw[zg,zab];exact⟨dH,by simp,fun a ha b hb=>by simp at hb;subst hb;intro e;subst e;exact c_ ha⟩,fun w hw=>by
    rcases zL.1 hw with hw|hw
    ·exact oO w hw
    ·rw[zbr.1 hw];exact iJ⟩ (by dsimp only;omega)
   have e1:∀L:List TZ,(bB (L++[x])).map nv=(bB L).map nv++[nv x.t.id]:=fun L=>by simp
   dsimp only at hb;simp only[e1]at hb;simp only[zd,zC,jQ,nF]at hb;refine Wq ?_;refine rz 8 [2,3,6,7] (.look 0 (.look 1 (.look 4 (.look 5 (.alt (.act 2 (.alt (gZ [(3,true),(6,true),(7,true),(8,false),(9,false)]) (gZ [(6,true),(3,true),(7,true),(8,false),(9,false)]))) (gZ [(6,true),(2,true),(3,true),(7,true),(8,false),(9,false)])))))) [Row ZN 0 x.cells] mixed (by kernel_rfl) bd ?_;refine dg rfl (lU rfl) ?_;refine dg rfl (lU rfl) ?_;refine dg rfl (lU rfl) ?_;refine dg rfl (rC rfl rfl) ?_;refine mf (xd rfl (cf rfl (by rfl) (by rfl) (by rfl) (by rfl) rfl fun b2=>⟨bd,?_⟩)) (gL [(6,true),(2,true),(3,true),(7,true),(8,false),(9,false)] ?_)
   ·refine mf (gL [(3,true),(6,true),(7,true),(8,false),(9,false)] ?_) (gL [(6,true),(3,true),(7,true),(8,false),(9,false)] ?_)
    ·refine aE rfl (cF rfl rfl (by rfl) (by rfl) (Iw _) (by omega) rfl fun a6 c6 xx=>⟨bd,?_⟩);refine aE rfl (cf rfl (by rfl) (by rfl) (by rfl) (by rfl) rfl fun b6=>⟨bd,?_⟩);refine aE rfl (cF rfl rfl (by rfl) (by rfl) (TZ.one x) (by omega) rfl fun a7 c7 Bd=>⟨bd,?_⟩);refine pP (h:=kB (h:=?_));exact aV (hb _ _ _ _)
    ·refine aE rfl (cf rfl (by rfl) (by rfl) (by rfl) (by rfl) rfl fun b6=>⟨bd,?_⟩);refine aE rfl (cF rfl rfl (by rfl) (by rfl) (Iw _) (by omega) rfl fun a6 c6 xx=>⟨bd,?_⟩);refine aE rfl (cF rfl rfl (by rfl) (by rfl) (TZ.one x) (by omega) rfl fun a7 c7 Bd=>⟨bd,?_⟩);refine pP (h:=kB (h:=?_));exact aV (hb _ _ _ _)
   ·refine aE rfl (cf rfl (by rfl) (by rfl) (by rfl) (by rfl) rfl fun b6=>⟨bd,?_⟩);refine aE rfl (cf rfl (by rfl) (by rfl) (by rfl) (by rfl) rfl fun b2=>⟨bd,?_⟩);refine aE rfl (cF rfl rfl (by rfl) (by rfl) (Iw _) (by omega) rfl fun a6 c6 xx=>⟨bd,?_⟩);refine aE rfl (cF rfl rfl (by rfl) (by rfl) (TZ.one x) (by omega) rfl fun a7 c7 Bd=>⟨bd,?_⟩);refine pP (h:=kB (h:=?_));exact aV (hb _ _ _ _)
 ·obtain rfl:i=l.length:=by omega
  refine ya (h:=?_);have ZO:∀w∈L,w.t.ok=true:=fun w hw=>bn w (oO w hw);refine gy (Γ':=Sep [Sl 21 a3 L.length c3 (av L),C]::Row fg 0 (BZ.cells {z0 with al:=none,cl:=0})::Row je 0 eH::Mem k0::A::Γ) (fun E w s=>(ak.cA [_,_] _).st (Sub.h.st s)) ?_;refine aA (h:=?_);refine aq (vs:=[BZ.val {z0 with al:=none,cl:=0},.slice a3 L.length c3]) rfl (Zr (A:=Mem k0) (C:=Sep [Sl 21 a3 L.length c3 (av L),C]) {z0 with al:=none,cl:=0} I0.ra I0.lo I0.hi (Reads.sep (A:=Sl 21 a3 L.length c3 (av L)) (Sl.reads 21 a3 L.length c3 (av L) (da _)) (by simp)) (bR.sep (A:=C) (fun w hw=>I w (oO w hw)) (by simp)) ZO (by rw[zR];exact dH) (by omega)) rfl ?_;rintro v B ⟨k1,z1,rfl,rfl,I1,js,xD,j2⟩;refine rc (h:=?_);refine aq (vs:=[z1.val]) rfl (Bu z1 I1) rfl ?_;rintro v B ⟨k2,z2,rfl,rfl,I2,ie,pL⟩;have IA:bu z2.l=bu z1.l:=pL;refine bW (h:=?_);have ZP:z1.room=room:=js.trans qN;have ZQ:cR z1.l≤room:=by rw[←qN];exact xD
  refine bP (rs:=[.cell 10 31,.tmp 11]) (vs:=[z2.val,.int .i64 0]) ⟨bG (us:=z2.cells) rfl rfl,bO rfl,trivial⟩ [A,C,Mem k2] ⟨k2,z2,rfl,rfl,I2,ie.trans ZP,?_,fun t ht=>?_⟩ ?_
  ·rw[EN pL];exact ZQ
  ·obtain⟨w,hw,rfl⟩:=zbY.1 (j2 t (IA ▸ ht));exact zbY.2 ⟨w,oO w hw,rfl⟩
  ·exact(Sub.h (Δ:=Sep [Sl 21 a3 L.length c3 (av L),C]::A::Mem k2::Γ)).trans ((ak.cx [Sl 21 a3 L.length c3 (av L),C] (A::Mem k2::Γ)).trans Sub.h)
end
section
open Go.Proofs Tryz
open Go.Proofs Go.RowKit
theorem St.OX{E:Env}{w:World}:∀(q:List LN) (j:Nat) (h:PH) (Γ:List HP),St E (Sep (dN eO j q)::Mem h::Γ) w→
 ∃k:{k:PH//PH.le h k∧∀n∈q,Reads (Mem k) 21 n.a n.l.length (av n.l)∧n.l.length≤n.c},St E (Mem k.1::Γ) w
 |[],j,h,Γ,s=>⟨⟨h,fun _ _ _ e=>e,fun n hn=>by cases hn⟩,s.drop⟩
 |n::q,j,h,Γ,s=>by
  have s1:St E (eO j n::Sep (dN eO (j+1) q)::Mem h::Γ) w:=(ak.pop eO j n q (Mem h::Γ)).st s;have s2:St E (Sl 21 n.a n.l.length n.c (av n.l)::Mem h::Sep (dN eO (j+1) q)::Γ) w:=s1.perm (.cons _ (.swap _ _ _));obtain⟨⟨k1,h1,h2,h3⟩,s3⟩:=s2.freeze;obtain⟨⟨k2,g1,g2⟩,s4⟩:=St.OX q (j+1) k1 Γ (s3.perm (.swap _ _ _));refine⟨⟨k2,fun b x e he=>g1 b x e (h1 b x e he),fun m hm=>?_⟩,s4⟩;rcases zbe.1 hm with rfl|hm
  ·exact⟨h2.up g1,h3⟩
  ·exact g2 m hm
def qI(q:List LN):Nat:=(q.map fun n=>n.l.length).sum
theorem OY:∀{q:List LN} {i:Nat} {n:LN} (m:LN),q[i]? =some n→qI (q.set i m)+n.l.length=qI q+m.l.length
 |[],i,n,m,h=>by simp at h
 |x::q,0,n,m,h=>by
  simp at h;subst h;simp[qI];omega
 |x::q,i+1,n,m,h=>by
  have:=OY (q:=q) (i:=i) m (by simpa using h);simp[qI]at this⊢;omega
structure BE(k:PH)(q:List LN):Prop where
 len:q.length=8
 aO:∀n∈q,Reads (Mem k) 21 n.a n.l.length (av n.l)∧n.l.length≤n.c∧bR (Mem k) n.l∧∀z∈n.l,z.t.ok=true
theorem BE.set{k:PH}{q:List LN}(h:BE k q)(i:Nat){n:LN}(hn:Reads (Mem k) 21 n.a n.l.length (av n.l)∧n.l.length≤n.c∧bR (Mem k) n.l∧∀z∈n.l,z.t.ok=true):BE k (q.set i n):=
 ⟨by rw[zH];exact h.len,fun m hm=>by
  rcases zag hm with hm|rfl
  ·exact h.aO m hm
  ·exact hn⟩
end
section
open Go.Proofs Tryz
open Go.Proofs Go.RowKit
theorem OZ(b1 b2:Nat)(l:List TX):∀t∈nH b1 b2 l,t∈l:=by
 have:∀(l:List TX) (q:Int×List TX),∀t∈(l.foldl (jS b1 b2) q).2,t∈q.2∨t∈l:=by
  intro l;induction l with
  |nil=>intro q t ht;exact .inl ht
  |cons x l ih=>
   intro q t ht;rw[zaN]at ht;rcases ih _ t ht with h|h
   ·unfold jS at h;split at h
    ·exact .inl h
    ·split at h
     ·exact .inl h
     ·rcases zL.1 h with h|h
      ·exact .inl h
      ·right;rw[zbr.1 h];exact zay
   ·exact .inr (zP _ h)
 intro t ht;rcases this l (-1,[]) t ht with h|h
 ·cases h
 ·exact h
theorem TX.ZR{t:TX}(h:t.ok=true):1≤t.bl.length∧t.bl.length≤4:=by
 have:=(mr h).2.2.2.2.2.2.2.1;unfold TX.fits qn at this;simp only[zh,decide_eq_true_eq]at this;exact⟨this.1.1.1,this.1.1.2⟩
abbrev ZS:List Value:=[.slice none 0 0,.slice none 0 0,.slice none 0 0,.slice none 0 0,.slice none 0 0,.slice none 0 0,.slice none 0 0,.slice none 0 0]
theorem ZT{q:List LN}{m:Nat}(h:∀n∈q,n.l.length≤m):qI q≤q.length*m:=by
 induction q with
 |nil=>simp[qI]
 |cons n q ih=>
  have h1:=h n (by simp);have h2:=ih fun x hx=>h x (zP _ hx);simp only[qI,zE,zbL,zy]at h2⊢;rw[zA,zbR];omega
theorem ZU{A:HP}(z:BZ)(I:z.In A)(hs:cR z.l≤z.room){b1 b2:Nat}(h1:b1<aT)(h2:b2<aT)(dr:Int):
 Spec prog 227 [z.val,uv b1,uv b2,.int .i64 dr] [A] (fun v B=>∃(m:PH) (L:List TZ) (a:Option Addr) (c:Nat) (e:Int),v= .tuple #[.slice a L.length c,.int .i64 e]∧B=[A,Mem m,Sl 21 a L.length c (av L)]∧bR (Mem m) L∧(∀w∈L,w.t.ok=true)∧L.length≤384):=by
 refine x_sp func227 ntmps227 fun E cs Γ=>?_;refine dx (h:=?_);refine ao (aM rfl rfl fun p4=>?_);refine ao (aM rfl rfl fun p5=>?_);refine ao (aM rfl rfl fun p6=>?_);refine aA (h:=?_);refine aq (vs:=[z.val,uv b1,uv b2]) rfl (OH z I hs h1 h2) rfl ?_;rintro v B ⟨k,l,ad,cd,rfl,rfl,hv,I'⟩;have bn:∀w∈l,w.t.ok=true:=fun w hw=>by
  have h0:w.t∈bu l:=zbY.2 ⟨w,hw,rfl⟩;rw[hv]at h0;have:=OZ b1 b2 _ w.t h0;obtain⟨y,hy,e⟩:=zbY.1 this;rw[←e];exact I.ok y hy
 have lh:l.length≤48:=by
  have h3:=Ik b1 b2 (bu z.l);rw[←hv]at h3;have h4:=I.len;simp at h3;omega
 have RR:=Sl.reads 21 ad l.length cd (av l) (da _);refine a_ (h:=?_);by_cases EO:dr<0
 ·refine Wq ?_;exact ap (vs:=[.slice none 0 0,.int .i64 1]) rfl [A,Mem k,Sl 21 none 0 0 []] ⟨k,[],none,0,1,rfl,rfl,(fun w hw=>by cases hw),(fun w hw=>by cases hw),by decide⟩ ((ak.cq 21 _).trans Sub.h)
 by_cases oP:dr>1099511627776
 ·refine Wq ?_;exact ap (vs:=[.slice none 0 0,.int .i64 1]) rfl [A,Mem k,Sl 21 none 0 0 []] ⟨k,[],none,0,1,rfl,rfl,(fun w hw=>by cases hw),(fun w hw=>by cases hw),by decide⟩ ((ak.cq 21 _).trans Sub.h)
 refine Wq ?_;refine ao (aC rfl fun fg=>?_);refine Wq ?_;refine aQ (α:=Nat×List LN) (fun q=>q.1≤l.length∧sf q.2 (l.take q.1)) (fun q=>[(44,iv q.1),(43,iv l.length),(42,.slice ad l.length cd),(12,dp fg),(5,dp p5),(3,iv dr)])
  (fun q=>Row fg 0 (q.2.map LN.v)::dT eO q.2::Sl 21 ad l.length cd (av l)::Mem k::Row p5 0 (uc b1)::A::Γ) (fun q=>l.length-q.1) (0,List.replicate 8 mF) ⟨zj _,sf.nil⟩ ⟨rfl,rfl,rfl,rfl,rfl,rfl,trivial⟩
  ((ak.OP _).trans (Sub.h (Δ:=Row fg 0 ZS::dT eO (List.replicate 8 mF)::Sl 21 ad l.length cd (av l)::Mem k::Row p5 0 (uc b1)::A::Γ))) ?_
 rintro⟨i,q⟩ ⟨fS,hq⟩ back;dsimp only at fS hq back⊢;have qH:(q.map LN.v).length=8:=by rw[zm];exact hq.len
 refine bQ (h:=?_);by_cases h:i<l.length
 ·obtain⟨x,hx⟩:=bc (l:=l) (i:=i) h;obtain⟨f1,f2,_⟩:=mr (bn x (zc hx));obtain⟨a,ha⟩:∃a:Nat,x.t.bx=a:=⟨x.t.bx.toNat,by omega⟩
  have kF:a<q.length:=by rw[hq.len];omega
  obtain⟨n,hn⟩:=bc (l:=q) (i:=a) kF;have sc:q[a]=n:=(List.getElem?_eq_some_iff.1 hn).2;have vD:n.l.length≤l.length:=by
   rw[hq.aO a n hn];exact z9 (zaR _ _) (by rw[zw];omega)
  refine aA (h:=?_);refine bK rfl rfl RR (j:=i) rfl h rfl fun b off jI=>?_;refine aw (h:=?_);refine dA rfl RR jI (i:=i*21) (us:=x.cells) (by omega) rfl (fun j v hv=>cG hx hv) rfl ?_;refine ao (aC rfl fun xl=>?_);refine mS (h:=?_);refine bJ (Γ':=eO a q[a]::fb eO q a::Row fg 0 (q.map LN.v)::Row xl 0 x.cells::Sl 21 ad l.length cd (av l)::Mem k::Row p5 0 (uc b1)::A::Γ) ((Sub.h (Δ:=dT eO q::Row fg 0 (q.map LN.v)::Row xl 0 x.cells::Sl 21 ad l.length cd (av l)::Mem k::Row p5 0 (uc b1)::A::Γ)).trans (ak.focus eO q a kF _)) ?_;rw[sc,show eO a n=Sl 21 n.a n.l.length n.c (av n.l)from rfl];refine aZ 10 (aX [7,8,10] [0,1,2,3,4,5,6,7,8,9,10]) [Row fg 0 (q.map LN.v),Row xl 0 x.cells] ?_;refine Ws ?_;refine au rfl (du rfl rfl ha (by omega)) ?_;refine au rfl (fk (i:=a) rfl (by omega) (v:=n.v) (by rw[zf,hn];rfl)) ?_;refine iA (h:=?_);refine aE rfl (cf rfl (by rfl) (by rfl) (by rfl) (by rfl) rfl fun a2=>⟨bd,?_⟩);refine aE rfl (cF rfl rfl (by rfl) (by rfl) (TZ.one x) (by omega) rfl fun a4 c4 gI=>⟨bd,?_⟩);skip;refine au rfl (du rfl rfl ha (by omega)) ?_;refine bN rfl rfl (iS (i:=a) rfl rfl rfl (by omega) (by rw[qH];simp[zN];omega) ?_);refine dU (h:=?_);have hb:=back (i+1,q.set a ⟨n.l++[x],a4,c4⟩) ⟨by dsimp only;omega,by
   dsimp only;rw[zp,hx];exact hq.put ha hn a4 c4⟩ (by dsimp only;omega)
  dsimp only at hb;refine Wq ?_;refine bf hb ⟨rfl,rfl,rfl,rfl,rfl,rfl,trivial⟩ ?_;refine(Sub.h (Δ:=Sl 21 a4 (n.l.length+1) c4 (av n.l++x.cells)::fb eO q a::Row fg 0 ((q.map LN.v).set a (.slice a4 (n.l.length+1) c4))::Sl 21 ad l.length cd (av l)::Mem k::Row p5 0 (uc b1)::A::Γ)).trans ?_;have hu:=ak.wT eO q a ⟨n.l++[x],a4,c4⟩ kF (Row fg 0 ((q.map LN.v).set a (.slice a4 (n.l.length+1) c4))::Sl 21 ad l.length cd (av l)::Mem k::Row p5 0 (uc b1)::A::Γ);rw[show eO a ⟨n.l++[x],a4,c4⟩=Sl 21 a4 (n.l++[x]).length c4 (av (n.l++[x]))from rfl,zd,zC,jQ,nF]at hu;refine hu.trans ?_;have e:(q.set a ⟨n.l++[x],a4,c4⟩).map LN.v=(q.map LN.v).set a (.slice a4 (n.l.length+1) c4):=by
   rw[zak];congr 1;unfold LN.v;simp
  rw[e];exact Sub.h
 obtain rfl:i=l.length:=by omega
 rw[zu]at hq;refine ya (h:=?_);refine dz (Γ':=fun k2:{k2:PH//PH.le k k2∧∀n∈q,Reads (Mem k2) 21 n.a n.l.length (av n.l)∧n.l.length≤n.c}=>Mem k2.1::Row fg 0 (q.map LN.v)::Row p5 0 (uc b1)::A::Γ) (fun E w s=>St.OX q 0 k _ ((Sub.h (Δ:=dT eO q::Mem k::Row fg 0 (q.map LN.v)::Row p5 0 (uc b1)::A::Γ)).st s)) ?_;rintro⟨k2,bH,hR⟩;dsimp only;have O0:BE k2 q:=⟨hq.len,fun n hn=>by
  obtain⟨a,ha⟩:=zk hn;have vD:=hq.aO a n ha;have hm:∀w∈n.l,w∈l:=fun w hw=>(OO (vD ▸ hw)).1;exact⟨(hR n hn).1,(hR n hn).2,fun w hw=>(I' w (hm w hw)).up bH,fun w hw=>bn w (hm w hw)⟩⟩
 have EA:qI q≤384:=by
  have:=ZT (q:=q) (m:=48) (fun n hn=>by
   obtain⟨a,ha⟩:=zk hn;rw[hq.aO a n ha];exact z9 (zaR _ _) lh)
  rw[hq.len]at this;omega
 clear hq qH back hR;refine Wq ?_;refine aQ (α:=Int×List LN×List TZ×Option Addr×Nat) (fun w=>BE k2 w.2.1∧0≤w.1∧w.1≤1099511627776∧(∀x∈w.2.2.1,x.t.ok=true)∧bR (Mem k2) w.2.2.1∧w.2.2.1.length+qI w.2.1≤384) (fun w=>[(15,.slice w.2.2.2.1 w.2.2.1.length w.2.2.2.2),(12,dp fg),(5,dp p5),(3,iv w.1)])
  (fun w=>Sl 21 w.2.2.2.1 w.2.2.1.length w.2.2.2.2 (av w.2.2.1)::Mem k2::Row fg 0 (w.2.1.map LN.v)::Row p5 0 (uc b1)::A::Γ) (fun w=>qI w.2.1) (dr,q,[],none,0) ⟨O0,by dsimp only;omega,by dsimp only;omega,(fun x hx=>by cases hx),(fun x hx=>by cases hx),by dsimp only;simpa using EA⟩ ⟨rfl,rfl,rfl,rfl,trivial⟩
  ((ak.cq 21 _).trans (Sub.h (Δ:=Sl 21 none 0 0 []::Mem k2::Row fg 0 (q.map LN.v)::Row p5 0 (uc b1)::A::Γ))) ?_
 clear O0 EA EO oP;rintro⟨dr,q,L,a3,c3⟩ ⟨hq,EO,oP,sb,sa,ZV⟩ back;dsimp only at hq EO oP sb sa ZV back⊢;have qH:(q.map LN.v).length=8:=by rw[zm];exact hq.len
 refine Wl ?_;refine ao (aC rfl fun nA=>?_);refine aA (h:=?_);refine uq (us:=q.map LN.v) rfl rfl (by rw[List.drop_zero,zo (by omega)]) qH rfl ?_;refine uN (h:=?_);refine aQ (α:=Nat×Int×Nat) (fun w=>w.1≤8∧(w.2.1= -1∨∃(i:Nat) (n:LN),w.2.1=i∧q[i]? =some n∧n.l≠[])∧w.2.2<aT) (fun w=>[(60,iv w.1),(59,.agg (q.map LN.v).toArray),(16,iv w.2.1),(17,dp nA),(15,.slice a3 L.length c3),(12,dp fg),(5,dp p5),(3,iv dr)])
  (fun w=>Row nA 0 (uc w.2.2)::Sl 21 a3 L.length c3 (av L)::Mem k2::Row fg 0 (q.map LN.v)::Row p5 0 (uc b1)::A::Γ) (fun w=>8-w.1) (0,-1,0) ⟨by decide,.inl rfl,by decide⟩ x_tv (Sub.h (Δ:=Row nA 0 [.int .u64 0,.int .u64 0,.int .u64 0,.int .u64 0]::Sl 21 a3 L.length c3 (av L)::Mem k2::Row fg 0 (q.map LN.v)::Row p5 0 (uc b1)::A::Γ)) ?_
 rintro⟨j,aO,x⟩ ⟨hj,BF,hx⟩ eY;dsimp only at hj BF hx eY⊢;by_cases h:j<8
 ·obtain⟨n,hn⟩:∃n,q[j]? =some n:=⟨_,za (by rw[hq.len];exact h)⟩
  obtain⟨RN,sI,BG,bM⟩:=hq.aO n (zc hn);refine nB (h:=?_);refine xe rfl rfl rfl h (by rw[zf,hn];rfl) rfl ?_;by_cases h0:n.l.length=0
  ·have rW:((n.l.length:Nat):Int)=0:=by omega
   refine Wq ?_;exact aV (eY (j+1,aO,x) ⟨by dsimp only;omega,BF,hx⟩ (by dsimp only;omega))
  have rW:¬((n.l.length:Nat):Int)=0:=by omega
  obtain⟨w,hw⟩:=bc (l:=n.l) (i:=0) (by omega);have BH:=zc hw;refine Wq ?_;refine jw RN (by omega) fun bl ZW jc=>?_;refine eL (α:=Nat×Nat) (fun v=>v.2<aT) (fun v=>[(20,.pointer (some ⟨v.1,0,none⟩)),(18,iv j),(60,iv j),(59,.agg (q.map LN.v).toArray),(16,iv aO),(17,dp nA),(15,.slice a3 L.length c3),(12,dp fg),(5,dp p5),(3,iv dr)])
   (fun v=>Row v.1 0 (uc v.2)::Row nA 0 (uc x)::Sl 21 a3 L.length c3 (av L)::Mem k2::Row fg 0 (q.map LN.v)::Row p5 0 (uc b1)::A::Γ) ?_ ?_
  ·rintro⟨yc,y⟩ hy;dsimp only at hy⊢;have kQ:n.l≠[]:=fun e=>h0 (by rw[e];rfl);have AY:=eY (j+1,(j:Int),y) ⟨by dsimp only;omega,.inr ⟨j,n,rfl,hn,kQ⟩,hy⟩ (by dsimp only;omega);have bM:=eY (j+1,aO,x) ⟨by dsimp only;omega,BF,hx⟩ (by dsimp only;omega);dsimp only at AY bM;rcases BF with rfl|⟨i0,n0,rfl,mV,acU⟩
   ·refine Wq ?_;refine aZ 0 (aX [3] [0,1,2,3]) [Row yc 0 (uc y)] ?_;refine dD (h:=iA (h:=pP (h:=?_)));refine bN rfl rfl (dt rfl rfl (by rfl) (by rfl) (by rfl) ?_);refine dQ (h:=?_);exact aV AY
   ·have mJ:¬((i0:Nat):Int)<0:=by omega
    refine gg (h:=?_);refine aq (vs:=[uv y,uv x]) rfl (ml hy hx) rfl ?_;refine cS (h:=?_);by_cases hc:cV y x>0
    ·refine Wq ?_;refine aZ 0 (aX [3] [0,1,2,3]) [Row yc 0 (uc y)] ?_;refine dD (h:=iA (h:=pP (h:=?_)));refine bN rfl rfl (dt rfl rfl (by rfl) (by rfl) (by rfl) ?_);refine dQ (h:=?_);exact aV AY
    ·refine Wq ?_;exact aV bM
  ·intro td fin;refine rz 10 [4,8,9] (.look 0 (.look 1 (.look 2 (.look 3 (.alt (gZ [(4,true),(5,false),(6,false),(7,false),(8,true),(9,true),(10,false)]) (gZ [(8,true),(4,true),(5,false),(6,false),(7,false),(9,true),(10,false)])))))) [Mem k2,Row p5 0 (uc b1)] mixed (by kernel_rfl) bd ?_;refine dg rfl (lU rfl) ?_;refine dg rfl (aY rfl rfl jc (j:=0) rfl (by omega)) ?_;refine dg rfl (eQ rfl RN jc (i:=0*21) (us:=w.cells) (by omega) rfl fun j v hv=>cG hw hv) ?_;refine dg rfl (rC rfl rfl) ?_;refine mf (gL _ ?_) (gL _ ?_)
   ·refine aE rfl (aq (vs:=[w.val,uv b1]) rfl (OD w (BG w BH) b1 h1) rfl ?_);rintro v B ⟨y,e,rfl,rfl,hy⟩;refine dc (h:=lM (h:=?_));refine aE rfl (aC rfl fun yc=>⟨bd,?_⟩);refine aE rfl (dt rfl rfl (by rfl) (by rfl) (by rfl) ⟨bd,?_⟩);refine df (h:=?_);exact aV (fin (yc,y) hy)
   ·refine aE rfl (aC rfl fun yc=>⟨bd,?_⟩);refine aE rfl (aq (vs:=[w.val,uv b1]) rfl (OD w (BG w BH) b1 h1) rfl ?_);rintro v B ⟨y,e,rfl,rfl,hy⟩;refine dc (h:=lM (h:=?_));refine aE rfl (dt rfl rfl (by rfl) (by rfl) (by rfl) ⟨bd,?_⟩);refine df (h:=?_);exact aV (fin (yc,y) hy)
 obtain rfl:j=8:=by omega
 clear eY;rcases BF with rfl|⟨i0,n,rfl,hn,kQ⟩
 ·refine j_ (h:=?_);exact ap (vs:=[.slice a3 L.length c3,.int .i64 0]) rfl [A,Mem k2,Sl 21 a3 L.length c3 (av L)] ⟨k2,L,a3,c3,0,rfl,rfl,sa,sb,by omega⟩ Sub.h
 have mJ:¬((i0:Nat):Int)<0:=by omega
 have vr:i0<8:=by have:=(List.getElem?_eq_some_iff.1 hn).1;rw[hq.len]at this;exact this
 obtain⟨RN,sI,BG,bM⟩:=hq.aO n (zc hn);have qS:0<n.l.length:=List.length_pos_iff.2 kQ;obtain⟨w,hw⟩:=bc (l:=n.l) (i:=0) (by omega);have BH:=zc hw;have ED:=bM w BH;refine nB (h:=?_);refine dd rfl rfl (j:=i0) rfl vr rfl ?_;refine aw (h:=?_);refine iF (i:=i0) rfl (by omega) (v:=n.v) (by rw[zf,hn];rfl) rfl ?_;refine aw (h:=?_);refine bK rfl rfl RN (j:=0) rfl (by omega) rfl fun bl ZW jc=>?_;refine aw (h:=?_);refine dA rfl RN jc (i:=0*21) (us:=w.cells) (by omega) rfl (fun j v hv=>cG hw hv) rfl ?_;refine ao (aC rfl fun ZX=>?_);refine Wq ?_;refine aJ rfl (Mb (TX.ZR ED)) rfl ?_;refine cS (h:=?_);have IB:=RN.sub n.c 1 n.l.length qS (zq _) sI;rw[show(n.l.length-1)*21=(n.l.drop 1).length*21 by rw[zQ]]at IB;have EP:(av n.l).drop (1*21)=av (n.l.drop 1):=by rw[Eu]
 rw[EP,zo (Nat.le_of_eq (da _))]at IB;have kW:=fun m:LN=>OY (q:=q) (i:=i0) m hn;have O1:∀(m:LN),(q.set i0 m).map LN.v=(q.map LN.v).set i0 m.v:=fun m=>by rw[zak]
 by_cases kU:((131072*w.t.bl.length:Nat):Int)>dr
 ·have hb:=back (dr,q.set i0 mF,L,a3,c3) ⟨hq.set i0 ⟨⟨rfl,fun _ _ _ _=> .inl rfl⟩,zq _,(fun x hx=>by cases hx),(fun x hx=>by cases hx)⟩,EO,oP,sb,sa,by
   dsimp only;have:=kW mF;have e:mF.l.length=0:=rfl;omega⟩ (by
   dsimp only;have:=kW mF;have e:mF.l.length=0:=rfl;omega)
  dsimp only at hb;rw[O1]at hb;refine aA (h:=?_);refine dd rfl rfl (j:=i0) rfl vr rfl ?_;refine dO (h:=?_);refine iS (i:=i0) rfl rfl rfl (by omega) (by rw[qH];simpa[zN]using vr) ?_;refine eR (h:=?_);refine Ci rfl ?_;exact aV hb
 ·have hb:=fun (a4:Option Addr) (c4:Nat)=>back (dr-((131072*w.t.bl.length:Nat):Int),q.set i0 ⟨n.l.drop 1,cy 21 n.a n.c 1,n.c-1⟩,L++[w],a4,c4) ⟨hq.set i0 ⟨by dsimp only;rw[zQ];exact IB,by dsimp only;rw[zQ];omega,(fun x hx=>BG x (zbf hx)),(fun x hx=>bM x (zbf hx))⟩,by dsimp only;omega,by dsimp only;omega,fun x hx=>by
   rcases zL.1 hx with hx|hx
   ·exact sb x hx
   ·rw[zbr.1 hx];exact ED,fun x hx=>by
   rcases zL.1 hx with hx|hx
   ·exact sa x hx
   ·rw[zbr.1 hx];exact BG w BH,by
   dsimp only;have:=kW ⟨n.l.drop 1,cy 21 n.a n.c 1,n.c-1⟩;dsimp only at this;rw[zQ]at this;rw[zd,zC];omega⟩ (by
   dsimp only;have:=kW ⟨n.l.drop 1,cy 21 n.a n.c 1,n.c-1⟩;dsimp only at this;rw[zQ]at this;omega)
  dsimp only at hb;simp only[O1,zd,zC,jQ,nF]at hb;refine Wq ?_;refine Ve 11 0 [3,4,11] (.look 0 (.look 1 (.look 2 (.look 5 (.look 6 (.look 7 (.look 8 (.act 3 (.act 4 (.look 9 (.look 10 (.act 11 .nil)))))))))))) [Row fg 0 (q.map LN.v),Row ZX 0 w.cells] mixed (by kernel_rfl) bd ?_;refine rL rfl (lU rfl) ?_;refine rL rfl (lU rfl) ?_;refine rL rfl (rC rfl rfl) ?_;refine rL rfl (lU rfl) ?_;refine rL rfl (du rfl rfl (j:=i0) rfl vr) ?_;refine rL rfl (fk (i:=i0) rfl (by omega) (v:=n.v) (by rw[zf,hn];rfl)) ?_;refine rL rfl (uu (jl:=1) rfl rfl rfl (by omega)) ?_;refine Mt rfl (cf rfl (by rfl) (by rfl) (by rfl) (by rfl) rfl fun a2=>⟨bd,?_⟩);refine Mt rfl (cF rfl rfl (by rfl) (by rfl) (TZ.one w) (by omega) rfl fun a4 c4 gI=>⟨bd,?_⟩);refine rL rfl (J2 rfl) ?_;refine rL rfl (du rfl rfl (j:=i0) rfl vr) ?_;refine Vf rfl rfl (iS (i:=i0) rfl rfl rfl (by omega) (by rw[qH];simpa[zN]using vr) ?_);refine Vg rfl ?_;have qE:=hb a4 c4;rw[show LN.v ⟨n.l.drop 1,cy 21 n.a n.c 1,n.c-1⟩= .slice (cy 21 n.a n.c 1) (n.l.length-1) (n.c-1)by unfold LN.v;rw[zQ]]at qE;refine Cg ?_;refine iz (h:=?_);exact aV qE
end
section
open Go.Proofs Tryz
open Go.Proofs Go.RowKit
structure CZ where
 kind:Int
 s:List UInt8
 id:Nat
 q0:Value
 q1:Value
 q2:Value
 q3:Value
 q4:Value
 q5:Value
 q6:Value
 q7:Value
 q8:Value
 n:Int
 base:Nat
 fI:Nat
abbrev CZ.cells(c:CZ):List Value:=[.int .i64 c.kind,tv c.s,nv c.id,c.q0,c.q1,c.q2,c.q3,c.q4,c.q5,c.q6,c.q7,c.q8,.int .i64 c.n,nv (ay c.base 0),nv (ay c.base 1),nv (ay c.base 2),nv (ay c.base 3),nv (ay c.fI 0),nv (ay c.fI 1),nv (ay c.fI 2),nv (ay c.fI 3)]
abbrev CZ.val(c:CZ):Value:= .agg c.cells.toArray
structure CZ.Ok(c:CZ):Prop where
 kind:c.kind≠3
 s:c.s.length≤2^30
 id:c.id<aI
 base:c.base<aT
 fI:c.fI<aT
abbrev fq(e:Int)(id:Nat)(s:List UInt8)(a:Option Addr)(n c:Nat):List Value:=[.int .i64 e,nv id,tv s,.slice a n c]
structure ZY(A:HP)(z:BZ)(c:CZ)(k:PH)(u:List Value)(ids:List Nat)(e:Int):Prop where
 len:u.length=10
 one:u.all Value.oneCell'=true
 bk:e=0→∃z':BZ,u=z'.cells∧(z'.In A∨z'.In (Mem k))∧z'.room=z.room∧cR z'.l≤z.room∧(c.kind=5→bu z'.l=bu z.l)
 bw:c.kind=5→c.base=0→c.fI=0→e=0∧ids=bB z.l
theorem BZ.In.O2{A:HP}{z:BZ}(I:z.In A){l:List HP}(h:A∈l):z.In (Sep l):=⟨I.ra.sep h,I.rt.sep h,I.it.sep h,I.ct,I.wide,I.lo,I.hi⟩
structure RS where
 u:List Value
 id:Nat
 s:List UInt8
 L:List TZ
 a:Option Addr
 c:Nat
 k:PH
 e:Int
structure RS.Ok(A:HP)(z:BZ)(c:CZ)(r:RS):Prop where
 len:r.u.length=10
 one:r.u.all Value.oneCell'=true
 bk:r.e=0→∃z':BZ,r.u=z'.cells∧(z'.In A∨z'.In (Mem r.k))∧z'.room=z.room∧cR z'.l≤z.room∧(c.kind=5→bu z'.l=bu z.l)
 bw:c.kind=5→c.base=0→c.fI=0→r.e=0∧bu r.L=bu z.l
 it:bR (Mem r.k) r.L
 ok:∀w∈r.L,w.t.ok=true
 ll:r.L.length≤384
theorem ak.yd(Γ:List HP):ak Γ (Mem PH.emp::Γ):=fun h s=>⟨h,⟨PH.emp,h,rfl,s,PH.Cc h,(PH.yA h).symm⟩,fun _ _ _ x=>x⟩
theorem ZZ{A:HP}(z:BZ)(I:z.In A)(hs:cR z.l≤z.room)(c:CZ)(hc:c.Ok):Spec prog 175 [z.val,c.val] [A] (fun v B=>∃(k:PH) (u:List Value) (id:Nat) (s:List UInt8) (a:Option Addr) (ids:List Nat) (cc:Nat) (e:Int),
 v= .tuple #[.agg u.toArray,.agg (fq 0 id s a ids.length cc).toArray,.int .i64 e]∧B=[A,Mem k]∧Reads (Mem k) 1 a ids.length (ids.map nv)∧ids.length≤2^20∧ZY A z c k u ids e):=by
 refine x_sp func175 ntmps175 fun E cs Γ=>?_;have acV:=I.len;have lH:=hc.kind;refine dx (h:=?_);refine ao (aM rfl rfl fun p2=>?_);refine ao (aM rfl rfl fun p3=>?_);refine ao (aC rfl fun p4=>?_);refine ao (aC rfl fun p5=>?_);refine Wb ?_;refine eL (α:=RS) (RS.Ok A z c) (fun r=>[(7,.slice r.a r.L.length r.c),(6,iv r.e),(5,dp p5),(4,dp p4)]) (fun r=>Row p5 0 (fq 0 r.id r.s none 0 0)::Row p4 0 r.u::Sl 21 r.a r.L.length r.c (av r.L)::Mem r.k::A::Γ) ?_ ?_
 ·rintro⟨u,id,str,L,a,c1,k,e⟩ ⟨hu,ho,dk,BI,kf,bn,lh⟩;dsimp only at hu ho dk BI kf bn lh⊢;refine gy (Γ':=Sep [Sl 21 a L.length c1 (av L),Mem k]::Row p5 0 (fq 0 id str none 0 0)::Row p4 0 u::A::Γ) (fun E w s=>(ak.cA [_,_] _).st (Sub.h.st s)) ?_;refine qj (h:=?_);refine aJ rfl (vl (A:=Sep [Sl 21 a L.length c1 (av L),Mem k]) (Reads.sep (A:=Sl 21 a L.length c1 (av L)) (Sl.reads 21 a L.length c1 (av L) (da _)) (by simp)) (bR.sep (A:=Mem k) kf (by simp)) bn (by omega)) rfl ?_;rintro v B ⟨a2,c2,rfl,rfl⟩;refine qC (h:=?_);refine gy (Γ':=Sl 1 a2 L.length c2 ((bB L).map nv)::Mem k::Row p5 0 (fq 0 id str a2 L.length c2)::Row p4 0 u::A::Γ) (fun E w s=>(Sub.h (Δ:=Sl 1 a2 L.length c2 ((bB L).map nv)::Mem k::Row p5 0 (fq 0 id str a2 L.length c2)::Row p4 0 u::A::Γ)).st ((ak.cx [Sl 21 a L.length c1 (av L),Mem k] (Sl 1 a2 L.length c2 ((bB L).map nv)::Row p5 0 (fq 0 id str a2 L.length c2)::Row p4 0 u::A::Γ)).st (Sub.h.st s))) ?_;refine fw a2 (h:=k) fun k2 bH R2 eV=>?_;refine eM (h:=?_);refine aZ 5 (aX [3,4] [0,1,2,3,4,5]) [Row p4 0 u,Row p5 0 (fq 0 id str a2 L.length c2)] ?_;refine au rfl (rC rfl hu) ?_;refine x_ (h:=?_);refine aE rfl (dt (us:=u) rfl rfl hu ho rfl ⟨bd,?_⟩);refine aE rfl (dt rfl rfl (by rfl) (by rfl) (by rfl) ⟨bd,?_⟩);refine df (h:=?_);have ec:(bB L).length=L.length:=by simp
  refine bP (rs:=[.cell 4 31,.cell 5 55,.tmp 6]) (vs:=[.agg u.toArray,.agg (fq 0 id str a2 L.length c2).toArray,.int .i64 e]) ⟨bG (us:=u) rfl hu,bG (us:=fq 0 id str a2 L.length c2) rfl rfl,bO rfl,trivial⟩ [A,Mem k2] ⟨k2,u,id,str,a2,bB L,c2,e,by rw[ec];rfl,rfl,by rw[ec];exact R2,by rw[ec];omega,hu,ho,fun he=>?_,fun h1 h2 h3=>?_⟩ Sub.h
  ·obtain⟨z',e1,e2,e3,e4⟩:=dk he;exact⟨z',e1,e2.imp (fun h=>h) fun h=>h.up bH,e3,e4⟩
  ·obtain⟨e1,e2⟩:=BI h1 h2 h3;refine⟨e1,?_⟩;have:=congrArg (List.map TX.id) e2;rw[zR,zR]at this;exact this
 intro td fin;have BJ:∀(k:PH) (e:Int),e=0→∃z':BZ,z.cells=z'.cells∧(z'.In A∨z'.In (Mem k))∧z'.room=z.room∧cR z'.l≤z.room∧(c.kind=5→bu z'.l=bu z.l):=fun k e _=>⟨z,rfl,.inl I,rfl,hs,fun _=>rfl⟩;have no:∀{p:Prop},c.kind≠5→(c.kind=5→c.base=0→c.fI=0→p):=fun h h5=>absurd h5 h;have BK:∀(k:PH),bR (Mem k) ([]:List TZ):=fun k w hw=>by cases hw
 have BL:([]:List TZ).length≤384:=by decide
 have BM:∀w∈([]:List TZ),w.t.ok=true:=fun w hw=>by cases hw
 by_cases h1:c.kind=1
 ·refine eW (h:=nB (h:=?_));refine aq (vs:=[z.val,tv c.s]) rfl (YI z I hs c.s hc.s) rfl ?_;rintro v B ⟨u,id,d,e,k,rfl,rfl,lg,hz,bn⟩;have hu:u.length=10∧u.all Value.oneCell'=true:=by
   by_cases he:e=0
   ·obtain⟨z',rfl,_⟩:=bn he;exact⟨rfl,rfl⟩
   ·rw[hz he];exact⟨rfl,rfl⟩
  refine bW (h:=dO (h:=?_));refine dt (us:=u) rfl rfl hu.1 hu.2 (by rw[hu.1];rfl) ?_;refine Wq ?_;exact bf (fin ⟨u,id,[],[],none,0,k,e⟩ ⟨hu.1,hu.2,fun he=>by
   obtain⟨z',e1,ha⟩:=bn he;exact⟨z',e1,.inr ha.yi,ha.room,ha.sl,fun h=>absurd h (by omega)⟩,no (by omega),BK k,BM,BL⟩) x_tv ((ak.cq 21 _).trans (Sub.h (Δ:=Row p5 0 [.int .i64 0,nv id,.string ⟨#[]⟩,.slice none 0 0]::Row p4 0 u::Sl 21 none 0 0 []::Mem k::A::Γ)))
 by_cases h2:c.kind=2
 ·refine eW (h:=j_ (h:=?_));refine ao (aC rfl fun p8=>?_);refine aA (h:=?_);refine aq (vs:=[z.val,nv c.id]) rfl (XL z I hs c.id hc.id) rfl ?_;rintro v B ⟨k,z',e,rfl,rfl,I',xY,rJ⟩;refine a_ (h:=?_);by_cases he:e=0
  ·subst he;obtain⟨hm,acW⟩:=xY rfl;have nG:z'.t.ok=true:=by
    obtain⟨y,hy,e⟩:=zbY.1 hm;rw[←e];exact I.ok y hy
   refine aA (h:=?_);refine aq (vs:=[z'.val]) rfl (va z' I') rfl ?_;refine dh (h:=?_);rw[nG,if_pos rfl,if_pos rfl];refine bW (h:=?_);exact bf (fin ⟨z.cells,0,z'.t.bytes,[],none,0,k,0⟩ ⟨rfl,rfl,BJ k 0,no (by omega),BK k,BM,BL⟩) x_tv ((ak.cq 21 _).trans (Sub.h (Δ:=Row p5 0 [.int .i64 0,.int .u64 0,tv z'.t.bytes,.slice none 0 0]::Row p4 0 z.cells::Sl 21 none 0 0 []::Mem k::A::Γ)))
  ·refine Wq ?_;exact bf (fin ⟨z.cells,0,[],[],none,0,k,e⟩ ⟨rfl,rfl,BJ k e,no (by omega),BK k,BM,BL⟩) x_tv ((ak.cq 21 _).trans (Sub.h (Δ:=Row p5 0 [.int .i64 0,.int .u64 0,.string ⟨#[]⟩,.slice none 0 0]::Row p4 0 z.cells::Sl 21 none 0 0 []::Mem k::A::Γ)))
 by_cases h4:c.kind=4
 ·refine eW (h:=j_ (h:=?_));refine aJ rfl (YR z.al z.cl c.n) rfl ?_;rintro v B ⟨e,rfl,rfl⟩;refine nZ (h:=?_);exact bf (fin ⟨BZ.cells {z with al:=none,cl:=0},0,[],[],none,0,PH.emp,e⟩ ⟨rfl,rfl,fun _=>⟨{z with al:=none,cl:=0},rfl,.inl ⟨I.ra,I.rt,I.it,I.ct,I.wide,I.lo,I.hi⟩,rfl,hs,fun _=>rfl⟩,no (by omega),BK _,BM,BL⟩) x_tv ((ak.cq 21 _).trans ((ak.yd _).trans (Sub.h (Δ:=Row p5 0 [.int .i64 0,.int .u64 0,.string ⟨#[]⟩,.slice none 0 0]::Row p4 0 (BZ.cells {z with al:=none,cl:=0})::Sl 21 none 0 0 []::Mem PH.emp::A::Γ))))
 by_cases h5:c.kind=5
 ·refine eW (h:=nB (h:=?_));refine aq (vs:=[z.val,uv c.base,uv c.fI]) rfl (OH z I hs hc.base hc.fI) rfl ?_;rintro v B ⟨m,L,a,c',rfl,rfl,hv,c_⟩;have fG:∀w∈L,∃y∈z.l,y.t=w.t:=fun w hw=>by
   have h0:w.t∈bu L:=zbY.2 ⟨w,hw,rfl⟩;rw[hv]at h0;exact zbY.1 (OZ _ _ _ w.t h0)
  have lh:L.length≤384:=by
   have h3:=Ik c.base c.fI (bu z.l);rw[←hv]at h3;simp at h3;omega
  refine bW (h:=?_);exact bf (fin ⟨z.cells,0,[],L,a,c',m,0⟩ ⟨rfl,rfl,BJ m 0,fun _ hb ye=>⟨rfl,by
   dsimp only;rw[hv,hb,ye];exact YU _ fun x hx=>by
    obtain⟨y,hy,e⟩:=zbY.1 hx;rw[←e];exact(mr (I.ok y hy)).1⟩,c_,fun w hw=>by
   obtain⟨y,hy,e⟩:=fG w hw;rw[←e];exact I.ok y hy,lh⟩) x_tv (Sub.h (Δ:=Row p5 0 [.int .i64 0,.int .u64 0,.string ⟨#[]⟩,.slice none 0 0]::Row p4 0 z.cells::Sl 21 a L.length c' (av L)::Mem m::A::Γ))
 by_cases h6:c.kind=6
 ·refine eW (h:=nB (h:=?_));refine aq (vs:=[z.val,uv c.base,uv c.fI,.int .i64 c.n]) rfl (ZU z I hs hc.base hc.fI c.n) rfl ?_;rintro v B ⟨m,L,a,c',e,rfl,rfl,c_,fN,lh⟩;refine bW (h:=?_);exact bf (fin ⟨z.cells,0,[],L,a,c',m,e⟩ ⟨rfl,rfl,BJ m e,no (by omega),c_,fN,lh⟩) x_tv (Sub.h (Δ:=Row p5 0 [.int .i64 0,.int .u64 0,.string ⟨#[]⟩,.slice none 0 0]::Row p4 0 z.cells::Sl 21 a L.length c' (av L)::Mem m::A::Γ))
 ·refine eW (h:=j_ (h:=?_));exact bf (fin ⟨z.cells,0,[],[],none,0,PH.emp,1⟩ ⟨rfl,rfl,BJ _ 1,no (by omega),BK _,BM,BL⟩) x_tv ((ak.cq 21 _).trans ((ak.yd _).trans (Sub.h (Δ:=Row p5 0 [.int .i64 0,.int .u64 0,.string ⟨#[]⟩,.slice none 0 0]::Row p4 0 z.cells::Sl 21 none 0 0 []::Mem PH.emp::A::Γ))))
end
section
open Go.Proofs Tryz
open Go.Proofs Go.RowKit
structure O3(z:BZ)(c:CZ)(k:PH)(z':BZ)(e:Int)(a:Option Addr)(ids:List Nat):Prop where
 iB:z'.In (Mem k)
 room:z'.room=z.room
 sl:cR z'.l≤z'.room
 rd:Reads (Mem k) 1 a ids.length (ids.map nv)
 il:ids.length≤2^20
 bw:c.kind=5→c.base=0→c.fI=0→e=0∧ids=bB z.l∧bu z'.l=bu z.l
theorem BN{A:HP}(z:BZ)(I:z.In A)(hs:cR z.l≤z.room)(c:CZ)(hc:c.Ok):Spec prog 119 [z.val,c.val] [A] (fun v B=>∃(k:PH) (z':BZ) (id:Nat) (s:List UInt8) (a:Option Addr) (ids:List Nat) (cc:Nat) (e:Int),
 v= .tuple #[z'.val,.agg (fq e id s a ids.length cc).toArray,.int .i64 0]∧B=[A,Mem k]∧O3 z c k z' e a ids):=by
 refine x_sp func119 ntmps119 fun E cs Γ=>?_;refine dx (h:=?_);refine ao (aM rfl rfl fun p2=>?_);refine ao (aM rfl rfl fun p3=>?_);refine ao (aC rfl fun p4=>?_);refine ao (aC rfl fun p5=>?_);refine aA (h:=?_);refine aq (vs:=[z.val]) rfl (tO z I hs) rfl ?_;refine vu (h:=?_);refine aq (vs:=[z.val,c.val]) rfl (ZZ z I hs c hc) rfl ?_;rintro v B ⟨k,u,id,s,a,ids,cc,e,rfl,rfl,hr,ec,ho⟩;refine bW (h:=?_);refine ao (aC rfl fun p8=>?_);refine ao (aC rfl fun p9=>?_);refine dO (h:=?_);refine dt (us:=u) rfl rfl ho.len ho.one (by rw[ho.len];rfl) ?_;refine Wq ?_;by_cases he:e=0
 ·subst he;obtain⟨z',rfl,c_,jR,dP,Z0⟩:=ho.bk rfl;have Iz:z'.In (Sep [A,Mem k]):=by
   rcases c_ with h|h
   ·exact BZ.In.O2 h (by simp)
   ·exact BZ.In.O2 h (by simp)
  refine Eb (h:=eR (h:=?_));refine gy (Γ':=Sep [A,Mem k]::Row p8 0 z'.cells::Row p9 0 (fq 0 id s a ids.length cc)::Row p4 0 eH::Row p5 0 [.int .i64 0,.int .u64 0,.string ⟨#[]⟩,.slice none 0 0]::Γ) (fun E w st=>(ak.cA [_,_] _).st (Sub.h.st st)) ?_;refine rI (h:=eM (h:=?_));refine aZ 5 (aX [1,3,4] [0,2,1,3,4,5]) [Row p8 0 z'.cells,Row p9 0 (fq 0 id s a ids.length cc)] ?_;refine iA (h:=iA (h:=?_));refine aE rfl (aq (vs:=[z'.val]) rfl (Bu z' Iz) rfl ?_);rintro v B ⟨k2,z2,rfl,rfl,I2,ie,pL⟩;refine dc (h:=?_);refine aE rfl (dt (us:=z2.cells) rfl rfl (by rfl) (by rfl) (by rfl) ⟨bd,?_⟩);refine aE rfl (dt (us:=fq 0 id s a ids.length cc) rfl rfl (by rfl) (by rfl) (by rfl) ⟨bd,?_⟩);refine df (h:=?_);refine gy (Γ':=Mem k::Mem k2::Row p4 0 z2.cells::Row p5 0 (fq 0 id s a ids.length cc)::A::Γ) (fun E w st=>(Sub.h (Δ:=Mem k::Mem k2::Row p4 0 z2.cells::Row p5 0 (fq 0 id s a ids.length cc)::A::Γ)).st ((ak.cx [A,Mem k] (Mem k2::Row p4 0 z2.cells::Row p5 0 (fq 0 id s a ids.length cc)::Γ)).st (Sub.h.st st))) ?_;refine ny k k2 fun m j2 jv=>?_;skip;have IA:bu z2.l=bu z'.l:=pL;exact bP (rs:=[.cell 4 31,.cell 5 55,.tmp 6]) (vs:=[z2.val,.agg (fq 0 id s a ids.length cc).toArray,.int .i64 0]) ⟨bG (us:=z2.cells) rfl rfl,bG (us:=fq 0 id s a ids.length cc) rfl rfl,bO rfl,trivial⟩ [A,Mem m] ⟨m,z2,id,s,a,ids,cc,0,rfl,rfl,I2.up jv,ie.trans jR,by rw[EN pL,ie,jR];exact dP,hr.up j2,ec,fun h1 h2 h3=>by
   exact⟨rfl,(ho.bw h1 h2 h3).2,IA.trans (Z0 h1)⟩⟩ Sub.h
 ·refine aA (h:=?_);refine aq (vs:=[z.val]) rfl (Bu z I) rfl ?_;rintro v B ⟨k2,z2,rfl,rfl,I2,ie,pL⟩;refine qC (h:=?_);refine ny k k2 fun m j2 jv=>?_;skip;exact bP (rs:=[.cell 4 31,.cell 5 55,.tmp 6]) (vs:=[z2.val,.agg (fq e 0 [] none 0 0).toArray,.int .i64 0]) ⟨bG (us:=z2.cells) rfl rfl,bG (us:=[.int .i64 e,.int .u64 0,.string ⟨#[]⟩,.slice none 0 0]) rfl rfl,bO rfl,trivial⟩ [A,Mem m] ⟨m,z2,0,[],none,[],0,e,rfl,rfl,I2.up jv,ie,by rw[EN pL,ie];exact hs,⟨rfl,fun _ _ _ _=> .inl rfl⟩,by decide,fun h1 h2 h3=>absurd (ho.bw h1 h2 h3).1 he⟩ Sub.h
end
section
open Go.Proofs Tryz
open Go.RowKit Go.Proofs Go
structure ME where
 k:Nat
 v:Value
 b:Nat
def ME.e(m:ME):MapEntry:=⟨.int .u64 (m.k:Int),m.v,m.b⟩
def bz(l:List ME)(c:Nat):Obj:= .map (l.map ME.e).toArray c
structure lj(l:List ME)(c:Nat):Prop where
 lt:∀m∈l,m.b<c
 nk:(l.map ME.k).Nodup
 nb:(l.map ME.b).Nodup
theorem lj.nil(c:Nat):lj [] c:=⟨by simp,by simp,by simp⟩
theorem lj.add{l:List ME}{c k:Nat}(h:lj l c)(hk:k∉l.map ME.k)(v:Value):lj (l++[⟨k,v,c⟩]) (c+1)where
 lt:=by
  intro m hm;rcases zL.1 hm with hm|hm
  ·have:=h.lt m hm;omega
  ·rw[zbr.1 hm];exact za7 c
 nk:=by
  rw[zg,zab];exact⟨h.nk,by simp,fun a ha b hb=>by simp at hb;subst hb;intro e;subst e;exact hk ha⟩
 nb:=by
  rw[zg,zab];refine⟨h.nb,by simp,fun a ha b hb=>?_⟩;simp at hb;subst hb;obtain⟨m,hm,rfl⟩:=zbY.1 ha;have:=h.lt m hm;omega
theorem lj.filter{l:List ME}{c:Nat}(h:lj l c)(p:ME→Bool):lj (l.filter p) c:=
 ⟨fun m hm=>h.lt m (List.mem_filter.1 hm).1,h.nk.sublist (List.filter_sublist.map _),h.nb.sublist (List.filter_sublist.map _)⟩
class tZ(P:Program)(t:TypeId)(z:outParam Value):Prop where h:∃kt et i,P.underlying t=some (.map kt et)∧P.underlying kt=some (.int .u64)∧P.info? et=some i∧i.zero=some z
theorem E8(k:Nat):∀(l:List ME) (i:Nat),Instr.findNow (.int .u64) (.int .u64 (k:Int)) (l.map ME.e) i=some ((l.findIdx? fun m=>m.k==k).bind fun j=>(l[j]?).map fun m=>(i+j,m.v))
 |[],i=>rfl
 |m::l,i=>by
  rw[zE,Instr.findNow];have e1:Instr.sameNow (.int .u64) (.int .u64 (k:Int)) m.e.key=some (m.k==k):=by
   simp only[ME.e,Instr.sameNow,if_true];congr 1;rw[Bool.eq_iff_iff];simp;omega
  rw[e1,List.findIdx?_cons];cases hb:m.k==k with
  |true=>simp[ME.e]
  |false=>
   simp only[zb9,if_false];rw[E8 k l (i+1)];cases List.findIdx? (fun m=>m.k==k) l with
   |none=>rfl
   |some j=>simp[show i+1+j=i+(j+1)by omega]
theorem E_{P:Program}{w:World}{kt:TypeId}(h:P.underlying kt=some (.int .u64))(k:Int)(e:Bool):(Instr.checkKey e 10000 kt (.int .u64 k)).run P w= .ok () w:=
 MapKept.run_checkKey h (k:= .int .u64 k) rfl e 9999
theorem PL{l:List ME}{k:Nat}(h:k∉l.map ME.k):(l.findIdx? fun m=>m.k==k)=none:=by
 rw[List.findIdx?_eq_none_iff];intro m hm;have:m.k≠k:=fun e=>h (zbY.2 ⟨m,hm,e⟩);simpa using this
theorem PM{l:List ME}{m:ME}(hn:(l.map ME.k).Nodup)(hm:m∈l):∃j,(l.findIdx? fun x=>x.k==m.k)=some j∧l[j]? =some m:=by
 obtain⟨j,hj⟩:=List.mem_iff_getElem?.1 hm;obtain⟨aN,he⟩:=List.getElem?_eq_some_iff.1 hj;refine⟨j,?_,hj⟩;rw[List.findIdx?_eq_some_iff_getElem];refine⟨aN,by rw[he];simp,fun i hi=>?_⟩;have:=za5.1 hn i j (by simp;omega) (by simpa using aN) hi;simp only[List.getElem_map]at this;rw[he]at this;simpa using this
section ops
variable {P:Program} {X:Cx} {n:Nat} {ds:List Deferred} {ρ:aK} {Γ Δ:List HP} {Nx:Value→List HP→Prop} {d:Nat} {ty:TypeId}
theorem aaI{t:TypeId}(hn:Nat.blt d n=true)(h:∀r,Nx (.map (some r)) (Whole r (bz [] 0)::Γ)):bm P X n ds (some d) (.makeMap t none) ty Nx ρ Γ:=
 b_ (by simp) hn fun e o w ax aS he bg hs=>⟨_,_,_,by
  simp[execOp,ax,Instr.makeMap];rfl,hs.sE (bz [] 0),h w.heap.size⟩
theorem Jb{t:TypeId}{z:Value}[T:tZ P t z]{w:World}{r c k:Nat}{l:List ME}(hb:w.heap[r]? =some (bz l c))(cm:Bool):
 (Instr.lookup t (.map (some r)) (.int .u64 (k:Int)) cm).run P w= .ok (let q:=((l.findIdx? fun m=>m.k==k).bind fun j=>(l[j]?).map fun m=>m.v);if cm then .tuple [q.getD z,.bool q.isSome].toArray else q.getD z) w:=by
 obtain⟨kt,et,i,h1,h2,h3,h4⟩:=T.h;have hf:=E8 k l 0;unfold bz at hb;simp only[Instr.lookup,Sem.run_bind,run_underlying h1,Result.andThen_ok,MapKept.run_getObj_map hb,Sem.run_pure,E_ h2,Instr.findKey,run_underlying h2,hf];cases hq:(l.findIdx? fun m=>m.k==k)with
 |none=>simp[zeroValue,m6 h3,h4]
 |some j=>
  have aN:j<l.length:=(List.findIdx?_eq_some_iff_getElem.1 hq).1;simp[za aN]
theorem PN{t:TypeId}{x ix:Operand}{r c:Nat}{m:ME}{l:List ME}{z:Value}[T:tZ P t z](hx:ev ρ x=some (.map (some r)))(hi:ev ρ ix=some (.int .u64 (m.k:Int)))[K:Take Γ (Whole r (bz l c)) Δ](ho:lj l c)(hm:m∈l):
 bI P (.lookup t x ix true) ty ρ Γ (.tuple [m.v,.bool true].toArray):=
 ⟨by simp,fun ee o E w ax aS he bg hs=>by
  obtain⟨j,h1,h2⟩:=PM ho.nk hm;simp[execOp,ax,he x _ hx,he ix _ hi,Jb (hs.perm K.h).fz,h1,h2]⟩
theorem PO{t:TypeId}{x ix:Operand}{r c k:Nat}{l:List ME}{z:Value}[T:tZ P t z](hx:ev ρ x=some (.map (some r)))(hi:ev ρ ix=some (.int .u64 (k:Int)))[K:Take Γ (Whole r (bz l c)) Δ](hm:k∉l.map ME.k):
 bI P (.lookup t x ix true) ty ρ Γ (.tuple [z,.bool false].toArray):=
 ⟨by simp,fun ee o E w ax aS he bg hs=>by
  simp[execOp,ax,he x _ hx,he ix _ hi,Jb (hs.perm K.h).fz,PL hm]⟩
theorem aaJ{t:TypeId}{x ix:Operand}{r c:Nat}{m:ME}{l:List ME}{z:Value}[T:tZ P t z](hx:ev ρ x=some (.map (some r)))(hi:ev ρ ix=some (.int .u64 (m.k:Int)))[K:Take Γ (Whole r (bz l c)) Δ](ho:lj l c)(hm:m∈l):
 bI P (.lookup t x ix false) ty ρ Γ m.v:=
 ⟨by simp,fun ee o E w ax aS he bg hs=>by
  obtain⟨j,h1,h2⟩:=PM ho.nk hm;simp[execOp,ax,he x _ hx,he ix _ hi,Jb (hs.perm K.h).fz,h1,h2]⟩
theorem PQ{t:TypeId}{x ix y:Operand}{r c k:Nat}{v:Value}{l:List ME}{z:Value}[T:tZ P t z](hx:ev ρ x=some (.map (some r)))(hi:ev ρ ix=some (.int .u64 (k:Int)))(hy:ev ρ y=some v)[K:Take Γ (Whole r (bz l c)) Δ](hm:k∉l.map ME.k)
 (h:Nx undef (Whole r (bz (l++[⟨k,v,c⟩]) (c+1))::Δ)):bm P X n ds none (.mapUpdate t x ix y) ty Nx ρ Γ:=
 yD (by simp) fun e o w ax aS he hs=>by
  obtain⟨kt,et,i,h1,h2,h3,h4⟩:=T.h;have st:=hs.perm K.h;have hf:=E8 k l 0;rw[PL hm]at hf;have hb:=st.fz;unfold bz at hb;refine⟨_,_,?_,st.Cf (bz (l++[⟨k,v,c⟩]) (c+1)) _ rfl,h⟩;simp[execOp,ax,he x _ hx,he ix _ hi,he y _ hy,Instr.mapUpdate,run_underlying h1,MapKept.run_getObj_map hb,E_ h2,Instr.findKey,run_underlying h2,hf,MapKept.run_setObj_map _ hb,bz,ME.e]
theorem aaK{t t2:TypeId}{x ix:Operand}{r c k:Nat}{l:List ME}{z:Value}[T:tZ P t z](hx:ev ρ x=some (.map (some r)))(hi:ev ρ ix=some (.int .u64 (k:Int)))[K:Take Γ (Whole r (bz l c)) Δ](ho:lj l c)
 (h:Nx undef (Whole r (bz (l.filter fun m=> !(m.k==k)) c)::Δ)):bm P X n ds none (.call ⟨.builtin .delete,#[x,ix],#[t,t2]⟩) ty Nx ρ Γ:=
 N0 (by simp) fun ee o w ax aS he hs=>by
  obtain⟨kt,et,i,h1,h2,h3,h4⟩:=T.h;have st:=hs.perm K.h;have hf:=E8 k l 0;have hb:=st.fz;have gM:=hb;unfold bz at gM;refine⟨.tuple #[],_,_,?_,st.Cf (bz (l.filter fun m=> !(m.k==k)) c) _ rfl,h⟩;have hd:(Builtin.delete_ #[t,t2] o.type #[.map (some r),.int .u64 (k:Int)]).run P w= .ok (.tuple #[]) {w with heap:=w.heap.setIfInBounds r (bz (l.filter fun m=> !(m.k==k)) c)}:=by
   cases hq:(l.findIdx? fun m=>m.k==k)with
   |none=>
    rw[hq]at hf;have:l.filter (fun m=> !(m.k==k))=l:=List.filter_eq_self.2 fun m hm=>by
     have:=List.findIdx?_eq_none_iff.1 hq m hm;simp[this]
    rw[this];simp[Builtin.delete_,run_underlying h1,MapKept.run_getObj_map gM,E_ h2,Instr.findKey,run_underlying h2,hf,MapKept.run_setObj_map _ gM,bz]
   |some j=>
    rw[hq]at hf;obtain⟨aN,hj,_⟩:=List.findIdx?_eq_some_iff_getElem.1 hq;have Ea:l[j].k=k:=by simpa using hj
    have BB:(l.map ME.e).eraseIdx j=(l.filter fun m=> !(m.k==k)).map ME.e:=by
     have h5:l=l.take j++l[j]::l.drop (j+1):=by rw[List.getElem_cons_drop aN,zG]
     have h6:=ho.nk;rw[h5,zg,zE,zab]at h6;obtain⟨_,h8,h9⟩:=h6;have f1:(l.take j).filter (fun m=> !(m.k==k))=l.take j:=List.filter_eq_self.2 fun m hm=>by
      have:=h9 m.k (zbY.2 ⟨m,hm,rfl⟩) l[j].k (by simp);rw[Ea]at this;simpa using this
     have f2:(l.drop (j+1)).filter (fun m=> !(m.k==k))=l.drop (j+1):=List.filter_eq_self.2 fun m hm=>by
      have:=(zb5.1 h8).1;have mM:m.k≠l[j].k:=fun e=>this (e ▸ zbY.2 ⟨m,hm,rfl⟩);rw[Ea]at mM;simpa using mM
     rw[List.eraseIdx_eq_take_drop_succ]
     conv=>rhs;rw[h5]
     rw[zbc,List.filter_cons,f1,f2,←zaM,←zbM,←zg];simp[Ea]
    simp[Builtin.delete_,run_underlying h1,MapKept.run_getObj_map gM,E_ h2,Instr.findKey,run_underlying h2,hf,MapKept.run_setObj_map _ gM,bz,za aN,aN,BB,Array.eraseIdxIfInBounds]
  simp[execOp,ax,resolve,he x _ hx,he ix _ hi,invoke,builtin,hd]
def nK(r c:Nat)(seen:List Nat):Obj:= .mapIter (some r) c seen.toArray c
theorem PR{t:TypeId}{x:Operand}{r c:Nat}{l:List ME}{z:Value}[T:tZ P t z](hx:ev ρ x=some (.map (some r)))[K:Take Γ (Whole r (bz l c)) Δ](hn:Nat.blt d n=true)(h:∀it,Nx (.pointer (some ⟨it,0,none⟩)) (Whole it (nK r c [])::Γ)):
 bm P X n ds (some d) (.range t x) ty Nx ρ Γ:=
 b_ (by simp) hn fun e o w ax aS he bg hs=>by
  obtain⟨kt,et,i,h1,h2,h3,h4⟩:=T.h;have hb:=(hs.perm K.h).fz;unfold bz at hb;refine⟨_,_,_,?_,hs.sE (nK r c []),h w.heap.size⟩;simp[execOp,ax,he x _ hx,Instr.range,run_underlying h1,MapKept.run_getObj_map hb,nK]
theorem PT{x:Operand}{it r c:Nat}{seen:List Nat}{l:List ME}{Θ:List HP}(hx:ev ρ x=some (.pointer (some ⟨it,0,none⟩)))[I:Take Γ (Whole it (nK r c seen)) Δ][K:Take Δ (Whole r (bz l c)) Θ](ho:lj l c)(hn:Nat.blt d n=true)
 (h0:(∀m∈l,m.b∈seen)→Nx (.tuple [.bool false].toArray) Γ)
 (h:∀m∈l,m.b∉seen→Nx (.tuple [.bool true,.int .u64 (m.k:Int),m.v].toArray) (Whole it (nK r c (seen++[m.b]))::Whole r (bz l c)::Θ)):
 bm P X n ds (some d) (.next x false) ty Nx ρ Γ:=
 b_ (by simp) hn fun e o w ax aS he bg hs=>by
  have st:=hs.perm I.h;have qu:=st.fz;have hb:=((hs.perm I.h).drop.perm K.h).fz;unfold bz at hb;unfold nK at qu;have t0:(!seen.toArray.isEmpty&& !(l.map ME.e).toArray.isEmpty&&(l.map ME.e).toArray.all fun x=>decide (x.born≥c))=false:=by
   cases l with
   |nil=>simp
   |cons m l=>
    have:=ho.lt m (by simp);have:((m::l).map ME.e).toArray.all (fun x=>decide (x.born≥c))=false:=by
     rw[Bool.eq_false_iff];intro h1;have h2:=Array.all_eq_true_iff_forall_mem.1 h1 m.e (by simp);simp[ME.e]at h2;omega
    rw[this];simp
  have e0:Array.filter (fun e=> !seen.toArray.contains e.born) (l.map ME.e).toArray=((l.filter fun m=> !seen.contains m.b).map ME.e).toArray:=by
   rw[List.filter_toArray,List.filter_map];congr 2;refine List.filter_congr fun m _=>?_;simp[ME.e];exact decide_eq_decide.2 Iff.rfl
  obtain⟨L,hL⟩:∃L,L=l.filter fun m=> !seen.contains m.b:=⟨_,rfl⟩
  have fG:∀m∈L,m∈l∧m.b∉seen:=fun m hm=>by rw[hL]at hm;simpa using hm
  have e1:Array.filter (fun x=>decide (x.born<c)) (L.map ME.e).toArray=(L.map ME.e).toArray:=Array.filter_eq_self.2 (fun x hx=>by
   simp at hx;obtain⟨m,hm,rfl⟩:=hx;exact decide_eq_true (ho.lt m (fG m hm).1))
  have e2:Array.filter (fun x=>decide (x.born≥c)) (L.map ME.e).toArray= #[]:=by
   rw[Array.filter_eq_empty_iff];intro x hx;simp at hx;obtain⟨m,hm,rfl⟩:=hx;have:=ho.lt m (fG m hm).1;simp[ME.e];omega
  have u4:(getObj it).run P w= .ok (.mapIter (some r) c seen.toArray c) w:=by simp[getObj,Sem.run,qu]
  rw[←hL]at e0;have hE:execOp e o=(do pure (.value (←Instr.next (.pointer (some ⟨it,0,none⟩)) false o.type))):=by simp[execOp,ax,he x _ hx]
  rw[hE];by_cases hz:L=[]
  ·refine⟨_,w,Γ,?_,hs,h0 fun m hm=>?_⟩
   ·subst hz;simp only[Sem.run_bind,Instr.next,u4,Result.andThen_ok,MapKept.run_getObj_map hb,t0,zb9,if_false,e0,e1,e2];simp[Question.forced]
   ·apply zI;intro vJ;have:m∈L:=by rw[hL];simp[hm,vJ]
    rw[hz]at this;cases this
  ·have qS:0<L.length:=List.length_pos_iff.2 hz;have key:∀(w1:World) (j:Nat) (hj:j<L.length),St X.E Γ w1→(choose (.mapNext L.length)).run P w= .ok j w1→
    ∃v w' Γ',(do pure (Next.value (←Instr.next (.pointer (some ⟨it,0,none⟩)) false o.type))).run P w= .ok (.value v) w'∧St X.E Γ' w'∧Nx v Γ':=by
    intro w1 j hj s1 hc;have s2:=s1.perm I.h;obtain⟨hm,vJ⟩:=fG L[j] (zap hj);refine⟨_,_,_,?_,((s2.Cf (nK r c (seen++[L[j].b])) _ rfl).perm (K.h.cons _)),h L[j] hm vJ⟩;have aN:it<w1.heap.size:=(Array.getElem?_eq_some_iff.1 s2.fz).1;simp only[Sem.run_bind,Instr.next,u4,Result.andThen_ok,MapKept.run_getObj_map hb,t0,zb9,if_false,e0,e1,e2];have e3:(L.map ME.e).toArray.isEmpty=false:=by cases L with
     |nil=>exact absurd rfl hz
     |cons a L=>rfl
    have e4:((if (L.map ME.e).toArray.isEmpty=true then #[none]else #[])++((L.map ME.e).toArray++ #[]).map some)=(L.map fun m=>some m.e).toArray:=by
     rw[e3];simp
    rw[e4];have e5:(L.map fun m=>some m.e).toArray.size=L.length:=by simp
    rw[e5,hc];have kW:(setObj it (Obj.mapIter (some r) c (seen++[L[j].b]).toArray c)).run P w1= .ok () {w1 with heap:=w1.heap.setIfInBounds it (nK r c (seen++[L[j].b]))}:=by
     have h5:=s2.fz;unfold nK at h5;simp only[setObj,Sem.run,h5]
     rfl
    simp[za hj,kW,ME.e]
   by_cases h1:L.length≤1
   ·exact key w 0 (by omega) hs (by simp[Question.forced,h1])
   ·exact key w.drew ((Question.mapNext L.length).cut (w.tape w.drawn (.mapNext L.length))) (za0 _ qS) hs.drew (by
     rw[run_choose_drew,if_neg (by simp[Question.forced];omega)])
theorem find_born{l:List ME}{m:ME}(hn:(l.map ME.b).Nodup)(hm:m∈l):((l.map ME.e).toArray.find? fun e=>e.born==m.b)=some m.e:=by
 rw[List.find?_toArray,List.find?_map];have:l.find? ((fun e:MapEntry=>e.born==m.b)∘ME.e)=some m:=by
  induction l with
  |nil=>cases hm
  |cons x l ih=>
   rw[List.find?_cons];by_cases h:x.b=m.b
   ·have:x=m:=by
     rcases zbe.1 hm with h2|h2
     ·exact h2.symm
     ·rw[zE,zb5]at hn;exact absurd (h ▸ zbY.2 ⟨m,h2,rfl⟩) hn.1
    subst this;simp[ME.e]
   ·have h3:((fun e:MapEntry=>e.born==m.b)∘ME.e) x=false:=by simp[ME.e,h]
    rw[h3];refine ih (zb5.1 (by simpa using hn)).2 ?_;rcases zbe.1 hm with h2|h2
    ·exact absurd (by rw[h2]) h
    ·exact h2
 rw[this];rfl
theorem aaL{x:Operand}{it r c:Nat}{seen:List Nat}{l:List ME}{m:ME}{Θ:List HP}(hx:ev ρ x=some (.pointer (some ⟨it,0,none⟩)))[I:Take Γ (Whole it (nK r c (seen++[m.b]))) Δ][K:Take Δ (Whole r (bz l c)) Θ](ho:lj l c)(hm:m∈l):
 bI P (.entry x) ty ρ Γ (.tuple [.int .u64 (m.k:Int),m.v].toArray):=
 ⟨by simp,fun ee o E w ax aS he bg hs=>by
  have st:=hs.perm I.h;have qu:=st.fz;have hb:=((hs.perm I.h).drop.perm K.h).fz;unfold bz at hb;unfold nK at qu;have u4:(getObj it).run P w= .ok (.mapIter (some r) c (seen++[m.b]).toArray c) w:=by simp[getObj,Sem.run,qu]
  have dL:(seen++[m.b]).toArray.back? =some m.b:=by simp
  simp[execOp,ax,he x _ hx,Instr.entry,u4,dL,MapKept.run_getObj_map hb,find_born ho.nb hm];exact⟨rfl,rfl⟩⟩
end ops
end
section
open Go.Proofs Tryz
open Go.Proofs Go.RowKit
instance:tZ prog 108 (.agg #[.int .i64 0,.int .i64 0]):=⟨22,145,_,underlying108,underlying22,aH typeInfo145,rfl⟩
theorem aaM{A:HP}{ad:Option Addr}{cap:Nat}{xs:List Tx}(R:Reads A 1 ad xs.length (xs.map tv))(x:Tx)(hl:xs.length≤2^40):
 Spec prog 72 [.slice ad xs.length cap,tv x] [A] (fun v B=>∃r:Int,v= .int .i64 r∧B=[A]∧((r= -1∧x∉xs)∨∃i:Nat,r=i∧xs[i]? =some x)):=by
 refine x_sp func72 ntmps72 fun E cs Γ=>?_;refine gJ (h:=?_);refine aQ (α:=Nat) (fun i=>i≤xs.length∧x∉xs.take i) (fun i=>[(8,iv i),(7,iv xs.length),(0,.slice ad xs.length cap),(1,tv x)]) (fun _=>A::Γ) (fun i=>xs.length-i) 0 ⟨by omega,by simp⟩ x_tv Sub.h ?_;rintro i ⟨hi,bM⟩ back;refine bQ (h:=?_);by_cases h:i<xs.length
 ·obtain⟨y,hy⟩:=bc (l:=xs) (i:=i) h;refine aA (h:=?_);refine bK rfl rfl R (j:=i) rfl h rfl fun b off ha=>?_;refine aw (h:=?_);refine fM rfl R ha (i:=i*1) (by omega) (v:=tv y) (by rw[zaj,zf,hy];rfl) rfl ?_;by_cases e:x=y
  ·subst e;refine aw (h:=?_);refine Kv rfl rfl rfl rfl ?_;refine Wq ?_;exact ap rfl [A] ⟨i,rfl,rfl,.inr ⟨i,rfl,hy⟩⟩ Sub.h
  ·refine aw (h:=?_);refine Kw rfl rfl (fun h=>e (yM h)) rfl ?_;refine Wq ?_;exact aV (back (i+1) ⟨by omega,fun hm=>by
    rw[zp,hy]at hm;rcases zL.1 hm with hm|hm
    ·exact bM hm
    ·exact e (by simpa using hm)⟩ (by omega))
 ·obtain rfl:i=xs.length:=by omega
  rw[zu]at bM;refine Wq ?_;exact ap rfl [A] ⟨-1,rfl,rfl,.inl ⟨rfl,bM⟩⟩ Sub.h
abbrev fW(l:List TZ):List Tx:=l.map fun z=>z.t.bytes
abbrev ek(a1:Option Addr)(c1:Nat)(a2:Option Addr)(c2 n:Nat):List Value:=[.slice a1 n c1,.slice a2 n c2]
theorem aaN(a b c d v:Value):[a,b,c,d].set (0+0*2+0-0) v=[v,b,c,d]:=rfl
theorem aaO(a b c d v:Value):[a,b,c,d].set (0+0*2+1-0) v=[a,v,c,d]:=rfl
theorem PU{A:HP}(z:BZ)(I:z.In A):
 Spec prog 34 [z.val] [A] (fun v B=>∃(k:PH) (a1:Option Addr) (c1:Nat) (a2:Option Addr) (c2:Nat),v= .agg (ek a1 c1 a2 c2 z.l.length++ek none 0 none 0 0).toArray∧B=[A,Mem k]∧Reads (Mem k) 1 a1 z.l.length ((bB z.l).map nv)∧Reads (Mem k) 1 a2 z.l.length ((fW z.l).map tv)):=by
 refine x_sp func34 ntmps34 fun E cs Γ=>?_;have H4:=I.len;refine eh (h:=?_);refine ao (aM rfl rfl fun p1=>?_);refine ao (aC rfl fun p2=>?_);refine uM (h:=?_);refine ao (aC rfl fun p3=>?_);refine Wq ?_;refine aJ rfl (vl I.rt I.it I.ok (by omega)) rfl ?_;rintro v B ⟨a1,c1,rfl,rfl⟩;refine rc (h:=?_);refine dd rfl rfl (j:=0) rfl (by decide) rfl ?_;refine Wq ?_;rw[aaN];refine aQ (α:=Nat×Option Addr×Nat) (fun q=>q.1≤z.l.length) (fun q=>[(20,iv q.1),(19,iv z.l.length),(18,.slice z.ad z.l.length z.ct),(3,dp p3),(2,dp p2),(1,dp p1)])
  (fun q=>Row p3 0 [.slice a1 z.l.length c1,.slice q.2.1 q.1 q.2.2,.slice none 0 0,.slice none 0 0]::Sl 1 q.2.1 q.1 q.2.2 (((fW z.l).take q.1).map tv)::Sl 1 a1 z.l.length c1 ((bB z.l).map nv)::Row p2 0 [.slice none 0 0,.slice none 0 0,.slice none 0 0,.slice none 0 0]::Row p1 0 z.cells::A::Γ) (fun q=>z.l.length-q.1) (0,none,0) (zj _) ⟨rfl,rfl,rfl,rfl,rfl,rfl,trivial⟩
  ((ak.cq 1 _).trans (Sub.h (Δ:=Row p3 0 [.slice a1 z.l.length c1,.slice none 0 0,.slice none 0 0,.slice none 0 0]::Sl 1 none 0 0 []::Sl 1 a1 z.l.length c1 ((bB z.l).map nv)::Row p2 0 [.slice none 0 0,.slice none 0 0,.slice none 0 0,.slice none 0 0]::Row p1 0 z.cells::A::Γ))) ?_
 rintro⟨i,a3,c3⟩ hi back;dsimp only at hi back⊢;refine bQ (h:=?_);by_cases h:i<z.l.length
 ·obtain⟨x,hx⟩:=bc (l:=z.l) (i:=i) h;have iJ:=zc hx;have mD:=I.ok x iJ;refine aA (h:=?_);refine bK rfl rfl I.rt (j:=i) rfl h rfl fun b off ha=>?_;refine aw (h:=?_);refine dA rfl I.rt ha (i:=i*21) (us:=x.cells) (by omega) rfl (fun j v hv=>cG hx hv) rfl ?_;refine ao (aC rfl fun p5=>?_);refine aA (h:=?_);refine aq (vs:=[x.val]) rfl (va x (I.it x iJ)) rfl ?_;refine dh (h:=?_);rw[mD,if_pos rfl,if_pos rfl];refine n9 (h:=?_);refine dd rfl rfl (j:=0) rfl (by decide) rfl ?_;refine wZ (h:=AT (h:=fv (h:=?_)));refine cf rfl (by rfl) (by rfl) (by rfl) (by rfl) rfl fun a2=>?_;refine aw (h:=?_);refine cF rfl rfl (by rfl) (by rfl) (by rfl) (by omega) rfl fun a4 c4 gI=>?_;refine aw (h:=?_);refine dd rfl rfl (j:=0) rfl (by decide) rfl ?_;have hb:=back (i+1,a4,c4) (by dsimp only;omega) (by dsimp only;omega);dsimp only at hb;have e1:((fW z.l).take (i+1)).map tv=((fW z.l).take i).map tv++[tv x.t.bytes]:=by
   rw[zp,zf,hx];simp
  rw[e1]at hb;refine Wq ?_;rw[aaO];exact aV hb
 obtain rfl:i=z.l.length:=by omega
 have e1:(fW z.l).take z.l.length=fW z.l:=zo (by simp);rw[e1];refine Wq ?_;refine aQ (α:=Unit) (fun _=>True) (fun _=>[(41,iv 0),(40,iv (0:Nat)),(39,.slice z.al 0 z.cl),(3,dp p3),(2,dp p2)]) (fun _=>Row p3 0 [.slice a1 z.l.length c1,.slice a3 z.l.length c3,.slice none 0 0,.slice none 0 0]::Sl 1 a3 z.l.length c3 ((fW z.l).map tv)::Sl 1 a1 z.l.length c1 ((bB z.l).map nv)::Row p2 0 [.slice none 0 0,.slice none 0 0,.slice none 0 0,.slice none 0 0]::A::Γ) (fun _=>0) () trivial x_tv Sub.h ?_;intro _ _ eY;refine bQ (h:=ya (h:=?_));refine bJ (ak.yd _) ?_;refine fw a1 (h:=PH.emp) fun k1 ey R1 jg=>?_;refine fw a3 (h:=k1) fun k2 bH R2 eV=>?_;refine Wq ?_;exact bP (rs:=[.cell 2 116]) (vs:=[.agg (ek a1 c1 a3 c3 z.l.length++ek none 0 none 0 0).toArray]) ⟨bG (us:=ek a1 c1 a3 c3 z.l.length++ek none 0 none 0 0) rfl rfl,trivial⟩ [A,Mem k2] ⟨k2,a1,c1,a3,c3,rfl,rfl,R1.up bH,R2⟩ Sub.h
end
section
open Go.Proofs Tryz
open Go.Proofs Go.RowKit
structure KS where
 l:List ME
 c:Nat
 g:List RE
abbrev KS.ks(q:KS):List Nat:=q.l.map ME.k
def qK(txs:List Tx)(q:KS)(y:RE):KS:=if y.2∈txs∧cu y.2∉q.ks then ⟨q.l++[⟨cu y.2,kJ (mG y),q.c⟩],q.c+1,q.g⟩else ⟨q.l,q.c,q.g++[y]⟩
def jF(txs:List Tx)(ys:List RE):KS:=ys.foldl (qK txs) ⟨[],0,[]⟩
theorem aaP{txs:List Tx}{ys:List RE}{i:Nat}{y:RE}(h:ys[i]? =some y):jF txs (ys.take (i+1))=qK txs (jF txs (ys.take i)) y:=by
 unfold jF;rw[zp,h,zaa,zbO];rfl
structure KOk(txs:List Tx)(ys:List RE)(q:KS):Prop where
 ok:lj q.l q.c
 ref:∀m∈q.l,∃p,m.v=kJ p
 sub:q.g.Sublist ys
 keys:∀k∈q.ks,∃y∈ys,y.2∈txs∧cu y.2=k∧y.1∉q.g.map Prod.fst
 have':∀y∈ys,y.2∈txs→cu y.2∈q.ks
theorem yp(txs:List Tx):∀(n:Nat) (ys:List RE),ys.length=n→(ys.map Prod.fst).Nodup→KOk txs ys (jF txs ys):=by
 intro n;induction n with
 |zero=>
  intro ys h _;rw[List.length_eq_zero_iff.1 h];exact⟨lj.nil 0,(fun m hm=>by cases hm),List.Sublist.refl _,(fun k hk=>by cases hk),(fun y hy=>by cases hy)⟩
 |succ n ih=>
  intro ys h hn;have cE:ys≠[]:=fun e=>by rw[e]at h;cases h
  obtain⟨zs,y,rfl⟩:∃zs y,ys=zs++[y]:=⟨ys.dropLast,ys.getLast cE,(List.dropLast_concat_getLast cE).symm⟩
  have hz:zs.length=n:=by simpa using h
  rw[zg,zab]at hn;obtain⟨pK,-,BC⟩:=hn;have hy:∀z∈zs,z.1≠y.1:=fun z hz=>BC z.1 (zbY.2 ⟨z,hz,rfl⟩) y.1 (by simp);obtain⟨h1,h2,h3,h4,h5⟩:=ih zs hz pK;have lY:jF txs (zs++[y])=qK txs (jF txs zs) y:=by unfold jF;rw[zbO];rfl
  rw[lY];unfold qK;split
  ·rename_i hc;refine⟨h1.add hc.2 _,fun m hm=>?_,h3.trans (List.sublist_append_left _ _),fun k hk=>?_,fun z fe ht=>?_⟩
   ·rcases zL.1 hm with hm|hm
    ·exact h2 m hm
    ·rw[zbr.1 hm];exact⟨_,rfl⟩
   ·rw[KS.ks,zg]at hk;rcases zL.1 hk with hk|hk
    ·obtain⟨z,fe,e1,e2,e3⟩:=h4 k hk;exact⟨z,zK _ fe,e1,e2,e3⟩
    ·refine⟨y,by simp,hc.1,(zbr.1 hk).symm,fun hm=>?_⟩;obtain⟨z,fe,e⟩:=zbY.1 hm;exact hy z (h3.subset fe) e
   ·rw[KS.ks,zg,zL];rcases zL.1 fe with fe|fe
    ·exact .inl (h5 z fe ht)
    ·right;rw[zbr.1 fe];simp
  ·rename_i hc;refine⟨h1,h2,h3.append (List.Sublist.refl _),fun k hk=>?_,fun z fe ht=>?_⟩
   ·obtain⟨z,fe,e1,e2,e3⟩:=h4 k hk;refine⟨z,zK _ fe,e1,e2,fun hm=>?_⟩;rw[zg]at hm;rcases zL.1 hm with hm|hm
    ·exact e3 hm
    ·exact hy z fe (by simpa using hm)
   ·rcases zL.1 fe with fe|fe
    ·exact h5 z fe ht
    ·rw[zbr.1 fe]at ht⊢;apply zI;intro bM;exact hc ⟨ht,bM⟩
def dl(ess:List (List En))(y:RE):List (List En):=ess.set y.1.1 ((ess.getD y.1.1 []).set y.1.2 none)
structure Jc(first:Nat)(P:List (List En)→List (List UInt8)→Prop):Prop where
 calm:∀{ess bs},P ess bs→Calm bs
 h:∀{ess bs},P ess bs→nI first ess bs
 del:∀{ess bs} {y:RE},P ess bs→AtR ess y→∃cY,jT (aW first ess) (V.QD bs 0 0) (mG y)=(aW first (dl ess y),V.QD cY 0 0,0)∧P (dl ess y) cY
theorem aaQ(Pt:Tx→Prop):Jc 0 (jU Pt)where
 calm:=fun h=>h.calm
 h:=fun h=>h.h0
 del:=fun {ess bs y} h hy=>by
  obtain⟨es,h1,h2⟩:=hy;have hg:ess.getD y.1.1 []=es:=by rw[ze,h1];rfl
  unfold dl;rw[hg];rcases PB h 0 0 h1 h2 with ⟨cY,u',v',e1,e2,e3,e4⟩|⟨e0,_⟩
  ·rw[e3 rfl,e4 rfl]at e1;exact⟨cY,e1,e2⟩
  ·rcases e0 with e0|e0<;>exact absurd rfl e0
theorem aaR(y:RE):¬AtR dm y:=by
 rintro⟨es,h1,h2⟩;unfold dm at h1;rw[zaV]at h1;split at h1
 ·cases h1;simp at h2
 ·cases h1
theorem aaS(Pt:Tx→Prop)(ess:List (List En)):Jc 4 (fun e bs=>e=dm∧jU Pt ess bs)where
 calm:=fun h=>h.2.calm
 h:=fun h=>by rw[h.1];exact h.2.h4
 del:=fun {e bs y} h hy=>by rw[h.1]at hy;exact absurd hy (aaR y)
end
section
open Go.Proofs Tryz
open Go.Proofs Go.RowKit
def mI(y:RE):List Value:=h_ (mG y)
theorem Jd(y:RE):(mI y).length=2:=rfl
theorem PV:∀g:List RE,(g.flatMap mI).length=g.length*2
 |[]=>rfl
 |y::g=>by rw[zT,zd,Jd,PV g,zy];omega
def yq(p:Nat)(g:List RE):HP:=Any fun q:Option Addr×Nat=>Sep [Row p 0 [.slice q.1 g.length q.2],Sl 2 q.1 g.length q.2 (g.flatMap mI)]
theorem St.yr{E:Env}{p:Nat}{g:List RE}{Γ:List HP}{w:World}(st:St E (yq p g::Γ) w):∃q:Option Addr×Nat,St E (Row p 0 [.slice q.1 g.length q.2]::Sl 2 q.1 g.length q.2 (g.flatMap mI)::Γ) w:=by
 obtain⟨q,st⟩:=st.ex;exact⟨q,(ak.cx [_,_] Γ).st st⟩
theorem ak.yr{p:Nat}(g:List RE){a:Option Addr}{c:Nat}(Γ:List HP):ak (Row p 0 [.slice a g.length c]::Sl 2 a g.length c (g.flatMap mI)::Γ) (yq p g::Γ):=
 (ak.cA [_,_] Γ).trans (ak.ex (A:=fun q:Option Addr×Nat=>Sep [Row p 0 [.slice q.1 g.length q.2],Sl 2 q.1 g.length q.2 (g.flatMap mI)]) (a,c) Γ)
instance:cM prog 35 [.cell 4 108,.tmp 5,.tmp 6]:=⟨_,func35,rfl⟩
theorem PW(b:List UInt8):cu b<aI:=Dt _
theorem go_get{g:List RE}{i:Nat}{y:RE}(h:g[i]? =some y){j:Nat}{v:Value}(hv:(mI y)[j]? =some v):(g.flatMap mI)[i*2+j]? =some v:=by
 obtain⟨h1,h2⟩:=List.getElem?_eq_some_iff.1 h;have:=oA (l:=g) (f:=mI) Jd h1 j (by have:=(List.getElem?_eq_some_iff.1 hv).1;rwa[Jd]at this);rw[this,h2,hv]
theorem PX{m:Nat}:∀(ess:List (List En)) (k:Nat),(∀es∈ess,es.length≤m)→(gN k ess).length≤ess.length*m
 |[],k,_=>by simp[gN]
 |es::ess,k,h=>by
  have h1:=PX ess (k+1) fun x hx=>h x (zP _ hx);have h2:=h es (by simp);have h3:=TK es 0;unfold gN tag;rw[zd,zm,zy,zA,zbR];omega
theorem Je{first:Nat}{ess:List (List En)}{bs:List (List UInt8)}(h:nI first ess bs):(gO (aW first ess)).length≤512:=by
 unfold gO;rw[IM];have:=PX (m:=128) ess 0 fun es dF=>by
  obtain⟨k,hk⟩:=zk dF;exact h.len hk
 rw[h.h4]at this;omega
theorem PY{C:HP}{first:Nat}{P:List (List En)→List (List UInt8)→Prop}(hP:Jc first P)(r b:Nat){ess:List (List En)}{bs:List (List UInt8)}(h:P ess bs){a1 a2:Option Addr}{c1 c2:Nat}{txs:List Tx}(R1:Reads C 1 a1 txs.length ((txs.map cu).map nv))(R2:Reads C 1 a2 txs.length (txs.map tv))(ht:txs.length≤2^20):
 Spec prog 35 [dp r,.agg (ek a1 c1 a2 c2 txs.length).toArray] [bj r b (aW first ess),aF b (V.QD bs 0 0),C] (fun v B=>∃(m:Nat) (nL:List (List En)) (cY:List (List UInt8)),v= .tuple #[.map (some m),.bool (decide (0<(jF txs (gO (aW first ess))).g.length)),.int .i64 0]∧
  B=[bj r b (aW first nL),aF b (V.QD cY 0 0),C,Whole m (bz (jF txs (gO (aW first ess))).l (jF txs (gO (aW first ess))).c)]∧P nL cY∧(∀z,AtR nL z↔AtR ess z∧z.1∉(jF txs (gO (aW first ess))).g.map Prod.fst)∧nJ nL+(jF txs (gO (aW first ess))).g.length=nJ ess):=by
 refine x_sp func35 ntmps35 fun E cs Γ=>?_;obtain⟨ys,k_⟩:∃ys,gO (aW first ess)=ys:=⟨_,rfl⟩
 have hR:=hP.h h;have Jf:=hR.mem;have aaT:∀s∈aW first ess,s.es.length≤2^40:=fun s hs=>by have:=(Jf s hs).2;omega
 have dH:(ys.map Prod.fst).Nodup:=k_ ▸ E6;have aaU:∀y∈ys,AtR ess y:=fun y hy=>yo.1 (k_ ▸ hy);rw[k_];refine dx (h:=?_);refine ao (aM rfl rfl fun p3=>?_);refine ao (aC rfl fun p4=>?_);refine aA (h:=?_);refine aaI rfl fun m=>?_;refine Wq ?_;refine ao (aC rfl fun p7=>?_);refine Wq ?_;refine aJ rfl (IJ r) rfl ?_;rintro v B ⟨pc,rfl,rfl⟩;refine nU (h:=?_);have kf:=EV pc r b (aW first ess) aaT;rw[k_]at kf;have PZ:∀n:Nat,n≤ys.length→(jF txs (ys.take n)).g.length≤n:=fun n hn=>by
  have:=(yp txs n (ys.take n) (by simp;omega) (by rw[zaM];exact dH.sublist (List.take_sublist _ _))).sub.length_le;rw[zw]at this;omega
 have gG:ys.length≤512:=k_ ▸ Je hR;refine bJ (ak.nO _) ?_;refine uG (Ds:=[]) rfl rfl kf (fun j=>[yq p7 (jF txs (ys.take j)).g,Row p4 0 [.map (some m)],Whole m (bz (jF txs (ys.take j)).l (jF txs (ys.take j)).c),Row p3 0 (ek a1 c1 a2 c2 txs.length),C]) (fun _ _=>[Fact False jr]) (Δ2:=aF b (V.QD bs 0 0)::Γ) ?_ (by rfl) ?_ ?_ ?_ ?_
 ·refine(ak.cq 2 _).trans ?_;refine(Sub.h (Δ:=Row p7 0 [.slice none 0 0]::Sl 2 none 0 0 []::Row p4 0 [.map (some m)]::Whole m (bz [] 0)::Row p3 0 (ek a1 c1 a2 c2 txs.length)::C::aF b (V.QD bs 0 0)::Γ)).trans ?_;exact ak.yr (p:=p7) [] _
 ·intro j vs hj;rw[zf,zad]at hj;obtain⟨y,_,rfl⟩:=hj
  rfl
 ·intro j vs hj;have lu:j<ys.length:=by have:=(List.getElem?_eq_some_iff.1 hj).1;simpa using this
  rw[zf,zad]at hj;obtain⟨y,hy,rfl⟩:=hj;have hQ:=aaP (txs:=txs) hy;have hK:=yp txs j (ys.take j) (by simp;omega) (by rw[zaM];exact dH.sublist (List.take_sublist _ _));have t_:=PZ j (by omega);obtain⟨q,hq⟩:∃q,jF txs (ys.take j)=q:=⟨_,rfl⟩
  rw[hq]at hQ hK t_;intro Y lp r' Θ fZ eT cv nV nq;dsimp only at cv⊢;rw[hq];refine bJ (Γ':=yq p7 q.g::Row p4 0 [.map (some m)]::Whole m (bz q.l q.c)::Row p3 0 (ek a1 c1 a2 c2 txs.length)::C::Rec lp r' .ready none::Θ) (by (refine a_ (h:=?_));exact Sub.h) ?_;refine dz (fun E w st=>st.yr) fun ⟨a7,c7⟩=>?_;dsimp only;refine l9 (h:=?_);refine aC rfl fun p8=>?_;refine dO (h:=?_);refine jH (us:=h_ (mG y)) rfl rfl rfl rfl rfl (zq 2) ?_;refine gh (ak.wU (us:=h_ (mG y)) rfl _) ?_;refine Wl ?_;refine nP (r:=r') eT ?_;refine Wq ?_;refine aJ rfl (aaM R2 y.2 (by omega)) rfl ?_;rintro v B ⟨ri,rfl,rfl,xZ⟩;refine a_ (h:=?_);have ua:∀(y:RE) (a:Option Addr) (c:Nat) (Δ:List HP),ak (Row p7 0 [.slice a (q.g.length+1) c]::Sl 2 a (q.g.length+1) c (q.g.flatMap mI++h_ (mG y))::Δ) (yq p7 (q.g++[y])::Δ):=fun y a c Δ=>by
   have e:=ak.yr (p:=p7) (q.g++[y]) (a:=a) (c:=c) Δ;rw[zd,zaC]at e;simpa[mI]using e
  rcases xZ with ⟨rfl,bM⟩|⟨i,rfl,hi⟩
  ·have eD:qK txs q y=⟨q.l,q.c,q.g++[y]⟩:=by unfold qK;rw[if_neg fun h=>bM h.1]
   refine aA (h:=?_);refine cf rfl (by rfl) (by rfl) (by rfl) (by rfl) rfl fun a29=>?_;refine aw (h:=?_);refine cF rfl rfl (by rfl) (by rfl) (by rfl) (by omega) rfl fun vK vL aaV=>?_;refine Wq ?_;rw[hQ,eD]at cv;refine bJ ?_ (cv _);refine(Sub.h (Δ:=Row p7 0 [.slice vK (q.g.length+1) vL]::Sl 2 vK (q.g.length+1) vL (q.g.flatMap mI++h_ (mG y))::Row p4 0 [.map (some m)]::Whole m (bz q.l q.c)::Row p3 0 (ek a1 c1 a2 c2 txs.length)::C::Rec lp r' .busy none::Θ)).trans ?_;exact(ua y vK vL _).trans (by (refine a_ (h:=?_));exact Sub.h)
  ·have kf:y.2∈txs:=zc hi;have c_:i<txs.length:=(List.getElem?_eq_some_iff.1 hi).1;have mJ:¬((i:Nat):Int)<0:=by omega
   have lg:(txs.map cu).map nv=txs.map fun t=>nv (cu t):=by rw[zR];rfl
   refine bU (h:=?_);refine jw R1 (by omega) fun b1 P0 ed=>?_;by_cases hk:cu y.2∈q.ks
   ·have eD:qK txs q y=⟨q.l,q.c,q.g++[y]⟩:=by unfold qK;rw[if_neg fun h=>h.2 hk]
    obtain⟨me,fy,B2⟩:=zbY.1 hk;refine Wq ?_;refine aZ 12 (aX [10,11] [0,1,2,3,4,5,6,7,8,9,10,11,12]) [Row p4 0 [.map (some m)],Row p3 0 (ek a1 c1 a2 c2 txs.length),C,Whole m (bz q.l q.c)] ?_;refine Ws ?_;refine au rfl (aY rfl rfl ed (j:=i) rfl c_) ?_;refine au rfl (b7 rfl R1 ed (i:=i*1) (by omega) (v:=nv (cu y.2)) (by rw[zaj,lg,zf,hi];rfl)) ?_;refine au rfl (PN (m:=me) rfl (by rw[B2];rfl) hK.ok fy) ?_;obtain⟨p,hp⟩:=hK.ref me fy;rw[hp];refine lM (h:=?_);refine aE rfl (aC rfl fun pB=>⟨bd,?_⟩);refine aE rfl (dt (us:=h_ p) rfl rfl (by rfl) (by rfl) (by rfl) ⟨bd,?_⟩);refine df (h:=aA (h:=?_));refine cf rfl (by rfl) (by rfl) (by rfl) (by rfl) rfl fun a29=>?_;refine aw (h:=?_);refine cF rfl rfl (by rfl) (by rfl) (by rfl) (by omega) rfl fun vK vL aaV=>?_;refine Wq ?_;rw[hQ,eD]at cv;refine bJ ?_ (cv _);refine(Sub.h (Δ:=Row p7 0 [.slice vK (q.g.length+1) vL]::Sl 2 vK (q.g.length+1) vL (q.g.flatMap mI++h_ (mG y))::Row p4 0 [.map (some m)]::Whole m (bz q.l q.c)::Row p3 0 (ek a1 c1 a2 c2 txs.length)::C::Rec lp r' .busy none::Θ)).trans ?_;exact(ua y vK vL _).trans (by (refine a_ (h:=?_));exact Sub.h)
   ·have eD:qK txs q y=⟨q.l++[⟨cu y.2,kJ (mG y),q.c⟩],q.c+1,q.g⟩:=by unfold qK;rw[if_pos ⟨kf,hk⟩]
    refine Wq ?_;refine aZ 12 (aX [10,11] [0,1,2,3,4,5,6,7,8,9,10,11,12]) [Row p4 0 [.map (some m)],Row p3 0 (ek a1 c1 a2 c2 txs.length),C,Whole m (bz q.l q.c)] ?_;refine Ws ?_;refine au rfl (aY rfl rfl ed (j:=i) rfl c_) ?_;refine au rfl (b7 rfl R1 ed (i:=i*1) (by omega) (v:=nv (cu y.2)) (by rw[zaj,lg,zf,hi];rfl)) ?_;refine au rfl (PO (k:=cu y.2) (c:=q.c) rfl rfl hk) ?_;refine lM (h:=?_);refine aE rfl (aC rfl fun pB=>⟨bd,?_⟩);refine aE rfl (dt (us:=h_ (0,0)) rfl rfl (by rfl) (by rfl) (by rfl) ⟨bd,?_⟩);refine kB (h:=?_);refine aZ 7 (aX [7] [0,1,2,3,4,5,6,7]) [Row p4 0 [.map (some m)],Row p3 0 (ek a1 c1 a2 c2 txs.length),C,Row p8 0 (h_ (mG y))] ?_;refine Ws ?_;refine au rfl (aY rfl rfl ed (j:=i) rfl c_) ?_;refine au rfl (b7 rfl R1 ed (i:=i*1) (by omega) (v:=nv (cu y.2)) (by rw[zaj,lg,zf,hi];rfl)) ?_;refine iA (h:=?_);refine bN rfl rfl (PQ (c:=q.c) (k:=cu y.2) (v:=kJ (mG y)) rfl rfl rfl hk ?_);refine wY (h:=?_);rw[hQ,eD]at cv;refine bJ ?_ (cv _);refine(Sub.h (Δ:=Row p7 0 [.slice a7 q.g.length c7]::Sl 2 a7 q.g.length c7 (q.g.flatMap mI)::Row p4 0 [.map (some m)]::Whole m (bz (q.l++[⟨cu y.2,kJ (mG y),q.c⟩]) (q.c+1))::Row p3 0 (ek a1 c1 a2 c2 txs.length)::C::Rec lp r' .busy none::Θ)).trans ?_;exact(ak.yr q.g _).trans (by (refine a_ (h:=?_));exact Sub.h)
 ·intro D;rw[zm,zu];have hK:=yp txs ys.length ys rfl dH;have t_:=PZ ys.length (zq _);rw[zu]at t_;obtain⟨q,hq⟩:∃q,jF txs ys=q:=⟨_,rfl⟩
  rw[hq]at hK t_⊢;have aaW:∀y∈q.g,AtR ess y:=fun y hy=>aaU y (hK.sub.subset hy);have aaX:(q.g.map Prod.fst).Nodup:=dH.sublist (hK.sub.map _);refine bJ (Γ':=yq p7 q.g::Row p4 0 [.map (some m)]::Whole m (bz q.l q.c)::C::bj r b (aW first ess)::aF b (V.QD bs 0 0)::Marks [D]::Γ) (by (refine a_ (h:=?_));exact Sub.h) ?_;refine dz (fun E w st=>st.yr) fun ⟨a7,c7⟩=>?_;dsimp only;refine Wl ?_;have RG:=Sl.reads 2 a7 q.g.length c7 (q.g.flatMap mI) (PV _);refine aQ (α:=Nat×List (List En)×List (List UInt8)) (fun w=>w.1≤q.g.length∧P w.2.1 w.2.2∧(∀z,AtR w.2.1 z↔AtR ess z∧z.1∉(q.g.take w.1).map Prod.fst)∧nJ w.2.1+w.1=nJ ess) (fun w=>[(55,iv w.1),(54,iv q.g.length),(53,.slice a7 q.g.length c7),(7,dp p7),(4,dp p4),(0,dp r)])
   (fun w=>bj r b (aW first w.2.1)::aF b (V.QD w.2.2 0 0)::Row p7 0 [.slice a7 q.g.length c7]::Sl 2 a7 q.g.length c7 (q.g.flatMap mI)::Row p4 0 [.map (some m)]::Whole m (bz q.l q.c)::C::Marks [D]::Γ) (fun w=>q.g.length-w.1) (0,ess,bs) ⟨zj _,h,fun z=>by simp,rfl⟩ x_tv Sub.h ?_
  rintro⟨i,e1,kK⟩ ⟨hi,ud,sm,jg⟩ back;dsimp only at hi ud sm jg back⊢;refine bQ (h:=?_);by_cases aN:i<q.g.length
  ·obtain⟨y,hy⟩:=bc (l:=q.g) (i:=i) aN;have hyg:=zc hy;have aaY:y.1∉(q.g.take i).map Prod.fst:=fun hm=>by
    obtain⟨z,hz,e⟩:=zbY.1 hm;obtain⟨k,hk⟩:=zk hz;rw[zbb]at hk;split at hk
    ·rename_i N8;have h1:(q.g.map Prod.fst)[k]? =some y.1:=by rw[zf,hk];simp[e]
     have h2:(q.g.map Prod.fst)[i]? =some y.1:=by rw[zf,hy];rfl
     have:=(zbg (List.getElem?_eq_some_iff.1 h1).1 aaX).1 (h1.trans h2.symm);omega
    ·cases hk
   have Fa:AtR e1 y:=(sm y).2 ⟨aaW y hyg,aaY⟩;obtain⟨qL,hd,hP2⟩:=hP.del ud Fa;refine aA (h:=?_);refine bK rfl rfl RG (j:=i) rfl aN rfl fun b0 off ha=>?_;refine aw (h:=?_);refine dA rfl RG ha (i:=i*2) (us:=h_ (mG y)) (by omega) rfl (fun j v hv=>go_get hy hv) rfl ?_;refine ao (aC rfl fun xl=>?_);refine Wq ?_;have SD:=Pf (N:=0) r b (aW first e1) (V.QD kK 0 0) (mG y) ((hP.calm ud).b9.fs _ (by rw[yf (hP.calm ud).h8];rfl)) (by decide) (fun s hs=>⟨((hP.h ud).mem s hs).1.2,by have:=((hP.h ud).mem s hs).2;omega⟩);rw[hd]at SD;refine aJ rfl SD rfl ?_;refine de (h:=?_);have tL:=aaF Fa;have hb:=back (i+1,dl e1 y,qL) ⟨by dsimp only;omega,hP2,fun z=>by
    dsimp only;have h4:∃es,e1[y.1.1]? =some es:=Fa.imp fun es h=>h.1;unfold dl;rw[aaE Fa h4 z,sm z,zp,hy];simp only[zaa,zg,zL,zE,zal,zbr,not_or];exact⟨fun ⟨⟨u,v⟩,w⟩=>⟨u,v,w⟩,fun ⟨u,v,w⟩=>⟨⟨u,v⟩,w⟩⟩,by dsimp only;unfold dl;omega⟩ (by dsimp only;omega)
   dsimp only at hb;refine Wq ?_;exact aV hb
  ·obtain rfl:i=q.g.length:=by omega
   rw[zu]at sm;by_cases qS:0<q.g.length
   ·have kU:((q.g.length:Nat):Int)>0:=by omega
    refine Wq ?_;refine aZ 5 (aX [4] [0,1,2,3,4,5,6]) [Row p4 0 [.map (some m)],Row p7 0 [.slice a7 q.g.length c7]] ?_;refine Ws ?_;refine aE rfl (eZ rfl rfl rfl rfl (by simp) ?_);rw[show([Value.map (some m)].set (0-0) (.map (some m)))=[.map (some m)]from rfl];refine kx (h:=pP (h:=df (h:=?_)));exact ry (rs:=[.cell 4 108,.tmp 5,.tmp 6]) (vs:=[.map (some m),.bool true,.int .i64 0]) ⟨ns rfl (Cell.row (off:=0) rfl rfl),bO rfl,bO rfl,trivial⟩ [bj r b (aW first e1),aF b (V.QD kK 0 0),C,Whole m (bz q.l q.c)] ⟨m,e1,kK,by rw[decide_eq_true qS];rfl,rfl,ud,sm,jg⟩ Sub.h
   ·have kU:¬((q.g.length:Nat):Int)>0:=by omega
    refine Wq ?_;refine aZ 5 (aX [4] [0,1,2,3,4,5,6]) [Row p4 0 [.map (some m)],Row p7 0 [.slice a7 q.g.length c7]] ?_;refine Ws ?_;refine aE rfl (eZ rfl rfl rfl rfl (by simp) ?_);rw[show([Value.map (some m)].set (0-0) (.map (some m)))=[.map (some m)]from rfl];refine kx (h:=pP (h:=df (h:=?_)));exact ry (rs:=[.cell 4 108,.tmp 5,.tmp 6]) (vs:=[.map (some m),.bool false,.int .i64 0]) ⟨ns rfl (Cell.row (off:=0) rfl rfl),bO rfl,bO rfl,trivial⟩ [bj r b (aW first e1),aF b (V.QD kK 0 0),C,Whole m (bz q.l q.c)] ⟨m,e1,kK,by rw[decide_eq_false qS];rfl,rfl,ud,sm,jg⟩ Sub.h
 ·intro D cd i;refine bJ (ak.perm (.swap _ _ _)) ?_;exact kN (p:=False) (fun E w s=>s.fact.1) fun h=>h.elim
end
section
open Go.Proofs Tryz
open Go.Proofs Go.RowKit
theorem Fb{P:Program}{X:Cx}{n:Nat}{ds:List Deferred}{k:List Item}{ρ:aK}{Γ:List HP}{c:Code}(h:Ex P X n ds (.code c:: .inLoop c::k) ρ Γ):Ex P X n ds (.code (.loop c)::k) ρ Γ:=
 fun t w hn hm hs=> .step stepR_loop (h t w hn hm hs)
def iM(t:Tx):Prop:=∃x:TX,x.ok=true∧x.Wf∧t=x.bytes
theorem iM.len{t:Tx}(h:iM t):t.length≤484:=by
 obtain⟨x,h1,h2,rfl⟩:=h;exact TX.rB h2 h1
theorem P1(b:Nat){bs:List (List UInt8)}(hc:Calm bs){ess e4:List (List En)}(h0:vI 0 ess bs)(h4:vI 4 e4 bs)(hn:e4.map fK=dm){Pt:Tx→Prop}(hp:∀es∈ess,∀t∈cz es,Pt t):
 Spec prog 31 [dp b] [aF b (f_ bs)] (fun v B=>∃(r0 r1:Nat) (cY:List (List UInt8)),v= .tuple #[.agg #[dp r0,dp r1],.int .i64 0]∧B=[bj r0 b (aW 0 (ess.map fK)),bj r1 b (aW 4 dm),aF b (f_ cY)]∧jU Pt (ess.map fK) cY):=by
 refine x_sp func31 ntmps31 fun E cs Γ=>?_;refine eh (h:=?_);refine ao (aC rfl fun p2=>?_);refine Wq ?_;refine Fb ?_;refine aA (h:=?_);refine aq (vs:=[dp b,.int .i64 0]) rfl (PE b hc h0) rfl ?_;rintro v B ⟨r0,kK,rfl,rfl,jg,Fc,xD⟩;refine nC (h:=aw (h:=?_));refine dd rfl rfl (j:=0) rfl (by decide) rfl ?_;refine Wq ?_;refine oV ?_;refine Wq ?_;have I8:vI 4 e4 kK:=⟨h4.h4,h4.hf,fun k es hk=>by rw[xD (4+k) (.inr (za8 4 k))];exact h4.hh k es hk⟩
 refine aw (h:=?_);refine aq (vs:=[dp b,.int .i64 4]) rfl (PE b jg I8) rfl ?_;rintro v B ⟨r1,qL,rfl,rfl,eV,P2,pL⟩;rw[hn]at P2⊢;refine nC (h:=aw (h:=?_));refine dd rfl rfl (j:=1) rfl (by decide) rfl ?_;refine Wq ?_;refine oV ?_;refine Wq ?_;have qm:∀k es,(ess.map fK)[k]? =some es→Holds (128*2^k) es (qL.getD (0+k) []):=fun k es hk=>by
  have my:k<4:=by have:=(List.getElem?_eq_some_iff.1 hk).1;have:=Fc.h4;omega
  rw[pL (0+k) (.inl (by rw[zO];exact my))];exact Fc.hh k es hk
 exact bP (rs:=[.cell 2 102,.tmp 3]) (vs:=[.agg #[dp r0,dp r1],.int .i64 0]) ⟨bG (us:=[dp r0,dp r1]) rfl rfl,bO rfl,trivial⟩ [bj r0 b (aW 0 (ess.map fK)),bj r1 b (aW 4 dm),aF b (f_ qL)] ⟨r0,r1,qL,rfl,rfl,eV,⟨Fc.h4,Fc.hf,qm⟩,fun es dF t ht=>by
  obtain⟨e,he,rfl⟩:=zbY.1 dF;exact hp e he t (by simpa[fK,vF]using ht),P2⟩ Sub.h
def vM(p:Nat)(ts:List Tx):HP:=Any fun q:{q:List TZ×Option Addr×Nat×PH//fW q.1=ts∧bR (Mem q.2.2.2) q.1∧∀w∈q.1,w.t.ok=true}=>Sep [Row p 0 [.slice q.1.2.1 q.1.1.length q.1.2.2.1],Sl 21 q.1.2.1 q.1.1.length q.1.2.2.1 (av q.1.1),Mem q.1.2.2.2]
theorem St.B3{E:Env}{p:Nat}{ts:List Tx}{Γ:List HP}{w:World}(st:St E (vM p ts::Γ) w):∃q:{q:List TZ×Option Addr×Nat×PH//fW q.1=ts∧bR (Mem q.2.2.2) q.1∧∀w∈q.1,w.t.ok=true},St E (Row p 0 [.slice q.1.2.1 q.1.1.length q.1.2.2.1]::Sl 21 q.1.2.1 q.1.1.length q.1.2.2.1 (av q.1.1)::Mem q.1.2.2.2::Γ) w:=by
 obtain⟨q,st⟩:=st.ex;exact⟨q,(ak.cx [_,_,_] Γ).st st⟩
theorem ak.B3{p:Nat}{ts:List Tx}(L:List TZ){a:Option Addr}{c:Nat}{k:PH}(h:fW L=ts∧bR (Mem k) L∧∀w∈L,w.t.ok=true)(Γ:List HP):ak (Row p 0 [.slice a L.length c]::Sl 21 a L.length c (av L)::Mem k::Γ) (vM p ts::Γ):=
 (ak.cA [_,_,_] Γ).trans (ak.ex (A:=fun q:{q:List TZ×Option Addr×Nat×PH//fW q.1=ts∧bR (Mem q.2.2.2) q.1∧∀w∈q.1,w.t.ok=true}=>Sep [Row p 0 [.slice q.1.2.1 q.1.1.length q.1.2.2.1],Sl 21 q.1.2.1 q.1.1.length q.1.2.2.1 (av q.1.1),Mem q.1.2.2.2]) ⟨(L,a,c,k),h⟩ Γ)
instance:cM prog 32 [.cell 2 28,.cell 3 29,.cell 4 4]:=⟨_,func32,rfl⟩
theorem aaZ(r0 r1 b:Nat){ess:List (List En)}{bs:List (List UInt8)}(h:jU iM ess bs):
 Spec prog 32 [.agg #[dp r0,dp r1]] [bj r0 b (aW 0 ess),bj r1 b (aW 4 dm)] (fun v B=>∃(k:PH) (L:List TZ) (a:Option Addr) (c:Nat),v= .tuple #[.slice a L.length c,.slice none 0 0,.bool true]∧B=[bj r0 b (aW 0 ess),bj r1 b (aW 4 dm),Mem k,Sl 21 a L.length c (av L)]∧bR (Mem k) L∧(∀w∈L,w.t.ok=true)∧fW L=(gO (aW 0 ess)).map Prod.snd):=by
 refine x_sp func32 ntmps32 fun E cs Γ=>?_;obtain⟨ys,k_⟩:∃ys,gO (aW 0 ess)=ys:=⟨_,rfl⟩
 have Jf:=h.h0.mem;have kf:=EV (b:=b);have P3:∀y∈ys,iM y.2:=fun y hy=>by
  obtain⟨es,h1,h2⟩:=yo.1 (k_ ▸ hy);exact h.hp es (zc h1) y.2 (Ja.2 ⟨_,h2⟩)
 have gG:ys.length≤512:=k_ ▸ Je h.h0;refine eh (h:=?_);refine ao (aM rfl rfl fun p1=>?_);refine ao (aC rfl fun p2=>?_);refine ao (aC rfl fun p3=>?_);refine ao (aC rfl fun p4=>?_);refine u6 (h:=l9 (h:=?_));refine dd rfl rfl (j:=0) rfl (by decide) rfl ?_;refine AT (h:=?_);refine aJ rfl (IJ r0) rfl ?_;rintro v B ⟨pc,rfl,rfl⟩;refine nU (h:=?_);have kf:=EV pc r0 b (aW 0 ess) (fun s hs=>by have:=(Jf s hs).2;omega);rw[k_]at kf⊢;refine bJ (ak.nO _) ?_;refine uG (Ds:=[]) rfl rfl kf (fun j=>[vM p2 ((ys.take j).map Prod.snd),Row p3 0 [.slice none 0 0]]) (fun _ _=>[Fact False jr]) (Δ2:=Row p4 0 [.bool false]::Row p1 0 [dp r0,dp r1]::bj r1 b (aW 4 dm)::Γ) ?_ (by rfl) ?_ ?_ ?_ ?_
 ·refine(ak.yd _).trans ((ak.cq 21 _).trans ?_);refine(Sub.h (Δ:=Row p2 0 [.slice none 0 0]::Sl 21 none 0 0 []::Mem PH.emp::Row p3 0 [.slice none 0 0]::Row p4 0 [.bool false]::Row p1 0 [dp r0,dp r1]::bj r1 b (aW 4 dm)::Γ)).trans ?_;exact ak.B3 (p:=p2) [] ⟨rfl,(fun w hw=>by cases hw),(fun w hw=>by cases hw)⟩ _
 ·intro j vs hj;rw[zf,zad]at hj;obtain⟨y,_,rfl⟩:=hj
  rfl
 ·intro j vs hj;have lu:j<ys.length:=by have:=(List.getElem?_eq_some_iff.1 hj).1;simpa using this
  rw[zf,zad]at hj;obtain⟨y,hy,rfl⟩:=hj;obtain⟨tx,P4,aa0,aS⟩:=P3 y (zc hy);have acY:=(P3 y (zc hy)).len;intro Y lp r' Θ fZ eT cv nV nq;dsimp only at cv⊢;refine bJ (Γ':=vM p2 ((ys.take j).map Prod.snd)::Row p3 0 [.slice none 0 0]::Rec lp r' .ready none::Θ) (by (refine a_ (h:=?_));exact Sub.h) ?_;refine dz (fun E w st=>st.B3) ?_;rintro⟨⟨L,a,c,k⟩,hL,rM,bn⟩;dsimp only at hL rM bn⊢;have kd:L.length≤512:=by have:=congrArg List.length hL;simp at this;omega
  refine nW (h:=bU (h:=?_));refine nP (r:=r') eT ?_;refine eW (h:=qj (h:=?_));refine aJ rfl (MM y.2 (by omega)) rfl ?_;rintro v B ⟨k2,z,e,rfl,rfl,hz,hT⟩;obtain⟨rfl,u9⟩:=hT.VR tx P4 aa0 aS;refine nC (h:=?_);refine ao (aC rfl fun p7=>?_);refine aA (h:=?_);refine cf rfl (by rfl) (by rfl) (by rfl) (by rfl) rfl fun a2=>?_;refine aw (h:=?_);refine cF rfl rfl (by rfl) (by rfl) (TZ.one z) (by omega) rfl fun a4 c4 gI=>?_;refine Wq ?_;refine ny k k2 fun m j2 jv=>?_;refine bJ ?_ (cv _);refine(Sub.h (Δ:=Row p2 0 [.slice a4 (L.length+1) c4]::Sl 21 a4 (L.length+1) c4 (av L++z.cells)::Mem m::Row p3 0 [.slice none 0 0]::Rec lp r' .busy none::Θ)).trans ?_;have e:=ak.B3 (p:=p2) (ts:=(ys.take (j+1)).map Prod.snd) (L++[z]) (a:=a4) (c:=c4) (k:=m) ⟨by
   show(L++[z]).map (fun z=>z.t.bytes)=_;rw[zg,show L.map (fun z=>z.t.bytes)=_ from hL,zp,hy];simp[u9,aS],fun w hw=>by
   rcases zL.1 hw with hw|hw
   ·exact(rM w hw).up j2
   ·rw[zbr.1 hw];exact hz.up jv,fun w hw=>by
   rcases zL.1 hw with hw|hw
   ·exact bn w hw
   ·rw[zbr.1 hw,u9];exact P4⟩ (Row p3 0 [.slice none 0 0]::Rec lp r' .busy none::Θ)
  rw[zd,zC,jQ,nF]at e;exact e.trans (by (refine a_ (h:=?_));exact Sub.h)
 ·intro D;rw[zm,zu];refine bJ (Γ':=Marks [D]::vM p2 (ys.map Prod.snd)::Row p3 0 [.slice none 0 0]::bj r0 b (aW 0 ess)::Row p4 0 [.bool false]::Row p1 0 [dp r0,dp r1]::bj r1 b (aW 4 dm)::Γ) (by (refine a_ (h:=?_));exact Sub.h) ?_;refine iz (h:=eM (h:=l9 (h:=?_)));refine dd rfl rfl (j:=1) rfl (by decide) rfl ?_;refine AT (h:=?_);refine aJ rfl (IJ r1) rfl ?_;rintro v B ⟨IL,rfl,rfl⟩;refine nU (h:=?_);have P5:=EV IL r1 b (aW 4 dm) (fun s hs=>by have:=(h.h4.mem s hs).2;omega);rw[show gO (aW 4 dm)=[]from rfl]at P5;refine uG (Ds:=[D]) rfl rfl P5 (fun _=>[Row p3 0 [.slice none 0 0]]) (fun _ _=>[Fact False jr]) (Δ2:=vM p2 (ys.map Prod.snd)::bj r0 b (aW 0 ess)::Row p4 0 [.bool false]::Γ) Sub.h (by rfl) ?_ ?_ ?_ ?_
  ·intro j vs hj;cases hj
  ·intro j vs hj;cases hj
  ·intro D2;refine bJ (Γ':=vM p2 (ys.map Prod.snd)::Marks [D2,D]::Row p3 0 [.slice none 0 0]::bj r0 b (aW 0 ess)::Row p4 0 [.bool false]::bj r1 b (aW 4 dm)::Γ) (by (refine a_ (h:=?_));exact Sub.h) ?_;refine dz (fun E w st=>st.B3) ?_;rintro⟨⟨L,a,c,k⟩,hL,rM,bn⟩;dsimp only at hL rM bn⊢;refine iz (h:=eM (h:=?_));refine aZ 5 (aX [2,3,4] [0,1,2,3,4]) [Row p2 0 [.slice a L.length c],Row p3 0 [.slice none 0 0]] ?_;refine nn (h:=nn (h:=?_));refine aE rfl (eZ rfl rfl rfl rfl (by simp) ?_);rw[show([Value.slice a L.length c].set (0-0) (.slice a L.length c))=[.slice a L.length c]from rfl];refine kx (h:=?_);refine aE rfl (eZ rfl rfl rfl rfl (by simp) ?_);rw[show([Value.slice none 0 0].set (0-0) (.slice none 0 0))=[.slice none 0 0]from rfl];refine kx (h:=?_);refine aE rfl (eZ rfl rfl rfl rfl (by simp) ⟨bd,?_⟩);refine dU (h:=?_);exact ry (rs:=[.cell 2 28,.cell 3 29,.cell 4 4]) (vs:=[.slice a L.length c,.slice none 0 0,.bool true]) ⟨ns rfl (Cell.row (off:=0) rfl rfl),ns rfl (Cell.row (off:=0) rfl rfl),ns rfl (Cell.row (off:=0) rfl rfl),trivial⟩ [bj r0 b (aW 0 ess),bj r1 b (aW 4 dm),Mem k,Sl 21 a L.length c (av L)] ⟨k,L,a,c,rfl,rfl,rM,bn,hL⟩ Sub.h
  ·intro D2 cd i;refine bJ (ak.perm (.swap _ _ _)) ?_;exact kN (p:=False) (fun E w s=>s.fact.1) fun h=>h.elim
 ·intro D cd i;refine bJ (ak.perm (.swap _ _ _)) ?_;exact kN (p:=False) (fun E w s=>s.fact.1) fun h=>h.elim
end
section
open Go.Proofs Tryz
open Go.Proofs Go.RowKit
section
variable {P:Program} {X:Cx} {n:Nat} {ds:List Deferred} {ρ:aK} {Γ:List HP} {Nx:Value→List HP→Prop} {d:Nat} {ty:TypeId}
theorem yu{t m e s:Nat}{x ix:Operand}{vs us:List Value}{j:Nat}{kk:IntKind}{i:Int}[T:iR P t m e s][C:cI P e s](hx:ev ρ x=some (.agg vs.toArray))(hi:ev ρ ix=some (.int kk i))(hj:i=(j:Int))(aN:j<m)(hv:(vs.drop (j*s)).take s=us)
 (hn:Nat.blt d n=true) (h:Nx (.agg us.toArray) Γ):bm P X n ds (some d) (.index t x ix) ty Nx ρ Γ:=
 b_ (by simp) hn fun ee o w ax aS he bg hs=>⟨_,w,Γ,by
  subst hj hv;obtain⟨inf,hu,en,bZ⟩:=T.h;simp[execOp,ax,he x _ hx,he ix _ hi,Instr.index,asIntOf,cN hu,eB en,bZ,aN,part,cI.agg (P:=P) (t:=e)],hs,h⟩
end
end
section
open Go.Proofs Tryz
open Go.Proofs Go.RowKit
abbrev cC(z:BZ)(r0 m0 r1 m1:Value)(f:Bool):List Value:=[.int .i64 z.room,.int .i64 0,.int .u64 0,.int .u64 0,.int .u64 0,.int .u64 0,.int .i64 0,.slice z.aa 8 z.ca,.slice z.ad z.l.length z.ct,.slice z.al 0 z.cl,r0,m0,r1,m1,.bool f]
structure KD where
 z:BZ
 k:PH
 r0:Nat
 m0:Nat
 r1:Nat
 m1:Nat
 l:List ME
 c:Nat
 c1:Nat
 ess:List (List En)
 bs:List (List UInt8)
structure KD.Ok(q:KD):Prop where
 iB:q.z.In (Mem q.k)
 sl:cR q.z.l≤q.z.room
 ro:jU iM q.ess q.bs
 mo:lj q.l q.c
 ref:∀m∈q.l,∃p,m.v=kJ p
abbrev KD.mem(q:KD)(kp b:Nat):List HP:=[Row kp 0 (cC q.z (dp q.r0) (.map (some q.m0)) (dp q.r1) (.map (some q.m1)) false),bj q.r0 b (aW 0 q.ess),bj q.r1 b (aW 4 dm),Whole q.m0 (bz q.l q.c),Whole q.m1 (bz [] q.c1),Mem q.k]
theorem P6(l:List TZ):(bB l).map nv=((fW l).map cu).map nv:=by
 rw[zR,zR,zR];rfl
def B4(l:List TZ)(ess:List (List En)):Prop:=∀t∈fW l,B1 ess t
theorem aa1{l:List TZ}(h:iH (bu l)){a b:Tx}(ha:a∈fW l)(hb:b∈fW l)(e:cu a=cu b):a=b:=by
 obtain⟨x,hx,rfl⟩:=zbY.1 ha;obtain⟨y,hy,rfl⟩:=zbY.1 hb;have:x.t=y.t:=OM h.ids (zbY.2 ⟨x,hx,rfl⟩) (zbY.2 ⟨y,hy,rfl⟩) e;rw[this]
theorem aa2{l:List TZ}(hw:iH (bu l)){first:Nat}{ess nL:List (List En)}(h:B4 l ess)(hA:∀z,AtR nL z↔AtR ess z∧z.1∉(jF (fW l) (gO (aW first ess))).g.map Prod.fst):B4 l nL:=fun t ht=>by
 have hK:=yp (fW l) _ (gO (aW first ess)) rfl E6;obtain⟨p,hp⟩:=E7.1 (h t ht);have h1:=hK.have' (p,t) (yo.2 hp) ht;obtain⟨y,hy,e1,e2,e3⟩:=hK.keys _ h1;have e4:y.2=t:=aa1 hw e1 ht e2;refine E7.2 ⟨y.1,?_⟩;have:AtR nL y:=(hA y).2 ⟨yo.1 hy,e3⟩;rw[←e4];exact this
theorem aa3{l:List TZ}{first:Nat}{ess:List (List En)}(h:B4 l ess)(x:Nat):x∈(jF (fW l) (gO (aW first ess))).ks↔x∈bB l:=by
 have hK:=yp (fW l) _ (gO (aW first ess)) rfl E6;constructor
 ·intro hx;obtain⟨y,hy,e1,e2,e3⟩:=hK.keys x hx;obtain⟨w,hw,e⟩:=zbY.1 e1;exact zbY.2 ⟨w,hw,by rw[←e2,←e];rfl⟩
 ·intro hx;obtain⟨w,hw,rfl⟩:=zbY.1 hx;have ht:w.t.bytes∈fW l:=zbY.2 ⟨w,hw,rfl⟩;obtain⟨p,hp⟩:=E7.1 (h _ ht);exact hK.have' (p,w.t.bytes) (yo.2 hp) ht
structure OS where
 ess:List (List En)
 bs:List (List UInt8)
 r0:Nat
 r1:Nat
 v1:Value
 v2:Value
 v3:Value
 v4:Value
theorem kp0(z:BZ)(v1 v2 v3 v4 a b:Value):List.take (0+10+0*2-0) (cC z v1 v2 v3 v4 false)++[a,b]++List.drop (0+10+0*2-0+[a,b].length) (cC z v1 v2 v3 v4 false)=cC z a b v3 v4 false:=rfl
theorem P7(z:BZ)(v1 v2 v3 v4 a b:Value):List.take (0+10+1*2-0) (cC z v1 v2 v3 v4 false)++[a,b]++List.drop (0+10+1*2-0+[a,b].length) (cC z v1 v2 v3 v4 false)=cC z v1 v2 a b false:=rfl
theorem Fe(k:PH)(s:Nat):Reads (Mem k) s none 0 []:=⟨(zbw s).symm,fun _ _ _ _=> .inl rfl⟩
theorem aa4{A:HP}(b:Nat){bs:List (List UInt8)}(hk:mH iM bs){aa:Option Addr}{ca room:Nat}(ra:Reads A 5 aa 8 kH)(h1:1024≤room)(h2:room≤1048576):
 Spec prog 18 [dp b,.int .i64 room,.agg fD.toArray,.slice aa 8 ca] [aF b (f_ bs),A] (fun v B=>∃(kp:Nat) (q:KD),v= .tuple #[dp kp,.int .i64 0]∧B=q.mem kp b++[aF b (V.QD q.bs 0 0),A]∧q.Ok∧q.z.room=room∧∀x,x∈q.l.map ME.k↔x∈bB q.z.l):=by
 refine x_sp func18 ntmps18 fun E cs Γ=>?_;obtain⟨hc,⟨P8,j3,aa5⟩,e4,hp4,hn4⟩:=PK hk;refine dx (h:=?_);refine ao (aM rfl rfl fun p6=>?_);refine aA (h:=?_);refine aq (vs:=[.int .i64 room,.agg fD.toArray,.slice aa 8 ca]) rfl (OI ra h1 h2) rfl ?_;rintro v B ⟨k0,z0,rfl,rfl,I0,qN,fY⟩;refine nC (h:=?_);refine ao (aC rfl fun je=>?_);refine gg (h:=?_);refine yQ (.inl rfl) rfl rfl (.inr rfl) rfl ?_;refine Wq ?_;refine aJ rfl (P1 b hc j3 hp4 hn4 aa5) rfl ?_;rintro v B ⟨r0,r1,kK,rfl,rfl,eJ⟩;rw[show f_ kK=V.QD kK 0 0 from yf eJ.calm.h8];refine nC (h:=?_);refine ao (aC rfl fun fg=>?_);refine aA (h:=?_);refine aq (vs:=[.agg #[dp r0,dp r1]]) rfl (aaZ r0 r1 b eJ) rfl ?_;rintro v B ⟨k1,L,aL,cL,rfl,rfl,sa,sb,r_⟩;have kd:L.length≤512:=by
  have h3:=congrArg List.length r_;have h4:=Je eJ.h0;rw[zm,zm]at h3;omega
 refine qC (h:=?_);refine fw aL (h:=k1) fun k2 bH RL hcL=>?_;refine aA (h:=?_);refine aq (vs:=[.int .i64 room,.agg fD.toArray,.slice aa 8 ca,.slice aL L.length cL,.slice none 0 0]) rfl (ZM (A:=A) (C:=Mem k2) ra h1 h2 RL (fun w hw=>(sa w hw).up bH) sb (by omega) none 0) rfl ?_;rintro v B ⟨k3,z,rfl,rfl,Iz,P9,bZ,P_⟩;have hW:=Iz.wide;have H4:=Iz.len;have yw:B4 z.l (P8.map fK):=fun t ht=>by
  obtain⟨w,hw,rfl⟩:=zbY.1 ht;have h3:=P_ w.t (zbY.2 ⟨w,hw,rfl⟩);obtain⟨y,hy,e⟩:=zbY.1 h3;have h4:y.t.bytes∈fW L:=zbY.2 ⟨y,hy,rfl⟩;rw[r_]at h4;obtain⟨re,BB,e2⟩:=zbY.1 h4;refine E7.2 ⟨re.1,?_⟩;have:=yo.1 BB;rw[←e,←e2];exact this
 refine nC (h:=?_);refine ao (aC rfl fun nA=>?_);refine Wq ?_;refine ao (aM rfl rfl fun vN=>?_);refine Wq ?_;refine aQ (α:=OS) (fun o=>jU iM o.ess o.bs∧B4 z.l o.ess) (fun _=>[(19,.bool true),(18,dp vN),(12,dp fg),(17,dp nA),(0,dp b)])
  (fun o=>Row vN 0 (cC z o.v1 o.v2 o.v3 o.v4 false)::Row nA 0 z.cells::Row fg 0 [dp o.r0,dp o.r1]::bj o.r0 b (aW 0 o.ess)::bj o.r1 b (aW 4 dm)::aF b (V.QD o.bs 0 0)::Mem k3::A::Γ) (fun o=>nJ o.ess) ⟨P8.map fK,kK,r0,r1,.pointer none,.map none,.pointer none,.map none⟩ ⟨eJ,yw⟩ x_tv Sub.h ?_
 clear eJ yw r_ kd sa RL sb P_;rintro⟨ess,bs,r0,r1,v1,v2,v3,v4⟩ ⟨ho,yw⟩ back;dsimp only at ho yw back⊢;refine Wl ?_;refine Dr (h:=aw (h:=?_));refine aq (vs:=[z.val]) rfl (PU z Iz) rfl ?_;rintro v B ⟨kl,a1,c1,a2,c2,rfl,rfl,R1,R2⟩;have e1:=P6 z.l;rw[e1]at R1;have ga:(fW z.l).length=z.l.length:=by simp
 rw[←ga]at R1 R2;refine a_ (h:=uN (h:=?_));refine Fb ?_;refine nB (h:=?_);refine yu (us:=ek a1 c1 a2 c2 z.l.length) rfl rfl (j:=0) rfl (by decide) rfl rfl ?_;refine ao (aC rfl fun Jg=>?_);refine Wq ?_;refine aZ 9 (aX [4] [0,1,2,3,4,5,6,7,8,9,10,11]) [Row fg 0 [dp r0,dp r1],Row Jg 0 (ek a1 c1 a2 c2 z.l.length)] ?_;refine dD (h:=?_);refine au rfl (du rfl rfl (j:=0) rfl (by decide)) ?_;refine au rfl (fk (i:=0) rfl (by omega) rfl) ?_;refine iA (h:=?_);refine aE rfl (aq (vs:=[dp r0,.agg (ek a1 c1 a2 c2 (fW z.l).length).toArray]) (by rw[ga];rfl) (PY (aaQ iM) r0 b ho R1 R2 (by rw[ga];omega)) rfl ?_);rintro v B ⟨m0,B5,kK,rfl,rfl,eJ,sm,jg⟩;have aa6:=aa2 (first:=0) hW yw sm;have ue:=aa3 (first:=0) yw;have hK:=yp (fW z.l) _ (gO (aW 0 ess)) rfl E6;obtain⟨q,hq⟩:∃q,jF (fW z.l) (gO (aW 0 ess))=q:=⟨_,rfl⟩
 rw[hq]at ue jg sm hK⊢;refine rP (h:=dQ (h:=?_));refine aZ 14 (aX [14] [0,1,2,3,4,5,6,7,8,9,10,11,12,13,14,15]) [Row fg 0 [dp r0,dp r1]] ?_;refine uX (h:=?_);refine au rfl (du rfl rfl (j:=0) rfl (by decide)) ?_;refine au rfl (fk (i:=0) rfl (by omega) rfl) ?_;refine Ws ?_;refine au rfl (du rfl rfl (j:=0) rfl (by decide)) ?_;refine bN rfl rfl (jH (us:=[dp r0,.map (some m0)]) rfl rfl rfl rfl rfl (by show 12≤15;decide) ?_);rw[kp0];refine kB (h:=?_);refine oV ?_;refine bf (ρ':=[(19,.bool (decide (0<q.g.length))),(72,iv 1),(71,.agg (ek a1 c1 a2 c2 z.l.length++ek none 0 none 0 0).toArray),(18,dp vN),(12,dp fg),(17,dp nA),(0,dp b)])
  (Γ':=Row vN 0 (cC z (dp r0) (.map (some m0)) v3 v4 false)::bj r0 b (aW 0 B5)::aF b (V.QD kK 0 0)::Mem kl::Whole m0 (bz q.l q.c)::Mem k3::Row nA 0 z.cells::Row fg 0 [dp r0,dp r1]::bj r1 b (aW 4 dm)::A::Γ) ?_ x_tv Sub.h
 refine nB (h:=?_);refine yu (us:=ek none 0 none 0 0) rfl rfl (j:=1) rfl (by decide) rfl rfl ?_;refine ao (aC rfl fun Jg=>?_);refine Wq ?_;refine aZ 9 (aX [4] [0,1,2,3,4,5,6,7,8,9,10,11]) [Row fg 0 [dp r0,dp r1],Row Jg 0 (ek none 0 none 0 0)] ?_;refine dD (h:=?_);refine au rfl (du rfl rfl (j:=1) rfl (by decide)) ?_;refine au rfl (fk (i:=1) rfl (by omega) rfl) ?_;refine iA (h:=?_);refine aE rfl (aq (vs:=[dp r1,.agg (ek none 0 none 0 ([]:List Tx).length).toArray]) rfl (PY (aaS iM B5) r1 b ⟨rfl,eJ⟩ (Fe kl 1) (Fe kl 1) (by decide)) rfl ?_);rintro v B ⟨m1,acZ,qL,rfl,rfl,⟨rfl,tT⟩,hA2,eV⟩;rw[show jF [] (gO (aW 4 dm))=⟨[],0,[]⟩from rfl]at eV hA2⊢;refine dc (h:=kC (h:=?_));rw[show decide (0<([]:List RE).length)=false from rfl];refine Wq ?_;by_cases hg:0<q.g.length
 ·rw[decide_eq_true hg];refine aZ 14 (aX [14] [0,1,2,3,4,5,6,7,8,9,10,11,12,13,14,15]) [Row fg 0 [dp r0,dp r1]] ?_;refine uX (h:=?_);refine au rfl (du rfl rfl (j:=1) rfl (by decide)) ?_;refine au rfl (fk (i:=1) rfl (by omega) rfl) ?_;refine Ws ?_;refine au rfl (du rfl rfl (j:=1) rfl (by decide)) ?_;refine bN rfl rfl (jH (us:=[dp r1,.map (some m1)]) rfl rfl rfl rfl rfl (by show 14≤15;decide) ?_);rw[P7];refine kB (h:=?_);refine oV ?_;refine j_ (h:=?_);have SR:=P1 b tT.calm tT.h0.PD tT.h4.PD (e4:=dm) rfl tT.hp;rw[show f_ qL=V.QD qL 0 0 from yf tT.calm.h8]at SR;refine aJ rfl SR rfl ?_;rintro v B ⟨r2,r3,Jh,rfl,rfl,Qa⟩;rw[show f_ Jh=V.QD Jh 0 0 from yf Qa.calm.h8];have hb:=back ⟨B5.map fK,Jh,r2,r3,dp r0,.map (some m0),dp r1,.map (some m1)⟩ ⟨Qa,fun t ht=>aaH.2 (aa6 t ht)⟩ (by dsimp only;rw[aaG];omega);dsimp only at hb;refine bW (h:=?_);exact aV hb
 ·rw[decide_eq_false hg];refine aZ 14 (aX [14] [0,1,2,3,4,5,6,7,8,9,10,11,12,13,14,15]) [Row fg 0 [dp r0,dp r1]] ?_;refine uX (h:=?_);refine au rfl (du rfl rfl (j:=1) rfl (by decide)) ?_;refine au rfl (fk (i:=1) rfl (by omega) rfl) ?_;refine Ws ?_;refine au rfl (du rfl rfl (j:=1) rfl (by decide)) ?_;refine bN rfl rfl (jH (us:=[dp r1,.map (some m1)]) rfl rfl rfl rfl rfl (by show 14≤15;decide) ?_);rw[P7];refine kB (h:=?_);refine oV ?_;refine j_ (h:=?_);exact ap (vs:=[dp vN,.int .i64 0]) rfl [Row vN 0 (cC z (dp r0) (.map (some m0)) (dp r1) (.map (some m1)) false),bj r0 b (aW 0 B5),bj r1 b (aW 4 dm),Whole m0 (bz q.l q.c),Whole m1 (bz [] 0),Mem k3,aF b (V.QD qL 0 0),A] ⟨vN,⟨z,k3,r0,m0,r1,m1,q.l,q.c,0,B5,qL⟩,rfl,rfl,⟨Iz,by dsimp only;rw[P9];exact bZ,tT,hK.ok,hK.ref⟩,P9,ue⟩ Sub.h
end
section
open Go.Proofs Tryz
open Go.Proofs Go.RowKit
structure PS where
 ess:List (List En)
 bs:List (List UInt8)
 u:Nat
 v:Nat
 l:List ME
 c:Nat
structure PS.Ok(p:PS):Prop where
 ro:jU iM p.ess p.bs
 mo:lj p.l p.c
 ref:∀m∈p.l,∃r,m.v=kJ r
 kb:∀m∈p.l,m.k<aI
abbrev PS.ks(p:PS):List Nat:=p.l.map ME.k
def Qb(r b m:Nat)(C:HP)(B:List HP):Prop:=∃(ss:List Sh) (d:Dk) (l:List ME) (c:Nat),B=[bj r b ss,aF b d,Whole m (bz l c),C]∧tY iM d∧d.b9 4
theorem aa7(v0 v1:Value)(h0:v0.oneCell'=true)(h1:v1.oneCell'=true):Spec prog 176 [.agg #[v0,v1],.agg (ek none 0 none 0 0).toArray] [] (fun v B=>v= .int .i64 0∧B=[]):=by
 refine x_sp func176 ntmps176 fun E cs Γ=>?_;refine lL (h:=?_);refine ao (aM rfl rfl fun p2=>?_);refine ao (aM rfl rfl fun p3=>?_);refine Wq ?_;refine aQ (α:=Unit) (fun _=>True) (fun _=>[(14,iv 0),(13,iv (0:Nat)),(12,.slice none 0 0)]) (fun _=>Γ) (fun _=>0) () trivial x_tv Sub.h ?_;intro _ _ back;refine j_ (h:=?_);exact ap rfl [] ⟨rfl,rfl⟩ Sub.h
theorem aa8{C:HP}(r b m:Nat)(p:PS)(hp:p.Ok){a1 a2:Option Addr}{c1 c2:Nat}{txs:List Tx}(R1:Reads C 1 a1 txs.length ((txs.map cu).map nv))(R2:Reads C 1 a2 txs.length (txs.map tv))(ht:txs.length≤2^20)(hP:∀t∈txs,iM t):
 Spec prog 176 [.agg #[dp r,.map (some m)],.agg (ek a1 c1 a2 c2 txs.length).toArray] [bj r b (aW 0 p.ess),aF b (V.QD p.bs p.u p.v),Whole m (bz p.l p.c),C] (fun v B=>∃e:Int,v= .int .i64 e∧
  ((e=0∧∃q:PS,q.Ok∧B=[bj r b (aW 0 q.ess),aF b (V.QD q.bs q.u q.v),Whole m (bz q.l q.c),C]∧(∀x,x∈q.ks↔x∈p.ks∨x∈txs.map cu)∧((∀t∈txs,cu t∈p.ks)→q=p))∨(e≠0∧(¬∀t∈txs,cu t∈p.ks)∧Qb r b m C B))):=by
 refine x_sp func176 ntmps176 fun E cs Γ=>?_;have lg:(txs.map cu).map nv=txs.map fun t=>nv (cu t):=by rw[zR];rfl
 refine dx (h:=?_);refine ao (aM rfl rfl fun p2=>?_);refine ao (aM rfl rfl fun p3=>?_);refine Wq ?_;refine aQ (α:=Nat×PS) (fun q=>q.1≤txs.length∧q.2.Ok∧(∀x,x∈q.2.ks↔x∈p.ks∨x∈(txs.take q.1).map cu)∧((∀t∈txs,cu t∈p.ks)→q.2=p)) (fun q=>[(14,iv q.1),(13,iv txs.length),(12,.slice a1 txs.length c1),(2,dp p2),(3,dp p3)])
  (fun q=>bj r b (aW 0 q.2.ess)::aF b (V.QD q.2.bs q.2.u q.2.v)::Whole m (bz q.2.l q.2.c)::C::Row p2 0 [dp r,.map (some m)]::Row p3 0 (ek a1 c1 a2 c2 txs.length)::Γ) (fun q=>txs.length-q.1) (0,p) ⟨zj _,hp,fun x=>by simp,fun _=>rfl⟩ x_tv Sub.h ?_
 rintro⟨i,q⟩ ⟨hi,hq,kg,kI⟩ back;dsimp only at hi hq kg kI back⊢;refine bQ (h:=?_);by_cases h:i<txs.length
 ·obtain⟨t,tX⟩:=bc (l:=txs) (i:=i) h;have wO:=zc tX;refine aA (h:=?_);refine bK rfl rfl R1 (j:=i) rfl h rfl fun b1 P0 ed=>?_;refine aw (h:=?_);refine fM rfl R1 ed (i:=i*1) (by omega) (v:=nv (cu t)) (by rw[zaj,lg,zf,tX];rfl) rfl ?_;refine Wq ?_;have Qc:(txs.take (i+1)).map cu=(txs.take i).map cu++[cu t]:=by rw[zp,tX];simp
  by_cases hk:cu t∈q.ks
  ·obtain⟨me,fy,B2⟩:=zbY.1 hk;obtain⟨rf,Ji⟩:=hq.ref me fy;refine aw (h:=?_);refine bL (PN (m:=me) (c:=q.c) (l:=q.l) rfl (by rw[B2];rfl) hq.mo fy) rfl ?_;rw[Ji];have hb:=back (i+1,q) ⟨by dsimp only;omega,hq,fun x=>by
    dsimp only;rw[kg x,Qc,zL,zbr];constructor
    ·rintro(h|h)
     ·exact .inl h
     ·exact .inr (.inl h)
    ·rintro(h|h|rfl)
     ·exact .inl h
     ·exact .inr h
     ·exact(kg _).1 hk,kI⟩ (by dsimp only;omega)
   dsimp only at hb;refine gj (h:=?_);refine ao (aC rfl fun p7=>?_);refine Wq ?_;exact aV hb
  ·refine aw (h:=?_);refine bL (PO (k:=cu t) (c:=q.c) (l:=q.l) rfl rfl hk) rfl ?_;refine gj (h:=?_);refine ao (aC rfl fun p7=>?_);refine Wq ?_;have Ff:¬∀t∈txs,cu t∈p.ks:=fun gF=>hk (by rw[kI gF];exact gF t wO);refine jw R2 (by omega) fun b2 AR gX=>?_;have ga:=(hP t wO).len;have SP:=aag (N:=0) r b (aW 0 q.ess) (V.QD q.bs q.u q.v) t (hq.ro.b9 _ _) (by decide) (fun s hs=>⟨(hq.ro.h0.mem s hs).1,by have:=(hq.ro.h0.mem s hs).2;omega⟩) (by omega);have dv:=aaz (t:=t) (ss:=aW 0 q.ess) (hq.ro.b9 q.u q.v);obtain⟨w,hw⟩:∃w,lS (aW 0 q.ess) (V.QD q.bs q.u q.v) t=w:=⟨_,rfl⟩
   have gC:=aaC hq.ro q.u q.v (hP t wO) (by omega);rw[hw]at SP dv gC;refine eL (α:=Nat) (fun _=>True) (fun p9=>[(9,dp p9),(10,iv w.2.2.2),(6,nv (cu t)),(14,iv i),(13,iv txs.length),(12,.slice a1 txs.length c1),(2,dp p2),(3,dp p3)])
    (fun p9=>Row p9 0 (h_ w.2.2.1)::bj r b w.1::aF b w.2.1::Whole m (bz q.l q.c)::C::Row p2 0 [dp r,.map (some m)]::Row p3 0 (ek a1 c1 a2 c2 txs.length)::Γ) ?_ ?_
   ·intro p9 _;rcases gC with ⟨k,es,cY,u',v',dF,kV,eT⟩|⟨oe,d',r',e,kV,he,sn⟩
    ·subst kV;dsimp only;refine Wq ?_;refine dO (h:=?_);refine PQ (c:=q.c) (k:=cu t) (v:=kJ ((k:Int),(ff es:Int))) rfl rfl rfl hk ?_;have hb:=back (i+1,⟨q.ess.set k (putAt es (ff es) t),cY,u',v',q.l++[⟨cu t,kJ ((k:Int),(ff es:Int)),q.c⟩],q.c+1⟩) ⟨by dsimp only;omega,⟨eT,hq.mo.add hk _,fun me fy=>by
      rcases zL.1 fy with fy|fy
      ·exact hq.ref me fy
      ·rw[zbr.1 fy];exact⟨_,rfl⟩,fun me fy=>by
      rcases zL.1 fy with fy|fy
      ·exact hq.kb me fy
      ·rw[zbr.1 fy];exact PW _⟩,fun x=>by
      dsimp only;rw[PS.ks,zg,zL,Qc,zL,kg x];simp only[zE,zal,zbr];exact or_assoc,fun gF=>absurd gF Ff⟩ (by dsimp only;omega)
     dsimp only at hb;refine Wq ?_;exact aV hb
    ·subst kV;dsimp only at dv⊢;refine Wq ?_;exact ap rfl [bj r b oe,aF b d',Whole m (bz q.l q.c),C] ⟨e,rfl,.inr ⟨he,Ff,oe,d',q.l,q.c,rfl,sn,dv⟩⟩ Sub.h
   ·intro td fin;refine rz 13 [7,11,12] (.look 0 (.look 1 (.look 2 (.look 3 (.look 4 (.look 5 (.look 6 (.alt (gZ [(7,true),(8,false),(9,false),(10,false),(11,true),(12,true),(13,false)]) (gZ [(11,true),(7,true),(8,false),(9,false),(10,false),(12,true),(13,false)]))))))))) [C,Row p2 0 [dp r,.map (some m)],Row p3 0 (ek a1 c1 a2 c2 txs.length)] mixed (by kernel_rfl) bd ?_;refine dg rfl (om rfl) ?_;refine dg rfl (qY rfl rfl rfl) ?_;refine dg rfl (om rfl) ?_;refine dg rfl (qY rfl rfl rfl) ?_;refine dg rfl (lU rfl) ?_;refine dg rfl (aY rfl rfl gX (j:=i) rfl h) ?_;refine dg rfl (b7 rfl R2 gX (i:=i*1) (by omega) (v:=tv t) (by rw[zaj,zf,tX];rfl)) ?_;refine mf (gL _ ?_) (gL _ ?_)
    ·refine aE rfl (aq (vs:=[dp r,tv t]) rfl SP rfl ?_);refine mc (h:=lM (h:=?_));refine aE rfl (aC rfl fun p9=>⟨bd,?_⟩);refine aE rfl (dt (us:=h_ w.2.2.1) rfl rfl (by rfl) (by rfl) (by rfl) ⟨bd,?_⟩);refine df (h:=?_);exact aV (fin p9 trivial)
    ·refine aE rfl (aC rfl fun p9=>⟨bd,?_⟩);refine aE rfl (aq (vs:=[dp r,tv t]) rfl SP rfl ?_);refine mc (h:=lM (h:=?_));refine aE rfl (dt (us:=h_ w.2.2.1) rfl rfl (by rfl) (by rfl) (by rfl) ⟨bd,?_⟩);refine df (h:=?_);exact aV (fin p9 trivial)
 ·obtain rfl:i=txs.length:=by omega
  rw[zu]at kg;refine Wq ?_;exact ap rfl [bj r b (aW 0 q.ess),aF b (V.QD q.bs q.u q.v),Whole m (bz q.l q.c),C] ⟨0,rfl,.inl ⟨rfl,q,hq,rfl,kg,kI⟩⟩ Sub.h
end
section
open Go.Proofs Tryz
open Go.Proofs Go.RowKit
theorem aa9{p:PS}(hp:p.Ok)(aO:Int×Int):(∃nL cY u' v',jT (aW 0 p.ess) (V.QD p.bs p.u p.v) aO=(aW 0 nL,V.QD cY u' v',0)∧jU iM nL cY)∨(∃oe d' e,jT (aW 0 p.ess) (V.QD p.bs p.u p.v) aO=(oe,d',e)∧e≠0∧tY iM d'):=by
 by_cases hh:vE aO=true
 ·have Be:=hh;unfold vE at hh;simp only[zh,decide_eq_true_eq]at hh;obtain⟨k,hk⟩:∃k:Nat,aO.1=k:=⟨aO.1.toNat,by omega⟩
  obtain⟨es,dF⟩:∃es,p.ess[k]? =some es:=⟨p.ess[k]'(by rw[hp.ro.h0.h4];omega),za _⟩
  have hg:(aW 0 p.ess).getD k si=⟨k,128*2^k,es,false⟩:=by rw[ze,BR dF,zO];rfl
  cases ht:Sh.aP ⟨k,128*2^k,es,false⟩ aO.2 with
  |none=>
   right;have hd:=aad (d:=V.QD p.bs p.u p.v) ht;refine⟨(aW 0 p.ess).set k ⟨k,128*2^k,es,false⟩,V.QD p.bs p.u p.v,3,?_,by decide,hp.ro.vH p.u p.v⟩;unfold jT;rw[EW,if_neg (by simp),Be,if_pos rfl,hk,zV,hg,hd]
  |some t=>
   have h0:0≤aO.2:=by
    apply zI;intro h;unfold Sh.aP at ht;rw[if_pos (by omega)]at ht;cases ht
   obtain⟨i,hi⟩:∃i:Nat,aO.2=i:=⟨aO.2.toNat,by omega⟩
   have tX:es[i]? =some (some t):=by
    unfold Sh.aP at ht;rw[if_neg (by omega),hi,zV]at ht;exact Option.join_eq_some_iff.1 ht
   have e:aO=((k:Int),(i:Int)):=Prod.ext hk hi;rw[e];rcases PB hp.ro p.u p.v dF tX with ⟨cY,u',v',h1,h2,_,_⟩|⟨_,oe,d',e,h1,h2,h3⟩
   ·exact .inl ⟨_,cY,u',v',h1,h2⟩
   ·exact .inr ⟨oe,d',e,h1,h2,h3⟩
 ·right;refine⟨aW 0 p.ess,V.QD p.bs p.u p.v,3,?_,by decide,hp.ro.vH p.u p.v⟩;unfold jT;rw[EW,if_neg (by simp),if_neg hh]
theorem aa_(v0:Value)(m c:Nat)(h0:v0.oneCell'=true):Spec prog 177 [.agg #[v0,.map (some m)],.agg (ek none 0 none 0 0).toArray] [Whole m (bz [] c)] (fun v B=>v= .int .i64 0∧B=[Whole m (bz [] c)]):=by
 refine x_sp func177 ntmps177 fun E cs Γ=>?_;refine dx (h:=?_);refine ao (aM rfl rfl fun p2=>?_);refine ao (aM rfl rfl fun p3=>?_);refine aA (h:=?_);refine PR (l:=[]) (c:=c) (r:=m) rfl rfl fun it=>?_;refine eR (h:=eW (h:=?_));refine aQ (α:=Unit) (fun _=>True) (fun _=>[(12,dp it),(5,.slice none 0 0)]) (fun _=>Whole it (nK m c [])::Whole m (bz [] c)::Γ) (fun _=>0) () trivial x_tv Sub.h ?_;intro _ _ back;refine l9 (h:=?_);refine PT (l:=[]) (c:=c) (r:=m) (seen:=[]) rfl (lj.nil c) rfl (fun _=>?_) (fun m hm=>by cases hm);refine Wq ?_;refine gh (ak.cq 1 _) ?_;skip;have SS:Spec prog 205 [.slice none 0 0] [Sl 1 none 0 0 []] (fun v B=>v= .tuple #[]∧qA none 0 0 [] B):=HS (ad:=none) (cap:=0) (xs:=[]) (by decide);refine aJ rfl SS rfl ?_;rintro v B ⟨rfl,ys,gu,Hb,rfl⟩;refine bW (h:=?_);refine aQ (α:=Unit) (fun _=>True) (fun _=>[(30,iv 0),(29,iv (0:Nat)),(28,.slice none 0 0)]) (fun _=>Whole m (bz [] c)::Γ) (fun _=>0) () trivial x_tv Sub.h ?_;intro _ _ eY;refine j_ (h:=?_);exact ap rfl [Whole m (bz [] c)] ⟨rfl,rfl⟩ Sub.h
def Jj(l:List ME)(seen:List Nat):Nat:=(l.filter fun m=> !seen.contains m.b).length
theorem filter_le{α:Type}{p q:α→Bool}(h:∀x,q x=true→p x=true):∀l:List α,(l.filter q).length≤(l.filter p).length
 |[]=>zq _
 |x::l=>by
  have:=filter_le h l;cases hq:q x with
  |true=>rw[zaH hq,zaH (h x hq),zy,zy];omega
  |false=>
   rw[zbh (by rw[hq];decide)];cases hp:p x with
   |true=>rw[zaH hp,zy];omega
   |false=>rw[zbh (by rw[hp];decide)];exact this
theorem filter_lt{α:Type}{p q:α→Bool}(h:∀x,q x=true→p x=true){m:α}(h1:p m=true)(h2:q m=false):∀l:List α,m∈l→(l.filter q).length<(l.filter p).length
 |x::l,hm=>by
  have hle:=filter_le h l;rcases zbe.1 hm with rfl|hm
  ·rw[zaH h1,zbh (by rw[h2];decide),zy];omega
  ·have:=filter_lt h h1 h2 l hm;cases hq:q x with
   |true=>rw[zaH hq,zaH (h x hq),zy,zy];omega
   |false=>
    rw[zbh (by rw[hq];decide)];cases hp:p x with
    |true=>rw[zaH hp,zy];omega
    |false=>rw[zbh (by rw[hp];decide)];exact this
theorem Qd{l:List ME}{seen:List Nat}{m:ME}(hm:m∈l)(hs:m.b∉seen):Jj l (seen++[m.b])<Jj l seen:=
 filter_lt (fun x hx=>by simp at hx⊢;exact hx.1) (by simpa using hs) (by simp) l hm
theorem aba{C:HP}(r b m:Nat)(p:PS)(hp:p.Ok){a1 a2:Option Addr}{c1 c2:Nat}{txs:List Tx}(R1:Reads C 1 a1 txs.length ((txs.map cu).map nv))(ht:txs.length≤2^20)(hN:∀g:List Nat,g.Nodup→(∀x∈g,x∈p.ks∧x∉txs.map cu)→g.length≤48):
 Spec prog 177 [.agg #[dp r,.map (some m)],.agg (ek a1 c1 a2 c2 txs.length).toArray] [bj r b (aW 0 p.ess),aF b (V.QD p.bs p.u p.v),Whole m (bz p.l p.c),C] (fun v B=>∃e:Int,v= .int .i64 e∧
  ((e=0∧∃q:PS,q.Ok∧B=[bj r b (aW 0 q.ess),aF b (V.QD q.bs q.u q.v),Whole m (bz q.l q.c),C]∧(∀x,x∈q.ks↔x∈p.ks∧x∈txs.map cu)∧((∀x∈p.ks,x∈txs.map cu)→q=p))∨(e≠0∧(¬∀x∈p.ks,x∈txs.map cu)∧Qb r b m C B))):=by
 refine x_sp func177 ntmps177 fun E cs Γ=>?_;have ec:(txs.map cu).length=txs.length:=by simp
 have R1':Reads C 1 a1 (txs.map cu).length ((txs.map cu).map nv):=by rw[ec];exact R1
 refine dx (h:=?_);refine ao (aM rfl rfl fun p2=>?_);refine ao (aM rfl rfl fun p3=>?_);refine aA (h:=?_);refine PR (l:=p.l) (c:=p.c) (r:=m) rfl rfl fun it=>?_;refine eR (h:=eW (h:=?_));refine aQ (α:=List Nat×List Nat×Option Addr×Nat) (fun q=>(∀x∈q.2.1,∃me∈p.l,me.k=x∧me.b∈q.1∧x∉txs.map cu)∧(∀me∈p.l,me.b∈q.1→me.k∉txs.map cu→me.k∈q.2.1)∧q.2.1.Nodup)
  (fun q=>[(12,dp it),(5,.slice q.2.2.1 q.2.1.length q.2.2.2),(4,iv 0),(2,dp p2),(3,dp p3)])
  (fun q=>Sl 1 q.2.2.1 q.2.1.length q.2.2.2 (q.2.1.map nv)::Whole it (nK m p.c q.1)::Whole m (bz p.l p.c)::bj r b (aW 0 p.ess)::aF b (V.QD p.bs p.u p.v)::C::Row p2 0 [dp r,.map (some m)]::Row p3 0 (ek a1 c1 a2 c2 txs.length)::Γ) (fun q=>Jj p.l q.1) ([],[],none,0) ⟨(fun x hx=>by cases hx),(fun me _ h=>by cases h),List.Pairwise.nil⟩ x_tv ((ak.cq 1 _).trans (Sub.h (Δ:=Sl 1 none 0 0 []::Whole it (nK m p.c [])::Whole m (bz p.l p.c)::bj r b (aW 0 p.ess)::aF b (V.QD p.bs p.u p.v)::C::Row p2 0 [dp r,.map (some m)]::Row p3 0 (ek a1 c1 a2 c2 txs.length)::Γ))) ?_
 rintro⟨seen,g,ag,cg⟩ ⟨oP,vo,ua⟩ back;dsimp only at oP vo ua back⊢;have t_:g.length≤48:=hN g ua fun x hx=>by
  obtain⟨me,fy,e,_,bM⟩:=oP x hx;exact⟨e ▸ zbY.2 ⟨me,fy,rfl⟩,bM⟩
 refine l9 (h:=?_);refine PT (l:=p.l) (c:=p.c) (r:=m) (seen:=seen) rfl hp.mo rfl (fun gF=>?_) (fun me fy vJ=>?_)
 case refine_2=>
  have hkW:=hp.kb me fy;refine aA (h:=?_);refine bL (aaL (m:=me) (r:=m) (c:=p.c) (l:=p.l) (seen:=seen) rfl hp.mo fy) rfl ?_;refine aA (h:=?_);refine aq (vs:=[.slice a1 (txs.map cu).length c1,nv me.k]) (by rw[ec];rfl) (Bw R1' me.k hkW (fun y hy=>by
   obtain⟨t,_,rfl⟩:=zbY.1 hy;exact PW _) (by omega)) rfl ?_
  refine de (h:=?_);have Qe:∀x:ME,x∈p.l→(x.b∈seen++[me.b]↔x.b∈seen∨x=me):=fun x hx=>by
   rw[zL,zbr];constructor
   ·rintro(h|h)
    ·exact .inl h
    ·right;obtain⟨i,hi⟩:=zk hx;obtain⟨j,hj⟩:=zk fy;have h1:(p.l.map ME.b)[i]? =some me.b:=by rw[zf,hi];simp[h]
     have h2:(p.l.map ME.b)[j]? =some me.b:=by rw[zf,hj];rfl
     have e:=(zbg (List.getElem?_eq_some_iff.1 h1).1 hp.mo.nb).1 (h1.trans h2.symm);subst e;rw[hi]at hj;exact zD hj
   ·rintro(h|rfl)
    ·exact .inl h
    ·exact .inr rfl
  by_cases c_:me.k∈txs.map cu
  ·rw[decide_eq_true c_];have hb:=back (seen++[me.b],g,ag,cg) ⟨fun x hx=>by
    obtain⟨y,h1,h2,h3,h4⟩:=oP x hx;exact⟨y,h1,h2,zK _ h3,h4⟩,fun y hy h1 h2=>by
    rcases(Qe y hy).1 h1 with h1|rfl
    ·exact vo y hy h1 h2
    ·exact absurd c_ h2,ua⟩ (Qd fy vJ)
   dsimp only at hb;refine Wq ?_;exact aV hb
  ·rw[decide_eq_false c_];have hng:me.k∉g:=fun hx=>by
    obtain⟨y,h1,h2,h3,h4⟩:=oP _ hx;obtain⟨i,hi⟩:=zk h1;obtain⟨j,hj⟩:=zk fy;have e1:(p.l.map ME.k)[i]? =some me.k:=by rw[zf,hi];simp[h2]
    have e2:(p.l.map ME.k)[j]? =some me.k:=by rw[zf,hj];rfl
    have e:=(zbg (List.getElem?_eq_some_iff.1 e1).1 hp.mo.nk).1 (e1.trans e2.symm);subst e;rw[hi]at hj;obtain rfl:=zD hj;exact vJ h3
   refine aA (h:=?_);refine cf rfl (by rfl) (by rfl) (by rfl) (by rfl) rfl fun a3=>?_;refine aw (h:=?_);refine cF rfl rfl (by rfl) (by rfl) (by rfl) (by omega) rfl fun a4 c4 gI=>?_;have hb:=back (seen++[me.b],g++[me.k],a4,c4) ⟨fun x hx=>by
    rcases zL.1 hx with hx|hx
    ·obtain⟨y,h1,h2,h3,h4⟩:=oP x hx;exact⟨y,h1,h2,zK _ h3,h4⟩
    ·rw[zbr.1 hx];exact⟨me,fy,rfl,by simp,c_⟩,fun y hy h1 h2=>by
    rcases(Qe y hy).1 h1 with h1|rfl
    ·exact zK _ (vo y hy h1 h2)
    ·simp,by
    dsimp only;rw[zab];exact⟨ua,by simp,fun a ha b hb=>by simp at hb;subst hb;intro e;subst e;exact hng ha⟩⟩ (Qd fy vJ)
   dsimp only at hb;rw[zd,zg,show[me.k].length=1 from rfl,show[me.k].map nv=[nv me.k]from rfl]at hb;refine bU (h:=iz (h:=?_));exact aV hb
 refine Wq ?_;refine aJ rfl (HS (by omega)) rfl ?_;rintro v B ⟨rfl,ys,gG,hyp,rfl⟩;have Ic:ys.Nodup:=hyp.nodup_iff.2 ua;have qQ:∀x,x∈ys↔x∈p.ks∧x∉txs.map cu:=fun x=>by
  rw[hyp.mem_iff];constructor
  ·intro hx;obtain⟨y,h1,h2,h3,h4⟩:=oP x hx;exact⟨h2 ▸ zbY.2 ⟨y,h1,rfl⟩,h4⟩
  ·rintro⟨h1,h2⟩;obtain⟨y,hy,rfl⟩:=zbY.1 h1;exact vo y hy (gF y hy) h2
 clear back oP vo gF;refine bW (h:=?_);have RY:=Sl.reads 1 ag g.length cg (ys.map nv) (by simp[gG]);refine aQ (α:=Nat×PS) (fun w=>w.1≤g.length∧w.2.Ok∧(∀x,x∈w.2.ks↔x∈p.ks∧x∉ys.take w.1)∧(w.1=0→w.2=p)) (fun w=>[(30,iv w.1),(29,iv g.length),(28,.slice ag g.length cg),(4,iv 0),(2,dp p2),(3,dp p3)])
  (fun w=>Sl 1 ag g.length cg (ys.map nv)::bj r b (aW 0 w.2.ess)::aF b (V.QD w.2.bs w.2.u w.2.v)::Whole m (bz w.2.l w.2.c)::C::Row p2 0 [dp r,.map (some m)]::Row p3 0 (ek a1 c1 a2 c2 txs.length)::Γ) (fun w=>g.length-w.1) (0,p) ⟨zj _,hp,fun x=>by simp,fun _=>rfl⟩ x_tv Sub.h ?_
 rintro⟨i,q⟩ ⟨hi,hq,kg,kI⟩ back;dsimp only at hi hq kg kI back⊢;refine bQ (h:=?_);by_cases h:i<g.length
 ·obtain⟨x,hx⟩:=bc (l:=ys) (i:=i) (by omega);have vw:=zc hx;have Jk:=(qQ x).1 vw;have Ff:¬∀x∈p.ks,x∈txs.map cu:=fun gF=>Jk.2 (gF x Jk.1);have hxk:x∈q.ks:=(kg x).2 ⟨Jk.1,fun hm=>by
   obtain⟨j,hj⟩:=zk hm;rw[zbb]at hj;split at hj
   ·rename_i eC;have:=(zbg (List.getElem?_eq_some_iff.1 hj).1 Ic).1 (hj.trans hx.symm);omega
   ·cases hj⟩
  obtain⟨me,fy,B2⟩:=zbY.1 hxk;obtain⟨rf,Ji⟩:=hq.ref me fy;have SP:=Pf (N:=0) r b (aW 0 q.ess) (V.QD q.bs q.u q.v) rf (hq.ro.b9 _ _) (by decide) (fun s hs=>⟨(hq.ro.h0.mem s hs).1.2,by have:=(hq.ro.h0.mem s hs).2;omega⟩);have dv:=aaB (i:=rf) (ss:=aW 0 q.ess) (hq.ro.b9 q.u q.v);have gC:=aa9 hq rf;obtain⟨w,hw⟩:∃w,jT (aW 0 q.ess) (V.QD q.bs q.u q.v) rf=w:=⟨_,rfl⟩
  rw[hw]at SP dv gC;refine aA (h:=?_);refine bK rfl rfl RY (j:=i) rfl h rfl fun b1 P0 ed=>?_;refine aw (h:=?_);refine fM rfl RY ed (i:=i*1) (by omega) (v:=nv x) (by rw[zaj,zf,hx];rfl) rfl ?_;refine aA (h:=?_);refine bL (aaJ (m:=me) (r:=m) (c:=q.c) (l:=q.l) rfl (by rw[B2];rfl) hq.mo fy) rfl ?_;rw[Ji];refine aw (h:=?_);refine aq (vs:=[dp r,kJ rf]) rfl SP rfl ?_;refine de (h:=?_);rcases gC with ⟨nL,cY,u',v',kV,eT⟩|⟨oe,d',e,kV,he,sn⟩
  ·subst kV;dsimp only;refine Wq ?_;refine dO (h:=?_);refine aaK (c:=q.c) (l:=q.l) (k:=x) (r:=m) rfl rfl hq.mo ?_;have hb:=back (i+1,⟨nL,cY,u',v',q.l.filter fun m=> !(m.k==x),q.c⟩) ⟨by dsimp only;omega,⟨eT,hq.mo.filter _,fun me fy=>hq.ref me (List.mem_filter.1 fy).1,fun me fy=>hq.kb me (List.mem_filter.1 fy).1⟩,fun y=>by
    dsimp only;have e1:y∈PS.ks ⟨nL,cY,u',v',q.l.filter fun m=> !(m.k==x),q.c⟩↔y∈q.ks∧y≠x:=by
     unfold PS.ks;dsimp only;rw[zbY,zbY];constructor
     ·rintro⟨z,hz,rfl⟩;obtain⟨h1,h2⟩:=List.mem_filter.1 hz;exact⟨⟨z,h1,rfl⟩,by simpa using h2⟩
     ·rintro⟨⟨z,h1,rfl⟩,h2⟩;exact⟨z,List.mem_filter.2 ⟨h1,by simpa using h2⟩,rfl⟩
    rw[e1,kg y,zp,hx,zL];simp only[zaa,zbr,not_or];exact and_assoc,fun h0=>by dsimp only at h0;omega⟩ (by dsimp only;omega)
   dsimp only at hb;refine Wq ?_;exact aV hb
  ·subst kV;dsimp only at dv⊢;refine Wq ?_;exact ap rfl [bj r b oe,aF b d',Whole m (bz q.l q.c),C] ⟨e,rfl,.inr ⟨he,Ff,oe,d',q.l,q.c,rfl,sn,dv⟩⟩ Sub.h
 ·obtain rfl:i=g.length:=by omega
  rw[←gG,zu]at kg;refine Wq ?_;refine ap rfl [bj r b (aW 0 q.ess),aF b (V.QD q.bs q.u q.v),Whole m (bz q.l q.c),C] ⟨0,rfl,.inl ⟨rfl,q,hq,rfl,fun x=>?_,fun gF=>?_⟩⟩ Sub.h
  ·rw[kg x,qQ x];constructor
   ·rintro⟨h1,h2⟩;exact⟨h1,zI fun h3=>h2 ⟨h1,h3⟩⟩
   ·rintro⟨h1,h2⟩;exact⟨h1,fun h3=>h3.2 h2⟩
  ·refine kI ?_;rw[←gG];refine List.length_eq_zero_iff.2 (List.eq_nil_iff_forall_not_mem.2 fun x hx=>?_);have:=(qQ x).1 hx;exact this.2 (gF x this.1)
end
section
open Go.Proofs Tryz
open Go.Proofs Go.RowKit
theorem Qf:∀{g l:List Nat},g.Nodup→(∀x∈g,x∈l)→g.length≤l.length
 |[],l,_,_=>zj _
 |x::g,l,hn,h=>by
  obtain⟨h1,h2⟩:=zb5.1 hn;have hx:=h x (by simp);have:=Qf (g:=g) (l:=l.erase x) h2 fun y hy=>(List.mem_erase_of_ne fun e=>h1 (by rw[←e];exact hy)).2 (h y (zP _ hy));rw[List.length_erase_of_mem hx]at this;have:=List.length_pos_of_mem hx;rw[zy];omega
theorem B6{l:List TZ}{x:Nat}:x∈(fW l).map cu↔x∈bB l:=by
 rw[zR];exact Iff.rfl
theorem abb{A:HP}(kp b:Nat)(q:KD)(hq:q.Ok)(kg:∀x,x∈q.l.map ME.k↔x∈bB q.z.l)(u v:Nat)(z:BZ)(I:z.In A):
 Spec prog 120 [dp kp,z.val] [Row kp 0 (cC q.z (dp q.r0) (.map (some q.m0)) (dp q.r1) (.map (some q.m1)) false),bj q.r0 b (aW 0 q.ess),bj q.r1 b (aW 4 dm),Whole q.m0 (bz q.l q.c),Whole q.m1 (bz [] q.c1),aF b (V.QD q.bs u v),A]
  (fun w B=>∃e:Int,w= .int .i64 e∧
   ((e=0∧∃p:PS,p.Ok∧B=[Row kp 0 (cC q.z (dp q.r0) (.map (some q.m0)) (dp q.r1) (.map (some q.m1)) false),bj q.r0 b (aW 0 p.ess),bj q.r1 b (aW 4 dm),Whole q.m0 (bz p.l p.c),Whole q.m1 (bz [] q.c1),aF b (V.QD p.bs p.u p.v),A]∧∀x,x∈p.ks↔x∈bB z.l)∨
    (e≠0∧bB q.z.l≠bB z.l∧∃(d:Dk) (F:List HP),B=Row kp 0 (cC q.z (dp q.r0) (.map (some q.m0)) (dp q.r1) (.map (some q.m1)) false)::aF b d::A::F∧tY iM d∧d.b9 4))):=by
 refine x_sp func120 ntmps120 fun E cs Γ=>?_;have H4:=I.len;have ac2:=hq.iB.len;have ga:(fW z.l).length=z.l.length:=by simp
 have hPt:∀t∈fW z.l,iM t:=fun t ht=>by
  obtain⟨w,hw,rfl⟩:=zbY.1 ht;exact⟨w.t,I.ok w hw,(I.it w hw).wf,rfl⟩
 have D_:∀m∈q.l,m.k<aI:=fun m hm=>by
  obtain⟨w,_,e⟩:=zbY.1 ((kg m.k).1 (zbY.2 ⟨m,hm,rfl⟩));rw[←e];exact xH _
 have j3:PS.Ok ⟨q.ess,q.bs,u,v,q.l,q.c⟩:=⟨hq.ro,hq.mo,hq.ref,D_⟩
 refine dx (h:=?_);refine ao (aM rfl rfl fun p3=>?_);refine aA (h:=?_);refine aq (vs:=[z.val]) rfl (PU z I) rfl ?_;rintro v' B ⟨kl,a1,c1,a2,c2,rfl,rfl,R1,R2⟩;rw[P6 z.l]at R1;rw[←ga]at R1 R2;refine a_ (h:=?_);refine ao (aC rfl fun p5=>?_);refine Wq ?_;refine Fb ?_;refine nB (h:=?_);refine yu (us:=[dp q.r0,.map (some q.m0)]) rfl rfl (j:=0) rfl (by decide) rfl rfl ?_;refine ao (aC rfl fun p7=>?_);refine Wq ?_;refine aZ 5 (aX [4] [0,1,2,3,4,5]) [Row p7 0 [dp q.r0,.map (some q.m0)],Row p5 0 [.slice a1 z.l.length c1,.slice a2 z.l.length c2,.slice none 0 0,.slice none 0 0]] ?_;refine x_ (h:=?_);refine au rfl (du rfl rfl (j:=0) rfl (by decide)) ?_;refine au rfl (oz (us:=ek a1 c1 a2 c2 z.l.length) rfl rfl rfl rfl) ?_;refine aE rfl (aq (vs:=[.agg #[dp q.r0,.map (some q.m0)],.agg (ek a1 c1 a2 c2 (fW z.l).length).toArray]) (by rw[ga];rfl) (aa8 (C:=Mem kl) q.r0 b q.m0 ⟨q.ess,q.bs,u,v,q.l,q.c⟩ j3 R1 R2 (by rw[ga];omega) hPt) rfl ?_);rintro v' B ⟨e,rfl,gC⟩;rcases gC with ⟨rfl,p1,oF,rfl,ey,xD⟩|⟨he,hn,ss,d,l',c',rfl,sn,bn⟩
 case inr=>
  refine dc (h:=kB (h:=?_));exact ap rfl [Row kp 0 (cC q.z (dp q.r0) (.map (some q.m0)) (dp q.r1) (.map (some q.m1)) false),aF b d,A,bj q.r0 b ss,Whole q.m0 (bz l' c')] ⟨e,rfl,.inr ⟨he,fun h=>hn fun t ht=>(kg _).2 (by
   rw[h];exact B6.1 (zbY.2 ⟨t,ht,rfl⟩)),d,[bj q.r0 b ss,Whole q.m0 (bz l' c')],rfl,sn,bn⟩⟩ Sub.h
 refine dc (h:=kB (h:=?_));refine oV ?_;refine bf (ρ':=[(18,iv 1),(17,.agg #[dp q.r0,.map (some q.m0),dp q.r1,.map (some q.m1)]),(5,dp p5),(3,dp p3),(0,dp kp),(4,iv 0)])
  (Γ':=Row p5 0 [.slice a1 z.l.length c1,.slice a2 z.l.length c2,.slice none 0 0,.slice none 0 0]::Row kp 0 (cC q.z (dp q.r0) (.map (some q.m0)) (dp q.r1) (.map (some q.m1)) false)::bj q.r0 b (aW 0 p1.ess)::aF b (V.QD p1.bs p1.u p1.v)::Whole q.m0 (bz p1.l p1.c)::Mem kl::bj q.r1 b (aW 4 dm)::Whole q.m1 (bz [] q.c1)::A::Γ) ?_ x_tv Sub.h
 refine nB (h:=?_);refine yu (us:=[dp q.r1,.map (some q.m1)]) rfl rfl (j:=1) rfl (by decide) rfl rfl ?_;refine ao (aC rfl fun p7=>?_);refine Wq ?_;refine aZ 5 (aX [4] [0,1,2,3,4,5]) [Row p7 0 [dp q.r1,.map (some q.m1)],Row p5 0 [.slice a1 z.l.length c1,.slice a2 z.l.length c2,.slice none 0 0,.slice none 0 0]] ?_;refine x_ (h:=?_);refine au rfl (du rfl rfl (j:=1) rfl (by decide)) ?_;refine au rfl (oz (us:=ek none 0 none 0 0) rfl rfl rfl rfl) ?_;refine aE rfl (aq (vs:=[.agg #[dp q.r1,.map (some q.m1)],.agg (ek none 0 none 0 0).toArray]) rfl (aa7 (dp q.r1) (.map (some q.m1)) rfl rfl) rfl ?_);rintro v' B ⟨rfl,rfl⟩;refine kx (h:=dq (h:=kB (h:=?_)));refine oV ?_;refine j_ (h:=?_);refine Fb ?_;refine nB (h:=?_);refine yu (us:=[dp q.r0,.map (some q.m0)]) rfl rfl (j:=0) rfl (by decide) rfl rfl ?_;refine ao (aC rfl fun je=>?_);refine Wq ?_;refine aZ 5 (aX [4] [0,1,2,3,4,5]) [Row je 0 [dp q.r0,.map (some q.m0)],Row p5 0 [.slice a1 z.l.length c1,.slice a2 z.l.length c2,.slice none 0 0,.slice none 0 0]] ?_;refine x_ (h:=?_);refine au rfl (du rfl rfl (j:=0) rfl (by decide)) ?_;refine au rfl (oz (us:=ek a1 c1 a2 c2 z.l.length) rfl rfl rfl rfl) ?_;have Jl:∀x,x∈p1.ks↔x∈bB q.z.l∨x∈bB z.l:=fun x=>by
  rw[ey x,B6];exact or_congr (kg x) Iff.rfl
 refine aE rfl (aq (vs:=[.agg #[dp q.r0,.map (some q.m0)],.agg (ek a1 c1 a2 c2 (fW z.l).length).toArray]) (by rw[ga];rfl) (aba (C:=Mem kl) q.r0 b q.m0 p1 oF R1 (by rw[ga];omega) (fun g hg hx=>by
  have:=Qf (l:=bB q.z.l) hg fun x hxg=>by
   obtain⟨h1,h2⟩:=hx x hxg;rcases(Jl x).1 h1 with h|h
   ·exact h
   ·exact absurd (B6.2 h) h2
  simp at this;omega)) rfl ?_)
 rintro v' B ⟨e,rfl,gC⟩;rcases gC with ⟨rfl,og,k7,rfl,bH,pL⟩|⟨he,hn,ss,d,l',c',rfl,sn,bn⟩
 case inr=>
  refine dc (h:=kB (h:=?_));exact ap rfl [Row kp 0 (cC q.z (dp q.r0) (.map (some q.m0)) (dp q.r1) (.map (some q.m1)) false),aF b d,A,bj q.r0 b ss,Whole q.m0 (bz l' c')] ⟨e,rfl,.inr ⟨he,fun h=>hn fun x hx=>B6.2 (by
   rcases(Jl x).1 hx with h'|h'
   ·rw[←h];exact h'
   ·exact h'),d,[bj q.r0 b ss,Whole q.m0 (bz l' c')],rfl,sn,bn⟩⟩ Sub.h
 refine dc (h:=kB (h:=?_));refine oV ?_;refine bf (ρ':=[(35,iv 1),(34,.agg #[dp q.r0,.map (some q.m0),dp q.r1,.map (some q.m1)]),(5,dp p5),(4,iv 0)])
  (Γ':=Row p5 0 [.slice a1 z.l.length c1,.slice a2 z.l.length c2,.slice none 0 0,.slice none 0 0]::Row kp 0 (cC q.z (dp q.r0) (.map (some q.m0)) (dp q.r1) (.map (some q.m1)) false)::bj q.r0 b (aW 0 og.ess)::aF b (V.QD og.bs og.u og.v)::Whole q.m0 (bz og.l og.c)::Mem kl::bj q.r1 b (aW 4 dm)::Whole q.m1 (bz [] q.c1)::A::Γ) ?_ x_tv Sub.h
 refine nB (h:=?_);refine yu (us:=[dp q.r1,.map (some q.m1)]) rfl rfl (j:=1) rfl (by decide) rfl rfl ?_;refine ao (aC rfl fun je=>?_);refine Wq ?_;refine aZ 5 (aX [4] [0,1,2,3,4,5]) [Row je 0 [dp q.r1,.map (some q.m1)],Row p5 0 [.slice a1 z.l.length c1,.slice a2 z.l.length c2,.slice none 0 0,.slice none 0 0]] ?_;refine x_ (h:=?_);refine au rfl (du rfl rfl (j:=1) rfl (by decide)) ?_;refine au rfl (oz (us:=ek none 0 none 0 0) rfl rfl rfl rfl) ?_;refine aE rfl (aq (vs:=[.agg #[dp q.r1,.map (some q.m1)],.agg (ek none 0 none 0 0).toArray]) rfl (aa_ (dp q.r1) q.m1 q.c1 rfl) rfl ?_);rintro v' B ⟨rfl,rfl⟩;refine dc (h:=kB (h:=?_));refine oV ?_;refine j_ (h:=?_);exact ap rfl [Row kp 0 (cC q.z (dp q.r0) (.map (some q.m0)) (dp q.r1) (.map (some q.m1)) false),bj q.r0 b (aW 0 og.ess),bj q.r1 b (aW 4 dm),Whole q.m0 (bz og.l og.c),Whole q.m1 (bz [] q.c1),aF b (V.QD og.bs og.u og.v),A] ⟨0,rfl,.inl ⟨rfl,og,k7,rfl,fun x=>by
  rw[bH x,Jl x,B6];exact⟨fun h=>h.2,fun h=>⟨.inr h,h⟩⟩⟩⟩ Sub.h
end
section
open Go.Proofs Tryz
open Go.Proofs Go.RowKit
structure KF where
 z:BZ
 k:PH
 v1:Value
 v2:Value
 v3:Value
 v4:Value
 d:Dk
structure KF.Ok(f:KF):Prop where
 iB:f.z.In (Mem f.k)
 sl:cR f.z.l≤f.z.room
 sv:tY iM f.d
 b9:f.d.b9 4
instance:cM prog 74 [.cell 4 55,.tmp 5]:=⟨_,func74,rfl⟩
instance:cM prog 21 [.cell 2 31]:=⟨_,func21,rfl⟩
theorem ak.Qg:∀(F Γ:List HP),ak (F++Γ) Γ
 |[],Γ=> .refl _
 |A::F,Γ=>(ak.drop A (F++Γ)).trans (ak.Qg F Γ)
theorem abc(kp b:Nat)(f:KF)(c:CZ):Spec prog 74 [dp kp,c.val] [Row kp 0 (cC f.z f.v1 f.v2 f.v3 f.v4 true),aF b f.d,Mem f.k] (fun v B=>v= .tuple #[.agg (fq 0 0 [] none 0 0).toArray,.int .i64 14]∧B=[Row kp 0 (cC f.z f.v1 f.v2 f.v3 f.v4 true),aF b f.d,Mem f.k]):=by
 refine x_sp func74 ntmps74 fun E cs Γ=>?_;refine dx (h:=?_);refine ao (aM rfl rfl fun p3=>?_);refine ao (aC rfl fun p4=>?_);refine Wq ?_;exact bP (rs:=[.cell 4 55,.tmp 5]) (vs:=[.agg (fq 0 0 [] none 0 0).toArray,.int .i64 14]) ⟨bG (us:=[.int .i64 0,.int .u64 0,.string ⟨#[]⟩,.slice none 0 0]) rfl rfl,bO rfl,trivial⟩ [Row kp 0 (cC f.z f.v1 f.v2 f.v3 f.v4 true),aF b f.d,Mem f.k] ⟨rfl,rfl⟩ Sub.h
theorem Jm(kp:Nat)(z:BZ)(k:PH)(I:z.In (Mem k))(v1 v2 v3 v4:Value)(f:Bool):Spec prog 21 [dp kp] [Row kp 0 (cC z v1 v2 v3 v4 f),Mem k] (fun v B=>∃(k':PH) (z':BZ),v=z'.val∧B=[Row kp 0 (cC z v1 v2 v3 v4 f),Mem k,Mem k']∧z'.In (Mem k')∧z'.room=z.room∧Same z.l z'.l):=by
 refine x_sp func21 ntmps21 fun E cs Γ=>?_;refine eh (h:=?_);refine ao (aC rfl fun p2=>?_);refine aA (h:=?_);refine aq (vs:=[z.val]) rfl (Bu z I) rfl ?_;rintro v B ⟨k',z',rfl,rfl,I',sC,ju⟩;refine a_ (h:=mS (h:=?_));exact bP (rs:=[.cell 2 31]) (vs:=[z'.val]) ⟨bG (us:=z'.cells) rfl rfl,trivial⟩ [Row kp 0 (cC z v1 v2 v3 v4 f),Mem k,Mem k'] ⟨k',z',rfl,rfl,I',sC,ju⟩ Sub.h
structure DoR where
 p6:Nat
 p7:Nat
 k:PH
 z:BZ
 id:Nat
 s:List UInt8
 a:Option Addr
 ids:List Nat
 cc:Nat
 e:Int
theorem abd(kp b:Nat)(q:KD)(hq:q.Ok)(kg:∀x,x∈q.l.map ME.k↔x∈bB q.z.l)(u v:Nat)(c:CZ)(hc:c.Ok):
 Spec prog 74 [dp kp,c.val] [Row kp 0 (cC q.z (dp q.r0) (.map (some q.m0)) (dp q.r1) (.map (some q.m1)) false),bj q.r0 b (aW 0 q.ess),bj q.r1 b (aW 4 dm),Whole q.m0 (bz q.l q.c),Whole q.m1 (bz [] q.c1),aF b (V.QD q.bs u v),Mem q.k]
  (fun w B=>
   (∃(q':KD) (u' v':Nat) (e:Int) (id:Nat) (s:List UInt8) (a:Option Addr) (ids:List Nat) (cc:Nat),w= .tuple #[.agg (fq e id s a ids.length cc).toArray,.int .i64 0]∧
    B=[Row kp 0 (cC q'.z (dp q'.r0) (.map (some q'.m0)) (dp q'.r1) (.map (some q'.m1)) false),bj q'.r0 b (aW 0 q'.ess),bj q'.r1 b (aW 4 dm),Whole q'.m0 (bz q'.l q'.c),Whole q'.m1 (bz [] q'.c1),aF b (V.QD q'.bs u' v'),Mem q'.k]∧
    q'.Ok∧(∀x,x∈q'.l.map ME.k↔x∈bB q'.z.l)∧q'.z.room=q.z.room∧Reads (Mem q'.k) 1 a ids.length (ids.map nv)∧ids.length≤2^20∧(c.kind=5→c.base=0→c.fI=0→e=0∧ids=bB q'.z.l))∨
   (∃f:KF,w= .tuple #[.agg (fq 0 0 [] none 0 0).toArray,.int .i64 14]∧B=[Row kp 0 (cC f.z f.v1 f.v2 f.v3 f.v4 true),aF b f.d,Mem f.k]∧f.Ok∧f.z.room=q.z.room∧¬(c.kind=5∧c.base=0∧c.fI=0))):=by
 refine x_sp func74 ntmps74 fun E cs Γ=>?_;refine dx (h:=?_);refine ao (aM rfl rfl fun p3=>?_);refine ao (aC rfl fun p4=>?_);refine Wq ?_;refine eL (α:=DoR) (fun r=>O3 q.z c r.k r.z r.e r.a r.ids) (fun r=>[(8,iv 0),(6,.pointer (some ⟨r.p6,0,none⟩)),(7,.pointer (some ⟨r.p7,0,none⟩)),(4,dp p4),(0,dp kp)])
  (fun r=>Row r.p6 0 r.z.cells::Row r.p7 0 (fq r.e r.id r.s r.a r.ids.length r.cc)::Row p4 0 [.int .i64 0,.int .u64 0,.string ⟨#[]⟩,.slice none 0 0]::Row kp 0 (cC q.z (dp q.r0) (.map (some q.m0)) (dp q.r1) (.map (some q.m1)) false)::bj q.r0 b (aW 0 q.ess)::bj q.r1 b (aW 4 dm)::Whole q.m0 (bz q.l q.c)::Whole q.m1 (bz [] q.c1)::aF b (V.QD q.bs u v)::Mem r.k::Mem q.k::Γ) ?_ ?_
 ·rintro⟨p6,p7,k2,z2,id,s,a,ids,cc,e⟩ oi;dsimp only at oi⊢;obtain⟨c_,jR,dP,Jn,ec,BI⟩:=oi;refine aA (h:=?_);refine aq (vs:=[dp kp,z2.val]) rfl (abb (A:=Mem k2) kp b q hq kg u v z2 c_) rfl ?_;rintro w B ⟨e2,rfl,gC⟩;rcases gC with ⟨rfl,p,hp,rfl,rO⟩|⟨he,cE,d,F,rfl,sn,bn⟩
  ·refine bW (h:=?_);exact bP (rs:=[.cell 4 55,.tmp 5]) (vs:=[.agg (fq e id s a ids.length cc).toArray,.int .i64 0]) ⟨bG (us:=fq e id s a ids.length cc) rfl rfl,bO rfl,trivial⟩ [Row kp 0 (cC z2 (dp q.r0) (.map (some q.m0)) (dp q.r1) (.map (some q.m1)) false),bj q.r0 b (aW 0 p.ess),bj q.r1 b (aW 4 dm),Whole q.m0 (bz p.l p.c),Whole q.m1 (bz [] q.c1),aF b (V.QD p.bs p.u p.v),Mem k2]
    (.inl ⟨⟨z2,k2,q.r0,q.m0,q.r1,q.m1,p.l,p.c,q.c1,p.ess,p.bs⟩,p.u,p.v,e,id,s,a,ids,cc,rfl,rfl,⟨c_,dP,hp.ro,hp.mo,hp.ref⟩,rO,jR,Jn,ec,fun g1 g2 g3=>by
     obtain⟨e1,e2,e3⟩:=BI g1 g2 g3;refine⟨e1,e2.trans ?_⟩;have:=congrArg (List.map TX.id) e3;rw[zR,zR]at this;exact this.symm⟩) Sub.h
  ·refine gh (Γ':=Row kp 0 (cC q.z (dp q.r0) (.map (some q.m0)) (dp q.r1) (.map (some q.m1)) false)::aF b d::Mem k2::Row p6 0 z2.cells::Row p7 0 (fq e id s a ids.length cc)::Row p4 0 [.int .i64 0,.int .u64 0,.string ⟨#[]⟩,.slice none 0 0]::Mem q.k::Γ) (ak.cons _ (ak.cons _ (ak.cons _ (ak.Qg F _)))) ?_;refine Wq ?_;exact bP (rs:=[.cell 4 55,.tmp 5]) (vs:=[.agg (fq 0 0 [] none 0 0).toArray,.int .i64 14]) ⟨bG (us:=[.int .i64 0,.int .u64 0,.string ⟨#[]⟩,.slice none 0 0]) rfl rfl,bO rfl,trivial⟩ [Row kp 0 (cC q.z (dp q.r0) (.map (some q.m0)) (dp q.r1) (.map (some q.m1)) true),aF b d,Mem q.k]
    (.inr ⟨⟨q.z,q.k,dp q.r0,.map (some q.m0),dp q.r1,.map (some q.m1),d⟩,rfl,rfl,⟨hq.iB,hq.sl,sn,bn⟩,rfl,fun ⟨g1,g2,g3⟩=>by
     obtain⟨_,_,e3⟩:=BI g1 g2 g3;have:=congrArg (List.map TX.id) e3;rw[zR,zR]at this;exact cE this.symm⟩) Sub.h
 ·intro td fin;refine rz 14 [5,10,11,12,13] (.look 0 (.look 1 (.look 2 (.look 3 (.look 4 (.alt (.act 5 (.look 6 (.look 7 (.look 8 (.look 9 (.alt (gZ [(10,true),(11,true),(12,true),(13,true),(14,false)]) (gZ [(11,true),(10,true),(12,true),(13,true),(14,false)]))))))) (.alt (.act 10 (.alt (gZ [(5,true),(6,false),(7,false),(8,false),(9,false),(11,true),(12,true),(13,true),(14,false)]) (gZ [(11,true),(5,true),(6,false),(7,false),(8,false),(9,false),(12,true),(13,true),(14,false)]))) (.act 11 (.alt (gZ [(5,true),(6,false),(7,false),(8,false),(9,false),(10,true),(12,true),(13,true),(14,false)]) (gZ [(10,true),(5,true),(6,false),(7,false),(8,false),(9,false),(12,true),(13,true),(14,false)])))))))))) [Row kp 0 (cC q.z (dp q.r0) (.map (some q.m0)) (dp q.r1) (.map (some q.m1)) false),Row p3 0 c.cells] mixed (by kernel_rfl) bd ?_;refine dg rfl (lU rfl) ?_;refine dg rfl (Fz rfl) ?_;refine dg rfl (om rfl) ?_;refine dg rfl (oz (us:=q.z.cells) rfl rfl rfl rfl) ?_;refine dg rfl (rC rfl rfl) ?_;refine mf ?_ (mf ?_ ?_)
  ·refine xd rfl (aq (vs:=[q.z.val,c.val]) rfl (BN (A:=Mem q.k) q.z hq.iB hq.sl c hc) rfl ?_);rintro w B ⟨k2,z2,id,s,a,ids,cc,e,rfl,rfl,oi⟩;refine dc (h:=?_);refine dg rfl (lU rfl) ?_;refine dg rfl (yF rfl rfl) ?_;refine dg rfl (yF rfl rfl) ?_;refine dg rfl (yF rfl rfl) ?_;refine mf (gL _ ?_) (gL _ ?_)
   ·refine aE rfl (aC rfl fun p6=>⟨bd,?_⟩);refine aE rfl (aC rfl fun p7=>⟨bd,?_⟩);skip;refine aE rfl (dt (us:=z2.cells) rfl rfl (by rfl) (by rfl) (by rfl) ⟨bd,?_⟩);refine aE rfl (dt (us:=fq e id s a ids.length cc) rfl rfl (by rfl) (by rfl) (by rfl) ⟨bd,?_⟩);refine df (h:=?_);exact aV (fin ⟨p6,p7,k2,z2,id,s,a,ids,cc,e⟩ oi)
   ·refine aE rfl (aC rfl fun p7=>⟨bd,?_⟩);refine aE rfl (aC rfl fun p6=>⟨bd,?_⟩);skip;refine aE rfl (dt (us:=z2.cells) rfl rfl (by rfl) (by rfl) (by rfl) ⟨bd,?_⟩);refine aE rfl (dt (us:=fq e id s a ids.length cc) rfl rfl (by rfl) (by rfl) (by rfl) ⟨bd,?_⟩);refine df (h:=?_);exact aV (fin ⟨p6,p7,k2,z2,id,s,a,ids,cc,e⟩ oi)
  ·refine xd rfl (aC rfl fun p6=>⟨bd,?_⟩);refine mf (gL _ ?_) (gL _ ?_)
   ·refine aE rfl (aq (vs:=[q.z.val,c.val]) rfl (BN (A:=Mem q.k) q.z hq.iB hq.sl c hc) rfl ?_);rintro w B ⟨k2,z2,id,s,a,ids,cc,e,rfl,rfl,oi⟩;refine rP (h:=?_);refine aE rfl (aC rfl fun p7=>⟨bd,?_⟩);skip;refine aE rfl (dt (us:=z2.cells) rfl rfl (by rfl) (by rfl) (by rfl) ⟨bd,?_⟩);refine aE rfl (dt (us:=fq e id s a ids.length cc) rfl rfl (by rfl) (by rfl) (by rfl) ⟨bd,?_⟩);refine df (h:=?_);exact aV (fin ⟨p6,p7,k2,z2,id,s,a,ids,cc,e⟩ oi)
   ·refine aE rfl (aC rfl fun p7=>⟨bd,?_⟩);refine aE rfl (aq (vs:=[q.z.val,c.val]) rfl (BN (A:=Mem q.k) q.z hq.iB hq.sl c hc) rfl ?_);rintro w B ⟨k2,z2,id,s,a,ids,cc,e,rfl,rfl,oi⟩;refine rP (h:=?_);refine aE rfl (dt (us:=z2.cells) rfl rfl (by rfl) (by rfl) (by rfl) ⟨bd,?_⟩);refine aE rfl (dt (us:=fq e id s a ids.length cc) rfl rfl (by rfl) (by rfl) (by rfl) ⟨bd,?_⟩);refine df (h:=?_);exact aV (fin ⟨p6,p7,k2,z2,id,s,a,ids,cc,e⟩ oi)
  ·refine xd rfl (aC rfl fun p7=>⟨bd,?_⟩);refine mf (gL _ ?_) (gL _ ?_)
   ·refine aE rfl (aq (vs:=[q.z.val,c.val]) rfl (BN (A:=Mem q.k) q.z hq.iB hq.sl c hc) rfl ?_);rintro w B ⟨k2,z2,id,s,a,ids,cc,e,rfl,rfl,oi⟩;refine rP (h:=?_);refine aE rfl (aC rfl fun p6=>⟨bd,?_⟩);skip;refine aE rfl (dt (us:=z2.cells) rfl rfl (by rfl) (by rfl) (by rfl) ⟨bd,?_⟩);refine aE rfl (dt (us:=fq e id s a ids.length cc) rfl rfl (by rfl) (by rfl) (by rfl) ⟨bd,?_⟩);refine df (h:=?_);exact aV (fin ⟨p6,p7,k2,z2,id,s,a,ids,cc,e⟩ oi)
   ·refine aE rfl (aC rfl fun p6=>⟨bd,?_⟩);refine aE rfl (aq (vs:=[q.z.val,c.val]) rfl (BN (A:=Mem q.k) q.z hq.iB hq.sl c hc) rfl ?_);rintro w B ⟨k2,z2,id,s,a,ids,cc,e,rfl,rfl,oi⟩;refine rP (h:=?_);refine aE rfl (dt (us:=z2.cells) rfl rfl (by rfl) (by rfl) (by rfl) ⟨bd,?_⟩);refine aE rfl (dt (us:=fq e id s a ids.length cc) rfl rfl (by rfl) (by rfl) (by rfl) ⟨bd,?_⟩);refine df (h:=?_);exact aV (fin ⟨p6,p7,k2,z2,id,s,a,ids,cc,e⟩ oi)
end
section
open Go.Proofs Tryz
open Go.Proofs Go.RowKit
theorem Qh{A:HP}{a:Option Addr}{len cap:Nat}{xs:List Value}(R:Reads A 1 a len xs)(hlen:len≤2^40)(h1:xs.all Value.oneCell'=true):
 Spec prog 41 [.slice a len cap] [A] (fun v B=>∃a' bi,v= .slice a' len bi∧B=[A,Sl 1 a' len bi xs]∧len≤bi):=by
 refine x_sp func41 ntmps41 fun E cs Γ=>?_;refine wS (h:=?_);have hl:xs.length=len*1:=R.1;refine bL (wD (.inl rfl) rfl rfl) rfl ?_;cases a with
 |none=>
  refine Wl ?_;refine kN (fun E w s=>?_) (fun (h0:len=0)=>?_)
  ·rcases s.reads R with h|⟨_,_,h,_⟩
   ·exact h
   ·cases h
  subst h0;obtain rfl:xs=[]:=List.length_eq_zero_iff.1 (by omega);exact ap rfl [A,Sl 1 none 0 0 []] ⟨none,0,rfl,rfl,zq _⟩ ((ak.cq 1 _).trans Sub.h)
 |some q=>
  refine eU (h:=?_);refine cf rfl (by rfl) (by rfl) (by rfl) (by rfl) rfl fun a2=>?_;refine fv (h:=?_);refine pZ rfl rfl R (by rfl) (by rfl) h1 (by omega) rfl fun a3 c3 hc=>?_;refine bU (h:=?_);rw[zO]at hc⊢;rw[zB];exact ap rfl [A,Sl 1 a3 len c3 xs] ⟨a3,c3,by simp[eo],rfl,hc⟩ Sub.h
theorem Fg(n:Int):Spec prog 39 [.int .i64 n] [] (fun v B=>v= .bool (decide (1≤n∧n≤1000))∧B=[]):=by
 refine x_sp func39 ntmps39 fun E cs Γ=>?_;refine ko (h:=?_);by_cases h1:n≥1
 ·by_cases h2:n≤1000
  ·refine Wq ?_;exact ap rfl [] ⟨by rw[decide_eq_true ⟨h1,h2⟩];rfl,rfl⟩ Sub.h
  ·refine Wq ?_;exact ap rfl [] ⟨by rw[decide_eq_false fun h=>h2 h.2];rfl,rfl⟩ Sub.h
 ·refine Wq ?_;exact ap rfl [] ⟨by rw[decide_eq_false fun h=>h1 h.1];rfl,rfl⟩ Sub.h
end
section
open Go.Proofs Tryz
open Go.Proofs Go.RowKit
structure pU where
 a0:Value
 a1:Value
 a2:Value
 a3:Value
 a4:Value
 a5:Value
 a6:Value
 a7:Value
 a8:Value
 a9:Value
def pU.One(l:pU):Prop:=[l.a0,l.a1,l.a2,l.a3,l.a4,l.a5,l.a6,l.a7,l.a8,l.a9].all Value.oneCell'=true
abbrev wC(room:Nat)(aa:Option Addr)(ca:Nat)(d k:Value)(l:pU)(kv pv ov:Value):List Value:=
 [.int .i64 room,.int .i64 0,.int .u64 0,.int .u64 0,.int .u64 0,.int .u64 0,.int .i64 0,.slice aa 8 ca,d,k,l.a0,l.a1,l.a2,l.a3,l.a4,l.a5,l.a6,l.a7,l.a8,l.a9,kv,pv,ov]
abbrev BZ.Jo(z:BZ):pU:=⟨.int .i64 z.room,.int .i64 0,.int .u64 0,.int .u64 0,.int .u64 0,.int .u64 0,.int .i64 0,.slice z.aa 8 z.ca,.slice z.ad z.l.length z.ct,.slice z.al 0 z.cl⟩
section
variable (room:Nat) (aa:Option Addr) (ca:Nat) (d k:Value) (l:pU) (kv pv ov v:Value)
theorem abe(z:BZ):List.take (0+10-0) (wC room aa ca d k l kv pv ov)++z.cells++List.drop (0+10-0+z.cells.length) (wC room aa ca d k l kv pv ov)=wC room aa ca d k z.Jo kv pv ov:=rfl
theorem abf:(wC room aa ca d k l kv pv ov).set (0+20-0) v=wC room aa ca d k l v pv ov:=rfl
theorem abg:(wC room aa ca d k l kv pv ov).set (0+9-0) v=wC room aa ca d v l kv pv ov:=rfl
theorem Qi:(wC room aa ca d k l kv pv ov).set (0+22-0) v=wC room aa ca d k l kv pv v:=rfl
end
theorem Jp{C:HP}(wp kp b room:Nat)(aa:Option Addr)(ca:Nat)(l:pU)(kv pv ov:Value)(z:BZ)(k:PH)(I:z.In (Mem k))(v1 v2 v3 v4:Value)(f:Bool)(d:Dk)(hd:d.b9 4){pa:Option Addr}{pc:Nat}{ps:List Int}(R:Reads C 1 pa ps.length (ps.map iv))(hl:ps.length≤2^40)(po:∀p∈ps,p≤9223372036854775807):
 Spec prog 38 [dp wp,.slice pa ps.length pc] [Row wp 0 (wC room aa ca (dp b) (dp kp) l kv pv ov),Row kp 0 (cC z v1 v2 v3 v4 f),Mem k,aF b d,C] (fun v B=>∃(a':Option Addr) (bi:Nat) (q:List BS) (l':pU),v= .tuple #[]∧
  B=[Row wp 0 (wC room aa ca (dp b) (.pointer none) l' (.slice a' q.length bi) pv ov),C,lE a' bi q]∧cont q=ma d.fs ps∧l'.One):=by
 refine x_sp func38 ntmps38 fun E cs Γ=>?_;refine eg (h:=?_);refine aZ 16 (aX [7,13,16,19,22] [0,1,2,3,4,5,6,8,9,10,11,12,7,13,14,15,16,17,18,19,20,21,22]) [Row wp 0 (wC room aa ca (dp b) (dp kp) l kv pv ov)] ?_;refine Ws ?_;refine aE rfl (aq rfl (Jm kp z k I v1 v2 v3 v4 f) rfl ?_);rintro v B ⟨k',z',rfl,rfl,I',sC,ju⟩;refine dc (h:=?_);refine aE rfl (aq (vs:=[dp b,.slice pa ps.length pc]) rfl (Tm b d R (by omega) po (hd.fit (by decide))) rfl ?_);rintro v B ⟨a',bi,q,rfl,hq,rfl⟩;refine dc (h:=pu (h:=?_));refine bN rfl rfl (jH (us:=z'.cells) rfl rfl rfl rfl rfl (by show 20≤23;decide) ?_);rw[abe];refine pu (h:=?_);refine bN rfl rfl (eZ rfl rfl rfl rfl (by simp) ?_);rw[abf];refine pu (h:=?_);refine bN rfl rfl (eZ rfl rfl rfl rfl (by simp) ?_);rw[abg];refine dU (h:=?_);exact cJ [Row wp 0 (wC room aa ca (dp b) (.pointer none) z'.Jo (.slice a' q.length bi) pv ov),C,lE a' bi q] ⟨a',bi,q,z'.Jo,rfl,rfl,hq,rfl⟩ Sub.h
end
section
open Go.Proofs Tryz
open Go.Proofs Go.RowKit
structure ia where
 e:Int
 id:Nat
 s:List UInt8
 a:Option Addr
 n:Nat
 c:Nat
abbrev ia.cells(x:ia):List Value:=fq x.e x.id x.s x.a x.n x.c
inductive WM
 |up (kp:Nat) (q:KD) (u v:Nat)
 |bad (kp:Nat) (f:KF)
 |down (ka:Option Addr) (kc:Nat) (ks:List BS)
structure WS where
 room:Nat
 aa:Option Addr
 ca:Nat
 b:Nat
 l:pU
 kv:Value
 pa:Option Addr
 pc:Nat
 ps:List Int
 oa:Option Addr
 oc:Nat
 os:List ia
 m:PH
abbrev eK(os:List ia):List Value:=os.flatMap ia.cells
theorem Jq:∀os:List ia,(eK os).length=os.length*4
 |[]=>rfl
 |x::os=>by
  have:=Jq os;simp only[eK,zT,zd,zy]at this⊢;rw[this];show 4+_=_;omega
def WS.hp(wp:Nat)(s:WS):WM→List HP
 | .up kp q u v=>[Row wp 0 (wC s.room s.aa s.ca (dp s.b) (dp kp) s.l s.kv (.slice s.pa s.ps.length s.pc) (.slice s.oa s.os.length s.oc)),Sl 4 s.oa s.os.length s.oc (eK s.os),Mem s.m,
  Row kp 0 (cC q.z (dp q.r0) (.map (some q.m0)) (dp q.r1) (.map (some q.m1)) false),bj q.r0 s.b (aW 0 q.ess),bj q.r1 s.b (aW 4 dm),Whole q.m0 (bz q.l q.c),Whole q.m1 (bz [] q.c1),aF s.b (V.QD q.bs u v),Mem q.k]
 | .bad kp f=>[Row wp 0 (wC s.room s.aa s.ca (dp s.b) (dp kp) s.l s.kv (.slice s.pa s.ps.length s.pc) (.slice s.oa s.os.length s.oc)),Sl 4 s.oa s.os.length s.oc (eK s.os),Mem s.m,
  Row kp 0 (cC f.z f.v1 f.v2 f.v3 f.v4 true),aF s.b f.d,Mem f.k]
 | .down ka kc ks=>[Row wp 0 (wC s.room s.aa s.ca (dp s.b) (.pointer none) s.l (.slice ka ks.length kc) (.slice s.pa s.ps.length s.pc) (.slice s.oa s.os.length s.oc)),Sl 4 s.oa s.os.length s.oc (eK s.os),Mem s.m,lE ka kc ks]
def WM.Ok(room:Nat):WM→Prop
 | .up _ q _ _=>q.Ok∧(∀x,x∈q.l.map ME.k↔x∈bB q.z.l)∧q.z.room=room
 | .bad _ f=>f.Ok∧f.z.room=room
 | .down _ _ ks=>mH iM (cont ks)
structure WS.Ok(s:WS):Prop where
 ra:Reads (Mem s.m) 5 s.aa 8 kH
 rp:Reads (Mem s.m) 1 s.pa s.ps.length (s.ps.map iv)
 pl:s.ps.length≤2^40
 pm:∀p∈s.ps,p≤9223372036854775807
 lo:1024≤s.room
 hi:s.room≤1048576
 ol:s.os.length≤2^20
 l1:s.l.One
inductive CO
 |ok (q:KD) (u v:Nat) (an:ia)
 |no (f:KF)
abbrev Qj:ia:=⟨0,0,[],none,0,0⟩
def CO.an:CO→ia
 | .ok _ _ _ an=>an
 | .no _=>Qj
def CO.e:CO→Int
 | .ok .. =>0
 | .no _=>14
def CO.mem(kp b:Nat):CO→List HP
 | .ok q u v _=>[Row kp 0 (cC q.z (dp q.r0) (.map (some q.m0)) (dp q.r1) (.map (some q.m1)) false),bj q.r0 b (aW 0 q.ess),bj q.r1 b (aW 4 dm),Whole q.m0 (bz q.l q.c),Whole q.m1 (bz [] q.c1),aF b (V.QD q.bs u v),Mem q.k]
 | .no f=>[Row kp 0 (cC f.z f.v1 f.v2 f.v3 f.v4 true),aF b f.d,Mem f.k]
def sq(c:CZ):Prop:=c.kind=5∧c.base=0∧c.fI=0
def CO.Ok(room:Nat)(c:CZ):CO→Prop
 | .ok q _ _ an=>q.Ok∧(∀x,x∈q.l.map ME.k↔x∈bB q.z.l)∧q.z.room=room∧(sq c→an.e=0∧∃ids:List Nat,an.n=ids.length∧Reads (Mem q.k) 1 an.a ids.length (ids.map nv)∧ids=bB q.z.l)
 | .no f=>f.Ok∧f.z.room=room∧¬sq c
inductive KO
 |up (q:KD) (u v:Nat)
 |bad (f:KF)
def KO.mem(kp b:Nat):KO→List HP
 | .up q u v=>[Row kp 0 (cC q.z (dp q.r0) (.map (some q.m0)) (dp q.r1) (.map (some q.m1)) false),bj q.r0 b (aW 0 q.ess),bj q.r1 b (aW 4 dm),Whole q.m0 (bz q.l q.c),Whole q.m1 (bz [] q.c1),aF b (V.QD q.bs u v),Mem q.k]
 | .bad f=>[Row kp 0 (cC f.z f.v1 f.v2 f.v3 f.v4 true),aF b f.d,Mem f.k]
def KO.Ok(room:Nat):KO→Prop
 | .up q _ _=>q.Ok∧(∀x,x∈q.l.map ME.k↔x∈bB q.z.l)∧q.z.room=room
 | .bad f=>f.Ok∧f.z.room=room
def KO.nM:KO→Prop
 | .up .. =>True
 | .bad _=>False
theorem abh(kp b room:Nat)(o:KO)(ho:o.Ok room)(c:CZ)(hc:c.Ok):Spec prog 74 [dp kp,c.val] (o.mem kp b) (fun w B=>∃r:CO,w= .tuple #[.agg r.an.cells.toArray,.int .i64 r.e]∧B=r.mem kp b∧(o.nM→r.Ok room c)∧(¬o.nM→∃f,r= .no f∧f.Ok∧f.z.room=room)):=by
 cases o with
 |up q u v=>
  obtain⟨h1,h2,h3⟩:=ho;refine(abd kp b q h1 h2 u v c hc).mono ?_;rintro w B (⟨q',u',v',e,id,s,a,ids,cc,rfl,rfl,g1,g2,g3,g4,g5,g6⟩|⟨f,rfl,rfl,g1,g2,g3⟩)
  ·exact⟨.ok q' u' v' ⟨e,id,s,a,ids.length,cc⟩,rfl,rfl,fun _=>⟨g1,g2,g3.trans h3,fun ⟨k1,k2,k3⟩=>⟨(g6 k1 k2 k3).1,ids,rfl,g4,(g6 k1 k2 k3).2⟩⟩,fun h=>absurd trivial h⟩
  ·exact⟨.no f,rfl,rfl,fun _=>⟨g1,g2.trans h3,g3⟩,fun h=>absurd trivial h⟩
 |bad f=>
  obtain⟨h1,h2⟩:=ho;refine(abc kp b f c).mono ?_;rintro w B ⟨rfl,rfl⟩;exact⟨.no f,rfl,rfl,fun h=>h.elim,fun _=>⟨f,rfl,h1,h2⟩⟩
end
section
open Go.Proofs Tryz
open Go.Proofs Go.RowKit
theorem Spec.post{P:Program}{f:FuncId}{args:List Value}{A:List HP}{R R':Value→List HP→Prop}(h:Spec P f args A R)(hr:∀v B,R v B→∃B',R' v B'∧ak B B'):Spec P f args A R':=
 fun E Γ w s=>(h E Γ w s).mono fun _ _ ⟨v,B,e,r,s'⟩=>let ⟨B',r',he⟩:=hr v B r;⟨v,B',e,r',(he.frame Γ).st s'⟩
theorem ak.Jr(l:List HP):ak l [Sep l]:=by have:=ak.cA l [];rwa[zF]at this
theorem ak.abi(l:List HP):ak [Sep l] l:=by have:=ak.cx l [];rwa[zF]at this
theorem Qk(kp b room:Nat)(o:KO)(ho:o.Ok room)(c:CZ)(hc:c.Ok):Spec prog 74 [dp kp,c.val] [Sep (o.mem kp b)] (fun w B=>∃r:CO,w= .tuple #[.agg r.an.cells.toArray,.int .i64 r.e]∧B=[Sep (r.mem kp b)]∧(o.nM→r.Ok room c)∧(¬o.nM→∃f,r= .no f∧f.Ok∧f.z.room=room)):=
 ((abh kp b room o ho c hc).pre (ak.abi _)).post fun v B ⟨r,h1,h2,h3⟩=>⟨_,⟨r,h1,rfl,h3⟩,h2 ▸ ak.Jr _⟩
def Js(wp:Nat)(s:WS)(up:Prop)(c:CZ)(B:List HP):Prop:=∃(s':WS) (M:WM),B=s'.hp wp M∧s'.Ok∧M.Ok s'.room∧s'.room=s.room∧s'.os.length=s.os.length+1∧
 (up→sq c→∃(kp:Nat) (q:KD) (u v:Nat) (an:ia),M= .up kp q u v∧s'.os=s.os++[an]∧an.e=0∧an.n=(bB q.z.l).length∧Reads (Mem q.k) 1 an.a (bB q.z.l).length ((bB q.z.l).map nv))
theorem abj(bs:List (List UInt8))(u v:Nat):((V.QD bs u v).size 0).2=0:=by
 unfold Dk.size Dk.asks V.QD;simp
theorem abk(d:Dk):(d.size 0).2=if d.off then 13 else 0:=by
 unfold Dk.size Dk.asks;cases d.off<;>simp
theorem Fh(os:List ia)(x:ia):eK (os++[x])=eK os++x.cells:=by simp[eK]
theorem Ql(wp kp:Nat)(s:WS)(hs:s.Ok)(eF:s.os.length<2^20)(o:KO)(ho:o.Ok s.room)(c:CZ)(hc:c.Ok):
 Spec prog 37 [dp wp,c.val] [Row wp 0 (wC s.room s.aa s.ca (dp s.b) (dp kp) s.l s.kv (.slice s.pa s.ps.length s.pc) (.slice s.oa s.os.length s.oc)),Sl 4 s.oa s.os.length s.oc (eK s.os),Mem s.m,Sep (o.mem kp s.b)] (fun v B=>v= .tuple #[]∧Js wp s o.nM c B):=by
 refine x_sp func37 ntmps37 fun E cs Γ=>?_;have ac3:=hc.kind;refine dx (h:=?_);refine ao (aM rfl rfl fun p3=>?_);refine u6 (h:=?_);refine eL (α:=Nat×CO) (fun q=>(o.nM→q.2.Ok s.room c)∧(¬o.nM→∃f,q.2= .no f∧f.Ok∧f.z.room=s.room)) (fun q=>[(4,.pointer (some ⟨q.1,0,none⟩)),(5,iv q.2.e),(3,dp p3),(0,dp wp)])
  (fun q=>Row q.1 0 q.2.an.cells::Sep (q.2.mem kp s.b)::Row p3 0 c.cells::Row wp 0 (wC s.room s.aa s.ca (dp s.b) (dp kp) s.l s.kv (.slice s.pa s.ps.length s.pc) (.slice s.oa s.os.length s.oc))::Sl 4 s.oa s.os.length s.oc (eK s.os)::Mem s.m::Γ) ?_ ?_
 ·rintro⟨p4,r⟩ ⟨js,ie⟩;dsimp only at js ie⊢;cases r with
  |ok q u v an=>
   have AN:o.nM:=zI fun h=>by obtain⟨f,e,_⟩:=ie h;cases e
   obtain⟨g1,g2,g3,g4⟩:=js AN;dsimp only[CO.e,CO.an,CO.mem];refine gy (fun E w st=>(ak.cx _ _).st ((Sub.h (Δ:=Sep [Row kp 0 (cC q.z (dp q.r0) (.map (some q.m0)) (dp q.r1) (.map (some q.m1)) false),bj q.r0 s.b (aW 0 q.ess),bj q.r1 s.b (aW 4 dm),Whole q.m0 (bz q.l q.c),Whole q.m1 (bz [] q.c1),aF s.b (V.QD q.bs u v),Mem q.k]::Row p4 0 an.cells::Row p3 0 c.cells::Row wp 0 (wC s.room s.aa s.ca (dp s.b) (dp kp) s.l s.kv (.slice s.pa s.ps.length s.pc) (.slice s.oa s.os.length s.oc))::Sl 4 s.oa s.os.length s.oc (eK s.os)::Mem s.m::Γ)).st st)) ?_;refine bW (h:=?_);refine aZ 10 (aX [6,7,10] [0,1,2,3,4,5,6,7,8,9,10]) [Row wp 0 (wC s.room s.aa s.ca (dp s.b) (dp kp) s.l s.kv (.slice s.pa s.ps.length s.pc) (.slice s.oa s.os.length s.oc)),Row p4 0 an.cells] ?_;refine Ws ?_;refine aE rfl (cf rfl (by rfl) (by rfl) (by rfl) (by rfl) rfl fun a2=>⟨bd,?_⟩);refine aE rfl (cF rfl rfl (by rfl) (by rfl) (by rfl) (by omega) rfl fun a4 c4 gI=>⟨bd,?_⟩);refine pu (h:=?_);refine bN rfl rfl (eZ rfl rfl rfl rfl (by simp) ?_);rw[Qi];refine dQ (h:=?_);refine aJ rfl (Gq s.b (V.QD q.bs u v) 0) rfl ?_;rintro w B ⟨rfl,rfl⟩;rw[abj];refine bW (h:=?_);exact cJ [Row wp 0 (wC s.room s.aa s.ca (dp s.b) (dp kp) s.l s.kv (.slice s.pa s.ps.length s.pc) (.slice a4 (s.os.length+1) c4)),Sl 4 a4 (s.os.length+1) c4 (eK s.os++an.cells),Mem s.m,Row kp 0 (cC q.z (dp q.r0) (.map (some q.m0)) (dp q.r1) (.map (some q.m1)) false),bj q.r0 s.b (aW 0 q.ess),bj q.r1 s.b (aW 4 dm),Whole q.m0 (bz q.l q.c),Whole q.m1 (bz [] q.c1),aF s.b (V.QD q.bs u v),Mem q.k] ⟨rfl,{s with oa:=a4,oc:=c4,os:=s.os++[an]},.up kp q u v,by
    unfold WS.hp;dsimp only;rw[zd,zC,Fh],⟨hs.ra,hs.rp,hs.pl,hs.pm,hs.lo,hs.hi,by dsimp only;rw[zd,zC];omega,hs.l1⟩,⟨g1,g2,g3⟩,rfl,by dsimp only;rw[zd,zC],fun _ hP=>by
    obtain⟨e1,ids,e2,e3,e4⟩:=g4 hP;rw[e4]at e2 e3;exact⟨kp,q,u,v,an,rfl,rfl,e1,e2,e3⟩⟩ Sub.h
  |no f=>
   have hf:f.Ok∧f.z.room=s.room:=by
    by_cases h:o.nM
    ·exact⟨(js h).1,(js h).2.1⟩
    ·obtain⟨f',e,h1,h2⟩:=ie h;cases e;exact⟨h1,h2⟩
   dsimp only[CO.e,CO.an,CO.mem];refine gy (fun E w st=>(ak.cx _ _).st ((Sub.h (Δ:=Sep [Row kp 0 (cC f.z f.v1 f.v2 f.v3 f.v4 true),aF s.b f.d,Mem f.k]::Row p4 0 Qj.cells::Row p3 0 c.cells::Row wp 0 (wC s.room s.aa s.ca (dp s.b) (dp kp) s.l s.kv (.slice s.pa s.ps.length s.pc) (.slice s.oa s.os.length s.oc))::Sl 4 s.oa s.os.length s.oc (eK s.os)::Mem s.m::Γ)).st st)) ?_;refine bW (h:=?_);refine aZ 10 (aX [6,7,10] [0,1,2,3,4,5,6,7,8,9,10]) [Row wp 0 (wC s.room s.aa s.ca (dp s.b) (dp kp) s.l s.kv (.slice s.pa s.ps.length s.pc) (.slice s.oa s.os.length s.oc)),Row p4 0 [.int .i64 14,.int .u64 0,.string ⟨#[]⟩,.slice none 0 0]] ?_;refine Ws ?_;refine aE rfl (cf rfl (by rfl) (by rfl) (by rfl) (by rfl) rfl fun a2=>⟨bd,?_⟩);refine aE rfl (cF rfl rfl (by rfl) (by rfl) (by rfl) (by omega) rfl fun a4 c4 gI=>⟨bd,?_⟩);refine pu (h:=?_);refine bN rfl rfl (eZ rfl rfl rfl rfl (by simp) ?_);rw[Qi];refine dQ (h:=?_);refine aJ rfl (Gq s.b f.d 0) rfl ?_;rintro w B ⟨rfl,rfl⟩;rw[abk];refine a_ (h:=?_);have bM:o.nM→sq c→False:=fun h hP=>(js h).2.2 hP;by_cases yh:f.d.off=true
   ·rw[if_pos yh];refine Wq ?_;refine aJ rfl (Jp (C:=Mem s.m) wp kp s.b s.room s.aa s.ca s.l s.kv (.slice s.pa s.ps.length s.pc) (.slice a4 (s.os.length+1) c4) f.z f.k hf.1.iB f.v1 f.v2 f.v3 f.v4 true f.d hf.1.b9 hs.rp hs.pl hs.pm) rfl ?_;rintro w B ⟨a',bi,q,l',rfl,rfl,hq,e_⟩;refine mY (h:=?_);exact cJ [Row wp 0 (wC s.room s.aa s.ca (dp s.b) (.pointer none) l' (.slice a' q.length bi) (.slice s.pa s.ps.length s.pc) (.slice a4 (s.os.length+1) c4)),Sl 4 a4 (s.os.length+1) c4 (eK s.os++[.int .i64 14,.int .u64 0,.string ⟨#[]⟩,.slice none 0 0]),Mem s.m,lE a' bi q] ⟨rfl,{s with l:=l',oa:=a4,oc:=c4,os:=s.os++[(ia.mk 14 0 [] none 0 0)]},.down a' bi q,by
     unfold WS.hp;dsimp only;rw[zd,zC,Fh];rfl,⟨hs.ra,hs.rp,hs.pl,hs.pm,hs.lo,hs.hi,by dsimp only;rw[zd,zC];omega,e_⟩,by
     show mH iM (cont q);rw[hq];exact hf.1.sv s.ps,rfl,by dsimp only;rw[zd,zC],fun h hP=>(bM h hP).elim⟩ Sub.h
   ·rw[if_neg yh];refine Wq ?_;exact cJ [Row wp 0 (wC s.room s.aa s.ca (dp s.b) (dp kp) s.l s.kv (.slice s.pa s.ps.length s.pc) (.slice a4 (s.os.length+1) c4)),Sl 4 a4 (s.os.length+1) c4 (eK s.os++[.int .i64 14,.int .u64 0,.string ⟨#[]⟩,.slice none 0 0]),Mem s.m,Row kp 0 (cC f.z f.v1 f.v2 f.v3 f.v4 true),aF s.b f.d,Mem f.k] ⟨rfl,{s with oa:=a4,oc:=c4,os:=s.os++[(ia.mk 14 0 [] none 0 0)]},.bad kp f,by
     unfold WS.hp;dsimp only;rw[zd,zC,Fh];rfl,⟨hs.ra,hs.rp,hs.pl,hs.pm,hs.lo,hs.hi,by dsimp only;rw[zd,zC];omega,hs.l1⟩,hf,rfl,by dsimp only;rw[zd,zC],fun h hP=>(bM h hP).elim⟩ Sub.h
 ·intro td fin;refine rz 11 [5,9,10] (.look 0 (.look 1 (.look 2 (.look 3 (.look 4 (.alt (gZ [(5,true),(6,false),(7,false),(8,false),(9,true),(10,true),(11,false)]) (gZ [(9,true),(5,true),(6,false),(7,false),(8,false),(10,true),(11,false)]))))))) [Row wp 0 (wC s.room s.aa s.ca (dp s.b) (dp kp) s.l s.kv (.slice s.pa s.ps.length s.pc) (.slice s.oa s.os.length s.oc)),Row p3 0 c.cells] mixed (by kernel_rfl) bd ?_;refine dg rfl (lU rfl) ?_;refine dg rfl (Fz rfl) ?_;refine dg rfl (om rfl) ?_;refine dg rfl (qY rfl rfl rfl) ?_;refine dg rfl (rC rfl rfl) ?_;refine mf (gL _ ?_) (gL _ ?_)
  ·refine aE rfl (aq (vs:=[dp kp,c.val]) rfl (Qk kp s.b s.room o ho c hc) rfl ?_);rintro w B ⟨r,rfl,rfl,js,ie⟩;refine dc (h:=lM (h:=?_));refine aE rfl (aC rfl fun p4=>⟨bd,?_⟩);refine aE rfl (dt (us:=r.an.cells) rfl rfl (by rfl) (by rfl) (by rfl) ⟨bd,?_⟩);refine df (h:=?_);exact aV (fin (p4,r) ⟨js,ie⟩)
  ·refine aE rfl (aC rfl fun p4=>⟨bd,?_⟩);refine aE rfl (aq (vs:=[dp kp,c.val]) rfl (Qk kp s.b s.room o ho c hc) rfl ?_);rintro w B ⟨r,rfl,rfl,js,ie⟩;refine dc (h:=lM (h:=?_));refine aE rfl (dt (us:=r.an.cells) rfl rfl (by rfl) (by rfl) (by rfl) ⟨bd,?_⟩);refine df (h:=?_);exact aV (fin (p4,r) ⟨js,ie⟩)
end
section
open Go.Proofs Tryz
open Go.Proofs Go.RowKit
theorem Jt{A:HP}(b:Nat){bs:List (List UInt8)}(hk:mH iM bs){aa:Option Addr}{ca room:Nat}(ra:Reads A 5 aa 8 kH)(h1:1024≤room)(h2:room≤1048576):
 Spec prog 18 [dp b,.int .i64 room,.agg fD.toArray,.slice aa 8 ca] [aF b (f_ bs),A] (fun v B=>∃(kp:Nat) (q:KD),v= .tuple #[dp kp,.int .i64 0]∧
  B=[Row kp 0 (cC q.z (dp q.r0) (.map (some q.m0)) (dp q.r1) (.map (some q.m1)) false),bj q.r0 b (aW 0 q.ess),bj q.r1 b (aW 4 dm),Whole q.m0 (bz q.l q.c),Whole q.m1 (bz [] q.c1),Mem q.k,aF b (V.QD q.bs 0 0),A]∧q.Ok∧q.z.room=room∧∀x,x∈q.l.map ME.k↔x∈bB q.z.l):=
 (aa4 b hk ra h1 h2).mono fun v B ⟨kp,q,e1,e2,h⟩=>⟨kp,q,e1,e2,h⟩
theorem abl(q:List BS):(cont q).length=q.length:=by simp[cont]
theorem abm(wp:Nat)(s:WS)(hs:s.Ok)(ka:Option Addr)(kc:Nat)(ks:List BS)(hk:mH iM (cont ks)):
 Spec prog 36 [dp wp] [Row wp 0 (wC s.room s.aa s.ca (dp s.b) (.pointer none) s.l (.slice ka ks.length kc) (.slice s.pa s.ps.length s.pc) (.slice s.oa s.os.length s.oc)),Sl 4 s.oa s.os.length s.oc (eK s.os),Mem s.m,lE ka kc ks] (fun v B=>v= .tuple #[]∧
  ∃(b' kp:Nat) (q:KD),B=WS.hp wp {s with b:=b',kv:= .slice ka ks.length kc} (.up kp q 0 0)∧WM.Ok s.room (.up kp q 0 0)):=by
 refine x_sp func36 ntmps36 fun E cs Γ=>?_;have hc:=(PK hk).1;have h8:ks.length=8:=by rw[←abl];exact hk.1
 refine j7 (h:=?_);refine aJ rfl (Lm (lE.rd ka kc ks) (by omega)) rfl ?_;rintro v B (⟨_,b',rfl,rfl⟩|⟨h,_⟩)
 case inr=>rw[hc.may]at h;cases h
 refine bW (h:=?_);refine aZ 17 (aX [13] [0,1,2,3,4,5,6,7,8,9,10,11,12,13,14,15,16,17,18]) [Row wp 0 (wC s.room s.aa s.ca (dp s.b) (.pointer none) s.l (.slice ka ks.length kc) (.slice s.pa s.ps.length s.pc) (.slice s.oa s.os.length s.oc))] ?_;refine Ws ?_;refine aE rfl (aq (vs:=[dp b',.int .i64 s.room,.agg fD.toArray,.slice s.aa 8 s.ca]) rfl (Jt (A:=Mem s.m) b' hk hs.ra hs.lo hs.hi) rfl ?_);rintro v B ⟨kp,q,rfl,rfl,hq,jR,ue⟩;refine rP (h:=dQ (h:=?_));exact cJ [Row wp 0 (wC s.room s.aa s.ca (dp b') (dp kp) s.l (.slice ka ks.length kc) (.slice s.pa s.ps.length s.pc) (.slice s.oa s.os.length s.oc)),Sl 4 s.oa s.os.length s.oc (eK s.os),Mem s.m,Row kp 0 (cC q.z (dp q.r0) (.map (some q.m0)) (dp q.r1) (.map (some q.m1)) false),bj q.r0 b' (aW 0 q.ess),bj q.r1 b' (aW 4 dm),Whole q.m0 (bz q.l q.c),Whole q.m1 (bz [] q.c1),aF b' (V.QD q.bs 0 0),Mem q.k] ⟨rfl,b',kp,q,rfl,hq,ue,jR⟩ Sub.h
end
section
open Go.Proofs Tryz
open Go.Proofs Go.RowKit
structure AZ where
 kind:Int
 c:CZ
 n:Int
 pa:Option Addr
 pc:Nat
 ps:List Int
abbrev AZ.cells(a:AZ):List Value:=[.int .i64 a.kind,.int .i64 a.c.kind,tv a.c.s,nv a.c.id,a.c.q0,a.c.q1,a.c.q2,a.c.q3,a.c.q4,a.c.q5,a.c.q6,a.c.q7,a.c.q8,.int .i64 a.c.n,nv (ay a.c.base 0),nv (ay a.c.base 1),nv (ay a.c.base 2),nv (ay a.c.base 3),nv (ay a.c.fI 0),nv (ay a.c.fI 1),nv (ay a.c.fI 2),nv (ay a.c.fI 3),.int .i64 a.n,.slice a.pa a.ps.length a.pc]
abbrev AZ.val(a:AZ):Value:= .agg a.cells.toArray
structure AZ.In(A:HP)(a:AZ):Prop where
 c:a.kind=1→a.c.Ok
 rp:Reads A 1 a.pa a.ps.length (a.ps.map iv)
 pl:a.ps.length≤2^40
 pm:∀p∈a.ps,p≤9223372036854775807
 one:a.cells.all Value.oneCell'=true
def Fi(wp:Nat)(s:WS)(M:WM)(a:AZ)(A:HP)(B:List HP):Prop:=∃(s':WS) (M':WM),B=s'.hp wp M'++[A]∧s'.Ok∧M'.Ok s'.room∧s'.room=s.room∧s'.os.length≤s.os.length+1∧s.os.length≤s'.os.length∧
 (a.kind=2→∃ka kc ks,M'= .down ka kc ks)∧((a.kind=3∧∃ka kc ks,M= .down ka kc ks)→∃kp q u v,M'= .up kp q u v)∧
 (a.kind=1→(∃kp q u v,M= .up kp q u v)→sq a.c→∃(kp:Nat) (q:KD) (u v:Nat) (an:ia),M'= .up kp q u v∧s'.os=s.os++[an]∧an.e=0∧an.n=(bB q.z.l).length∧Reads (Mem q.k) 1 an.a (bB q.z.l).length ((bB q.z.l).map nv))
theorem abn(wp:Nat)(s:WS)(hs:s.Ok)(eF:s.os.length<2^20)(kp:Nat)(q:KD)(u v:Nat)(hM:WM.Ok s.room (.up kp q u v))(c:CZ)(hc:c.Ok):
 Spec prog 37 [dp wp,c.val] [Row wp 0 (wC s.room s.aa s.ca (dp s.b) (dp kp) s.l s.kv (.slice s.pa s.ps.length s.pc) (.slice s.oa s.os.length s.oc)),Sl 4 s.oa s.os.length s.oc (eK s.os),Mem s.m,Row kp 0 (cC q.z (dp q.r0) (.map (some q.m0)) (dp q.r1) (.map (some q.m1)) false),bj q.r0 s.b (aW 0 q.ess),bj q.r1 s.b (aW 4 dm),Whole q.m0 (bz q.l q.c),Whole q.m1 (bz [] q.c1),aF s.b (V.QD q.bs u v),Mem q.k] (fun w B=>w= .tuple #[]∧Js wp s (KO.nM (.up q u v)) c B):=
 (Ql wp kp s hs eF (.up q u v) hM c hc).pre (ak.cons _ (ak.cons _ (ak.cons _ (ak.Jr _))))
theorem abo{A:HP}(wp:Nat)(s:WS)(hs:s.Ok)(eF:s.os.length<2^20)(kp:Nat)(q:KD)(u v:Nat)(hM:WM.Ok s.room (.up kp q u v))(a:AZ)(ha:a.In A):
 Spec prog 20 [dp wp,a.val] [Row wp 0 (wC s.room s.aa s.ca (dp s.b) (dp kp) s.l s.kv (.slice s.pa s.ps.length s.pc) (.slice s.oa s.os.length s.oc)),Sl 4 s.oa s.os.length s.oc (eK s.os),Mem s.m,Row kp 0 (cC q.z (dp q.r0) (.map (some q.m0)) (dp q.r1) (.map (some q.m1)) false),bj q.r0 s.b (aW 0 q.ess),bj q.r1 s.b (aW 4 dm),Whole q.m0 (bz q.l q.c),Whole q.m1 (bz [] q.c1),aF s.b (V.QD q.bs u v),Mem q.k,A] (fun w B=>w= .tuple #[]∧Fi wp s (.up kp q u v) a A B):=by
 refine x_sp func20 ntmps20 fun E cs Γ=>?_;refine dx (h:=?_);refine ao (aM rfl rfl fun p3=>?_);refine aA (h:=?_);refine yQ (.inl rfl) rfl rfl (.inr rfl) rfl ?_;refine Wq ?_;have dH:∀{p:Prop},(∃ka kc ks,(.up kp q u v:WM)= .down ka kc ks)→p:=fun ⟨_,_,_,h⟩=>by cases h
 by_cases h1:a.kind=1
 ·refine aA (h:=?_);refine aq (vs:=[dp wp,a.c.val]) rfl (abn wp s hs eF kp q u v hM a.c (ha.c h1)) rfl ?_;rintro w B ⟨rfl,dv⟩;refine yT (Γ':=fun Q:{Q:WS×WM//Q.1.Ok∧Q.2.Ok Q.1.room∧Q.1.room=s.room∧Q.1.os.length=s.os.length+1∧(KO.nM (.up q u v)→sq a.c→∃(kp:Nat) (q':KD) (u v:Nat) (an:ia),Q.2= .up kp q' u v∧Q.1.os=s.os++[an]∧an.e=0∧an.n=(bB q'.z.l).length∧Reads (Mem q'.k) 1 an.a (bB q'.z.l).length ((bB q'.z.l).map nv))}=>Sep (Q.1.1.hp wp Q.1.2)::A::Γ) ?_ ?_
  ·intro E w st;obtain⟨s',M',rfl,g1,g2,g3,g4,g5⟩:=dv;exact⟨⟨(s',M'),g1,g2,g3,g4,g5⟩,(ak.cA _ _).st ((ak.append _ Sub.h).st st)⟩
  ·rintro⟨⟨s',M'⟩,g1,g2,g3,g4,g5⟩;dsimp only at g1 g2 g3 g4 g5⊢;refine eR (h:=iz (h:=?_));refine cJ (s'.hp wp M'++[A]) ⟨rfl,s',M',rfl,g1,g2,g3,by omega,by omega,fun h=>by omega,fun h=>by omega,fun _ hu hp=>g5 ?_ hp⟩ ?_
   ·obtain⟨_,_,_,_,e⟩:=hu
    first|trivial|cases e
   ·refine(ak.cx _ _).trans ?_;rw[zr];exact .refl _
 by_cases h2:a.kind=2
 ·refine aA (h:=?_);refine aq (vs:=[dp wp,.slice a.pa a.ps.length a.pc]) rfl (Jp (C:=A) wp kp s.b s.room s.aa s.ca s.l s.kv (.slice s.pa s.ps.length s.pc) (.slice s.oa s.os.length s.oc) q.z q.k hM.1.iB (dp q.r0) (.map (some q.m0)) (dp q.r1) (.map (some q.m1)) false (V.QD q.bs u v) ((hM.1.ro.b9 u v).mono (by decide)) ha.rp ha.pl ha.pm) rfl ?_;rintro w B ⟨a',bi,ks,l',rfl,rfl,hq,e_⟩;refine mY (h:=iz (h:=?_));exact cJ [Row wp 0 (wC s.room s.aa s.ca (dp s.b) (.pointer none) l' (.slice a' ks.length bi) (.slice s.pa s.ps.length s.pc) (.slice s.oa s.os.length s.oc)),Sl 4 s.oa s.os.length s.oc (eK s.os),Mem s.m,lE a' bi ks,A] ⟨rfl,{s with l:=l'},.down a' bi ks,rfl,⟨hs.ra,hs.rp,hs.pl,hs.pm,hs.lo,hs.hi,hs.ol,e_⟩,by
   show mH iM (cont ks);rw[hq];exact hM.1.ro.vH u v a.ps,rfl,by dsimp only;omega,by dsimp only;omega,fun _=>⟨a',bi,ks,rfl⟩,fun h=>by omega,fun h=>by omega⟩ Sub.h
 have kI:ak [Row wp 0 (wC s.room s.aa s.ca (dp s.b) (dp kp) s.l s.kv (.slice s.pa s.ps.length s.pc) (.slice s.oa s.os.length s.oc)),Sl 4 s.oa s.os.length s.oc (eK s.os),Mem s.m,Row kp 0 (cC q.z (dp q.r0) (.map (some q.m0)) (dp q.r1) (.map (some q.m1)) false),bj q.r0 s.b (aW 0 q.ess),bj q.r1 s.b (aW 4 dm),Whole q.m0 (bz q.l q.c),Whole q.m1 (bz [] q.c1),aF s.b (V.QD q.bs u v),Mem q.k,A] (WS.hp wp s (.up kp q u v)++[A]):= .refl _;by_cases h4:a.kind=4
 ·refine Wq ?_;refine aJ rfl (Fg a.n) rfl ?_;rintro w B ⟨rfl,rfl⟩;refine dq (h:=?_);by_cases ht:1≤a.n∧a.n≤1000
  ·rw[decide_eq_true ht];have mE:((V.QD q.bs u v)).oD a.n=(V.QD q.bs a.n.toNat v):=by
    first|rfl|(unfold Dk.oD V.QD;simp;omega)
   refine rk (h:=eM (h:=?_));refine aZ 7 (aX [6] [0,1,2,3,4,5,6]) [Row wp 0 (wC s.room s.aa s.ca (dp s.b) (dp kp) s.l s.kv (.slice s.pa s.ps.length s.pc) (.slice s.oa s.os.length s.oc)),Row p3 0 a.cells] ?_;refine Ws ?_;refine aE rfl (aq rfl (K4 s.b (V.QD q.bs u v) a.n (by omega)) rfl ?_);rintro w B ⟨rfl,rfl⟩;rw[mE];refine dc (h:=dQ (h:=?_));refine aJ rfl (Qh ha.rp (by have:=ha.pl;omega) (KW a.ps)) rfl ?_;rintro w B ⟨a2,c2,rfl,rfl,eV⟩;refine qC (h:=?_);refine fw a2 (h:=s.m) fun m2 jv R2 tN=>?_;refine iz (h:=?_);exact cJ [Row wp 0 (wC s.room s.aa s.ca (dp s.b) (dp kp) s.l s.kv (.slice a2 a.ps.length c2) (.slice s.oa s.os.length s.oc)),Sl 4 s.oa s.os.length s.oc (eK s.os),Mem m2,Row kp 0 (cC q.z (dp q.r0) (.map (some q.m0)) (dp q.r1) (.map (some q.m1)) false),bj q.r0 s.b (aW 0 q.ess),bj q.r1 s.b (aW 4 dm),Whole q.m0 (bz q.l q.c),Whole q.m1 (bz [] q.c1),aF s.b (V.QD q.bs a.n.toNat v),Mem q.k,A] ⟨rfl,{s with pa:=a2,pc:=c2,ps:=a.ps,m:=m2},.up kp q a.n.toNat v,rfl,⟨hs.ra.up jv,R2,ha.pl,ha.pm,hs.lo,hs.hi,hs.ol,hs.l1⟩,hM,rfl,by dsimp only;omega,by dsimp only;omega,fun h=>by omega,fun h=>by omega,fun h=>by omega⟩ Sub.h
  ·rw[decide_eq_false ht];refine Wq ?_;exact cJ [Row wp 0 (wC s.room s.aa s.ca (dp s.b) (dp kp) s.l s.kv (.slice s.pa s.ps.length s.pc) (.slice s.oa s.os.length s.oc)),Sl 4 s.oa s.os.length s.oc (eK s.os),Mem s.m,Row kp 0 (cC q.z (dp q.r0) (.map (some q.m0)) (dp q.r1) (.map (some q.m1)) false),bj q.r0 s.b (aW 0 q.ess),bj q.r1 s.b (aW 4 dm),Whole q.m0 (bz q.l q.c),Whole q.m1 (bz [] q.c1),aF s.b (V.QD q.bs u v),Mem q.k,A] ⟨rfl,s,.up kp q u v,rfl,hs,hM,rfl,by omega,by omega,fun h=>by omega,fun h=>by omega,fun h=>by omega⟩ Sub.h
 by_cases h5:a.kind=5
 ·refine Wq ?_;refine aJ rfl (Fg a.n) rfl ?_;rintro w B ⟨rfl,rfl⟩;refine dq (h:=?_);by_cases ht:1≤a.n∧a.n≤1000
  ·rw[decide_eq_true ht];have mE:((V.QD q.bs u v)).qi a.n=(V.QD q.bs u a.n.toNat):=by
    first|rfl|(unfold Dk.qi V.QD;simp;omega)
   refine rk (h:=?_);refine aZ 7 (aX [6] [0,1,2,3,4,5,6]) [Row wp 0 (wC s.room s.aa s.ca (dp s.b) (dp kp) s.l s.kv (.slice s.pa s.ps.length s.pc) (.slice s.oa s.os.length s.oc)),Row p3 0 a.cells] ?_;refine Ws ?_;refine aE rfl (aq rfl (K8 s.b (V.QD q.bs u v) a.n (by omega)) rfl ?_);rintro w B ⟨rfl,rfl⟩;rw[mE];refine dc (h:=wY (h:=?_));exact cJ [Row wp 0 (wC s.room s.aa s.ca (dp s.b) (dp kp) s.l s.kv (.slice s.pa s.ps.length s.pc) (.slice s.oa s.os.length s.oc)),Sl 4 s.oa s.os.length s.oc (eK s.os),Mem s.m,Row kp 0 (cC q.z (dp q.r0) (.map (some q.m0)) (dp q.r1) (.map (some q.m1)) false),bj q.r0 s.b (aW 0 q.ess),bj q.r1 s.b (aW 4 dm),Whole q.m0 (bz q.l q.c),Whole q.m1 (bz [] q.c1),aF s.b (V.QD q.bs u a.n.toNat),Mem q.k,A] ⟨rfl,s,.up kp q u a.n.toNat,rfl,hs,hM,rfl,by omega,by omega,fun h=>by omega,fun h=>by omega,fun h=>by omega⟩ Sub.h
  ·rw[decide_eq_false ht];refine Wq ?_;exact cJ [Row wp 0 (wC s.room s.aa s.ca (dp s.b) (dp kp) s.l s.kv (.slice s.pa s.ps.length s.pc) (.slice s.oa s.os.length s.oc)),Sl 4 s.oa s.os.length s.oc (eK s.os),Mem s.m,Row kp 0 (cC q.z (dp q.r0) (.map (some q.m0)) (dp q.r1) (.map (some q.m1)) false),bj q.r0 s.b (aW 0 q.ess),bj q.r1 s.b (aW 4 dm),Whole q.m0 (bz q.l q.c),Whole q.m1 (bz [] q.c1),aF s.b (V.QD q.bs u v),Mem q.k,A] ⟨rfl,s,.up kp q u v,rfl,hs,hM,rfl,by omega,by omega,fun h=>by omega,fun h=>by omega,fun h=>by omega⟩ Sub.h
 ·refine Wq ?_;exact cJ [Row wp 0 (wC s.room s.aa s.ca (dp s.b) (dp kp) s.l s.kv (.slice s.pa s.ps.length s.pc) (.slice s.oa s.os.length s.oc)),Sl 4 s.oa s.os.length s.oc (eK s.os),Mem s.m,Row kp 0 (cC q.z (dp q.r0) (.map (some q.m0)) (dp q.r1) (.map (some q.m1)) false),bj q.r0 s.b (aW 0 q.ess),bj q.r1 s.b (aW 4 dm),Whole q.m0 (bz q.l q.c),Whole q.m1 (bz [] q.c1),aF s.b (V.QD q.bs u v),Mem q.k,A] ⟨rfl,s,.up kp q u v,rfl,hs,hM,rfl,by omega,by omega,fun h=>by omega,fun h=>dH h.2,fun h=>by omega⟩ Sub.h
theorem abp(wp:Nat)(s:WS)(hs:s.Ok)(eF:s.os.length<2^20)(kp:Nat)(f:KF)(hM:WM.Ok s.room (.bad kp f))(c:CZ)(hc:c.Ok):
 Spec prog 37 [dp wp,c.val] [Row wp 0 (wC s.room s.aa s.ca (dp s.b) (dp kp) s.l s.kv (.slice s.pa s.ps.length s.pc) (.slice s.oa s.os.length s.oc)),Sl 4 s.oa s.os.length s.oc (eK s.os),Mem s.m,Row kp 0 (cC f.z f.v1 f.v2 f.v3 f.v4 true),aF s.b f.d,Mem f.k] (fun w B=>w= .tuple #[]∧Js wp s (KO.nM (.bad f)) c B):=
 (Ql wp kp s hs eF (.bad f) hM c hc).pre (ak.cons _ (ak.cons _ (ak.cons _ (ak.Jr _))))
theorem abq{A:HP}(wp:Nat)(s:WS)(hs:s.Ok)(eF:s.os.length<2^20)(kp:Nat)(f:KF)(hM:WM.Ok s.room (.bad kp f))(a:AZ)(ha:a.In A):
 Spec prog 20 [dp wp,a.val] [Row wp 0 (wC s.room s.aa s.ca (dp s.b) (dp kp) s.l s.kv (.slice s.pa s.ps.length s.pc) (.slice s.oa s.os.length s.oc)),Sl 4 s.oa s.os.length s.oc (eK s.os),Mem s.m,Row kp 0 (cC f.z f.v1 f.v2 f.v3 f.v4 true),aF s.b f.d,Mem f.k,A] (fun w B=>w= .tuple #[]∧Fi wp s (.bad kp f) a A B):=by
 refine x_sp func20 ntmps20 fun E cs Γ=>?_;refine dx (h:=?_);refine ao (aM rfl rfl fun p3=>?_);refine aA (h:=?_);refine yQ (.inl rfl) rfl rfl (.inr rfl) rfl ?_;refine Wq ?_;have dH:∀{p:Prop},(∃ka kc ks,(.bad kp f:WM)= .down ka kc ks)→p:=fun ⟨_,_,_,h⟩=>by cases h
 by_cases h1:a.kind=1
 ·refine aA (h:=?_);refine aq (vs:=[dp wp,a.c.val]) rfl (abp wp s hs eF kp f hM a.c (ha.c h1)) rfl ?_;rintro w B ⟨rfl,dv⟩;refine yT (Γ':=fun Q:{Q:WS×WM//Q.1.Ok∧Q.2.Ok Q.1.room∧Q.1.room=s.room∧Q.1.os.length=s.os.length+1∧(KO.nM (.bad f)→sq a.c→∃(kp:Nat) (q':KD) (u v:Nat) (an:ia),Q.2= .up kp q' u v∧Q.1.os=s.os++[an]∧an.e=0∧an.n=(bB q'.z.l).length∧Reads (Mem q'.k) 1 an.a (bB q'.z.l).length ((bB q'.z.l).map nv))}=>Sep (Q.1.1.hp wp Q.1.2)::A::Γ) ?_ ?_
  ·intro E w st;obtain⟨s',M',rfl,g1,g2,g3,g4,g5⟩:=dv;exact⟨⟨(s',M'),g1,g2,g3,g4,g5⟩,(ak.cA _ _).st ((ak.append _ Sub.h).st st)⟩
  ·rintro⟨⟨s',M'⟩,g1,g2,g3,g4,g5⟩;dsimp only at g1 g2 g3 g4 g5⊢;refine eR (h:=iz (h:=?_));refine cJ (s'.hp wp M'++[A]) ⟨rfl,s',M',rfl,g1,g2,g3,by omega,by omega,fun h=>by omega,fun h=>by omega,fun _ hu hp=>g5 ?_ hp⟩ ?_
   ·obtain⟨_,_,_,_,e⟩:=hu
    first|trivial|cases e
   ·refine(ak.cx _ _).trans ?_;rw[zr];exact .refl _
 by_cases h2:a.kind=2
 ·refine aA (h:=?_);refine aq (vs:=[dp wp,.slice a.pa a.ps.length a.pc]) rfl (Jp (C:=A) wp kp s.b s.room s.aa s.ca s.l s.kv (.slice s.pa s.ps.length s.pc) (.slice s.oa s.os.length s.oc) f.z f.k hM.1.iB f.v1 f.v2 f.v3 f.v4 true f.d hM.1.b9 ha.rp ha.pl ha.pm) rfl ?_;rintro w B ⟨a',bi,ks,l',rfl,rfl,hq,e_⟩;refine mY (h:=iz (h:=?_));exact cJ [Row wp 0 (wC s.room s.aa s.ca (dp s.b) (.pointer none) l' (.slice a' ks.length bi) (.slice s.pa s.ps.length s.pc) (.slice s.oa s.os.length s.oc)),Sl 4 s.oa s.os.length s.oc (eK s.os),Mem s.m,lE a' bi ks,A] ⟨rfl,{s with l:=l'},.down a' bi ks,rfl,⟨hs.ra,hs.rp,hs.pl,hs.pm,hs.lo,hs.hi,hs.ol,e_⟩,by
   show mH iM (cont ks);rw[hq];exact hM.1.sv a.ps,rfl,by dsimp only;omega,by dsimp only;omega,fun _=>⟨a',bi,ks,rfl⟩,fun h=>by omega,fun h=>by omega⟩ Sub.h
 have kI:ak [Row wp 0 (wC s.room s.aa s.ca (dp s.b) (dp kp) s.l s.kv (.slice s.pa s.ps.length s.pc) (.slice s.oa s.os.length s.oc)),Sl 4 s.oa s.os.length s.oc (eK s.os),Mem s.m,Row kp 0 (cC f.z f.v1 f.v2 f.v3 f.v4 true),aF s.b f.d,Mem f.k,A] (WS.hp wp s (.bad kp f)++[A]):= .refl _;by_cases h4:a.kind=4
 ·refine Wq ?_;refine aJ rfl (Fg a.n) rfl ?_;rintro w B ⟨rfl,rfl⟩;refine dq (h:=?_);by_cases ht:1≤a.n∧a.n≤1000
  ·rw[decide_eq_true ht];have mE:(f.d).oD a.n=(f.d.oD a.n):=by
    first|rfl|(unfold Dk.oD V.QD;simp;omega)
   refine rk (h:=eM (h:=?_));refine aZ 7 (aX [6] [0,1,2,3,4,5,6]) [Row wp 0 (wC s.room s.aa s.ca (dp s.b) (dp kp) s.l s.kv (.slice s.pa s.ps.length s.pc) (.slice s.oa s.os.length s.oc)),Row p3 0 a.cells] ?_;refine Ws ?_;refine aE rfl (aq rfl (K4 s.b f.d a.n (by omega)) rfl ?_);rintro w B ⟨rfl,rfl⟩;rw[mE];refine dc (h:=dQ (h:=?_));refine aJ rfl (Qh ha.rp (by have:=ha.pl;omega) (KW a.ps)) rfl ?_;rintro w B ⟨a2,c2,rfl,rfl,eV⟩;refine qC (h:=?_);refine fw a2 (h:=s.m) fun m2 jv R2 tN=>?_;refine iz (h:=?_);exact cJ [Row wp 0 (wC s.room s.aa s.ca (dp s.b) (dp kp) s.l s.kv (.slice a2 a.ps.length c2) (.slice s.oa s.os.length s.oc)),Sl 4 s.oa s.os.length s.oc (eK s.os),Mem m2,Row kp 0 (cC f.z f.v1 f.v2 f.v3 f.v4 true),aF s.b (f.d.oD a.n),Mem f.k,A] ⟨rfl,{s with pa:=a2,pc:=c2,ps:=a.ps,m:=m2},.bad kp {f with d:=f.d.oD a.n},rfl,⟨hs.ra.up jv,R2,ha.pl,ha.pm,hs.lo,hs.hi,hs.ol,hs.l1⟩,⟨⟨hM.1.iB,hM.1.sl,hM.1.sv,hM.1.b9.fs _ rfl⟩,hM.2⟩,rfl,by dsimp only;omega,by dsimp only;omega,fun h=>by omega,fun h=>by omega,fun h=>by omega⟩ Sub.h
  ·rw[decide_eq_false ht];refine Wq ?_;exact cJ [Row wp 0 (wC s.room s.aa s.ca (dp s.b) (dp kp) s.l s.kv (.slice s.pa s.ps.length s.pc) (.slice s.oa s.os.length s.oc)),Sl 4 s.oa s.os.length s.oc (eK s.os),Mem s.m,Row kp 0 (cC f.z f.v1 f.v2 f.v3 f.v4 true),aF s.b f.d,Mem f.k,A] ⟨rfl,s,.bad kp f,rfl,hs,hM,rfl,by omega,by omega,fun h=>by omega,fun h=>by omega,fun h=>by omega⟩ Sub.h
 by_cases h5:a.kind=5
 ·refine Wq ?_;refine aJ rfl (Fg a.n) rfl ?_;rintro w B ⟨rfl,rfl⟩;refine dq (h:=?_);by_cases ht:1≤a.n∧a.n≤1000
  ·rw[decide_eq_true ht];have mE:(f.d).qi a.n=(f.d.qi a.n):=by
    first|rfl|(unfold Dk.qi V.QD;simp;omega)
   refine rk (h:=?_);refine aZ 7 (aX [6] [0,1,2,3,4,5,6]) [Row wp 0 (wC s.room s.aa s.ca (dp s.b) (dp kp) s.l s.kv (.slice s.pa s.ps.length s.pc) (.slice s.oa s.os.length s.oc)),Row p3 0 a.cells] ?_;refine Ws ?_;refine aE rfl (aq rfl (K8 s.b f.d a.n (by omega)) rfl ?_);rintro w B ⟨rfl,rfl⟩;rw[mE];refine dc (h:=wY (h:=?_));exact cJ [Row wp 0 (wC s.room s.aa s.ca (dp s.b) (dp kp) s.l s.kv (.slice s.pa s.ps.length s.pc) (.slice s.oa s.os.length s.oc)),Sl 4 s.oa s.os.length s.oc (eK s.os),Mem s.m,Row kp 0 (cC f.z f.v1 f.v2 f.v3 f.v4 true),aF s.b (f.d.qi a.n),Mem f.k,A] ⟨rfl,s,.bad kp {f with d:=f.d.qi a.n},rfl,hs,⟨⟨hM.1.iB,hM.1.sl,hM.1.sv,hM.1.b9.fs _ rfl⟩,hM.2⟩,rfl,by omega,by omega,fun h=>by omega,fun h=>by omega,fun h=>by omega⟩ Sub.h
  ·rw[decide_eq_false ht];refine Wq ?_;exact cJ [Row wp 0 (wC s.room s.aa s.ca (dp s.b) (dp kp) s.l s.kv (.slice s.pa s.ps.length s.pc) (.slice s.oa s.os.length s.oc)),Sl 4 s.oa s.os.length s.oc (eK s.os),Mem s.m,Row kp 0 (cC f.z f.v1 f.v2 f.v3 f.v4 true),aF s.b f.d,Mem f.k,A] ⟨rfl,s,.bad kp f,rfl,hs,hM,rfl,by omega,by omega,fun h=>by omega,fun h=>by omega,fun h=>by omega⟩ Sub.h
 ·refine Wq ?_;exact cJ [Row wp 0 (wC s.room s.aa s.ca (dp s.b) (dp kp) s.l s.kv (.slice s.pa s.ps.length s.pc) (.slice s.oa s.os.length s.oc)),Sl 4 s.oa s.os.length s.oc (eK s.os),Mem s.m,Row kp 0 (cC f.z f.v1 f.v2 f.v3 f.v4 true),aF s.b f.d,Mem f.k,A] ⟨rfl,s,.bad kp f,rfl,hs,hM,rfl,by omega,by omega,fun h=>by omega,fun h=>dH h.2,fun h=>by omega⟩ Sub.h
end
section
open Go.Proofs Tryz
open Go.Proofs Go.RowKit
theorem abr{A:HP}(wp:Nat)(s:WS)(hs:s.Ok)(ka:Option Addr)(kc:Nat)(ks:List BS)(hM:WM.Ok s.room (.down ka kc ks))(a:AZ):
 Spec prog 20 [dp wp,a.val] [Row wp 0 (wC s.room s.aa s.ca (dp s.b) (.pointer none) s.l (.slice ka ks.length kc) (.slice s.pa s.ps.length s.pc) (.slice s.oa s.os.length s.oc)),Sl 4 s.oa s.os.length s.oc (eK s.os),Mem s.m,lE ka kc ks,A] (fun w B=>w= .tuple #[]∧Fi wp s (.down ka kc ks) a A B):=by
 refine x_sp func20 ntmps20 fun E cs Γ=>?_;have AN:∀{p:Prop},(∃kp q u v,(WM.down ka kc ks:WM)= .up kp q u v)→p:=fun ⟨_,_,_,_,h⟩=>by cases h
 refine dx (h:=?_);refine ao (aM rfl rfl fun p3=>?_);refine aA (h:=?_);refine yQ (.inl rfl) rfl rfl (.inr rfl) rfl ?_;refine Wq ?_;by_cases h3:a.kind=3
 ·refine Wq ?_;refine aJ rfl (abm wp s hs ka kc ks hM) rfl ?_;rintro w B ⟨rfl,b',kp,q,rfl,hq⟩;dsimp only[WS.hp];refine mY (h:=?_);exact ap (vs:=[]) rfl [Row wp 0 (wC s.room s.aa s.ca (dp b') (dp kp) s.l (.slice ka ks.length kc) (.slice s.pa s.ps.length s.pc) (.slice s.oa s.os.length s.oc)),Sl 4 s.oa s.os.length s.oc (eK s.os),Mem s.m,Row kp 0 (cC q.z (dp q.r0) (.map (some q.m0)) (dp q.r1) (.map (some q.m1)) false),bj q.r0 b' (aW 0 q.ess),bj q.r1 b' (aW 4 dm),Whole q.m0 (bz q.l q.c),Whole q.m1 (bz [] q.c1),aF b' (V.QD q.bs 0 0),Mem q.k,A]
   ⟨rfl,{s with b:=b',kv:= .slice ka ks.length kc},.up kp q 0 0,rfl,⟨hs.ra,hs.rp,hs.pl,hs.pm,hs.lo,hs.hi,hs.ol,hs.l1⟩,hq,rfl,by dsimp only;omega,by dsimp only;omega,fun h=>by omega,fun _=>⟨kp,q,0,0,rfl⟩,fun h=>by omega⟩ Sub.h
 ·refine Wq ?_;exact ap (vs:=[]) rfl [Row wp 0 (wC s.room s.aa s.ca (dp s.b) (.pointer none) s.l (.slice ka ks.length kc) (.slice s.pa s.ps.length s.pc) (.slice s.oa s.os.length s.oc)),Sl 4 s.oa s.os.length s.oc (eK s.os),Mem s.m,lE ka kc ks,A]
   ⟨rfl,s,.down ka kc ks,rfl,hs,hM,rfl,by omega,by omega,fun _=>⟨ka,kc,ks,rfl⟩,fun h=>absurd h.1 h3,fun _ h=>AN h⟩ Sub.h
theorem abt{A:HP}(wp:Nat)(s:WS)(hs:s.Ok)(eF:s.os.length<2^20)(M:WM)(hM:M.Ok s.room)(a:AZ)(ha:a.In A):Spec prog 20 [dp wp,a.val] (s.hp wp M++[A]) (fun w B=>w= .tuple #[]∧Fi wp s M a A B):=by
 cases M with
 |up kp q u v=>exact abo wp s hs eF kp q u v hM a ha
 |bad kp f=>exact abq wp s hs eF kp f hM a ha
 |down ka kc ks=>exact abr wp s hs ka kc ks hM a
theorem abu{A:HP}(wp:Nat)(s:WS)(hs:s.Ok)(eF:s.os.length<2^20)(M:WM)(hM:M.Ok s.room)(a:AZ)(ha:a.In A):Spec prog 20 [dp wp,a.val] [Sep (s.hp wp M),A] (fun w B=>w= .tuple #[]∧∃(s':WS) (M':WM),B=[Sep (s'.hp wp M'),A]∧s'.Ok∧M'.Ok s'.room∧s'.room=s.room∧s'.os.length≤s.os.length+1∧s.os.length≤s'.os.length∧
 (a.kind=2→∃ka kc ks,M'= .down ka kc ks)∧((a.kind=3∧∃ka kc ks,M= .down ka kc ks)→∃kp q u v,M'= .up kp q u v)∧
 (a.kind=1→(∃kp q u v,M= .up kp q u v)→sq a.c→∃(kp:Nat) (q:KD) (u v:Nat) (an:ia),M'= .up kp q u v∧s'.os=s.os++[an]∧an.e=0∧an.n=(bB q.z.l).length∧Reads (Mem q.k) 1 an.a (bB q.z.l).length ((bB q.z.l).map nv))):=
 ((abt wp s hs eF M hM a ha).pre (ak.cx _ _)).post fun w B ⟨e,s',M',hB,h⟩=>⟨_,⟨e,s',M',rfl,h⟩,hB ▸ ak.cA _ _⟩
end
section
open Go.Proofs Tryz
open Go.Proofs Go.RowKit
theorem Qm:mH iM (List.replicate 8 []):=by
 refine⟨rfl,fun k hk=>?_⟩;obtain⟨_,hn⟩:=tW hk;have h:=Z_ (n:=128*2^k) (by omega);rw[Pa,Pa];exact⟨⟨by decide,[],h.1,fun t ht=>by cases ht⟩,⟨by decide,[],h.1,rfl⟩⟩
abbrev iN(l:List AZ):List Value:=l.flatMap AZ.cells
theorem AZ.len(a:AZ):a.cells.length=24:=rfl
theorem B7{l:List AZ}{i:Nat}{z:AZ}(h:l[i]? =some z){j:Nat}{v:Value}(hv:z.cells[j]? =some v):(iN l)[i*24+j]? =some v:=by
 obtain⟨h1,h2⟩:=List.getElem?_eq_some_iff.1 h;have:=oA (l:=l) (f:=AZ.cells) AZ.len h1 j (by have:=(List.getElem?_eq_some_iff.1 hv).1;rwa[AZ.len]at this);rw[this,h2,hv]
def abv(s:WS)(M:WM):Prop:=∃(kp:Nat) (q:KD) (u v:Nat) (os:List ia) (an:ia),M= .up kp q u v∧s.os=os++[an]∧an.e=0∧an.n=(bB q.z.l).length∧Reads (Mem q.k) 1 an.a (bB q.z.l).length ((bB q.z.l).map nv)
structure Qn(n:Nat)(acts:List AZ):Prop where
 len:acts.length=n+3
 k2:∀a,acts[n]? =some a→a.kind=2
 k3:∀a,acts[n+1]? =some a→a.kind=3
 k1:∀a,acts[n+2]? =some a→a.kind=1∧sq a.c
abbrev pV:pU:=⟨.int .i64 0,.int .i64 0,.int .u64 0,.int .u64 0,.int .u64 0,.int .u64 0,.int .i64 0,.slice none 0 0,.slice none 0 0,.slice none 0 0⟩
abbrev vO(oa:Option Addr)(on oc:Nat)(z:BZ)(u:Bool):List Value:=[.slice oa on oc,.int .i64 z.room,.int .i64 0,.int .u64 0,.int .u64 0,.int .u64 0,.int .u64 0,.int .i64 0,.slice z.aa 8 z.ca,.slice z.ad z.l.length z.ct,.slice z.al 0 z.cl,.bool u]
structure abw(k:PH)(room:Nat)(z:BZ)(oa:Option Addr)(os:List ia)(an:ia):Prop where
 iB:z.In (Mem k)
 room:z.room=room
 sl:cR z.l≤z.room
 ro:Reads (Mem k) 4 oa (os++[an]).length (eK (os++[an]))
 e:an.e=0
 n:an.n=(bB z.l).length
 ri:Reads (Mem k) 1 an.a (bB z.l).length ((bB z.l).map nv)
 ol:(os++[an]).length≤1024
theorem abx{A:HP}{room n:Nat}{aa al:Option Addr}{ca cl:Nat}{acts:List AZ}(ra:Reads A 5 aa 8 kH)(h1:1024≤room)(h2:room≤1048576)(R:Reads A 24 al acts.length (iN acts))(hA:∀a∈acts,a.In A)(hn:acts.length≤200)(hE:Qn n acts):
 Spec prog 7 [.int .i64 room,.agg fD.toArray,.slice aa 8 ca,.slice al acts.length cl] [A] (fun v B=>∃(k:PH) (z:BZ) (oa:Option Addr) (oc:Nat) (os:List ia) (an:ia),v= .tuple #[.agg (vO oa (os++[an]).length oc z true).toArray,.int .i64 0]∧B=[A,Mem k]∧abw k room z oa os an):=by
 refine x_sp func7 ntmps7 fun E cs Γ=>?_;refine dx (h:=?_);refine ao (aM rfl rfl fun p5=>?_);refine ao (aC rfl fun p8=>?_);refine rE (h:=?_);refine aJ rfl Lo rfl ?_;rintro v B ⟨b,rfl,rfl⟩;rw[O6];refine n9 (h:=?_);refine aq (vs:=[dp b,.int .i64 room,.agg fD.toArray,.slice aa 8 ca]) rfl (Jt (A:=A) b Qm ra h1 h2) rfl ?_;rintro v B ⟨kp,q,rfl,rfl,hq,jR,ue⟩;refine a_ (h:=?_);have sP:¬((acts.length:Nat):Int)>200:=by omega
 refine Wq ?_;refine aZ 8 (aX [3,7] [0,1,2,4,5,3,6,7,8]) [A,Row p5 0 fD] ?_;refine Ws ?_;refine aE rfl (aq rfl (A0 ra (by omega) rfl) rfl ?_);rintro v B ⟨a2,c2,rfl,rfl,eV⟩;refine dc (h:=vb (h:=?_));refine aE rfl (aM (vs:=wC room a2 c2 (dp b) (dp kp) pV (.slice none 0 0) (.slice none 0 0) (.slice none 0 0)) rfl rfl fun wp=>⟨bd,?_⟩);refine df (h:=?_);refine bJ (ak.yd _) ?_;refine fw a2 (h:=PH.emp) fun m hm Ra tI=>?_;have vB:WS.Ok ⟨room,a2,c2,b,pV,.slice none 0 0,none,0,[],none,0,[],m⟩:=⟨Ra,Fe m 1,zj _,(fun p hp=>by cases hp),h1,h2,zj _,rfl⟩
 have Ju:WM.Ok room (.up kp q 0 0):=⟨hq,ue,jR⟩
 refine gy (Γ':=Sep (WS.hp wp ⟨room,a2,c2,b,pV,.slice none 0 0,none,0,[],none,0,[],m⟩ (.up kp q 0 0))::A::Row p8 0 [.slice none 0 0,.int .i64 0,.int .i64 0,.int .u64 0,.int .u64 0,.int .u64 0,.int .u64 0,.int .i64 0,.slice none 0 0,.slice none 0 0,.slice none 0 0,.bool false]::Γ) (fun E w st=>(ak.cA _ _).st (((ak.cq 4 _).trans (Sub.h (Δ:=[Row wp 0 (wC room a2 c2 (dp b) (dp kp) pV (.slice none 0 0) (.slice none 0 0) (.slice none 0 0)),Sl 4 none 0 0 [],Mem m,Row kp 0 (cC q.z (dp q.r0) (.map (some q.m0)) (dp q.r1) (.map (some q.m1)) false),bj q.r0 b (aW 0 q.ess),bj q.r1 b (aW 4 dm),Whole q.m0 (bz q.l q.c),Whole q.m1 (bz [] q.c1),aF b (V.QD q.bs 0 0),Mem q.k]++(A::Row p8 0 [.slice none 0 0,.int .i64 0,.int .i64 0,.int .u64 0,.int .u64 0,.int .u64 0,.int .u64 0,.int .i64 0,.slice none 0 0,.slice none 0 0,.slice none 0 0,.bool false]::Γ)))).st st)) ?_;refine Wq ?_;refine aQ (α:=Nat×WS×WM) (fun w=>w.1≤acts.length∧w.2.1.Ok∧w.2.2.Ok w.2.1.room∧w.2.1.room=room∧w.2.1.os.length≤w.1∧(w.1=n+1→∃ka kc ks,w.2.2= .down ka kc ks)∧(w.1=n+2→∃kp q u v,w.2.2= .up kp q u v)∧(w.1=n+3→abv w.2.1 w.2.2))
  (fun w=>[(50,iv w.1),(49,iv acts.length),(48,.slice al acts.length cl),(14,dp wp),(8,dp p8)]) (fun w=>Sep (w.2.1.hp wp w.2.2)::A::Row p8 0 [.slice none 0 0,.int .i64 0,.int .i64 0,.int .u64 0,.int .u64 0,.int .u64 0,.int .u64 0,.int .i64 0,.slice none 0 0,.slice none 0 0,.slice none 0 0,.bool false]::Γ) (fun w=>acts.length-w.1) (0,⟨room,a2,c2,b,pV,.slice none 0 0,none,0,[],none,0,[],m⟩,.up kp q 0 0)
  ⟨zj _,vB,Ju,rfl,zj _,fun h=>by omega,fun h=>by omega,fun h=>by omega⟩ x_tv Sub.h ?_
 rintro⟨i,s,M⟩ ⟨hi,hs,hM,hr,Ie,oI,kS,vt⟩ back;dsimp only at hi hs hM hr Ie oI kS vt back⊢;refine bQ (h:=?_);by_cases h:i<acts.length
 ·obtain⟨a,ha⟩:=bc (l:=acts) (i:=i) h;refine aA (h:=?_);refine bK rfl rfl R (j:=i) rfl h rfl fun b0 D9 B8=>?_;refine aw (h:=?_);refine dA rfl R B8 (i:=i*24) (us:=a.cells) (by omega) rfl (fun j v hv=>B7 ha hv) rfl ?_;refine ao (aC rfl fun Uy=>?_);have haI:=hA a (zc ha);refine dO (h:=?_);refine dt (us:=a.cells) rfl rfl (by rfl) haI.one (by rfl) ?_;refine aA (h:=?_);refine aq (vs:=[dp wp,a.val]) rfl (abu wp s hs (by omega) M hM a (hA a (zc ha))) rfl ?_;rintro w B ⟨rfl,s',M',rfl,g1,g2,g3,g4,g5,g6,g7,g8⟩;have hb:=back (i+1,s',M') ⟨by dsimp only;omega,g1,g2,g3.trans hr,by dsimp only;omega,fun e=>by
   dsimp only at e;obtain rfl:i=n:=by omega
   exact g6 (hE.k2 a ha),fun e=>by
   dsimp only at e;obtain rfl:i=n+1:=by omega
   exact g7 ⟨hE.k3 a ha,oI rfl⟩,fun e=>by
   dsimp only at e;obtain rfl:i=n+2:=by omega
   obtain⟨k1,k2⟩:=hE.k1 a ha;obtain⟨kp,q,u,v,an,e1,e2,e3,e4,e5⟩:=g8 k1 (kS rfl) k2;exact⟨kp,q,u,v,s.os,an,e1,e2,e3,e4,e5⟩⟩ (by dsimp only;omega)
  dsimp only at hb;refine bW (h:=?_);exact aV hb
 have c_:i=n+3:=by have:=hE.len;omega
 obtain⟨kp,q,u,v,os,an,rfl,vP,he,kQ,Jn⟩:=vt c_;clear back oI kS vt;refine ya (h:=?_);refine gy (fun E w st=>(ak.cx _ _).st st) ?_;dsimp only[WS.hp];refine bW (h:=?_);refine aZ 15 (aX [14,15] [0,1,2,3,4,5,6,7,8,9,10,11,12,13,14,15]) [Row wp 0 (wC s.room s.aa s.ca (dp s.b) (dp kp) s.l s.kv (.slice s.pa s.ps.length s.pc) (.slice s.oa s.os.length s.oc))] ?_;refine Ws ?_;refine au rfl (Ky (.inr rfl) rfl rfl (.inr rfl)) ?_;refine vb (h:=?_);have nQ:([Value.slice s.oa s.os.length s.oc,s.l.a0,s.l.a1,s.l.a2,s.l.a3,s.l.a4,s.l.a5,s.l.a6,s.l.a7,s.l.a8,s.l.a9,Value.bool true].all Value.oneCell')=true:=by
  have:=hs.l1;unfold pU.One at this;simp only[List.all_cons,List.all_nil,zh]at this⊢;obtain⟨g0,g1,g2,g3,g4,g5,g6,g7,g8,g9,_⟩:=this;exact⟨rfl,g0,g1,g2,g3,g4,g5,g6,g7,g8,g9,rfl,trivial⟩
 refine aE rfl (aC rfl fun nA=>⟨bd,?_⟩);refine bN rfl rfl (dt (us:=[Value.slice s.oa s.os.length s.oc,s.l.a0,s.l.a1,s.l.a2,s.l.a3,s.l.a4,s.l.a5,s.l.a6,s.l.a7,s.l.a8,s.l.a9,Value.bool true]) rfl rfl (by rfl) nQ (by rfl) ?_);refine dQ (h:=?_);obtain⟨Fj,Bp,Qo⟩:=hM;refine aJ rfl (Jm kp q.z q.k Fj.iB (dp q.r0) (.map (some q.m0)) (dp q.r1) (.map (some q.m1)) false) rfl ?_;rintro w B ⟨k',z',rfl,rfl,I',sC,gW⟩;have Qp:bB z'.l=bB q.z.l:=by
  have:=congrArg (List.map TX.id) gW;rw[zR,zR]at this;exact this
 have aby:cR z'.l=cR q.z.l:=EN gW;refine bW (h:=?_);refine ny q.k k' fun m1 j2 jv=>?_;refine fw s.oa (h:=m1) fun m2 Br R2 eV=>?_;rw[vP]at R2;have Qq:s.os.length=(os++[an]).length:=by rw[vP]
 exact bP (rs:=[.cell 8 48,.tmp 9]) (vs:=[.agg (vO s.oa s.os.length s.oc z' true).toArray,.int .i64 0]) ⟨bG (us:=vO s.oa s.os.length s.oc z' true) rfl rfl,bO rfl,trivial⟩ [A,Mem m2] ⟨m2,z',s.oa,s.oc,os,an,by rw[Qq];rfl,rfl,(I'.up jv).up Br,sC.trans (Qo.trans hr),by rw[aby,sC];exact Fj.sl,R2,he,by rw[Qp];exact kQ,by rw[Qp];exact(Jn.up j2).up Br,by rw[←Qq];omega⟩ Sub.h
end
end Go.Proofs.YtacfncmndodlpaaGreat
