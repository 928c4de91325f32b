/- Part of a proof over the seat YtacfncmndodlpaaGreat. Its claim's last module says what is proved. -/
import Derived.Test.YtacfncmndodlpaaGreatQ3
set_option linter.all false
set_option maxHeartbeats 12800000
namespace Go.Proofs.YtacfncmndodlpaaGreat
section
open Go.Proofs Tryz
open Go.Proofs
def fJ(f n:Nat):Dk→Nat→List En→List En→Dk×List En×Int
 |d,_,[],acc=>(d,acc,0)
 |d,i,none::r,acc=>fJ f n d (i+1) r acc
 |d,i,some t::r,acc=>
  if acc.length=i then fJ f n d (i+1) r (acc++[some t])
  else if (eN d f n acc.length t).2≠0 then ((eN d f n acc.length t).1,acc++[some t],(eN d f n acc.length t).2)
  else if (mark (eN d f n acc.length t).1 f n i 0).2≠0 then ((mark (eN d f n acc.length t).1 f n i 0).1,acc++[some t],(mark (eN d f n acc.length t).1 f n i 0).2)
  else fJ f n (mark (eN d f n acc.length t).1 f n i 0).1 (i+1) r (acc++[some t])
theorem EQ(f n:Nat):∀(r:List En) (d:Dk) (i:Nat) (acc:List En) (N:Nat),d.b9 N→(fJ f n d i r acc).1.b9 (N+6*r.length)
 |[],d,i,acc,N,h=>h
 |none::r,d,i,acc,N,h=>(EQ f n r d (i+1) acc N h).mono (by simp;omega)
 |some t::r,d,i,acc,N,h=>by
  unfold fJ;have h1:=GA h f n acc.length t;have h2:=C2 h1 f n i 0;split
  ·exact(EQ f n r d (i+1) _ N h).mono (by simp;omega)
  ·split
   ·exact h1.mono (by simp;omega)
   ·split
    ·exact h2.mono (by simp;omega)
    ·exact(EQ f n r _ (i+1) _ _ h2).mono (by simp;omega)
theorem IC(f n:Nat)(d:Dk)(i:Nat)(t:Tx)(r acc:List En):fJ f n d i (some t::r) acc=
 if acc.length=i then fJ f n d (i+1) r (acc++[some t])
 else if (eN d f n acc.length t).2≠0 then ((eN d f n acc.length t).1,acc++[some t],(eN d f n acc.length t).2)
 else if (mark (eN d f n acc.length t).1 f n i 0).2≠0 then ((mark (eN d f n acc.length t).1 f n i 0).1,acc++[some t],(mark (eN d f n acc.length t).1 f n i 0).2)
 else fJ f n (mark (eN d f n acc.length t).1 f n i 0).1 (i+1) r (acc++[some t]):=by rw[fJ]
theorem Z1{N:Nat}{A:HP}(ps b:Nat)(s:Sh)(d:Dk)(es:List En)(a:Option Addr)(c:Nat)(R:Reads A 2 a es.length (es.flatMap bY))(hs:s.es=[])(bn:d.b9 N)(hl:es.length≤128)(hN:N+800≤2^20)(hn:16≤s.n∧s.n≤2^20)(_hcl:es.length≤c)
 (ht:∀t,some t∈es→t.length+16≤s.n):
 Spec prog 138 [dp ps,.slice a es.length c] [cO ps b s,aF b d,A] (fun v B=>v= .int .i64 (fJ s.f s.n d 0 es []).2.2∧B=[cO ps b {s with es:=(fJ s.f s.n d 0 es []).2.1},aF b (fJ s.f s.n d 0 es []).1,A]):=by
 refine x_sp func138 ntmps138 fun E cs Γ=>?_;refine eg (h:=Wl ?_);refine aQ (α:=Dk×Nat×List En) (fun q=>q.2.1≤es.length∧q.2.2.length≤q.2.1∧q.1.b9 (N+6*q.2.1)∧fJ s.f s.n d 0 es []=fJ s.f s.n q.1 q.2.1 (es.drop q.2.1) q.2.2)
  (fun q=>[(0,dp ps),(1,.slice a es.length c),(10,.slice a es.length c),(11,iv es.length),(12,iv q.2.1)])
  (fun q=>cO ps b {s with es:=q.2.2}::aF b q.1::A::Γ) (fun q=>es.length-q.2.1) (d,0,[]) ⟨by simp,by simp,by simpa using bn,by simp⟩ ⟨rfl,rfl,rfl,rfl,rfl,trivial⟩ ?_ ?_
 ·dsimp only;rw[←hs];exact Sub.h
 rintro⟨d',i,acc⟩ ⟨hi,ha,nG,he⟩ back;dsimp only at hi ha nG he⊢;refine l9 (h:=?_);refine m7 rfl rfl rfl (fun h=>?_) (fun h=>?_)
 ·have dW:i<es.length:=by omega
  refine u6 (h:=?_);refine sF rfl ?_;refine JW ?_;refine eM (h:=?_);refine dz (fun E w st=>st.jd) fun ⟨a2,c2⟩=>?_;dsimp only;refine eW (h:=bQ (h:=fv (h:=?_)));refine bK rfl rfl R (j:=i) rfl dW rfl fun b1 off Z2=>?_;refine aw (h:=?_);refine dA rfl R Z2 (i:=i*2) (us:=bY es[i]) (by omega) (lK _) (fun jj v hv=>?_) rfl ?_
  ·have GG:jj<2:=by have:=(List.getElem?_eq_some_iff.1 hv).1;rwa[lK]at this
   rw[C4 dW jj GG,hv]
  rw[Ls];refine aw (h:=?_);refine aC rfl fun px=>?_;refine BA (h:=dO (h:=?_));refine jH rfl rfl rfl rfl rfl (zq 2) ?_;refine gh (Γ':=Row px 0 [.bool es[i].isSome,.string (bC (Tx.of es[i]))]::Row ps 0 (eu b s.f s.n (.slice a2 acc.length c2) s.failed)::Sl 2 a2 acc.length c2 (acc.flatMap bY)::aF b d'::A::Γ) (ak.wU rfl _) ?_;have EP:es.drop i=es[i]::es.drop (i+1):=(zW dW)
  cases ID:es[i]with
  |none=>
   rw[show(none:En).isSome=false from rfl];rw[EP,ID]at he;refine Wv ?_;refine bJ (Γ':=cO ps b {s with es:=acc}::aF b d'::A::Γ) ((Sub.h (Δ:=Row ps 0 (eu b s.f s.n (Value.slice a2 acc.length c2) s.failed)::Sl 2 a2 acc.length c2 (List.flatMap bY acc)::aF b d'::A::Γ)).trans (ak.jd {s with es:=acc} _)) ?_;exact aV (back (d',i+1,acc) ⟨by dsimp only;omega,by dsimp only;omega,nG.mono (by dsimp only;omega),by dsimp only;rw[he];simp only[fJ]⟩ (by dsimp only;omega))
  |some t=>
   rw[show(some t:En).isSome=true from rfl];rw[EP,ID]at he;have ga:=ht t (by rw[←ID];exact zap _);refine Wv ?_;refine nc 10 [(0,false),(1,false),(2,false),(3,false),(4,false),(5,false),(8,false),(9,false),(6,true),(7,true),(10,true)] [Row ps 0 (eu b s.f s.n (Value.slice a2 acc.length c2) s.failed),Row px 0 [Value.bool true,Value.string (bC (Tx.of (some t)))]] mixed (by kernel_rfl) bd ?_;refine Wt ?_;refine au rfl (oz (us:=[.bool true,.string (bC t)]) rfl rfl rfl rfl) ?_;refine pu (h:=?_);refine aE rfl (cf rfl (by rfl) (by rfl) (by rfl) (by rfl) rfl fun a4=>?_);refine kx (h:=?_);refine aE rfl (cF rfl rfl (by rfl) (by rfl) (by rfl) (by omega) rfl fun a3 c3 hc=>?_);refine kx (h:=?_);refine bN rfl rfl ?_;refine eZ rfl rfl rfl rfl (show 3<5 by decide) ?_;refine dU (h:=?_);refine bJ (Γ':=Row ps 0 (eu b s.f s.n (Value.slice a3 (acc.length+1) c3) s.failed)::Sl 2 a3 (acc.length+1) c3 (acc.flatMap bY++bY (some t))::Row px 0 [Value.bool true,Value.string (bC t)]::aF b d'::A::Γ) ?_ ?_
   ·show ak (Sl 2 a3 (acc.length+1) c3 (List.flatMap bY acc++bY (some t))::Row px 0 [Value.bool true,Value.string (bC t)]::Row ps 0 (eu b s.f s.n (Value.slice a3 (acc.length+1) c3) s.failed)::_) _;exact Sub.h
   have lO:(acc++[some t]).length=acc.length+1:=by simp
   have qZ:(acc++[some t]).flatMap bY=acc.flatMap bY++bY (some t):=by simp
   have dL:∀Γ',ak (Row ps 0 (eu b s.f s.n (Value.slice a3 (acc.length+1) c3) s.failed)::Sl 2 a3 (acc.length+1) c3 (acc.flatMap bY++bY (some t))::Γ') (cO ps b {s with es:=acc++[some t]}::Γ'):=fun Γ'=>by
    have:=ak.jd (ps:=ps) (b:=b) {s with es:=acc++[some t]} (a:=a3) (c:=c3) Γ';dsimp only at this;rwa[lO,qZ]at this
   by_cases xj:acc.length=i
   ·rw[IC,if_pos xj]at he;refine Wv ?_;refine bJ ((dL _).trans (Sub.h (Δ:=cO ps b {s with es:=acc++[some t]}::aF b d'::A::Γ))) ?_;exact aV (back (d',i+1,acc++[some t]) ⟨by dsimp only;omega,by dsimp only;omega,nG.mono (by dsimp only;omega),he⟩ (by dsimp only;omega))
   ·rw[IC,if_neg xj]at he;refine ew (h:=?_);refine aq rfl (Lp ps b s.f s.n (.slice a3 (acc.length+1) c3) s.failed d' acc.length t nG (by omega) hn.2 (by omega) ga) rfl ?_;refine de (h:=?_);have ey:=GA nG s.f s.n acc.length t;obtain⟨d1,e1,oI⟩:∃x y,eN d' s.f s.n acc.length t=(x,y):=⟨_,_,rfl⟩
    rw[oI]at ey he⊢;dsimp only at ey he⊢;by_cases h1:e1=0
    ·subst h1;rw[if_neg (by simp)]at he;refine ew (h:=?_);refine aq rfl (GD ps b s.f s.n (.slice a3 (acc.length+1) c3) s.failed d1 i 0 ey (by omega) hn.2 (by omega)) rfl ?_;refine de (h:=?_);have bH:=C2 ey s.f s.n i 0;obtain⟨d2,e2,kS⟩:∃d' e',mark d1 s.f s.n i 0=(d',e'):=⟨_,_,rfl⟩
     rw[kS]at bH he⊢;dsimp only at bH he⊢;by_cases h2:e2=0
     ·subst h2;rw[if_neg (by simp)]at he;refine Wv ?_;refine bJ ((Sub.h (Δ:=Row ps 0 (eu b s.f s.n (Value.slice a3 (acc.length+1) c3) s.failed)::Sl 2 a3 (acc.length+1) c3 (acc.flatMap bY++bY (some t))::aF b d2::A::Γ)).trans (dL _)) ?_;exact aV (back (d2,i+1,acc++[some t]) ⟨by dsimp only;omega,by dsimp only;omega,bH.mono (by dsimp only;omega),he⟩ (by dsimp only;omega))
     ·rw[if_pos h2]at he;refine Wv ?_;exact ap rfl [cO ps b {s with es:=(fJ s.f s.n d 0 es []).2.1},aF b (fJ s.f s.n d 0 es []).1,A] ⟨by rw[he];rfl,rfl⟩ (by rw[he];exact(Sub.h (Δ:=Row ps 0 (eu b s.f s.n (Value.slice a3 (acc.length+1) c3) s.failed)::Sl 2 a3 (acc.length+1) c3 (acc.flatMap bY++bY (some t))::aF b d2::A::Γ)).trans ((dL _).trans Sub.h))
    ·rw[if_pos h1]at he;refine Wv ?_;exact ap rfl [cO ps b {s with es:=(fJ s.f s.n d 0 es []).2.1},aF b (fJ s.f s.n d 0 es []).1,A] ⟨by rw[he];rfl,rfl⟩ (by rw[he];exact(Sub.h (Δ:=Row ps 0 (eu b s.f s.n (Value.slice a3 (acc.length+1) c3) s.failed)::Sl 2 a3 (acc.length+1) c3 (acc.flatMap bY++bY (some t))::aF b d1::A::Γ)).trans ((dL _).trans Sub.h))
 ·have e:i=es.length:=by omega
  subst e;rw[zb0,show fJ s.f s.n d' es.length [] acc=(d',acc,0)by simp[fJ]]at he;refine Wv ?_;exact ap rfl [cO ps b {s with es:=(fJ s.f s.n d 0 es []).2.1},aF b (fJ s.f s.n d 0 es []).1,A] ⟨by rw[he];rfl,rfl⟩ (by rw[he];exact Sub.h)
end
section
open Go.Proofs Tryz
open Go.Proofs
theorem Z3{n:Nat}{b:List UInt8}{l:List En}(_hn:0<n)(h:parse n b=some l):l.length=iI n b.length∧l.length≤128:=by
 have e:=Dw _ h;rw[za2]at e;refine⟨e,zbn fun hl=>?_⟩;have:parse n b=none:=mapM_none _ _ 128 (by simp;omega) (by unfold pz;rw[if_pos (zq _)]);rw[this]at h;cases h
theorem mapM_mem{α β:Type}(g:α→Option β):∀(l:List α) (ys:List β),l.mapM g=some ys→∀y∈ys,∃x∈l,g x=some y:=by
 intro l;induction l with
 |nil=>intro ys h y hy;simp at h;subst h;cases hy
 |cons x l ih=>
  intro ys h y hy;rw[zbU]at h;cases hg:g x with
  |none=>simp[hg]at h
  |some z=>
   cases hm:l.mapM g with
   |none=>simp[hg,hm]at h
   |some zs=>
    simp[hg,hm]at h;subst h;rcases zbe.1 hy with rfl|hy
    ·exact⟨x,by simp,hg⟩
    ·obtain⟨x',j8,h'⟩:=ih zs hm y hy;exact⟨x',by simp[j8],h'⟩
theorem Z4{n:Nat}{x:List UInt8}{t:Tx}(h:kE n x=some (some t)):t.length+16≤n:=by
 unfold kE at h;split at h
 ·cases h
 ·split at h
  ·cases h
  ·split at h
   ·cases h
   ·simp at h;subst h;simp;omega
theorem Z5{n:Nat}{b:List UInt8}{l:List En}(h:parse n b=some l):∀t,some t∈l→t.length+16≤n:=by
 intro t ht;obtain⟨i,_,hi⟩:=mapM_mem _ _ _ h _ ht;unfold pz at hi;split at hi
 ·cases hi
 ·exact Z4 hi
theorem ER(f n:Nat):∀(r:List En) (d:Dk) (i:Nat) (acc:List En),(fJ f n d i r acc).2.1.length≤acc.length+r.length
 |[],d,i,acc=>by simp[fJ]
 |none::r,d,i,acc=>by
  have:=ER f n r d (i+1) acc;rw[fJ];simp;omega
 |some t::r,d,i,acc=>by
  rw[fJ];split
  ·have:=ER f n r d (i+1) (acc++[some t]);simp at this⊢;omega
  ·split
   ·simp
   ·split
    ·simp
    ·have:=ER f n r (mark (eN d f n acc.length t).1 f n i 0).1 (i+1) (acc++[some t]);simp at this⊢;omega
def BO(d:Dk)(f n:Nat)(l:List En):Dk×Option Sh×Int:=
 let m:=fJ f n d 0 l []
 if m.2.2≠0 then (m.1,none,m.2.2)
 else
  if m.2.1.length*n<(d.file f).now.length then
   let q:=m.1.cut f ((m.2.1.length*n:Nat):Int)
   if q.2≠0 then (q.1,none,q.2)
   else if (q.1.sync f).2≠0 then ((q.1.sync f).1,none,(q.1.sync f).2)
   else ((q.1.sync f).1,some ⟨f,n,m.2.1,false⟩,0)
  else (m.1,some ⟨f,n,m.2.1,false⟩,0)
def sh(d:Dk)(f n:Int):Dk×Option Sh×Int:=
 if f<0∨8≤f∨n7 n=false then (d,none,1)
 else if d.asks f≠0 then (d,none,d.asks f)
 else match parse n.toNat (d.file f).now with
  |none=>(d,none,1)
  |some l=>BO d f.toNat n.toNat l
def O4(b:Nat)(r:Dk×Option Sh×Int)(v:Value)(B:List HP):Prop:=
 match r.2.1 with
 |none=>v= .tuple #[.pointer none,.int .i64 r.2.2]∧B=[aF b r.1]
 |some s=>∃ps,v= .tuple #[dp ps,.int .i64 r.2.2]∧B=[cO ps b s,aF b r.1]
theorem Z6{n:Int}(h:n7 n=true):16≤n∧n≤2^20:=by
 unfold n7 at h;simp only[zM,beq_iff_eq]at h;omega
theorem Z7{N:Nat}(b:Nat)(d:Dk)(f n:Int)(bn:d.b9 N)(hN:N+900≤2^20):
 Spec prog 94 [dp b,.int .i64 f,.int .i64 n] [aF b d] (O4 b (sh d f n)):=by
 refine x_sp func94 ntmps94 fun E cs Γ=>?_;refine eg (h:=?_);have gW:=bn.small (by omega);have fU:f<0∨8≤f∨n7 n=false→O4 b (sh d f n) (eo [.pointer none,.int .i64 1]) [aF b d]:=fun h=>by
  unfold sh;rw[if_pos h];exact⟨rfl,rfl⟩
 refine ew (h:=?_);refine yQ (.inl rfl) rfl rfl (.inr rfl) rfl ?_;by_cases h1:f<0
 ·refine Wv ?_;exact ap rfl [aF b d] (fU (.inl h1)) Sub.h
 by_cases h2:8≤f
 ·refine Wv ?_;exact ap rfl [aF b d] (fU (.inr (.inl h2))) Sub.h
 refine Wv ?_;refine fT (h:=?_);refine aq rfl (UY n) rfl ?_;refine cS (h:=?_);cases h3:n7 n
 ·refine Wv ?_;exact ap rfl [aF b d] (fU (.inr (.inr h3))) Sub.h
 have hn:=Z6 h3;obtain⟨n,rfl⟩:∃i:Nat,n=i:=⟨n.toNat,by omega⟩
 obtain⟨f,rfl⟩:∃i:Nat,f=i:=⟨f.toNat,by omega⟩
 have eJ:sh d f n=if d.asks f≠0 then (d,none,d.asks f)else match parse n (d.file f).now with
  |none=>(d,none,1)
  |some l=>BO d f n l:=by
  unfold sh;rw[if_neg (by rw[h3];simp;omega)];rfl
 refine ew (h:=?_);refine aq rfl (Gq b d f) rfl ?_;refine de (h:=?_);by_cases h4:d.asks f=0
 ·rw[if_neg (by simpa using h4)]at eJ;have IE:d.size f=(((d.file f).now.length:Int),0):=by unfold Dk.size;rw[if_pos h4]
  rw[IE];obtain⟨z,hz⟩:∃z,(d.file f).now=z:=⟨_,rfl⟩
  rw[hz]at eJ⊢;have fB:z.length≤2^40:=by
   have hm:d.file f∈d.fs:=by
    unfold Dk.file;rw[ze,za (by rw[bn.1];omega)];exact zap _
   rw[←hz];exact(gW _ hm).1
  have er:d.read f 0 z.length=(z,0):=by
   unfold Dk.read;rw[if_neg (by simpa using h4),hz,if_neg (by omega)];simp
  refine ew (h:=?_);refine aq rfl (S3 b d f 0 z.length (fun x hx=>by have:=(gW x hx).1;omega)) rfl ?_;rw[er];rintro v B ⟨a,c,rfl,rfl⟩;refine a_ (h:=?_);refine yS a fun _ o7=>?_;have R:=Sl.reads 1 a z.length c (z.map bv) (by simp);refine ew (h:=?_);refine aq rfl (UT R o7 fB (by omega)) rfl ?_;rintro v B (⟨l,a',c',hp,rfl,rfl⟩|⟨hp,rfl,rfl⟩)
  ·refine a_ (h:=?_);rw[hp]at eJ;dsimp only at eJ;have l_:=Z3 (by omega) hp;refine yS a' fun _ Z8=>?_;refine ew (h:=?_);refine lV rfl (by rfl) rfl ?_;refine aw (h:=?_);refine aM (vs:=eu b f n (.slice none 0 0) false) rfl rfl fun ps=>?_;refine Wv ?_;refine gh (Γ':=cO ps b ⟨f,n,[],false⟩::aF b d::Sl 2 a' l.length c' (l.flatMap bY)::Γ) ?_ ?_
   ·refine(ak.cq 2 _).trans ?_;refine(Sub.h (Δ:=Row ps 0 (eu b f n (.slice none 0 0) false)::Sl 2 none 0 0 []::aF b d::Sl 2 a' l.length c' (l.flatMap bY)::Γ)).trans ?_;exact ak.jd ⟨f,n,[],false⟩ _
   refine aw (h:=?_);refine aq rfl (Z1 ps b ⟨f,n,[],false⟩ d l a' c' (Sl.reads 2 a' l.length c' _ (lF lK l)) rfl bn l_.2 (by omega) (by dsimp only;omega) Z8 (Z5 hp)) rfl ?_;refine de (h:=?_);have ey:=EQ f n l d 0 [] N bn;unfold BO at eJ;dsimp only at eJ⊢;obtain⟨d1,m1,e1,j2⟩:∃x y z,fJ f n d 0 l []=(x,y,z):=⟨_,_,_,rfl⟩
   rw[j2]at eJ ey⊢;dsimp only at eJ ey⊢;have O5:=ER f n l d 0 [];rw[j2]at O5;simp only[zaT,zO]at O5;by_cases h5:e1=0
   ·subst h5;rw[if_neg (by simp),hz]at eJ;refine Wv ?_;refine yT (fun E w st=>st.jd) fun ⟨a2,c2⟩=>?_;dsimp only;have dL:∀Γ',ak (Row ps 0 (eu b f n (Value.slice a2 m1.length c2) false)::Sl 2 a2 m1.length c2 (m1.flatMap bY)::Γ') (cO ps b ⟨f,n,m1,false⟩::Γ'):=fun Γ'=>ak.jd (ps:=ps) (b:=b) ⟨f,n,m1,false⟩ (a:=a2) (c:=c2) Γ';have hmul:=GC (show m1.length≤2^10 by omega) (show n≤2^20 by omega);refine Wv ?_;rw[←zav];obtain⟨mn,Z9⟩:∃mn,m1.length*n=mn:=⟨_,rfl⟩
    rw[Z9]at eJ hmul⊢;refine aw (h:=?_);refine m7 rfl rfl rfl (fun h6=>?_) (fun h6=>?_)
    ·rw[if_pos (show mn<z.length by omega)]at eJ;have bH:=Ty ey f (mn:Int);refine ew (h:=?_);refine aq rfl (Ta b d1 f mn (ey.small (by omega))) rfl ?_;refine de (h:=?_);obtain⟨d2,e2,kS⟩:∃x y,d1.cut f mn=(x,y):=⟨_,_,rfl⟩
     rw[kS]at eJ bH⊢;dsimp only at eJ bH⊢;by_cases h7:e2=0
     ·subst h7;rw[if_neg (by simp)]at eJ;have dZ:=Ln bH f;refine ew (h:=?_);refine aq rfl (Gu b d2 f (bH.small (by omega))) rfl ?_;refine de (h:=?_);obtain⟨d3,e3,vt⟩:∃x y,d2.sync f=(x,y):=⟨_,_,rfl⟩
      rw[vt]at eJ⊢;dsimp only at eJ⊢;by_cases h8:e3=0
      ·subst h8;rw[if_neg (by simp)]at eJ;refine Wv ?_;exact ap rfl [cO ps b ⟨f,n,m1,false⟩,aF b d3] (by rw[eJ];exact⟨ps,rfl,rfl⟩) ((Sub.h (Δ:=Row ps 0 (eu b f n (Value.slice a2 m1.length c2) false)::Sl 2 a2 m1.length c2 (m1.flatMap bY)::aF b d3::Γ)).trans ((dL _).trans Sub.h))
      ·rw[if_pos h8]at eJ;refine Wv ?_;exact ap rfl [aF b d3] (by rw[eJ];exact⟨rfl,rfl⟩) Sub.h
     ·rw[if_pos h7]at eJ;refine Wv ?_;exact ap rfl [aF b d2] (by rw[eJ];exact⟨rfl,rfl⟩) Sub.h
    ·rw[if_neg (show¬mn<z.length by omega)]at eJ;refine Wv ?_;exact ap rfl [cO ps b ⟨f,n,m1,false⟩,aF b d1] (by rw[eJ];exact⟨ps,rfl,rfl⟩) ((dL _).trans Sub.h)
   ·rw[if_pos h5]at eJ;refine Wv ?_;exact ap rfl [aF b d1] (by rw[eJ];exact⟨rfl,rfl⟩) Sub.h
  ·refine a_ (h:=?_);rw[hp]at eJ;dsimp only at eJ;refine Wv ?_;exact ap rfl [aF b d] (by rw[eJ];exact⟨rfl,rfl⟩) Sub.h
 ·rw[if_pos h4]at eJ;have IE:d.size f=(0,d.asks f):=by unfold Dk.size;rw[if_neg h4]
  rw[IE];refine Wv ?_;exact ap rfl [aF b d] (by rw[eJ];exact⟨rfl,rfl⟩) Sub.h
end
section
open Go.Proofs Tryz
open Go.Proofs
theorem yf{bs:List (List UInt8)}(h:bs.length=8):f_ bs=⟨bs.map dE,false,0,0⟩:=by
 unfold f_ lI;rw[zu,h];simp
theorem O6:f_ []=f_ (List.replicate 8 []):=by rfl
def Holds(n:Nat)(es:List En)(b:List UInt8):Prop:=parse n b=some es∧b.length=es.length*n
theorem BP{n:Nat}{b x:List UInt8}{s i:Nat}(hn:0<n)(hs:s*n≤b.length)(hx:x.length≤n):
 jB n (cQ b (s*n) x) i=if i=s then x++(jB n b i).drop x.length else jB n b i:=by
 unfold jB cQ;rw[show s*n-b.length=0 by omega];simp only[zb1,zF];split
 ·rename_i h;subst h;rw[zr,zbK (by simp;omega),List.take_append,zo (by omega),List.drop_take,zaS]
 ·rename_i h;rcases zb7 h with h|h
  ·have h1:i*n+n≤s*n:=by
    have:=zn n (show i+1≤s by omega);rw[zA]at this;omega
   rw[zr,zaE (by simp;omega),zZ (by simp;omega),List.drop_take,zcd,zat (by omega)]
  ·have h1:s*n+n≤i*n:=by
    have:=zn n (show s+1≤i by omega);rw[zA]at this;omega
   rw[zr,zbD,zU (by simp;omega),zB,zw,zat hs,zbD,zU (by omega),zB,zaS];congr 2;omega
end
section
open Go.Proofs Tryz
open Go.Proofs
theorem O7{β:Type}(g:Nat→Option β)(ys:List β):∀L,(List.range L).mapM g=some ys↔ys.length=L∧∀i,i<L→g i=ys[i]? :=by
 intro L;constructor
 ·intro h;have hl:=Dw g h;rw[za2]at hl;refine⟨hl,?_⟩;clear hl;induction L generalizing ys with
  |zero=>intro i hi;omega
  |succ L ih=>
   rw[zbJ,List.mapM_append]at h;cases h1:(List.range L).mapM g with
   |none=>simp[h1]at h
   |some zs=>
    cases h2:g L with
    |none=>simp[h1,h2]at h
    |some z=>
     simp[h1,h2]at h;subst h;have hz:=Dw g h1;rw[za2]at hz;intro i hi;rcases Nat.lt_succ_iff_lt_or_eq.1 hi with hi|rfl
     ·rw[zt (by omega)];exact ih zs h1 i hi
     ·rw[zz (by omega),h2];simp[hz]
 ·rintro⟨hl,h⟩;induction L generalizing ys with
  |zero=>simp at hl;subst hl;simp
  |succ L ih=>
   rcases List.eq_nil_or_concat ys with rfl|⟨zs,z,rfl⟩
   ·simp at hl
   ·rw[List.concat_eq_append]at h hl⊢;simp at hl;rw[zbJ,List.mapM_append];rw[ih zs (by omega) fun i hi=>by rw[h i (by omega),zt (by omega)]];have:=h L (by omega);rw[zz (by omega)]at this;simp[hl]at this;simp[this]
theorem O8{n L:Nat}(hn:0<n):iI n (L*n)=L:=by
 apply Nat.le_antisymm
 ·apply zbn;intro h;have:=(n5 hn).1 h;omega
 ·cases L with
  |zero=>omega
  |succ L=>
   have:L<iI n ((L+1)*n):=(n5 hn).2 (by rw[zA];omega);omega
theorem yg{n:Nat}{es:List En}{b:List UInt8}(hn:0<n):Holds n es b↔b.length=es.length*n∧∀i (h:i<es.length),pz n b i=some es[i]:=by
 unfold Holds parse;rw[O7];constructor
 ·rintro⟨⟨h1,h2⟩,h3⟩;refine⟨h3,fun i hi=>?_⟩;rw[h2 i (by omega),za hi]
 ·rintro⟨h3,h⟩;rw[h3,O8 hn];exact⟨⟨rfl,fun i hi=>by rw[h i hi,za hi]⟩,rfl⟩
theorem Z_{n:Nat}(hn:0<n):Holds n [] []:=(yg hn).2 ⟨by simp,fun i h=>by simp at h⟩
theorem Holds.len{n:Nat}{es:List En}{b:List UInt8}(hn:0<n)(h:Holds n es b):es.length≤128:=by
 apply zbn;intro hl;have:=((yg hn).1 h).2 128 hl;unfold pz at this;simp at this
theorem O9{n:Nat}{t:Tx}(ht:t.length+16≤n)(hn:n≤2^16):kE n ([1]++(dY n t).drop 1)=some (some t):=by
 have e:([1]++(dY n t).drop 1:List UInt8)=1::UInt8.ofNat (t.length/256)::UInt8.ofNat (t.length%256)::(List.replicate 13 0++(t++List.replicate (n-16-t.length) 0)):=by
  simp[dY]
 rw[e];have hl:tl (1::UInt8.ofNat (t.length/256)::UInt8.ofNat (t.length%256)::(List.replicate 13 0++(t++List.replicate (n-16-t.length) 0)))=t.length:=by
  unfold tl;simp;omega
 unfold kE;rw[hl,if_neg (by simp),if_neg (by simp;omega),if_neg (by omega)];congr 2;rw[show(16:Nat)=13+3 from rfl];show List.take t.length (List.drop 13 (List.replicate 13 0++(t++_)))=t;rw[zbK (by simp),zaL rfl]
theorem oQ{n:Nat}{b:List UInt8}{i:Nat}(h:i<128):pz n b i=kE n (jB n b i):=by unfold pz;rw[if_neg (by omega)]
theorem IF{b x:List UInt8}{p:Nat}(h:p+x.length≤b.length):(cQ b p x).length=b.length:=by rw[kq];omega
theorem aaa{n:Nat}{es:List En}{b:List UInt8}(hn:0<n)(h:Holds n es b){i:Nat}(hi:i<es.length):Holds n (es.set i none) (cQ b (i*n) [0]):=by
 have hl:=h.len hn;obtain⟨hb,h⟩:=(yg hn).1 h;have c_:=zn n (show i+1≤es.length by omega);rw[zA]at c_;refine(yg hn).2 ⟨by rw[IF (by simp;omega),hb];simp,fun j hj=>?_⟩;rw[zH]at hj;rw[oQ (by omega),BP hn (by omega) (by simp;omega)];by_cases e:j=i
 ·subst e;rw[if_pos rfl];simp[kE]
 ·rw[if_neg e,←oQ (by omega),h j hj,List.getElem_set_ne (zb4 e)]
def laidB(n:Nat)(b:List UInt8)(i:Nat)(t:Tx):List UInt8:=cQ (cQ b (i*n) (dY n t)) (i*n) [1]
theorem O_{es:List En}{i:Nat}{t:Tx}(hi:i≤es.length):(putAt es i t).length=max es.length (i+1):=by
 unfold putAt;split
 ·simp;omega
 ·simp;omega
theorem aab{es:List En}{i:Nat}{t:Tx}(hi:i≤es.length){j:Nat}(hj:j<(putAt es i t).length):(putAt es i t)[j]=if j=i then some t else (es[j]?).join:=by
 have hl:=O_ (t:=t) hi;unfold putAt at hj⊢;by_cases h:i=es.length
 ·subst h;simp only[if_pos]at hj⊢;rw[zd,zC]at hj;split
  ·rename_i e;subst e;simp
  ·rw[zbA (by omega),za (by omega)];rfl
 ·simp only[if_neg h]at hj⊢;rw[zH]at hj;rw[zbZ];split
  ·rename_i e;rw[if_pos e.symm]
  ·rename_i e;rw[if_neg (zb4 e),za hj];rfl
theorem aac{n:Nat}{es:List En}{b:List UInt8}(hn:0<n∧n≤2^16)(h:Holds n es b){i:Nat}{t:Tx}(hi:i≤es.length)(fS:i<128)(ht:t.length+16≤n):Holds n (putAt es i t) (laidB n b i t):=by
 have hl:=h.len hn.1;obtain⟨hb,h⟩:=(yg hn.1).1 h;have mb:=tf ht;have c_:=zn n hi;have l_:=O_ (t:=t) hi;have lh:(cQ b (i*n) (dY n t)).length=(putAt es i t).length*n:=by
  rw[kq,mb,l_,hb];rcases Nat.lt_or_ge i es.length with e|e
  ·have:=zn n (show i+1≤es.length by omega);rw[zA]at this;rw[Nat.max_eq_left (by omega),Nat.max_eq_left (by omega)]
  ·have e:i=es.length:=by omega
   subst e;rw[Nat.max_eq_right (by omega),Nat.max_eq_right (by omega),zA,zbR]
 have IG:i*n+n≤(cQ b (i*n) (dY n t)).length:=by rw[kq,mb];omega
 refine(yg hn.1).2 ⟨by unfold laidB;rw[IF (by simp;omega),lh],fun j hj=>?_⟩;rw[aab hi hj];rw[l_]at hj;rw[oQ (by omega)];unfold laidB;rw[BP hn.1 (by omega) (by simp;omega),BP hn.1 (by omega) (by omega)];by_cases e:j=i
 ·subst e;rw[if_pos rfl,if_pos rfl,if_pos rfl,mb];have:(jB n b j).drop n=[]:=zU (by unfold jB;simp;omega);rw[this,zF];exact O9 ht hn.2
 ·rw[if_neg e,if_neg e,if_neg e];have te:j<es.length:=by omega
  rw[←oQ (by omega),h j te,za te];rfl
end
section
open Go.Proofs Tryz
open Go.Proofs
abbrev fK(es:List En):List En:=es.filter Option.isSome
end
section
open Go.Proofs Tryz
open Go.Proofs
structure Calm(bs:List (List UInt8)):Prop where
 h8:bs.length=8
 hb:∀b∈bs,b.length≤131072
theorem Calm.may{bs:List (List UInt8)}(h:Calm bs):may bs=true:=by
 unfold YtacfncmndodlpaaGreat.may;simp only[zh,zM,beq_iff_eq,zaQ,decide_eq_true_eq];exact⟨.inr h.h8,h.hb⟩
theorem Calm.b9{bs:List (List UInt8)}(h:Calm bs):(f_ bs).b9 0:=Tw bs h.may
theorem Calm.set{bs:List (List UInt8)}(h:Calm bs)(f:Nat){b:List UInt8}(hb:b.length≤131072):Calm (bs.set f b):=
 ⟨by simpa using h.h8,fun x hx=>by
  rcases zag hx with hx|rfl
  ·exact h.hb x hx
  ·exact hb⟩
theorem Holds.size{n:Nat}{es:List En}{b:List UInt8}(hn:16≤n∧n≤1024)(h:Holds n es b):b.length≤131072:=by
 have:=zaZ (h.len (by omega)) hn.2;rw[h.2];omega
theorem IH{bs:List (List UInt8)}(h8:bs.length=8){f:Nat}(hf:f<8)(b:List UInt8):(bs.set f b).getD f []=b:=by
 rw[ze];simp[h8,hf]
theorem getD_set_ne{bs:List (List UInt8)}{f g:Nat}(hfg:f≠g)(b:List UInt8):(bs.set f b).getD g []=bs.getD g []:=by
 rw[ze,ze,zaK hfg]
theorem Pa(f:Nat):(List.replicate 8 ([]:List UInt8)).getD f []=[]:=by
 rw[ze,zaV];split<;>rfl
theorem aad{d:Dk}{f n:Nat}{es:List En}{slot:Int}(ht:Sh.aP ⟨f,n,es,false⟩ slot=none):Sh.del ⟨f,n,es,false⟩ d slot=((⟨f,n,es,false⟩:Sh),d,3):=by
 unfold Sh.del;rw[if_neg (by simp),if_pos ht]
end
section
open Go.Proofs Tryz
open Go.Proofs
end
section
open Go.Proofs Tryz
open Go.Proofs
abbrev RG(b:Nat):Nat→Nat×Sh→HP:=fun _ x=>cO x.1 b x.2
abbrev db(xs:List (Nat×Sh)):List Value:=xs.map fun x=>dp x.1
def bj(r b:Nat)(ss:List Sh):HP:=Any fun xs:List (Nat×Sh)=>Fact (xs.map Prod.snd=ss∧xs.length=4) (Sep [Row r 0 (db xs),dT (RG b) xs])
abbrev RX(ss:List Sh):Type:={xs:List (Nat×Sh)//xs.map Prod.snd=ss∧xs.length=4}
theorem St.oR{E:Env}{r b:Nat}{ss:List Sh}{Γ:List HP}{w:World}(s:St E (bj r b ss::Γ) w):∃xs:RX ss,St E (Row r 0 (db xs.1)::dT (RG b) xs.1::Γ) w:=by
 obtain⟨xs,s⟩:=s.ex;obtain⟨h,s⟩:=s.fact;exact⟨⟨xs,h⟩,(ak.cx [_,_] Γ).st s⟩
theorem ak.oR{r b:Nat}{ss:List Sh}(xs:List (Nat×Sh))(h:xs.map Prod.snd=ss∧xs.length=4)(Γ:List HP):ak (Row r 0 (db xs)::dT (RG b) xs::Γ) (bj r b ss::Γ):=
 (ak.cA [_,_] Γ).trans ((ak.fact h Γ).trans (ak.ex (A:=fun xs:List (Nat×Sh)=>Fact (xs.map Prod.snd=ss∧xs.length=4) (Sep [Row r 0 (db xs),dT (RG b) xs])) xs Γ))
theorem ES{xs:List (Nat×Sh)}{k:Nat}(h:k<xs.length):(db xs)[k]? =some (dp xs[k].1):=by simp[db,h]
theorem Pb{xs:List (Nat×Sh)}{k:Nat}(h:k<xs.length)(s:Sh):db (xs.set k (xs[k].1,s))=db xs:=by
 unfold db;rw[zak];refine zbB (by simp) fun i h1 h2=>?_;rw[zbZ];split
 ·rename_i e;subst e;simp
 ·rfl
theorem Pc{ss:List Sh}(xs:RX ss){k:Nat}(h:k<xs.1.length)(s:Sh):(xs.1.set k (xs.1[k].1,s)).map Prod.snd=ss.set k s∧(xs.1.set k (xs.1[k].1,s)).length=4:=by
 refine⟨?_,by rw[zH];exact xs.2.2⟩;rw[zak,xs.2.1]
theorem BQ{ss:List Sh}(xs:RX ss){k:Nat}(h:k<xs.1.length):ss[k]? =some xs.1[k].2:=by
 obtain⟨xs,rfl,h4⟩:=xs;rw[zf,za h];rfl
theorem ET{xs:List (Nat×Sh)}(h:xs.length=4):(db xs).length=4∧((db xs).drop (0+0-0)).take 4=db xs:=by
 have h2:(db xs).length=4:=by simp[db,h]
 exact⟨h2,by rw[zbx,Nat.sub_zero,List.drop_zero,zo (by omega)]⟩
theorem aae{k:Nat}{ss:List Sh}{s:Sh}(h:(ss.take k).any (·.failed)=false)(hs:ss[k]? =some s):(ss.take (k+1)).any (·.failed)=s.failed:=by
 rw[zp,hs,List.any_append,h];simp
def qJ(ss:List Sh):Bool:=ss.any (·.failed)
theorem Pd(r b:Nat)(ss:List Sh):Spec prog 116 [dp r] [bj r b ss] (fun v B=>v= .bool (qJ ss)∧B=[bj r b ss]):=by
 refine x_sp func116 ntmps116 fun E cs Γ=>?_;refine jx (h:=?_);refine dz (fun E w st=>st.oR) fun xs=>?_;have pG:=xs.2.2;have Bs:ss.length=4:=by rw[←xs.2.1];simp[pG]
 refine ew (h:=?_);refine uq (us:=db xs.1) rfl rfl (ET pG).2 (ET pG).1 rfl ?_;refine uN (h:=?_);refine aQ (α:=Nat) (fun k=>k≤4∧(ss.take k).any (·.failed)=false) (fun k=>[(8,.agg (db xs.1).toArray),(9,iv k)]) (fun _=>Row r 0 (db xs.1)::dT (RG b) xs.1::Γ) (fun k=>4-k) 0 ⟨zj _,rfl⟩ x_tv Sub.h ?_;rintro k ⟨hk,hf⟩ back;refine bQ (h:=?_);by_cases h:k<4
 ·have iC:k<xs.1.length:=by omega
  have Pe:=aae hf (BQ xs iC);refine ew (h:=?_);refine xe rfl rfl rfl (by omega) (ES iC) rfl ?_;refine Wv ?_;refine gh (Γ':=cO xs.1[k].1 b xs.1[k].2::fb (RG b) xs.1 k::Row r 0 (db xs.1)::Γ) ((Sub.h (Δ:=dT (RG b) xs.1::Row r 0 (db xs.1)::Γ)).trans (ak.focus (RG b) xs.1 k iC _)) ?_;refine aw (h:=?_);refine aq rfl (TH xs.1[k].1 b xs.1[k].2) rfl ?_;refine de (h:=?_);refine gh (Γ':=dT (RG b) xs.1::Row r 0 (db xs.1)::Γ) (ak.CT (RG b) xs.1 k iC _) ?_;cases dM:xs.1[k].2.failed with
  |true=>
   have hR:qJ ss=true:=by
    unfold qJ;rw[List.any_eq_true];exact⟨xs.1[k].2,zc (BQ xs iC),dM⟩
   refine Wv ?_;exact ap rfl [bj r b ss] ⟨by rw[hR];rfl,rfl⟩ ((Sub.h (Δ:=Row r 0 (db xs.1)::dT (RG b) xs.1::Γ)).trans (ak.oR xs.1 xs.2 Γ))
  |false=>
   rw[dM]at Pe;refine Wv ?_;exact aV (back (k+1) ⟨by omega,Pe⟩ (by omega))
 ·have hR:qJ ss=false:=by
   rw[zo (by omega)]at hf;exact hf
  refine Wv ?_;exact ap rfl [bj r b ss] ⟨by rw[hR];rfl,rfl⟩ ((Sub.h (Δ:=Row r 0 (db xs.1)::dT (RG b) xs.1::Γ)).trans (ak.oR xs.1 xs.2 Γ))
abbrev h_(aO:Int×Int):List Value:=[.int .i64 aO.1,.int .i64 aO.2]
abbrev kJ(aO:Int×Int):Value:= .agg (h_ aO).toArray
theorem aaf(r:Nat)(aO:Int×Int):Spec prog 117 [dp r,kJ aO] [] (fun v B=>v= .bool (decide (0≤aO.1)&&decide (aO.1<4))∧B=[]):=by
 refine x_sp func117 ntmps117 fun E cs Γ=>?_;refine qf (h:=nT (h:=?_));refine aM (vs:=h_ aO) rfl rfl fun p3=>?_;refine ew (h:=?_);refine wz rfl rfl rfl (fun h=>?_) (fun h=>?_)
 ·refine iu (h:=w_ (h:=?_));refine m5 rfl (um rfl rfl rfl rfl ?_);refine fT (h:=?_);refine m7 rfl rfl rfl (fun h2=>?_) (fun h2=>?_)
  ·refine uJ (h:=?_);exact ap rfl [] ⟨by rw[decide_eq_true h,decide_eq_true h2];rfl,rfl⟩ Sub.h
  ·refine uJ (h:=?_);exact ap rfl [] ⟨by rw[decide_eq_true h,decide_eq_false h2];rfl,rfl⟩ Sub.h
 ·refine Wv ?_;exact ap rfl [] ⟨by rw[decide_eq_false h];rfl,rfl⟩ Sub.h
def vE(aO:Int×Int):Bool:=decide (0≤aO.1)&&decide (aO.1<4)
def si:Sh:=⟨0,0,[],false⟩
def jT(ss:List Sh)(d:Dk)(aO:Int×Int):List Sh×Dk×Int:=
 if qJ ss then (ss,d,14)else if vE aO then (ss.set aO.1.toNat ((ss.getD aO.1.toNat si).del d aO.2).1,((ss.getD aO.1.toNat si).del d aO.2).2.1,((ss.getD aO.1.toNat si).del d aO.2).2.2)else (ss,d,3)
theorem Pf{N:Nat}(r b:Nat)(ss:List Sh)(d:Dk)(aO:Int×Int)(bn:d.b9 N)(hN:N+20≤2^20)(hl:∀s∈ss,s.n≤2^20∧s.es.length≤2^20):
 Spec prog 73 [dp r,kJ aO] [bj r b ss,aF b d] (fun v B=>v= .int .i64 (jT ss d aO).2.2∧B=[bj r b (jT ss d aO).1,aF b (jT ss d aO).2.1]):=by
 refine x_sp func73 ntmps73 fun E cs Γ=>?_;refine eg (h:=nT (h:=?_));refine aM (vs:=h_ aO) rfl rfl fun p3=>?_;refine ew (h:=?_);refine aq rfl (Pd r b ss) rfl ?_;refine de (h:=?_);cases hf:qJ ss with
 |true=>
  refine Wv ?_;have e:jT ss d aO=(ss,d,14):=by unfold jT;rw[hf];rfl
  exact ap rfl [bj r b ss,aF b d] ⟨by rw[e];rfl,by rw[e]⟩ Sub.h
 |false=>
  refine ew (h:=?_);refine uq (us:=h_ aO) rfl rfl rfl rfl rfl ?_;refine aw (h:=?_);refine aq rfl (aaf r aO) rfl ?_;refine dh (h:=?_);rw[show(decide (0≤aO.1)&&decide (aO.1<4))=vE aO from rfl];refine dq (h:=?_);cases hh:vE aO with
  |false=>
   refine Wv ?_;have e:jT ss d aO=(ss,d,3):=by unfold jT;rw[hf,hh];rfl
   exact ap rfl [bj r b ss,aF b d] ⟨by rw[e];rfl,by rw[e]⟩ Sub.h
  |true=>
   have Be:=hh;unfold vE at hh;simp only[zh,decide_eq_true_eq]at hh;obtain⟨k,hk⟩:∃k:Nat,aO.1=k:=⟨aO.1.toNat,by omega⟩
   refine Wv ?_;refine dz (Γ':=fun xs:RX ss=>Row r 0 (db xs.1)::dT (RG b) xs.1::aF b d::Row p3 0 (h_ aO)::Γ) (fun E w st=>by
    have st:=(Sub.h (Δ:=bj r b ss::aF b d::Row p3 0 (h_ aO)::Γ)).st st;exact st.oR) fun xs=>?_
   have iC:k<xs.1.length:=by have:=xs.2.2;omega
   refine bJ (Γ':=cO xs.1[k].1 b xs.1[k].2::fb (RG b) xs.1 k::Row r 0 (db xs.1)::aF b d::Row p3 0 (h_ aO)::Γ) ((Sub.h (Δ:=dT (RG b) xs.1::Row r 0 (db xs.1)::aF b d::Row p3 0 (h_ aO)::Γ)).trans (ak.focus (RG b) xs.1 k iC _)) ?_;refine nc 10 [(0,false),(1,false),(2,false),(3,false),(4,false),(5,false),(6,false),(7,false),(8,false),(9,true),(10,false)] [Row r 0 (db xs.1),Row p3 0 (h_ aO)] mixed (by kernel_rfl) bd ?_;refine Wt ?_;refine au rfl (du rfl rfl hk (by omega)) ?_;refine au rfl (fk (i:=k) rfl (by omega) (ES iC)) ?_;refine rn (h:=?_);have tV:=BQ xs iC;have gV:ss.getD k si=xs.1[k].2:=by rw[ze,tV];rfl
   have fi:=hl _ (zc tV);obtain⟨q,hq⟩:∃q,xs.1[k].2.del d aO.2=q:=⟨_,rfl⟩
   have hg:jT ss d aO=(ss.set k q.1,q.2.1,q.2.2):=by
    unfold jT;rw[hf,Be,hk,zV,gV,hq];rfl
   have SD:=TO xs.1[k].1 b xs.1[k].2 d aO.2 bn hN fi.1 fi.2;rw[hq]at SD;refine aE rfl (aq rfl SD rfl ?_);refine w9 (h:=?_);have kW:=Pc xs iC q.1;refine ap rfl [bj r b (ss.set k q.1),aF b q.2.1] ⟨by rw[hg];rfl,by rw[hg]⟩ ((Sub.h (Δ:=cO xs.1[k].1 b q.1::fb (RG b) xs.1 k::Row r 0 (db xs.1)::aF b q.2.1::Γ)).trans ?_);refine(ak.wT (RG b) xs.1 k (xs.1[k].1,q.1) iC _).trans ((ak.perm (.swap _ _ _)).trans ?_);have h2:=ak.oR (r:=r) (b:=b) (xs.1.set k (xs.1[k].1,q.1)) kW (aF b q.2.1::Γ);rw[Pb iC]at h2;exact h2
end
section
open Go.Proofs Tryz
open Go.Proofs
end
section
open Go.Proofs Tryz
open Go.Proofs
end
section
open Go.Proofs Tryz
open Go.Proofs
instance:cM prog 228 [.cell 4 145,.tmp 5]:=⟨_,func228,rfl⟩
def lS(ss:List Sh)(d:Dk)(t:Tx):List Sh×Dk×(Int×Int)×Int:=
 if qJ ss then (ss,d,(0,0),14)else if (sizeOf t.length).2≠0 then (ss,d,(0,0),(sizeOf t.length).2)
 else
  let q:=(ss.getD (sizeOf t.length).1.toNat si).put d t
  (ss.set (sizeOf t.length).1.toNat q.1,q.2.1,if q.2.2.2≠0 then (0,0)else ((sizeOf t.length).1,q.2.2.1),q.2.2.2)
theorem Pg(n:Nat):sizeOf n=(0,2)∧1008<n∨∃k:Nat,k<4∧sizeOf n=((k:Int),0)∧n+16≤128*2^k∧(0<k→128*2^(k-1)<n+16):=by
 by_cases h3:n≤1008
 ·right;have hd:n≤112∨(112<n∧n≤240)∨(240<n∧n≤496)∨(496<n∧n≤1008):=by omega
  unfold sizeOf;rcases hd with h|⟨h1,h2⟩|⟨h1,h2⟩|⟨h1,h2⟩
  ·exact⟨0,by omega,by rw[if_neg (by omega),if_pos (by omega)];rfl,by omega,by omega⟩
  ·exact⟨1,by omega,by rw[if_neg (by omega),if_neg (by omega),if_pos (by omega)];rfl,by omega,by omega⟩
  ·exact⟨2,by omega,by rw[if_neg (by omega),if_neg (by omega),if_neg (by omega),if_pos (by omega)];rfl,by omega,by omega⟩
  ·exact⟨3,by omega,by rw[if_neg (by omega),if_neg (by omega),if_neg (by omega),if_neg (by omega),if_pos (by omega)];rfl,by omega,by omega⟩
 ·left;unfold sizeOf;exact⟨by rw[if_neg (by omega),if_neg (by omega),if_neg (by omega),if_neg (by omega),if_neg (by omega)],by omega⟩
theorem EU{P:Program}{Δ:List HP}{ρ:aK}{i ty b off s:Nat}{us:List Value}[T:cI P ty s](h:ev ρ (.tmp i)=some (.pointer (some ⟨b,off,none⟩)))[H:lq Δ b off us](hl:us.length=s):RV P Δ ρ (.cell i ty) (.agg us.toArray):=
 Ly h hl fun _ _ hj _ _ st=>(st.yE (b:=b) hj).1
theorem aag{N:Nat}(r b:Nat)(ss:List Sh)(d:Dk)(t:Tx)(bn:d.b9 N)(hN:N+20≤2^20)(hl:∀s∈ss,(16≤s.n∧s.n≤2^20)∧s.es.length≤2^20)(ht:t.length≤2^62):
 Spec prog 228 [dp r,tv t] [bj r b ss,aF b d] (fun v B=>v= .tuple #[kJ (lS ss d t).2.2.1,.int .i64 (lS ss d t).2.2.2]∧B=[bj r b (lS ss d t).1,aF b (lS ss d t).2.1]):=by
 refine x_sp func228 ntmps228 fun E cs Γ=>?_;refine eg (h:=nT (h:=?_));refine aC rfl fun p4=>?_;refine ew (h:=?_);refine aq rfl (Pd r b ss) rfl ?_;refine de (h:=?_);cases hf:qJ ss with
 |true=>
  have e:lS ss d t=(ss,d,(0,0),14):=by unfold lS;rw[hf];rfl
  refine rk (h:=l9 (h:=?_));refine lV rfl (by rfl) rfl ?_;refine dO (h:=?_);refine jH rfl rfl rfl rfl rfl (zq 2) ?_;refine bU (h:=?_);refine bJ (Γ':=bj r b ss::Row p4 0 (h_ (0,0))::aF b d::Γ) (.refl _) ?_;exact bP (rs:=[.cell 4 145,.tmp 5]) (vs:=[kJ (0,0),.int .i64 14]) ⟨EU rfl rfl,bO rfl,trivial⟩ [bj r b ss,aF b d] ⟨by rw[e];rfl,by rw[e]⟩ Sub.h
 |false=>
  refine ew (h:=?_);refine aq rfl (Mf _) rfl ?_;refine dh (h:=?_);rw[dV];refine dq (h:=?_);rcases Pg t.length with ⟨e1,-⟩|⟨k,hk,e1,ey,-⟩
  ·rw[e1];have e:lS ss d t=(ss,d,(0,0),2):=by unfold lS;rw[hf,e1];rfl
   refine ew (h:=?_);refine lV rfl (by rfl) rfl ?_;refine aw (h:=?_);refine lr rfl rfl ?_;refine dO (h:=?_);refine jH rfl rfl rfl rfl rfl (zq 2) ?_;refine bU (h:=?_);refine bJ (Γ':=bj r b ss::Row p4 0 (h_ (0,0))::aF b d::Γ) (.refl _) ?_;exact bP (rs:=[.cell 4 145,.tmp 5]) (vs:=[kJ (0,0),.int .i64 2]) ⟨EU rfl rfl,bO rfl,trivial⟩ [bj r b ss,aF b d] ⟨by rw[e];rfl,by rw[e]⟩ Sub.h
  ·rw[e1];refine Wv ?_;refine yT (Γ':=fun xs:RX ss=>Row r 0 (db xs.1)::dT (RG b) xs.1::aF b d::Row p4 0 [.int .i64 0,.int .i64 0]::Γ) (fun E w st=>by
    have st:=(Sub.h (Δ:=bj r b ss::aF b d::Row p4 0 [.int .i64 0,.int .i64 0]::Γ)).st st;exact st.oR) fun xs=>?_
   have iC:k<xs.1.length:=by have:=xs.2.2;omega
   have tV:=BQ xs iC;have fi:=hl _ (zc tV);have gV:ss.getD k si=xs.1[k].2:=by rw[ze,tV];rfl
   obtain⟨q,hq⟩:∃q,xs.1[k].2.put d t=q:=⟨_,rfl⟩
   have e:lS ss d t=(ss.set k q.1,q.2.1,if q.2.2.2≠0 then (0,0)else ((k:Int),q.2.2.1),q.2.2.2):=by
    unfold lS;rw[hf,e1,zV,gV,hq];rfl
   have SP:=TN xs.1[k].1 b xs.1[k].2 d t bn hN fi.1 fi.2 ht;rw[hq]at SP;have kW:=Pc xs iC q.1;have sj:∀us,ak (cO xs.1[k].1 b q.1::fb (RG b) xs.1 k::Row r 0 (db xs.1)::aF b q.2.1::Row p4 0 us::Γ) (bj r b (ss.set k q.1)::aF b q.2.1::Row p4 0 us::Γ):=fun us=>by
    refine(ak.wT (RG b) xs.1 k (xs.1[k].1,q.1) iC _).trans ((ak.perm (.swap _ _ _)).trans ?_);have h2:=ak.oR (r:=r) (b:=b) (xs.1.set k (xs.1[k].1,q.1)) kW (aF b q.2.1::Row p4 0 us::Γ);rw[Pb iC]at h2;exact h2
   refine gh (Γ':=cO xs.1[k].1 b xs.1[k].2::fb (RG b) xs.1 k::Row r 0 (db xs.1)::aF b d::Row p4 0 [.int .i64 0,.int .i64 0]::Γ) ((Sub.h (Δ:=dT (RG b) xs.1::Row r 0 (db xs.1)::aF b d::Row p4 0 [.int .i64 0,.int .i64 0]::Γ)).trans (ak.focus (RG b) xs.1 k iC _)) ?_;refine aw (h:=?_);refine dd rfl rfl (j:=k) rfl hk rfl ?_;refine aw (h:=?_);refine iF (i:=k) rfl (by omega) (ES iC) rfl ?_;refine fv (h:=?_);refine aq rfl SP rfl ?_;refine de (h:=?_);refine gh (Γ':=bj r b (ss.set k q.1)::aF b q.2.1::Row p4 0 [.int .i64 0,.int .i64 0]::Γ) ((Sub.h (Δ:=cO xs.1[k].1 b q.1::fb (RG b) xs.1 k::Row r 0 (db xs.1)::aF b q.2.1::Row p4 0 [.int .i64 0,.int .i64 0]::Γ)).trans (sj _)) ?_;refine ew (h:=?_);refine Rv rfl rfl rfl (fun h=>?_) (fun h=>?_)
   ·rw[if_pos h]at e;refine rk (h:=l9 (h:=?_));refine lV rfl (by rfl) rfl ?_;refine aw (h:=?_);refine lr rfl rfl ?_;refine dO (h:=?_);refine jH rfl rfl rfl rfl rfl (zq 2) ?_;refine bU (h:=?_);refine bJ (Γ':=bj r b (ss.set k q.1)::aF b q.2.1::Row p4 0 (h_ (0,0))::Γ) (.refl _) ?_;exact bP (rs:=[.cell 4 145,.tmp 5]) (vs:=[kJ (0,0),.int .i64 q.2.2.2]) ⟨EU rfl rfl,bO rfl,trivial⟩ [bj r b (ss.set k q.1),aF b q.2.1] ⟨by rw[e];rfl,by rw[e]⟩ Sub.h
   ·rw[if_neg (by omega)]at e;have h0:q.2.2.2=0:=h;refine ew (h:=?_);refine lV rfl (by rfl) rfl ?_;refine dO (h:=?_);refine jH rfl rfl rfl rfl rfl (zq 2) ?_;refine bU (h:=?_);refine bJ (Γ':=bj r b (ss.set k q.1)::aF b q.2.1::Row p4 0 (h_ ((k:Int),q.2.2.1))::Γ) (.refl _) ?_;exact bP (rs:=[.cell 4 145,.tmp 5]) (vs:=[kJ ((k:Int),q.2.2.1),.int .i64 0]) ⟨EU rfl rfl,bO rfl,trivial⟩ [bj r b (ss.set k q.1),aF b q.2.1] ⟨by rw[e,h0];rfl,by rw[e]⟩ Sub.h
end
section
open Go.Proofs Tryz
open Go.Proofs
theorem IJ(r:Nat):Spec prog 62 [dp r] [] (fun v B=>∃pc,v= .func (.func 95) #[] #[dp pc]∧B=[Row pc 0 [dp r]]):=by
 refine x_sp func62 ntmps62 fun E cs Γ=>?_;refine ko (h:=nT (h:=?_));refine m8 rfl rfl rfl fun pc=>?_;refine ta (h:=?_);refine oW rfl rfl rfl ?_;refine bU (h:=?_);exact ap rfl [Row pc 0 [dp r]] ⟨pc,rfl,rfl⟩ Sub.h
abbrev RE:=(Nat×Nat)×Tx
abbrev mG(y:RE):Int×Int:=((y.1.1:Int),(y.1.2:Int))
def rv(y:RE):List Value:=[kJ (mG y),tv y.2]
def tag(k:Nat)(l:List (Nat×Tx)):List RE:=l.map fun y=>((k,y.1),y.2)
def gN:Nat→List (List En)→List RE
 |_,[]=>[]
 |k,es::r=>tag k (live 0 es)++gN (k+1) r
abbrev gO(ss:List Sh):List RE:=gN 0 (ss.map (·.es))
theorem Ph(ess:List (List En)):∀(i k:Nat),i≤ess.length→gN k ess=gN k (ess.take i)++gN (k+i) (ess.drop i):=by
 intro i;induction ess generalizing i with
 |nil=>intro k h;simp[gN]
 |cons es r ih=>
  intro k h;cases i with
  |zero=>rfl
  |succ i=>
   have:=ih i (k+1) (by simpa using h);rw[List.take_succ_cons,List.drop_succ_cons];show tag k (live 0 es)++gN (k+1) r=tag k (live 0 es)++gN (k+1) (r.take i)++_;rw[this,zr,show k+(i+1)=k+1+i by omega]
theorem aah(ess:List (List En)){i:Nat}(h:i<ess.length):gN 0 (ess.take (i+1))=gN 0 (ess.take i)++tag i (live 0 ess[i]):=by
 have h1:=Ph (ess.take (i+1)) i 0 (by simp;omega);rw[zcd,zat (by omega),zO]at h1;have h2:(ess.take (i+1)).drop i=[ess[i]]:=by
  rw[List.drop_take,show i+1-i=1 by omega,zW h];rfl
 rw[h1,h2];show _++(tag i (live 0 ess[i])++[])=_;rw[zF]
theorem EV(pc r b:Nat)(ss:List Sh)(hl:∀s∈ss,s.es.length≤2^40):
 Iter prog 95 [] [dp pc] [Row pc 0 [dp r],bj r b ss] [bj r b ss] ((gO ss).map rv):=by
 intro l I J hy;refine x_sp func95 ntmps95 fun E cs Γ=>?_;refine jx (h:=?_);refine bJ (Γ':=bj r b ss::Row pc 0 [dp r]::I 0::Γ) Sub.h ?_;refine dz (fun E w st=>st.oR) fun xs=>?_;have pG:=xs.2.2;have Bs:ss.length=4:=by rw[←xs.2.1];simp[pG]
 refine nT (h:=?_);refine m8 rfl rfl rfl fun p2=>?_;refine ew (h:=?_);refine uq (us:=db xs.1) rfl rfl (ET pG).2 (ET pG).1 rfl ?_;refine uN (h:=?_);refine bJ (Γ':=Marks []::Row p2 0 [.func (.yield l) #[] #[]]::Row r 0 (db xs.1)::dT (RG b) xs.1::I 0::Γ) ((ak.nO _).trans Sub.h) ?_;have hlen:((gO ss).map rv).length=(gN 0 ((ss.map (·.es)).take 4)).length:=by rw[zm,zo (by simp[Bs])]
 refine TQ (α:=Nat×List Nat) (fun q=>q.1≤4) (fun q=>dX q.2) (fun q=>[(1,dp pc),(2,dp p2),(10,.agg (db xs.1).toArray),(11,iv q.1)])
  (fun q=>Marks q.2::Row p2 0 [.func (.yield l) #[] #[]]::Row r 0 (db xs.1)::dT (RG b) xs.1::I (gN 0 ((ss.map (·.es)).take q.1)).length::Γ) (fun q=>4-q.1) (0,[]) (zj _) ⟨rfl,rfl,rfl,rfl,trivial⟩ (.refl _) ?_
 rintro⟨k,Ds⟩ hk back;dsimp only at hk back⊢;refine bQ (h:=?_);by_cases h:k<4
 ·have iC:k<xs.1.length:=by omega
  have IK:k<(ss.map (·.es)).length:=by simp[Bs,h]
  have tV:=BQ xs iC;have dF:(ss.map (·.es))[k]=xs.1[k].2.es:=by
   have:(ss.map (·.es))[k]? =some xs.1[k].2.es:=by rw[zf,tV];rfl
   rw[za IK]at this;exact zD this
  have fx:=aah _ IK;rw[dF]at fx;obtain⟨L,hL⟩:∃L,live 0 xs.1[k].2.es=L:=⟨_,rfl⟩
  rw[hL]at fx;obtain⟨off,yh⟩:∃off,(gN 0 ((ss.map (·.es)).take k)).length=off:=⟨_,rfl⟩
  have aai:(gN 0 ((ss.map (·.es)).take (k+1))).length=off+L.length:=by rw[fx,zd,yh];simp[tag]
  have mX:∀j y,L[j]? =some y→((gO ss).map rv)[off+j]? =some [kJ ((k:Int),(y.1:Int)),tv y.2]:=fun j y hj=>by
   have h1:=Ph (ss.map (·.es)) (k+1) 0 IK;rw[zf,show gO ss=gN 0 (ss.map (·.es))from rfl,h1,fx,zr,zz (by omega),yh,zS,zt (by simp[tag];exact(List.getElem?_eq_some_iff.1 hj).1)];simp[tag,hj,rv,mG]
  rw[yh];refine ew (h:=?_);refine xe rfl rfl rfl (by omega) (ES iC) rfl ?_;refine aw (h:=?_);refine aC rfl fun p3=>?_;refine Wv ?_;refine gh (Γ':=cO xs.1[k].1 b xs.1[k].2::fb (RG b) xs.1 k::Row p3 0 [.int .i64 k]::Marks Ds::Row p2 0 [.func (.yield l) #[] #[]]::Row r 0 (db xs.1)::I off::Γ) ((Sub.h (Δ:=dT (RG b) xs.1::Row p3 0 [.int .i64 k]::Marks Ds::Row p2 0 [.func (.yield l) #[] #[]]::Row r 0 (db xs.1)::I off::Γ)).trans (ak.focus (RG b) xs.1 k iC _)) ?_;refine aw (h:=?_);refine aq rfl (TI xs.1[k].1) rfl ?_;rintro v B ⟨IL,rfl,rfl⟩;refine nU (h:=?_);have kf:=TJ IL xs.1[k].1 b xs.1[k].2 (hl _ (zc tV));rw[hL]at kf;refine uG (Ds:=Ds) rfl rfl kf (fun j=>[I (off+j),Row p2 0 [.func (.yield l) #[] #[]],Row p3 0 [.int .i64 k]]) (fun cd j=>[Fact (cd= .exit 0) (J (off+j))]) (Δ2:=fb (RG b) xs.1 k::Row r 0 (db xs.1)::Γ) Sub.h (by rfl) ?_ ?_ ?_ ?_
  ·intro j vs hj;rw[zf,zad]at hj;obtain⟨y,_,rfl⟩:=hj
   rfl
  ·intro j vs hj;rw[zf,zad]at hj;obtain⟨y,ru,rfl⟩:=hj;have hyy:=hy (off+j) _ (mX j y ru);intro Y l' r' Θ fZ eT cv nV nq;refine Wl ?_;refine nP (r:=r') eT ?_;refine bJ (Γ':=I (off+j)::Row p2 0 [.func (.yield l) #[] #[]]::Row p3 0 [.int .i64 k]::Rec l' r' .busy none::Θ) (by (refine a_ (h:=?_));exact Sub.h) ?_;refine ew (h:=?_);refine lV rfl (by rfl) rfl ?_;refine fv (h:=?_);refine qe rfl rfl hyy rfl ?_;rintro v B (⟨rfl,rfl⟩|⟨rfl,rfl⟩)
   ·refine a_ (h:=Wv ?_);exact bJ (by (refine a_ (h:=?_));exact Sub.h) (cv _)
   ·refine uZ (h:=?_);refine bJ ?_ (nV 0 _ _ rfl);refine(Sub.h (Δ:=J (off+j+1)::Rec l' r' .busy none::Θ)).trans ((ak.fact (p:=Code.exit 0= .exit 0) rfl _).trans ?_);refine a_ (h:=?_);exact Sub.h
  ·intro D;have hlm:(L.map yv).length=L.length:=zm ..;rw[hlm,←aai];refine a_ (h:=?_);refine bJ (Γ':=Marks (D::Ds)::Row p2 0 [.func (.yield l) #[] #[]]::Row r 0 (db xs.1)::dT (RG b) xs.1::I (gN 0 ((ss.map (·.es)).take (k+1))).length::Γ) ((Sub.h (Δ:=cO xs.1[k].1 b xs.1[k].2::fb (RG b) xs.1 k::Marks (D::Ds)::Row p2 0 [.func (.yield l) #[] #[]]::Row r 0 (db xs.1)::I (gN 0 ((ss.map (·.es)).take (k+1))).length::Γ)).trans ((ak.CT (RG b) xs.1 k iC _).trans Sub.h)) ?_;refine Wv ?_;exact aV (back (k+1,D::Ds) (by dsimp only;omega) (by dsimp only;omega))
  ·intro D cd j;refine dz (α:={_u:Unit//cd= .exit 0}) (Γ':=fun _=>J (off+j)::Marks (D::Ds)::cO xs.1[k].1 b xs.1[k].2::fb (RG b) xs.1 k::Row r 0 (db xs.1)::Γ) (fun E w st=>by
    simp only[zl,zB]at st;have st:=(Sub.h (Δ:=Fact (cd= .exit 0) (J (off+j))::Marks (D::Ds)::cO xs.1[k].1 b xs.1[k].2::fb (RG b) xs.1 k::Row r 0 (db xs.1)::Γ)).st st;obtain⟨h,st⟩:=st.fact;exact⟨⟨(),h⟩,st⟩) ?_
   rintro⟨_,rfl⟩;refine Ci rfl ?_;refine Cg ?_;exact Gi (Ds:=D::Ds) ([bj r b ss]++[J (off+j)]) (.inr ⟨_,rfl⟩) (by
    refine(Sub.h (Δ:=cO xs.1[k].1 b xs.1[k].2::fb (RG b) xs.1 k::Row r 0 (db xs.1)::J (off+j)::Γ)).trans ?_;refine(ak.CT (RG b) xs.1 k iC _).trans ((ak.perm (.swap _ _ _)).trans ?_);exact ak.oR xs.1 xs.2 _)
 ·obtain rfl:k=4:=by omega
  refine Wv ?_;exact Gi (Ds:=Ds) ([bj r b ss]++[I ((gO ss).map rv).length]) (.inl rfl) (by
   rw[hlen];refine(Sub.h (Δ:=Row r 0 (db xs.1)::dT (RG b) xs.1::I (gN 0 ((ss.map (·.es)).take 4)).length::Γ)).trans ?_;refine(ak.oR xs.1 xs.2 _).trans ?_;refine a_ (h:=?_);exact Sub.h)
end
section
open Go.Proofs Tryz
open Go.Proofs
def aW(first:Nat)(ess:List (List En)):List Sh:=ess.mapIdx fun k es=>⟨first+k,128*2^k,es,false⟩
theorem BR{first:Nat}{ess:List (List En)}{k:Nat}{es:List En}(h:ess[k]? =some es):(aW first ess)[k]? =some ⟨first+k,128*2^k,es,false⟩:=by
 unfold aW;rw[zbV,h];rfl
theorem Pj(first:Nat)(ess:List (List En)):(aW first ess).length=ess.length:=by simp[aW]
theorem IM(first:Nat)(ess:List (List En)):(aW first ess).map (·.es)=ess:=by
 refine zbB (by simp[aW]) fun i h1 h2=>?_;simp[aW]
theorem Pk{first:Nat}{ess:List (List En)}{k:Nat}(es:List En):(aW first ess).set k ⟨first+k,128*2^k,es,false⟩=aW first (ess.set k es):=by
 refine zbP fun i=>?_;unfold aW;rw[zae,zbV,zbV,zae];by_cases e:k=i
 ·subst e;rw[if_pos rfl,if_pos rfl,List.length_mapIdx];split<;>rfl
 ·rw[if_neg e,if_neg e]
theorem EW(first:Nat)(ess:List (List En)):qJ (aW first ess)=false:=by
 unfold qJ;rw[Bool.eq_false_iff];intro h;rw[List.any_eq_true]at h;obtain⟨s,hs,hf⟩:=h;obtain⟨i,hi⟩:=zk hs;unfold aW at hi;rw[zbV,zad]at hi;obtain⟨a,-,rfl⟩:=hi;cases hf
structure nI(first:Nat)(ess:List (List En))(bs:List (List UInt8)):Prop where
 h4:ess.length=4
 hf:first+4≤8
 hh:∀k es,ess[k]? =some es→Holds (128*2^k) es (bs.getD (first+k) [])
theorem tW{k:Nat}(hk:k<4):n7 ((128*2^k:Nat):Int)=true∧16≤128*2^k∧128*2^k≤1024:=by
 have:k=0∨k=1∨k=2∨k=3:=by omega
 rcases this with rfl|rfl|rfl|rfl<;>decide
theorem nI.len{first:Nat}{ess:List (List En)}{bs:List (List UInt8)}(h:nI first ess bs){k:Nat}{es:List En}(hk:ess[k]? =some es):es.length≤128:=by
 have my:k<4:=by have:=(List.getElem?_eq_some_iff.1 hk).1;have:=h.h4;omega
 exact(h.hh k es hk).len (by have:=(tW my).2.1;omega)
theorem nI.mem{first:Nat}{ess:List (List En)}{bs:List (List UInt8)}(h:nI first ess bs):∀s∈aW first ess,(16≤s.n∧s.n≤2^20)∧s.es.length≤128:=by
 intro s hs;obtain⟨k,hk⟩:=zk hs;have my:k<4:=by have:=(List.getElem?_eq_some_iff.1 hk).1;rw[Pj,h.h4]at this;exact this
 obtain⟨es,he⟩:∃es,ess[k]? =some es:=⟨ess[k]'(by rw[h.h4];exact my),za _⟩
 rw[BR he]at hk;obtain rfl:=zD hk;have:=tW my;exact⟨⟨this.2.1,by show 128*2^k≤_;omega⟩,h.len he⟩
theorem nI.put{first:Nat}{ess:List (List En)}{bs:List (List UInt8)}(h:nI first ess bs)(hc:Calm bs){k:Nat}(hk:k<4){pT:List En}{b':List UInt8}(hb:Holds (128*2^k) pT b'):nI first (ess.set k pT) (bs.set (first+k) b'):=by
 refine⟨by rw[zH];exact h.h4,h.hf,fun j es hj=>?_⟩;have:=h.hf;have:=hc.h8;rw[zae]at hj;by_cases e:k=j
 ·subst e;rw[if_pos rfl,if_pos (by rw[h.h4];exact hk)]at hj;obtain rfl:=zD hj;rw[IH hc.h8 (by omega)];exact hb
 ·rw[if_neg e]at hj;rw[getD_set_ne (by omega)];exact h.hh j es hj
theorem ak.aaj{b:Nat}(xs:List (Nat×Sh))(y:Nat×Sh)(Γ:List HP):ak (dT (RG b) xs::cO y.1 b y.2::Γ) (dT (RG b) (xs++[y])::Γ):=by
 refine(ak.cx _ _).trans ?_;have h:ak (dN (RG b) 0 (xs++[y])++Γ) (dT (RG b) (xs++[y])::Γ):=ak.cA (dN (RG b) 0 (xs++[y])) Γ;rw[dN.append]at h;refine ak.trans ?_ h;rw[zr];exact .refl _
end
section
open Go.Proofs Tryz
open Go.Proofs
abbrev B0(b:List UInt8)(j:Nat):UInt8:=b.getD j 0
theorem IN{b:List UInt8}{j:Nat}(h:b.length≤j):B0 b j=0:=by simp[B0,ze,zam h]
theorem IP(b:List UInt8)(p:Nat)(x:List UInt8)(j:Nat):B0 (cQ b p x) j=if p≤j∧j<p+x.length then B0 x (j-p)else B0 b j:=by
 have hL:((b++List.replicate (p-b.length) 0).take p).length=p:=by simp;omega
 unfold B0 cQ;simp only[ze];rw[zr];by_cases h1:j<p
 ·rw[if_neg (by omega),zt (by omega),zao h1];by_cases h2:j<b.length
  ·rw[zt h2]
  ·rw[zz (by omega),zam (l:=b) (by omega)];rw[zaV];split<;>rfl
 ·rw[zz (by omega),hL];by_cases h3:j<p+x.length
  ·rw[if_pos ⟨by omega,h3⟩,zt (by omega)]
  ·rw[if_neg (by omega),zz (by omega),zar];rw[show p+x.length+(j-p-x.length)=j by omega]
structure lT(b:List UInt8)(p:Nat)(x b':List UInt8):Prop where
 lo:b.length≤b'.length
 hi:b'.length≤max b.length (p+x.length)
 aO:∀j,B0 b' j=B0 b j∨(p≤j∧j<p+x.length∧B0 b' j=B0 x (j-p))
theorem lT.refl(b:List UInt8)(p:Nat)(x:List UInt8):lT b p x b:=⟨zq _,Nat.le_max_left _ _,fun _j=> .inl rfl⟩
def Pl(p:Nat)(x:List UInt8)(c:Ch):Prop:=c.cut=false∧p≤c.aO∧c.aO+c.b.length≤p+x.length∧∀i,i<c.b.length→B0 c.b i=B0 x (c.aO-p+i)
theorem lT.kR{b x b':List UInt8}{p:Nat}(h:lT b p x b'){c:Ch}(hc:Pl p x c)(q:Int):lT b p x (kR b' c q):=by
 obtain⟨c1,c2,c3,c4⟩:=hc;unfold Go.Proofs.YtacfncmndodlpaaGreat.kR;split
 ·exact h
 rw[c1,if_neg (by simp)];dsimp only;obtain⟨n,hn⟩:∃n,(if q>1 then min c.b.length (q-2).toNat else c.b.length)=n:=⟨_,rfl⟩
 have vD:n≤c.b.length:=by rw[←hn];split<;>omega
 rw[hn];split
 ·exact h
 have hl:(c.b.take n).length=n:=by simp;omega
 refine⟨by rw[kq];have:=h.lo;omega,by rw[kq,hl];have:=h.hi;omega,fun j=>?_⟩;rw[IP,hl];by_cases e:c.aO≤j∧j<c.aO+n
 ·rw[if_pos e];refine .inr ⟨by omega,by omega,?_⟩;have:B0 (c.b.take n) (j-c.aO)=B0 c.b (j-c.aO):=by
   simp only[B0,ze];rw[zao (by omega)]
  rw[this,c4 _ (by omega)];congr 1;omega
 ·rw[if_neg e];exact h.aO j
theorem lT.gq{b x:List UInt8}{p:Nat}:∀(cs:List Ch) (b':List UInt8) (ps:List Int),lT b p x b'→(∀c∈cs,Pl p x c)→lT b p x (gq b' cs ps).1:=by
 intro cs;induction cs with
 |nil=>intro b' ps h _;exact h
 |cons c cs ih=>intro b' ps h hc;exact ih _ _ (h.kR (hc c (by simp)) _) (fun c' h'=>hc c' (by simp[h']))
theorem aak:∀(m p:Nat) (y:List UInt8),∀z∈chunks m p y,p≤z.1∧z.1+z.2.length≤p+y.length∧∀i,i<z.2.length→B0 z.2 i=B0 y (z.1-p+i):=by
 intro m;induction m with
 |zero=>intro p y z hz;simp[chunks]at hz
 |succ m ih=>
  intro p y z hz;unfold chunks at hz;split at hz
  ·simp at hz
  rw[zbe]at hz;obtain⟨k,hk⟩:∃k,min (64-p%64) y.length=k:=⟨_,rfl⟩
  rw[hk]at hz;have tb:k≤y.length:=by omega
  rcases hz with rfl|hz
  ·refine⟨zq _,by simp;omega,fun i hi=>?_⟩;simp only[zw]at hi;simp only[B0,ze];rw[zao (by omega)];simp
  ·obtain⟨h1,h2,h3⟩:=ih _ _ z hz;rw[zQ]at h2;refine⟨by omega,by omega,fun i hi=>?_⟩;rw[h3 i hi];simp only[B0,ze,zar];congr 2;omega
theorem Pm(b:List UInt8)(p:Nat)(x:List UInt8)(ps:List Int):lT b p x (gq b (np p x) ps).1:=by
 refine lT.gq _ _ _ (.refl b p x) fun c hc=>?_;unfold np at hc;rw[zbY]at hc;obtain⟨z,hz,rfl⟩:=hc;obtain⟨h1,h2,h3⟩:=aak _ _ _ z hz;exact⟨rfl,h1,h2,h3⟩
theorem IQ{b c:List UInt8}(hl:b.length=c.length)(h:∀j,B0 b j=B0 c j):b=c:=by
 refine zbB hl fun i h1 h2=>?_;have:=h i;simpa[B0,ze,h1,h2]using this
theorem Pn{b b':List UInt8}{p:Nat}{m:UInt8}(hp:p<b.length)(h:lT b p [m] b'):b'=b∨b'=cQ b p [m]:=by
 have hl:b'.length=b.length:=by have h1:=h.lo;have h2:=h.hi;simp at h2;omega
 have ho:∀j,j≠p→B0 b' j=B0 b j:=fun j hj=>by
  rcases h.aO j with e|⟨e1,e2,_⟩
  ·exact e
  ·simp at e2;omega
 by_cases e:B0 b' p=B0 b p
 ·exact .inl (IQ hl fun j=>by
   by_cases hj:j=p
   ·subst hj;exact e
   ·exact ho j hj)
 ·right;refine IQ (by rw[kq];simp;omega) fun j=>?_;rw[IP];by_cases hj:j=p
  ·subst hj;rw[if_pos ⟨zq _,by simp⟩];rcases h.aO j with e'|⟨_,_,e'⟩
   ·exact absurd e' e
   ·exact e'
  ·rw[if_neg (by simp;omega)];exact ho j hj
theorem oS{n:Nat}{b:List UInt8}{es:List En}:parse n b=some es↔es.length=iI n b.length∧∀i (h:i<es.length),pz n b i=some es[i]:=by
 unfold parse;rw[O7];constructor
 ·rintro⟨h1,h2⟩;exact⟨h1,fun i hi=>by rw[h2 i (by omega),za hi]⟩
 ·rintro⟨h1,h2⟩;exact⟨h1,fun i hi=>by rw[h2 i (by omega),za (by omega)]⟩
theorem yj{n:Nat}{b:List UInt8}{es:List En}(h:parse n b=some es):es.length≤128:=by
 apply zbn;intro hl;have:=(oS.1 h).2 128 hl;simp[pz]at this
theorem EX{n:Nat}{b:List UInt8}{i k:Nat}(hk:k<n):B0 (jB n b i) k=B0 b (i*n+k):=by
 unfold jB;simp only[B0,ze];rw[zao hk,zar]
theorem EY{n:Nat}{b:List UInt8}{i:Nat}(h:i*n+n≤b.length):(jB n b i).length=n:=by unfold jB;simp;omega
theorem IS{n:Nat}{x:List UInt8}:kE n x=some none↔B0 x 0=0:=by
 unfold kE;constructor
 ·intro h;split at h
  ·assumption
  split at h
  ·cases h
  split at h
  ·cases h
  ·simp at h
 ·intro h;rw[if_pos h]
theorem aal{n:Nat}{x:List UInt8}{t:Tx}(h:kE n x=some (some t)):n≤x.length∧t.length+16≤n:=by
 unfold kE at h;split at h
 ·simp at h
 rename_i h0;split at h
 ·cases h
 rename_i h1;split at h
 ·cases h
 rename_i h2;simp at h;subst h;rw[not_or]at h1;refine⟨by omega,?_⟩;rw[zw];omega
theorem EZ{n:Nat}{b:List UInt8}{es:List En}(_hn:0<n)(h:parse n b=some es){i:Nat}{t:Tx}(hi:es[i]? =some (some t)):i*n+n≤b.length∧t.length+16≤n:=by
 obtain⟨h1,h2⟩:=oS.1 h;obtain⟨hl,he⟩:=List.getElem?_eq_some_iff.1 hi;have:=h2 i hl;rw[oQ (by have:=yj h;omega),he]at this;have hf:=aal this;refine⟨?_,hf.2⟩;have h3:=hf.1;unfold jB at h3;simp at h3;omega
theorem aam{n:Nat}{b:List UInt8}{es:List En}(hn:0<n)(h:parse n b=some es){i:Nat}(hi:(es[i]?).join=none):B0 b (i*n)=0:=by
 obtain⟨h1,h2⟩:=oS.1 h;by_cases hl:i<es.length
 ·have:=h2 i hl;rw[za hl]at hi;rw[oQ (by have:=yj h;omega),show es[i]=none from hi]at this;have:=IS.1 this;rw[EX hn]at this;simpa using this
 ·refine IN ?_;have:=mt (n5 (i:=i) (len:=b.length) hn).2 (by omega);omega
theorem aan{n:Nat}{b b':List UInt8}{es:List En}(hn:0<n)(h:parse n b=some es)(hl:b.length≤b'.length)(nw:b'.length≤128*n)
 (hs:∀i t,es[i]? =some (some t)→∀k,k<n→B0 b' (i*n+k)=B0 b (i*n+k)) (hf:∀i,(es[i]?).join=none→B0 b' (i*n)=0):
 ∃m,parse n b'=some (es++List.replicate m none)∧iI n b'.length=es.length+m:=by
 obtain⟨h1,h2⟩:=oS.1 h;have hle:es.length≤iI n b'.length:=by
  rw[h1];apply zbn;intro aN;have h3:=(n5 hn).1 aN;have h4:=mt (n5 (i:=iI n b'.length) (len:=b'.length) hn).2 (by omega);omega
 refine⟨iI n b'.length-es.length,oS.2 ⟨by simp;omega,fun i hi=>?_⟩,by omega⟩;have c_:i*n<b'.length:=(n5 hn).1 (by simp at hi;omega);have BU:i<128:=Nat.lt_of_mul_lt_mul_right (zaw c_ nw);rw[oQ BU];by_cases hj:(es[i]?).join=none
 ·have e:(es++List.replicate (iI n b'.length-es.length) none)[i]=none:=by
   by_cases hl:i<es.length
   ·rw[zbA hl];rw[za hl]at hj;exact hj
   ·rw[List.getElem_append_right (by omega)];simp
  rw[e];refine IS.2 ?_;rw[EX hn];exact hf i hj
 ·obtain⟨t,ht⟩:∃t,es[i]? =some (some t):=by
   cases hh:es[i]? with
   |none=>rw[hh]at hj;exact absurd rfl hj
   |some e=>
    cases e with
    |none=>rw[hh]at hj;exact absurd rfl hj
    |some t=>exact⟨t,rfl⟩
  obtain⟨ec,he⟩:=List.getElem?_eq_some_iff.1 ht;have IG:=(EZ hn h ht).1;have e:jB n b' i=jB n b i:=by
   refine IQ (by rw[EY (by omega),EY IG]) fun k=>?_;by_cases hk:k<n
   ·rw[EX hk,EX hk];exact hs i t ht k hk
   ·rw[IN (by rw[EY (by omega)];omega),IN (by rw[EY IG];omega)]
  rw[e,zbA ec,←oQ BU,h2 i ec]
theorem Po{n i j k:Nat}(hk:k<n)(jk:j≠i):¬(i*n≤j*n+k∧j*n+k<i*n+n):=by
 rcases zb7 jk with h|h
 ·have:=zn n (show j+1≤i by omega);rw[zA]at this;omega
 ·have:=zn n (show i+1≤j by omega);rw[zA]at this;omega
theorem IT{n:Nat}{b b':List UInt8}{es:List En}(hn:0<n)(h:parse n b=some es){i:Nat}{t:Tx}(hi:(es[i]?).join=none)(BU:i<128)(ht:t.length+16≤n)(M:lT b (i*n) (dY n t) b'):
 ∃m,parse n b'=some (es++List.replicate m none):=by
 have dP:=tf ht;have acX:b.length≤128*n:=by
  obtain⟨h1,_⟩:=oS.1 h;have h3:=yj h;have h4:=mt (n5 (i:=128) (len:=b.length) hn).2 (by omega);omega
 have c_:i*n+n≤128*n:=by
  have:=zn n (show i+1≤128 by omega);rw[zA]at this;omega
 obtain⟨m,hm,_⟩:=aan hn h M.lo (by have:=M.hi;rw[dP]at this;omega) (fun j u hj k hk=>by
  have jk:j≠i:=by rintro rfl;rw[hj]at hi;cases hi
  rcases M.aO (j*n+k)with e|⟨e1,e2,_⟩
  ·exact e
  ·rw[dP]at e2;exact absurd ⟨e1,e2⟩ (Po hk jk)) (fun j hj=>by
  rcases M.aO (j*n)with e|⟨e1,e2,e3⟩
  ·rw[e];exact aam hn h hj
  ·rw[dP]at e2;have jk:j=i:=by
    apply zI;intro jk;exact Po (k:=0) hn jk ⟨by omega,by omega⟩
   subst jk;rw[e3,zbX];rfl)
 exact⟨m,hm⟩
theorem IU(b:List UInt8)(p:Nat)(x:List UInt8):lT b p x (cQ b p x):=by
 refine⟨by rw[kq];omega,by rw[kq];exact zq _,fun j=>?_⟩;rw[IP];split
 ·rename_i e;exact .inr ⟨e.1,e.2,rfl⟩
 ·exact .inl rfl
theorem Pp{n:Nat}{b:List UInt8}{es:List En}(hn:0<n)(h:parse n b=some es){i:Nat}(hi:i<es.length){m:UInt8}{e:En}(he:kE n ([m]++(jB n b i).drop 1)=some e):parse n (cQ b (i*n) [m])=some (es.set i e):=by
 have nw:=yj h;obtain⟨h1,h2⟩:=oS.1 h;have c_:=(n5 hn).1 (show i<iI n b.length by omega);refine oS.2 ⟨by rw[IF (by simp;omega),zH];exact h1,fun j hj=>?_⟩;rw[zH]at hj;rw[oQ (by omega),BP hn (by omega) (by simp;omega)];by_cases e:j=i
 ·subst e;rw[if_pos rfl];simpa using he
 ·rw[if_neg e,←oQ (by omega),h2 j hj,List.getElem_set_ne (zb4 e)]
theorem Pq{n:Nat}{b:List UInt8}{es:List En}(hn:0<n)(h:parse n b=some es){i:Nat}(hi:i<es.length):parse n (cQ b (i*n) [0])=some (es.set i none):=
 Pp hn h hi (IS.2 rfl)
theorem aao{n:Nat}{b:List UInt8}{es:List En}(hn:0<n∧n≤2^16)(h:parse n b=some es){i:Nat}{t:Tx}(hi:(es[i]?).join=none)(BU:i<128)(Mc:i*n≤b.length)(ht:t.length+16≤n):
 ∃m,parse n (cQ b (i*n) (dY n t))=some (es++List.replicate m none)∧i<es.length+m∧parse n (laidB n b i t)=some ((es++List.replicate m none).set i (some t))∧(i*n+n≤b.length→m=0):=by
 have dP:=tf ht;obtain⟨m,hm⟩:=IT hn.1 h hi BU ht (IU b (i*n) (dY n t));have hL:(cQ b (i*n) (dY n t)).length=max b.length (i*n+n):=by rw[kq,dP]
 have hlen:=(oS.1 hm).1;have c_:i<iI n (cQ b (i*n) (dY n t)).length:=(n5 hn.1).2 (by rw[hL];omega);simp at hlen;refine⟨m,hm,by omega,Pp hn.1 hm (by simp;omega) ?_,fun h5=>?_⟩
 ·have hz:(jB n b i).drop n=[]:=zU (by unfold jB;rw[zw];omega);rw[BP hn.1 Mc (by omega),if_pos rfl,dP,hz,zF];exact O9 ht hn.2
 ·have h6:=(oS.1 h).1;rw[hL,Nat.max_eq_left h5]at hlen;omega
def cz(es:List En):List Tx:=es.filterMap id
theorem yk(es us:List En):cz (es++us)=cz es++cz us:=by simp[cz]
theorem aap(m:Nat):cz (List.replicate m none)=[]:=by induction m<;>simp_all [cz,zbl]
theorem E0(es:List En)(m:Nat):cz (es++List.replicate m none)=cz es:=by rw[yk,aap,zF]
theorem Pr:∀{es:List En} {i:Nat} {t:Tx},i<es.length→(es[i]?).join=none→(cz (es.set i (some t))).Perm (t::cz es)
 |e::es,0,t,_,h=>by
  have:e=none:=h;subst this;exact .refl _
 |e::es,i+1,t,hl,h=>by
  have ih:=Pr (es:=es) (i:=i) (t:=t) (by simpa using hl) h;rw[zaJ];cases e with
  |none=>exact ih
  |some u=>exact(ih.cons u).trans (.swap _ _ _)
theorem BV:∀{es:List En} {i:Nat} {t:Tx},es[i]? =some (some t)→(t::cz (es.set i none)).Perm (cz es)
 |e::es,0,t,h=>by
  have:e=some t:=by simpa using h
  subst this;exact .refl _
 |e::es,i+1,t,h=>by
  have ih:=BV (es:=es) (i:=i) (t:=t) (by simpa using h);rw[zaJ];cases e with
  |none=>exact ih
  |some u=>exact(List.Perm.swap _ _ _).trans (ih.cons u)
theorem vF:∀es:List En,cz (es.filter Option.isSome)=cz es
 |[]=>rfl
 |none::es=>vF es
 |some t::es=>by
  show cz (some t::es.filter Option.isSome)=t::cz es;rw[←vF es];rfl
end
section
open Go.Proofs Tryz
open Go.Proofs
def QD(bs:List (List UInt8))(u:Nat):Dk:=⟨bs.map dE,false,u,0⟩
def fV(bs:List (List UInt8))(f:Nat)(Q:List UInt8→Prop)(d:Dk):Prop:=d.off=true∧∀ps,∃b',ma d.fs ps=bs.set f b'∧Q b'
theorem fV.imp{bs:List (List UInt8)}{f:Nat}{Q Q':List UInt8→Prop}{d:Dk}(h:fV bs f Q d)(hq:∀b,Q b→Q' b):fV bs f Q' d:=⟨h.1,fun ps=>by
 obtain⟨b',h1,h2⟩:=h.2 ps;exact⟨b',h1,hq _ h2⟩⟩
theorem fV.set{bs:List (List UInt8)}{f:Nat}{Q:List UInt8→Prop}{d:Dk}{c:List UInt8}(h:fV (bs.set f c) f Q d):fV bs f Q d:=⟨h.1,fun ps=>by
 obtain⟨b',h1,h2⟩:=h.2 ps;exact⟨b',by rw[h1,zby],h2⟩⟩
theorem BW:∀(bs:List (List UInt8)) (ps:List Int),ma (bs.map dE) ps=bs
 |[],_=>rfl
 |b::bs,ps=>by
  show(gq b [] ps).1::ma (bs.map dE) (gq b [] ps).2=_;rw[BW bs];simp[gq]
theorem IV:∀(bs:List (List UInt8)) (f:Nat) (x:Fl) (ps:List Int),f<bs.length→∃qs,ma ((bs.map dE).set f x) ps=bs.set f (gq x.safe x.aR qs).1
 |b::bs,0,x,ps,_=>⟨ps,by
  show(gq x.safe x.aR ps).1::ma (bs.map dE) (gq x.safe x.aR ps).2=_;rw[BW];rfl⟩
 |b::bs,f+1,x,ps,h=>by
  obtain⟨qs,hq⟩:=IV bs f x (gq b [] ps).2 (by simpa using h);refine⟨qs,?_⟩;show(gq b [] ps).1::ma ((bs.map dE).set f x) (gq b [] ps).2=_;rw[hq];rfl
theorem IW{bs:List (List UInt8)}{f:Nat}(hf:f<bs.length):bs.set f (bs.getD f [])=bs:=by
 rw[ze,za hf];simp
theorem E1{bs:List (List UInt8)}{f:Nat}(hf:f<bs.length){Q:List UInt8→Prop}(h:Q (bs.getD f []))(uo ub:Nat):fV bs f Q ⟨bs.map dE,true,uo,ub⟩:=
 ⟨rfl,fun ps=>⟨_,by rw[IW hf];exact BW bs ps,h⟩⟩
theorem E2{bs:List (List UInt8)}{f:Nat}(hf:f<bs.length){Q:List UInt8→Prop}{x:Fl}(h:∀qs,Q (gq x.safe x.aR qs).1)(uo ub:Nat):fV bs f Q ⟨(bs.map dE).set f x,true,uo,ub⟩:=
 ⟨rfl,fun ps=>by obtain⟨qs,hq⟩:=IV bs f x ps hf;exact⟨_,hq,h qs⟩⟩
theorem yl{bs:List (List UInt8)}(h:bs.length=8){f:Nat}(hf:f<8)(u:Nat):(QD bs u).file f=dE (bs.getD f []):=by
 unfold Dk.file QD;simp only[zV];rw[ze,ze,zf];rw[za (by omega)];rfl
theorem IX{bs:List (List UInt8)}(h:bs.length=8){f:Nat}(hf:f<8)(x:Fl)(o:Bool)(u v:Nat):(⟨(bs.map dE).set f x,o,u,v⟩:Dk).file f=x:=by
 unfold Dk.file;rw[ze];simp[h,hf]
theorem Ps(fs:List Fl)(f:Int):(⟨fs,false,1,0⟩:Dk).counts f=13:=rfl
theorem ym(fs:List Fl){u f:Nat}(hu:u≠1)(hf:f<8):(⟨fs,false,u,0⟩:Dk).counts f=0:=by simp[Dk.counts,hu];omega
theorem yn(fs:List Fl){u:Nat}(hu:u≠1):(⟨fs,false,u,0⟩:Dk).step=⟨fs,false,u-1,0⟩:=by simp[Dk.step,hu]
theorem IY{bs:List (List UInt8)}(h:bs.length=8){f p u:Nat}(hf:f<8){x b:List UInt8}(hb:bs.getD f []=b)(hp:p≤b.length)(hx:p+x.length≤131072)(hu:u≠1):
 (QD bs u).write f p x=(⟨(bs.map dE).set f ((dE b).write p x),false,u-1,0⟩,0):=by
 unfold Dk.write;rw[show(QD bs u).counts f=0 from ym _ hu hf,if_neg (by simp),yl h hf,hb,if_neg (by show¬((p:Int)<0∨(b.length:Int)<p);omega),if_neg (by omega)];rw[show(QD bs u).step=⟨bs.map dE,false,u-1,0⟩from yn _ hu];rfl
theorem E3{bs:List (List UInt8)}(h:bs.length=8){f u:Nat}(hf:f<8)(x:Fl)(hu:u≠1):
 (⟨(bs.map dE).set f x,false,u,0⟩:Dk).sync f=(QD (bs.set f x.now) (u-1),0):=by
 unfold Dk.sync;rw[ym _ hu hf,if_neg (by simp),yn _ hu,IX h hf];dsimp only;rw[zV,zby];unfold QD;rw[zak];rfl
theorem BX{bs:List (List UInt8)}(h:bs.length=8){f p:Nat}(u:Nat)(hf:f<8){x b:List UInt8}(hb:bs.getD f []=b)(hp:p≤b.length)(hx:p+x.length≤131072):
 (∃u',jA (QD bs u) f p x=(QD (bs.set f (cQ b p x)) u',0)∧(u=0→u'=0))∨(u≠0∧∃d,jA (QD bs u) f p x=(d,13)∧fV bs f (lT b p x) d):=by
 by_cases h1:u=1
 ·subst h1;refine .inr ⟨by decide,⟨bs.map dE,true,0,0⟩,?_,E1 (by omega) (by rw[hb];exact .refl _ _ _) _ _⟩;have hw:(QD bs 1).write f p x=(⟨bs.map dE,true,0,0⟩,13):=by
   unfold Dk.write;rw[if_pos (by rw[show(QD bs 1).counts f=13 from rfl];decide)];rfl
  unfold jA;rw[hw,if_pos (by simp)]
 ·unfold jA;rw[IY h hf hb hp hx h1,if_neg (by simp)];dsimp only;by_cases h2:u-1=1
  ·rw[h2];refine .inr ⟨by omega,⟨(bs.map dE).set f ((dE b).write p x),true,0,0⟩,?_,E2 (by omega) (fun qs=>Pm b p x qs) _ _⟩;unfold Dk.sync;rw[if_pos (by rw[Ps];decide)];rfl
  ·refine .inl ⟨u-1-1,?_,by omega⟩;rw[E3 h hf _ h2];rfl
theorem BY{bs:List (List UInt8)}(h:bs.length=8){f n i:Nat}(u:Nat)(hf:f<8){b:List UInt8}(hb:bs.getD f []=b)(m:UInt8)(hp:i*n<b.length)(hx:i*n+1≤131072):
 (∃u',mark (QD bs u) f n i m=(QD (bs.set f (cQ b (i*n) [m])) u',0)∧(u=0→u'=0))∨(u≠0∧∃d,mark (QD bs u) f n i m=(d,13)∧fV bs f (fun b'=>b'=b∨b'=cQ b (i*n) [m]) d):=by
 rcases BX (p:=i*n) h u hf hb (x:=[m]) (by omega) (by simpa using hx)with h1|⟨h0,d,h1,h2⟩
 ·exact .inl h1
 ·exact .inr ⟨h0,d,h1,h2.imp fun b' gM=>Pn hp gM⟩
theorem I4{bs:List (List UInt8)}(h:bs.length=8){f n i:Nat}(u:Nat)(hf:f<8){b:List UInt8}(hb:bs.getD f []=b){t:Tx}(ht:t.length+16≤n)(hp:i*n≤b.length)(hx:i*n+n≤131072):
 (∃u',eN (QD bs u) f n i t=(QD (bs.set f (laidB n b i t)) u',0)∧(u=0→u'=0))∨(u≠0∧∃d,eN (QD bs u) f n i t=(d,13)∧fV bs f (fun b'=>lT b (i*n) (dY n t) b'∨b'=laidB n b i t) d):=by
 have mb:=tf ht;have ed:(bs.set f (cQ b (i*n) (dY n t))).getD f []=cQ b (i*n) (dY n t):=by rw[ze];simp[h,hf]
 unfold eN;rcases BX h u hf hb (x:=dY n t) hp (by rw[mb];exact hx)with ⟨u',h1,h0⟩|⟨h0,d,h1,h2⟩
 ·rw[h1,if_neg (by simp)];dsimp only;rcases BY (bs:=bs.set f (cQ b (i*n) (dY n t))) (by simpa using h) u' hf ed 1 (n:=n) (i:=i) (by rw[kq,mb];omega) (by omega)with ⟨u2,h3,h4⟩|⟨h3,d,h4,h5⟩
  ·exact .inl ⟨u2,by rw[h3,zby];rfl,fun e=>h4 (h0 e)⟩
  ·refine .inr ⟨fun e=>h3 (h0 e),d,h4,h5.set.imp fun b' gM=>?_⟩;rcases gM with rfl|rfl
   ·exact .inl (IU _ _ _)
   ·exact .inr rfl
 ·rw[h1,if_pos (by simp)];exact .inr ⟨h0,d,rfl,h2.imp fun b' gM=> .inl gM⟩
theorem Pu(es:List En):(es[ff es]?).join=none:=by
 by_cases h:ff es<es.length
 ·rw[za h,Lu h];rfl
 ·rw[zam (by omega)];rfl
theorem Pv{es:List En}{t:Tx}:(cz (putAt es (ff es) t)).Perm (t::cz es):=by
 unfold putAt;split
 ·rw[yk];exact(zac (l₁:=cz es) (l₂:=[t]))
 ·exact Pr (by have:=C5 es;omega) (Pu es)
def Left(n:Nat)(M:List Tx→Prop)(b:List UInt8):Prop:=b.length≤131072∧∃es,parse n b=some es∧M (cz es)
theorem aaq{n i:Nat}(hn:n≤1024)(hi:i<128):i*n+n≤131072:=by
 have h1:=zaZ (show i+1≤128 by omega) hn;rw[zA,zbR]at h1;omega
def I5(L T:List Tx):Prop:=T.Perm L∨∃x∈L,T.Perm (x::L)
theorem Pw(acc r:List En)(k:Nat):cz (acc++List.replicate k none++r)=cz acc++cz r:=by rw[yk,E0]
theorem aar{n:Nat}{b:List UInt8}{c:List En}{k:Nat}(hn:0<n)(h:parse n b=some (c++List.replicate k none))(hc:∀e∈c,e.isSome=true):c.length*n≤b.length:=by
 rcases List.eq_nil_or_concat c with rfl|⟨c',e,rfl⟩
 ·simp
 ·rw[List.concat_eq_append]at*;have he:=hc e (by simp);obtain⟨t,rfl⟩:=Option.isSome_iff_exists.1 he;have:=(EZ (i:=c'.length) (t:=t) hn h (by rw[zr,zz (by omega)];simp)).1;rw[zd,zC,zA,zbR];exact this
theorem I6{n:Nat}{b:List UInt8}{c us:List En}(hn:0<n)(h:parse n b=some (c++us))(hl:c.length*n≤b.length):Holds n c (b.take (c.length*n)):=by
 have hlen:(b.take (c.length*n)).length=c.length*n:=by rw[zw];omega
 have nw:=yj h;rw[zd]at nw;obtain⟨h1,h2⟩:=oS.1 h;refine⟨oS.2 ⟨by rw[hlen,O8 hn],fun i hi=>?_⟩,hlen⟩;have:=h2 i (by simp;omega);rw[zbA hi]at this;rw[←this,oQ (by omega),oQ (by omega)];unfold jB;have c_:=zn n (show i+1≤c.length by omega);rw[zA]at c_;rw[List.drop_take,zcd,zat (by omega)]
theorem E4{f n:Nat}(hf:f<8)(hn:16≤n∧n≤1024):∀(r acc:List En) (k i u:Nat) (bs:List (List UInt8)) (b:List UInt8),bs.length=8→bs.getD f []=b→b.length≤131072→i=acc.length+k→parse n b=some (acc++List.replicate k none++r)→
 (∃b' k' u',fJ f n (QD bs u) i r acc=(QD (bs.set f b') u',acc++r.filter Option.isSome,0)∧parse n b'=some (acc++r.filter Option.isSome++List.replicate k' none)∧b'.length=b.length∧(u=0→u'=0))∨
 (u≠0∧∃d qc,fJ f n (QD bs u) i r acc=(d,qc,13)∧fV bs f (Left n (I5 (cz acc++cz r))) d)
 |[],acc,k,i,u,bs,b,h8,hb,jc,hi,h=> .inl ⟨b,k,u,by rw[←hb,IW (by omega)];simp[fJ],by simpa using h,rfl,id⟩
 |none::r,acc,k,i,u,bs,b,h8,hb,jc,hi,h=>by
  rw[fJ];exact E4 hf hn r acc (k+1) (i+1) u bs b h8 hb jc (by omega) (by rw[List.replicate_succ'];simpa using h)
 |some t::r,acc,k,i,u,bs,b,h8,hb,jc,hi,h=>by
  have mV:0<n:=by omega
  have hl:=yj h;simp at hl;have tX:(acc++List.replicate k none++some t::r)[i]? =some (some t):=by
   rw[zz (by simp;omega)];simp[hi]
  obtain⟨c_,ht⟩:=EZ mV h tX;rw[IC];by_cases e:acc.length=i
  ·have hk:k=0:=by omega
   subst hk;rw[if_pos e];have hT:cz acc++cz (some t::r)=cz (acc++[some t])++cz r:=by rw[yk,zr];rfl
   rw[hT,show acc++List.filter Option.isSome (some t::r)=(acc++[some t])++r.filter Option.isSome by simp];exact E4 hf hn r (acc++[some t]) 0 (i+1) u bs b h8 hb jc (by simp;omega) (by simpa using h)
  ·obtain⟨m,rfl⟩:∃m,k=m+1:=⟨k-1,by omega⟩
   rw[if_neg e];have iL:=zn n (show acc.length+1≤i by omega);rw[zA,zbR]at iL;have Px:((acc++List.replicate (m+1) none++some t::r)[acc.length]?).join=none:=by
    rw[zr,zz (zq _),zbX,zbl];rfl
   obtain⟨m0,oF,-,k7,KT⟩:=aao (n:=n) (b:=b) (i:=acc.length) (t:=t) ⟨mV,by omega⟩ h Px (by omega) (by omega) ht;have aas:=KT (by omega);subst aas;rw[zb1,zF]at oF k7;have rJ:(acc++List.replicate (m+1) none++some t::r).set acc.length (some t)=(acc++[some t])++List.replicate m none++some t::r:=by
    rw[zr,za6 _ _ (by omega)];simp[zbl]
   rw[rJ]at k7;have dP:=tf ht;have Iv:(cQ b (acc.length*n) (dY n t)).length=b.length:=by rw[kq,dP];omega
   have Py:(laidB n b acc.length t).length=b.length:=by unfold laidB;rw[kq,Iv];simp;omega
   have hT0:cz (acc++List.replicate (m+1) none++some t::r)=cz acc++cz (some t::r):=Pw _ _ _;have I7:(cz ((acc++[some t])++List.replicate m none++some t::r)).Perm (t::(cz acc++cz (some t::r))):=by
    rw[Pw,yk,zr];exact zau
   have fG:t∈cz acc++cz (some t::r):=by simp[cz]
   rcases I4 (i:=acc.length) h8 u hf hb ht (by omega) (by omega)with ⟨u',h1,Az⟩|⟨hu,d,h1,h2⟩
   ·rw[h1];dsimp only;rw[if_neg (by simp)];have ed:(bs.set f (laidB n b acc.length t)).getD f []=laidB n b acc.length t:=by rw[ze];simp[h8,hf]
    rcases BY (bs:=bs.set f (laidB n b acc.length t)) (b:=laidB n b acc.length t) (by simpa using h8) u' hf ed 0 (n:=n) (i:=i) (by omega) (by omega)with ⟨u2,h3,mL⟩|⟨hu,d,h3,h4⟩
    ·rw[h3,zby];dsimp only;rw[if_neg (by simp)];have hd:=Pq (i:=i) mV k7 (by simp;omega);have nx:((acc++[some t])++List.replicate m none++some t::r).set i none=(acc++[some t])++List.replicate (m+1) none++r:=by
      rw[za6 _ _ (by simp;omega)];rw[show i-(acc++[some t]++List.replicate m (none:En)).length=0 by simp;omega];rw[List.replicate_succ'];simp
     rw[nx]at hd;have hL3:(cQ (laidB n b acc.length t) (i*n) [0]).length=b.length:=by rw[kq,Py];simp;omega
     have hT:cz acc++cz (some t::r)=cz (acc++[some t])++cz r:=by rw[yk,zr];rfl
     rw[hT,show acc++List.filter Option.isSome (some t::r)=(acc++[some t])++r.filter Option.isSome by simp];rcases E4 hf hn r (acc++[some t]) (m+1) (i+1) u2 (bs.set f (cQ (laidB n b acc.length t) (i*n) [0])) _ (by simpa using h8) (by rw[ze];simp[h8,hf]) (by omega) (by simp;omega) hd with ⟨b',k',u3,g1,g2,g3,g4⟩|⟨g0,d,qc,g1,g2⟩
     ·exact .inl ⟨b',k',u3,by rw[g1,zby],g2,by omega,fun e=>g4 (mL (Az e))⟩
     ·exact .inr ⟨fun e=>g0 (mL (Az e)),d,qc,g1,g2.set⟩
    ·rw[h3];dsimp only;rw[if_pos (by simp)];refine .inr ⟨fun e=>hu (Az e),d,_,rfl,h4.set.imp fun b' gM=>?_⟩;rcases gM with rfl|rfl
     ·exact⟨by omega,_,k7,.inr ⟨t,fG,I7⟩⟩
     ·have hd:=Pq (i:=i) mV k7 (by simp;omega);refine⟨by rw[kq,Py];simp;omega,_,hd,.inl ?_⟩;have h5:=BV (es:=(acc++[some t])++List.replicate m none++some t::r) (i:=i) (t:=t) (by
       rw[zz (by simp;omega)];rw[show i-(acc++[some t]++List.replicate m (none:En)).length=0 by simp;omega];rfl)
      exact List.Perm.cons_inv (h5.trans I7)
   ·rw[h1];dsimp only;rw[if_pos (by simp)];refine .inr ⟨hu,d,_,rfl,h2.imp fun b' gM=>?_⟩;rcases gM with M|rfl
    ·obtain⟨m1,j2⟩:=IT mV h Px (by omega) ht M;refine⟨?_,_,j2,.inl (by rw[E0,hT0])⟩;have h3:=M.hi;rw[dP]at h3;omega
    ·exact⟨by omega,_,k7,.inr ⟨t,fG,I7⟩⟩
theorem aat(b:List UInt8)(c:Nat)(qs:List Int)(_hc:c≤b.length):(gq b [⟨true,c,[]⟩] qs).1=b∨(gq b [⟨true,c,[]⟩] qs).1=b.take c:=by
 show kR b ⟨true,c,[]⟩ (pk qs).1=b∨kR b ⟨true,c,[]⟩ (pk qs).1=b.take c;unfold kR;split
 ·exact .inl rfl
 ·rw[if_pos rfl];split
  ·exact .inr rfl
  ·exact .inl rfl
theorem aau{bs:List (List UInt8)}(h:bs.length=8){f c:Nat}(u:Nat)(hf:f<8){b:List UInt8}(hb:bs.getD f []=b)(hc:c≤b.length):
 (∃d u',(QD bs u).cut f (c:Nat)=(d,0)∧d.sync f=(QD (bs.set f (b.take c)) u',0)∧(u=0→u'=0))∨
 (u≠0∧∃d,(QD bs u).cut f (c:Nat)=(d,13)∧fV bs f (fun b'=>b'=b∨b'=b.take c) d)∨
 (u≠0∧∃d d',(QD bs u).cut f (c:Nat)=(d,0)∧d.sync f=(d',13)∧fV bs f (fun b'=>b'=b∨b'=b.take c) d'):=by
 by_cases h1:u=1
 ·subst h1;refine .inr (.inl ⟨by decide,⟨bs.map dE,true,0,0⟩,?_,E1 (by omega) (.inl hb) _ _⟩);unfold Dk.cut;rw[if_pos (by rw[show(QD bs 1).counts f=13 from rfl];decide)];rfl
 ·have hw:(QD bs u).cut f (c:Nat)=(⟨(bs.map dE).set f ((dE b).cut c),false,u-1,0⟩,0):=by
   unfold Dk.cut;rw[show(QD bs u).counts f=0 from ym _ h1 hf,if_neg (by simp),yl h hf,hb,if_neg (by show¬((c:Int)<0∨(b.length:Int)<c);omega)];rw[show(QD bs u).step=⟨bs.map dE,false,u-1,0⟩from yn _ h1];rfl
  rw[hw];by_cases h2:u-1=1
  ·refine .inr (.inr ⟨by omega,_,⟨(bs.map dE).set f ((dE b).cut c),true,0,0⟩,rfl,?_,E2 (by omega) (fun qs=>aat b c qs hc) _ _⟩);rw[h2];unfold Dk.sync;rw[if_pos (by rw[Ps];decide)];rfl
  ·refine .inl ⟨_,u-1-1,rfl,?_,by omega⟩;rw[E3 h hf _ h2];rfl
theorem aav{bs:List (List UInt8)}(hc:Calm bs){f n:Nat}(u:Nat)(hf:f<8)(fR:n7 n=true){es:List En}(h:parse n (bs.getD f [])=some es):
 (∃b' u',sh (QD bs u) f n=(QD (bs.set f b') u',some ⟨f,n,es.filter Option.isSome,false⟩,0)∧Holds n (es.filter Option.isSome) b'∧(u=0→u'=0))∨
 (u≠0∧∃d,sh (QD bs u) f n=(d,none,13)∧fV bs f (Left n (I5 (cz es))) d):=by
 have h8:=hc.h8;have hn:16≤n∧n≤1024:=by
  unfold n7 at fR;simp only[zM,beq_iff_eq]at fR;omega
 obtain⟨b,hb⟩:∃b,bs.getD f []=b:=⟨_,rfl⟩
 have jc:b.length≤131072:=by
  refine hc.hb b ?_;rw[←hb,ze,za (by omega)];exact zap _
 rw[hb]at h;have uQ:∀{b':List UInt8} {k':Nat},parse n b'=some (es.filter Option.isSome++List.replicate k' none)→(es.filter Option.isSome).length*n≤b'.length:=fun h'=>
  aar (by omega) h' (fun e he=>(List.mem_filter.1 he).2)
 have hD:cz es=cz (es.filter Option.isSome):=(vF es).symm;by_cases h1:u=1∧False
 ·exact absurd h1.2 id
 have ha:(QD bs u).asks f=0:=by unfold Dk.asks QD;simp;omega
 have h5:sh (QD bs u) f n=BO (QD bs u) f n es:=by
  unfold sh;rw[if_neg (by rw[fR];simp;omega),ha,if_neg (by simp),yl h8 hf,hb];show(match parse (n:Int).toNat b with|none=>_|some l=>_)=_;rw[zV,h]
  rfl
 rw[h5];unfold BO;have hM:=E4 hf hn es [] 0 0 u bs b h8 hb jc rfl (by simpa using h);simp only[zB]at hM;rcases hM with ⟨b',k',u',h1,h2,h3,h4⟩|⟨h0,d,qc,h1,h2⟩
 ·rw[h1,yl h8 hf,hb];dsimp only;rw[if_neg (by simp)];have hle:=uQ h2;by_cases aN:(es.filter Option.isSome).length*n<(dE b).now.length
  ·rw[if_pos aN];have ed:(bs.set f b').getD f []=b':=by rw[ze];simp[h8,hf]
   have hQ:∀c,c=b'∨c=b'.take ((es.filter Option.isSome).length*n)→Left n (I5 (cz es)) c:=by
    rintro c (rfl|rfl)
    ·exact⟨by omega,_,h2,.inl (by rw[E0,←hD])⟩
    ·exact⟨by rw[zw];omega,_,(I6 (by omega) h2 hle).1,.inl (by rw[←hD])⟩
   rcases aau (bs:=bs.set f b') (by simpa using h8) u' hf ed hle with ⟨d,u2,g1,g2,g3⟩|⟨g0,d,g1,g2⟩|⟨g0,d,d',g1,g2,g3⟩
   ·rw[g1];dsimp only;rw[if_neg (by simp),g2];dsimp only;rw[if_neg (by simp),zby];exact .inl ⟨_,u2,rfl,I6 (by omega) h2 hle,fun e=>g3 (h4 e)⟩
   ·rw[g1];dsimp only;rw[if_pos (by simp)];exact .inr ⟨fun e=>g0 (h4 e),d,rfl,g2.set.imp hQ⟩
   ·rw[g1];dsimp only;rw[if_neg (by simp),g2];dsimp only;rw[if_pos (by simp)];exact .inr ⟨fun e=>g0 (h4 e),d',rfl,g3.set.imp hQ⟩
  ·rw[if_neg aN];have hlb:(es.filter Option.isSome).length*n=b'.length:=by
    have:(dE b).now.length=b.length:=rfl;omega
   have hH:=I6 (by omega) h2 hle;rw[hlb,zu]at hH;exact .inl ⟨b',u',rfl,hH,h4⟩
 ·rw[h1];dsimp only;rw[if_pos (by simp)];exact .inr ⟨h0,d,rfl,by simpa[cz]using h2⟩
end
section
open Go.Proofs Tryz
namespace V
def QD(bs:List (List UInt8))(u v:Nat):Dk:=⟨bs.map dE,false,u,v⟩
def fV(bs:List (List UInt8))(f:Nat)(Q:List UInt8→Prop)(d:Dk):Prop:=∀ps,∃b',ma d.fs ps=bs.set f b'∧Q b'
theorem fV.imp{bs:List (List UInt8)}{f:Nat}{Q Q':List UInt8→Prop}{d:Dk}(h:fV bs f Q d)(hq:∀b,Q b→Q' b):fV bs f Q' d:=fun ps=>by
 obtain⟨b',h1,h2⟩:=h ps;exact⟨b',h1,hq _ h2⟩
theorem fV.set{bs:List (List UInt8)}{f:Nat}{Q:List UInt8→Prop}{d:Dk}{c:List UInt8}(h:fV (bs.set f c) f Q d):fV bs f Q d:=fun ps=>by
 obtain⟨b',h1,h2⟩:=h ps;exact⟨b',by rw[h1,zby],h2⟩
theorem E1{bs:List (List UInt8)}{f:Nat}(hf:f<bs.length){Q:List UInt8→Prop}(h:Q (bs.getD f []))(o:Bool)(uo ub:Nat):fV bs f Q ⟨bs.map dE,o,uo,ub⟩:=
 fun ps=>⟨_,by rw[IW hf];exact BW bs ps,h⟩
theorem E2{bs:List (List UInt8)}{f:Nat}(hf:f<bs.length){Q:List UInt8→Prop}{x:Fl}(h:∀qs,Q (gq x.safe x.aR qs).1)(o:Bool)(uo ub:Nat):fV bs f Q ⟨(bs.map dE).set f x,o,uo,ub⟩:=
 fun ps=>by obtain⟨qs,hq⟩:=IV bs f x ps hf;exact⟨_,hq,h qs⟩
theorem yl{bs:List (List UInt8)}(h:bs.length=8){f:Nat}(hf:f<8)(u v:Nat):(QD bs u v).file f=dE (bs.getD f []):=by
 unfold Dk.file QD;simp only[zV];rw[ze,ze,zf];rw[za (by omega)];rfl
theorem IX{bs:List (List UInt8)}(h:bs.length=8){f:Nat}(hf:f<8)(x:Fl)(o:Bool)(u v:Nat):(⟨(bs.map dE).set f x,o,u,v⟩:Dk).file f=x:=by
 unfold Dk.file;rw[ze];simp[h,hf]
abbrev vG(u v:Nat):Prop:=u≠1∧v≠1
theorem ym(fs:List Fl){u v f:Nat}(hu:vG u v)(hf:f<8):(⟨fs,false,u,v⟩:Dk).counts f=0:=by simp[Dk.counts,hu.1,hu.2];omega
theorem yn(fs:List Fl){u v:Nat}(hu:vG u v):(⟨fs,false,u,v⟩:Dk).step=⟨fs,false,u-1,v-1⟩:=by simp[Dk.step,hu.1]
theorem Pz(fs:List Fl){u v:Nat}(f:Nat)(hu:¬vG u v):(⟨fs,false,u,v⟩:Dk).counts f≠0∧(u≠0∨v≠0)∧∃o u' v',(⟨fs,false,u,v⟩:Dk).step=⟨fs,o,u',v'⟩:=by
 by_cases h1:u=1
 ·subst h1;exact⟨by simp[Dk.counts],by simp,_,_,_,rfl⟩
 ·have h2:v=1:=by
   apply zI;intro h;exact hu ⟨h1,h⟩
  subst h2;exact⟨by simp[Dk.counts,h1],by simp,_,_,_,rfl⟩
theorem IY{bs:List (List UInt8)}(h:bs.length=8){f p u v:Nat}(hf:f<8){x b:List UInt8}(hb:bs.getD f []=b)(hp:p≤b.length)(hx:p+x.length≤131072)(hu:vG u v):
 (QD bs u v).write f p x=(⟨(bs.map dE).set f ((dE b).write p x),false,u-1,v-1⟩,0):=by
 unfold Dk.write;rw[show(QD bs u v).counts f=0 from ym _ hu hf,if_neg (by simp),yl h hf,hb,if_neg (by show¬((p:Int)<0∨(b.length:Int)<p);omega),if_neg (by omega)];rw[show(QD bs u v).step=⟨bs.map dE,false,u-1,v-1⟩from yn _ hu];rfl
theorem E3{bs:List (List UInt8)}(h:bs.length=8){f u v:Nat}(hf:f<8)(x:Fl)(hu:vG u v):
 (⟨(bs.map dE).set f x,false,u,v⟩:Dk).sync f=(QD (bs.set f x.now) (u-1) (v-1),0):=by
 unfold Dk.sync;rw[ym _ hu hf,if_neg (by simp),yn _ hu,IX h hf];dsimp only;rw[zV,zby];unfold QD;rw[zak];rfl
abbrev Out(bs:List (List UInt8))(f:Nat)(u v:Nat)(b':List UInt8)(Q:List UInt8→Prop)(r:Dk×Int):Prop:=
 (∃u' v',r=(QD (bs.set f b') u' v',0)∧(u=0→u'=0)∧(v=0→v'=0))∨((u≠0∨v≠0)∧∃d e,r=(d,e)∧e≠0∧fV bs f Q d)
theorem BX{bs:List (List UInt8)}(h:bs.length=8){f p:Nat}(u v:Nat)(hf:f<8){x b:List UInt8}(hb:bs.getD f []=b)(hp:p≤b.length)(hx:p+x.length≤131072):
 Out bs f u v (cQ b p x) (lT b p x) (jA (QD bs u v) f p x):=by
 by_cases h1:vG u v
 ·unfold jA;rw[IY h hf hb hp hx h1,if_neg (by simp)];dsimp only;by_cases h2:vG (u-1) (v-1)
  ·refine .inl ⟨u-1-1,v-1-1,?_,by omega,by omega⟩;rw[E3 h hf _ h2];rfl
  ·obtain⟨c1,c2,o,u',v',c3⟩:=Pz ((bs.map dE).set f ((dE b).write p x)) f h2;refine .inr ⟨by omega,⟨(bs.map dE).set f ((dE b).write p x),o,u',v'⟩,_,?_,c1,E2 (by omega) (fun qs=>Pm b p x qs) _ _ _⟩;unfold Dk.sync;rw[if_pos c1,c3]
 ·obtain⟨c1,c2,o,u',v',c3⟩:=Pz (bs.map dE) f h1;have hw:(QD bs u v).write f p x=(⟨bs.map dE,o,u',v'⟩,(QD bs u v).counts f):=by
   unfold Dk.write;rw[if_pos (show(QD bs u v).counts f≠0 from c1),show(QD bs u v).step=⟨bs.map dE,o,u',v'⟩from c3]
  refine .inr ⟨c2,⟨bs.map dE,o,u',v'⟩,(QD bs u v).counts f,?_,c1,E1 (by omega) (by rw[hb];exact .refl _ _ _) _ _ _⟩;unfold jA;rw[hw,if_pos (show(QD bs u v).counts f≠0 from c1)]
theorem BY{bs:List (List UInt8)}(h:bs.length=8){f n i:Nat}(u v:Nat)(hf:f<8){b:List UInt8}(hb:bs.getD f []=b)(m:UInt8)(hp:i*n<b.length)(hx:i*n+1≤131072):
 Out bs f u v (cQ b (i*n) [m]) (fun b'=>b'=b∨b'=cQ b (i*n) [m]) (mark (QD bs u v) f n i m):=by
 rcases BX (p:=i*n) h u v hf hb (x:=[m]) (by omega) (by simpa using hx)with h1|⟨h0,d,e,h1,he,h2⟩
 ·exact .inl h1
 ·exact .inr ⟨h0,d,e,h1,he,h2.imp fun b' gM=>Pn hp gM⟩
theorem I4{bs:List (List UInt8)}(h:bs.length=8){f n i:Nat}(u v:Nat)(hf:f<8){b:List UInt8}(hb:bs.getD f []=b){t:Tx}(ht:t.length+16≤n)(hp:i*n≤b.length)(hx:i*n+n≤131072):
 Out bs f u v (laidB n b i t) (fun b'=>lT b (i*n) (dY n t) b'∨b'=laidB n b i t) (eN (QD bs u v) f n i t):=by
 have mb:=tf ht;have ed:(bs.set f (cQ b (i*n) (dY n t))).getD f []=cQ b (i*n) (dY n t):=by rw[ze];simp[h,hf]
 unfold eN;rcases BX h u v hf hb (x:=dY n t) hp (by rw[mb];exact hx)with ⟨u',v',h1,h0,rW⟩|⟨h0,d,e,h1,he,h2⟩
 ·rw[h1,if_neg (by simp)];dsimp only;rcases BY (bs:=bs.set f (cQ b (i*n) (dY n t))) (by simpa using h) u' v' hf ed 1 (n:=n) (i:=i) (by rw[kq,mb];omega) (by omega)with ⟨u2,v2,h3,h4,I8⟩|⟨h3,d,e,h4,he,h5⟩
  ·exact .inl ⟨u2,v2,by rw[h3,zby];rfl,fun e=>h4 (h0 e),fun e=>I8 (rW e)⟩
  ·refine .inr ⟨by omega,d,e,h4,he,h5.set.imp fun b' gM=>?_⟩;rcases gM with rfl|rfl
   ·exact .inl (IU _ _ _)
   ·exact .inr rfl
 ·rw[h1,if_pos he];exact .inr ⟨h0,d,e,rfl,he,h2.imp fun b' gM=> .inl gM⟩
theorem aaw{bs:List (List UInt8)}(hc:Calm bs){f n:Nat}(u v:Nat)(hf:f<8)(hn:16≤n∧n≤1024){es:List En}{b:List UInt8}(hb:bs.getD f []=b)(h:Holds n es b){t:Tx}(ht:t.length+16≤n)(nw:ff es<128):
 (∃u' v',Sh.put ⟨f,n,es,false⟩ (QD bs u v) t=((⟨f,n,putAt es (ff es) t,false⟩:Sh),QD (bs.set f (laidB n b (ff es) t)) u' v',((ff es:Nat):Int),0)∧(u=0→u'=0)∧(v=0→v'=0)∧Holds n (putAt es (ff es) t) (laidB n b (ff es) t))∨
 ((u≠0∨v≠0)∧∃d e,Sh.put ⟨f,n,es,false⟩ (QD bs u v) t=((⟨f,n,es,true⟩:Sh),d,0,e)∧e≠0∧fV bs f (Left n fun T=>T.Perm (cz es)∨T.Perm (t::cz es)) d):=by
 have hp:=aac (n:=n) (i:=ff es) (t:=t) ⟨by omega,by omega⟩ h (C5 es) nw ht;have hx:=aaq hn.2 nw;have jc:ff es*n≤b.length:=by rw[h.2];exact zn n (C5 es)
 unfold Sh.put;dsimp only;rw[if_neg (by simp),if_neg (by omega),if_neg (by omega)];rcases I4 hc.h8 u v hf hb ht jc hx with ⟨u',v',h1,h0⟩|⟨h0,d,e,h1,he,h2⟩
 ·rw[h1,if_neg (by simp)];exact .inl ⟨u',v',rfl,h0.1,h0.2,hp⟩
 ·rw[h1,if_pos he];refine .inr ⟨h0,d,e,rfl,he,h2.imp fun b' gM=>?_⟩;rcases gM with M|rfl
  ·obtain⟨m,hm⟩:=IT (by omega) h.1 (Pu es) nw ht M;refine⟨?_,_,hm,.inl (by rw[E0])⟩;have h3:=M.hi;rw[tf ht]at h3;have:=h.size hn;omega
  ·exact⟨hp.size hn,_,hp.1,.inr Pv⟩
theorem aax{bs:List (List UInt8)}(hc:Calm bs){f n:Nat}(u v:Nat)(hf:f<8)(hn:16≤n∧n≤1024){es:List En}{b:List UInt8}(hb:bs.getD f []=b)(h:Holds n es b){i:Nat}{t:Tx}(hi:es[i]? =some (some t)):
 (∃u' v',Sh.del ⟨f,n,es,false⟩ (QD bs u v) (i:Int)=((⟨f,n,es.set i none,false⟩:Sh),QD (bs.set f (cQ b (i*n) [0])) u' v',0)∧(u=0→u'=0)∧(v=0→v'=0)∧Holds n (es.set i none) (cQ b (i*n) [0]))∨
 ((u≠0∨v≠0)∧∃d e,Sh.del ⟨f,n,es,false⟩ (QD bs u v) (i:Int)=((⟨f,n,es,true⟩:Sh),d,e)∧e≠0∧fV bs f (Left n fun T=>T.Perm (cz es)∨(t::T).Perm (cz es)) d):=by
 obtain⟨ec,he⟩:=List.getElem?_eq_some_iff.1 hi;have hd:=aaa (by omega) h ec;have c_:=(EZ (by omega) h.1 hi).1;have py:=h.size hn;unfold Sh.del;dsimp only;rw[if_neg (by simp),if_neg (by unfold Sh.aP;rw[if_neg (by omega)];simp[hi])];rw[zV];rcases BY hc.h8 u v hf hb 0 (n:=n) (i:=i) (by omega) (by omega)with ⟨u',v',h1,h0⟩|⟨h0,d,e,h1,iV,h2⟩
 ·rw[h1,if_neg (by simp)];exact .inl ⟨u',v',rfl,h0.1,h0.2,hd⟩
 ·rw[h1,if_pos iV];refine .inr ⟨h0,d,e,rfl,iV,h2.imp fun b' gM=>?_⟩;rcases gM with rfl|rfl
  ·exact⟨py,es,h.1,.inl (.refl _)⟩
  ·exact⟨hd.size hn,_,hd.1,.inr (BV hi)⟩
end V
end
section
open Go.Proofs Tryz
open Go.Proofs V
def mH(Pt:Tx→Prop)(bs:List (List UInt8)):Prop:=bs.length=8∧∀k<4,Left (128*2^k) (fun T=>∀t∈T,Pt t) (bs.getD k [])∧Left (128*2^k) (fun T=>T=[]) (bs.getD (4+k) [])
def tY(Pt:Tx→Prop)(d:Dk):Prop:=∀ps,mH Pt (ma d.fs ps)
abbrev dm:List (List En):=List.replicate 4 []
structure jU(Pt:Tx→Prop)(ess:List (List En))(bs:List (List UInt8)):Prop where
 calm:Calm bs
 h0:nI 0 ess bs
 hp:∀es∈ess,∀t∈cz es,Pt t
 h4:nI 4 dm bs
theorem Left.PA{n:Nat}{M:List Tx→Prop}{es:List En}{b:List UInt8}(hn:16≤n∧n≤1024)(h:Holds n es b)(hm:M (cz es)):Left n M b:=⟨h.size hn,es,h.1,hm⟩
theorem jU.kept{Pt:Tx→Prop}{ess:List (List En)}{bs:List (List UInt8)}(h:jU Pt ess bs):mH Pt bs:=by
 refine⟨h.calm.h8,fun k hk=>?_⟩;obtain⟨_,hn⟩:=tW hk;obtain⟨es,dF⟩:∃es,ess[k]? =some es:=⟨ess[k]'(by rw[h.h0.h4];exact hk),za _⟩
 have h1:=h.h0.hh k es dF;rw[zO]at h1;have h2:=h.h4.hh k [] (by unfold dm;rw[zaV,if_pos hk]);exact⟨Left.PA hn h1 (h.hp es (zc dF)),Left.PA hn h2 rfl⟩
theorem jU.vH{Pt:Tx→Prop}{ess:List (List En)}{bs:List (List UInt8)}(h:jU Pt ess bs)(u v:Nat):tY Pt (V.QD bs u v):=fun ps=>by
 show mH Pt (ma (bs.map dE) ps);rw[BW];exact h.kept
theorem jU.b9{Pt:Tx→Prop}{ess:List (List En)}{bs:List (List UInt8)}(h:jU Pt ess bs)(u v:Nat):(V.QD bs u v).b9 0:=
 h.calm.b9.fs _ (by rw[yf h.calm.h8];rfl)
theorem mH.set{Pt:Tx→Prop}{bs:List (List UInt8)}(h:mH Pt bs){k:Nat}(hk:k<4){b':List UInt8}(hl:Left (128*2^k) (fun T=>∀t∈T,Pt t) b'):mH Pt (bs.set k b'):=by
 obtain⟨h8,hh⟩:=h;refine⟨by simpa using h8,fun j hj=>?_⟩;rw[getD_set_ne (f:=k) (g:=4+j) (by omega)];by_cases e:k=j
 ·subst e;rw[IH h8 (by omega)];exact⟨hl,(hh k hk).2⟩
 ·rw[getD_set_ne e];exact hh j hj
theorem jU.set{Pt:Tx→Prop}{ess:List (List En)}{bs:List (List UInt8)}(h:jU Pt ess bs){k:Nat}(hk:k<4){pT:List En}{b':List UInt8}(hH:Holds (128*2^k) pT b')(hp:∀t∈cz pT,Pt t):jU Pt (ess.set k pT) (bs.set k b'):=by
 obtain⟨_,hn⟩:=tW hk;have h0:=h.h0.put h.calm hk hH;rw[zO]at h0;refine⟨h.calm.set _ (hH.size hn),h0,fun es dF=>?_,h.h4.h4,h.h4.hf,fun j es hj=>?_⟩
 ·rcases zag dF with dF|rfl
  ·exact h.hp es dF
  ·exact hp
 ·rw[getD_set_ne (by omega)];exact h.h4.hh j es hj
theorem fV.vH{Pt:Tx→Prop}{bs:List (List UInt8)}{k:Nat}{M:List Tx→Prop}{d:Dk}(hk:k<4)(hb:mH Pt bs)(h:V.fV bs k (Left (128*2^k) M) d)(hM:∀T,M T→∀t∈T,Pt t):tY Pt d:=fun ps=>by
 obtain⟨b',h1,h2,es,h3,h4⟩:=h ps;rw[h1];exact hb.set hk ⟨h2,es,h3,hM _ h4⟩
theorem aay{N:Nat}{s:Sh}{d:Dk}{t:Tx}(h:d.b9 N):(Sh.put s d t).2.1.b9 (N+4):=by
 unfold Sh.put
 repeat' split
 all_goals first|exact h.mono (by omega)|exact GA h _ _ _ _
theorem aaz{N:Nat}{ss:List Sh}{d:Dk}{t:Tx}(h:d.b9 N):(lS ss d t).2.1.b9 (N+4):=by
 unfold lS;dsimp only
 repeat' split
 all_goals first|exact h.mono (by omega)|exact aay h
theorem aaA{N:Nat}{s:Sh}{d:Dk}{i:Int}(h:d.b9 N):(Sh.del s d i).2.1.b9 (N+4):=by
 unfold Sh.del
 repeat' split
 all_goals first|exact h.mono (by omega)|exact(C2 h _ _ _ _).mono (by omega)
theorem aaB{N:Nat}{ss:List Sh}{d:Dk}{i:Int×Int}(h:d.b9 N):(jT ss d i).2.1.b9 (N+4):=by
 unfold jT
 repeat' split
 all_goals first|exact h.mono (by omega)|exact aaA h
theorem aaC{Pt:Tx→Prop}{ess:List (List En)}{bs:List (List UInt8)}(h:jU Pt ess bs)(u v:Nat){t:Tx}(ht:Pt t)(hl:t.length≤1008):
 (∃k es cY u' v',ess[k]? =some es∧lS (aW 0 ess) (V.QD bs u v) t=(aW 0 (ess.set k (putAt es (ff es) t)),V.QD cY u' v',((k:Int),(ff es:Int)),0)∧jU Pt (ess.set k (putAt es (ff es) t)) cY)∨
 (∃oe d' r' e,lS (aW 0 ess) (V.QD bs u v) t=(oe,d',r',e)∧e≠0∧tY Pt d'):=by
 rcases Pg t.length with ⟨_,h1⟩|⟨k,hk,hz,bH,_⟩
 ·omega
 obtain⟨fR,hn⟩:=tW hk;obtain⟨es,dF⟩:∃es,ess[k]? =some es:=⟨ess[k]'(by rw[h.h0.h4];exact hk),za _⟩
 have hH:=h.h0.hh k es dF;rw[zO]at hH;have hg:(aW 0 ess).getD k si=⟨k,128*2^k,es,false⟩:=by rw[ze,BR dF,zO];rfl
 have he:∀q,Sh.put ⟨k,128*2^k,es,false⟩ (V.QD bs u v) t=q→lS (aW 0 ess) (V.QD bs u v) t=((aW 0 ess).set k q.1,q.2.1,if q.2.2.2≠0 then (0,0)else ((k:Int),q.2.2.1),q.2.2.2):=by
  rintro q rfl;unfold lS;rw[EW,hz];dsimp only;rw[zV,hg]
  rfl
 by_cases nw:ff es<128
 ·rcases V.aaw h.calm u v (f:=k) (by omega) hn rfl hH bH nw with ⟨u',v',h1,_,_,h2⟩|⟨_,d,e,h1,h2,h3⟩
  ·left;refine⟨k,es,_,u',v',dF,?_,h.set hk h2 fun x hx=>?_⟩
   ·rw[he _ h1];dsimp only;rw[if_neg (by simp)];have:=Pk (first:=0) (ess:=ess) (k:=k) (putAt es (ff es) t);rw[zO]at this;rw[this]
   ·rcases zbe.1 (Pv.mem_iff.1 hx)with rfl|hx
    ·exact ht
    ·exact h.hp es (zc dF) x hx
  ·right;refine⟨_,_,_,_,he _ h1,h2,fV.vH hk h.kept h3 fun T hT x hx=>?_⟩;rcases hT with hT|hT
   ·exact h.hp es (zc dF) x (hT.mem_iff.1 hx)
   ·rcases zbe.1 (hT.mem_iff.1 hx)with rfl|hx
    ·exact ht
    ·exact h.hp es (zc dF) x hx
 ·right;have h1:Sh.put ⟨k,128*2^k,es,false⟩ (V.QD bs u v) t=(⟨k,128*2^k,es,false⟩,V.QD bs u v,0,5):=by
   unfold Sh.put;dsimp only;rw[if_neg (by simp),if_neg (by omega),if_pos (by omega)]
  exact⟨_,_,_,_,he _ h1,by simp,h.vH u v⟩
theorem PB{Pt:Tx→Prop}{ess:List (List En)}{bs:List (List UInt8)}(h:jU Pt ess bs)(u v:Nat){k i:Nat}{es:List En}{t:Tx}(dF:ess[k]? =some es)(hi:es[i]? =some (some t)):
 (∃cY u' v',jT (aW 0 ess) (V.QD bs u v) ((k:Int),(i:Int))=(aW 0 (ess.set k (es.set i none)),V.QD cY u' v',0)∧jU Pt (ess.set k (es.set i none)) cY∧(u=0→u'=0)∧(v=0→v'=0))∨
 ((u≠0∨v≠0)∧∃oe d' e,jT (aW 0 ess) (V.QD bs u v) ((k:Int),(i:Int))=(oe,d',e)∧e≠0∧tY Pt d'):=by
 have hk:k<4:=by have:=(List.getElem?_eq_some_iff.1 dF).1;have:=h.h0.h4;omega
 obtain⟨fR,hn⟩:=tW hk;have hH:=h.h0.hh k es dF;rw[zO]at hH;have hg:(aW 0 ess).getD k si=⟨k,128*2^k,es,false⟩:=by rw[ze,BR dF,zO];rfl
 have he:∀q,Sh.del ⟨k,128*2^k,es,false⟩ (V.QD bs u v) (i:Int)=q→jT (aW 0 ess) (V.QD bs u v) ((k:Int),(i:Int))=((aW 0 ess).set k q.1,q.2.1,q.2.2):=by
  rintro q rfl;unfold jT vE;rw[EW];dsimp only;rw[if_neg (by simp),if_pos (by simp;omega),zV,hg]
 rcases V.aax h.calm u v (f:=k) (by omega) hn rfl hH hi with ⟨u',v',h1,h4,h5,h2⟩|⟨h0,d,e,h1,h2,h3⟩
 ·left;refine⟨_,u',v',?_,h.set hk h2 fun x hx=>?_,h4,h5⟩
  ·rw[he _ h1];dsimp only;have:=Pk (first:=0) (ess:=ess) (k:=k) (es.set i none);rw[zO]at this;rw[this]
  ·exact h.hp es (zc dF) x ((BV hi).mem_iff.1 (zP _ hx))
 ·right;refine⟨h0,_,_,_,he _ h1,h2,fV.vH hk h.kept h3 fun T hT x hx=>?_⟩;rcases hT with hT|hT
  ·exact h.hp es (zc dF) x (hT.mem_iff.1 hx)
  ·exact h.hp es (zc dF) x (hT.mem_iff.1 (zP _ hx))
theorem E5:∀(es:List En) (k:Nat) (y:Nat×Tx),y∈live k es↔k≤y.1∧es[y.1-k]? =some (some y.2)
 |[],k,y=>by simp[live]
 |none::es,k,y=>by
  simp only[live];rw[E5 es (k+1) y];constructor
  ·rintro⟨h1,h2⟩;refine⟨by omega,?_⟩;rw[show y.1-k=(y.1-(k+1))+1 by omega];simpa using h2
  ·rintro⟨h1,h2⟩;by_cases e:y.1=k
   ·rw[e]at h2;simp at h2
   ·refine⟨by omega,?_⟩;rw[show y.1-k=(y.1-(k+1))+1 by omega]at h2;simpa using h2
 |some t::es,k,y=>by
  simp only[live,zbe];rw[E5 es (k+1) y];constructor
  ·rintro(rfl|⟨h1,h2⟩)
   ·simp
   ·refine⟨by omega,?_⟩;rw[show y.1-k=(y.1-(k+1))+1 by omega];simpa using h2
  ·rintro⟨h1,h2⟩;by_cases e:y.1=k
   ·left;rw[e]at h2;simp at h2;obtain⟨a,b⟩:=y;simp at e h2;simp[e,h2]
   ·right;refine⟨by omega,?_⟩;rw[show y.1-k=(y.1-(k+1))+1 by omega]at h2;simpa using h2
end
section
open Go.Proofs Tryz
open Go.Proofs
theorem aaD(b:Nat){bs:List (List UInt8)}(hc:Calm bs){f n:Nat}(hf:f<8)(fR:n7 n=true){es:List En}(h:parse n (bs.getD f [])=some es):
 Spec prog 94 [dp b,.int .i64 f,.int .i64 n] [aF b (f_ bs)] (fun v B=>∃ps b',v= .tuple #[dp ps,.int .i64 0]∧B=[cO ps b ⟨f,n,fK es,false⟩,aF b (f_ (bs.set f b'))]∧Holds n (fK es) b'):=by
 have hq:∀bs:List (List UInt8),bs.length=8→f_ bs=QD bs 0:=fun bs h=>yf h;rcases aav hc 0 hf fR h with ⟨b',u',h1,h2,h3⟩|⟨h0,_⟩
 ·have hu:=h3 rfl;subst hu;refine(Z7 b (f_ bs) f n hc.b9 (by decide)).mono ?_;rw[hq bs hc.h8,h1,←hq _ (by simpa using hc.h8)];rintro v B ⟨ps,rfl,rfl⟩;exact⟨ps,b',rfl,rfl,h2⟩
 ·exact absurd rfl h0
structure vI(first:Nat)(ess:List (List En))(bs:List (List UInt8)):Prop where
 h4:ess.length=4
 hf:first+4≤8
 hh:∀k es,ess[k]? =some es→parse (128*2^k) (bs.getD (first+k) [])=some es
theorem nI.PD{first:Nat}{ess:List (List En)}{bs:List (List UInt8)}(h:nI first ess bs):vI first ess bs:=⟨h.h4,h.hf,fun k es hk=>(h.hh k es hk).1⟩
theorem PE(b:Nat){bs:List (List UInt8)}(hc:Calm bs){first:Nat}{ess:List (List En)}(hR:vI first ess bs):
 Spec prog 61 [dp b,.int .i64 first] [aF b (f_ bs)] (fun v B=>∃r cY,v= .tuple #[dp r,.int .i64 0]∧B=[bj r b (aW first (ess.map fK)),aF b (f_ cY)]∧Calm cY∧nI first (ess.map fK) cY∧∀j,j<first∨first+4≤j→cY.getD j []=bs.getD j []):=by
 refine x_sp func61 ntmps61 fun E cs Γ=>?_;have hf:=hR.hf;refine eg (h:=ew (h:=?_));refine lV rfl (by rfl) rfl ?_;refine aw (h:=?_);refine aM (vs:=[.pointer none,.pointer none,.pointer none,.pointer none]) rfl rfl fun r=>?_;refine Wv ?_;have CQ:∀(Γ:List HP),ak Γ (dT (RG b) []::Γ):=fun Γ=>(ak.cA ([]:List HP) Γ);refine aQ (α:=Nat×List (Nat×Sh)×List (List UInt8)) (fun q=>q.1≤4∧q.2.1.length=q.1∧q.2.1.map Prod.snd=(aW first (ess.map fK)).take q.1∧Calm q.2.2∧(∀k es,ess[k]? =some es→if k<q.1 then Holds (128*2^k) (fK es) (q.2.2.getD (first+k) [])else parse (128*2^k) (q.2.2.getD (first+k) [])=some es)∧∀j,j<first∨first+4≤j→q.2.2.getD j []=bs.getD j [])
  (fun q=>[(0,dp b),(1,iv first),(6,dp r),(20,iv q.1)]) (fun q=>Row r 0 (db q.2.1++List.replicate (4-q.1) (.pointer none))::dT (RG b) q.2.1::aF b (f_ q.2.2)::Γ) (fun q=>4-q.1) (0,[],bs)
  ⟨zj _,rfl,rfl,hc,fun k es hk=>by rw[if_neg (by simp)];exact hR.hh k es hk,fun _ _=>rfl⟩ ⟨rfl,rfl,rfl,rfl,trivial⟩ ((CQ _).trans (ak.perm (.swap _ _ _))) ?_
 rintro⟨k,xs,kK⟩ ⟨hk,ku,mq,hc,hh,kI⟩ back;dsimp only at hk ku mq hc hh kI back⊢;refine bQ (h:=?_);by_cases h:k<4
 ·obtain⟨es,dF⟩:∃es,ess[k]? =some es:=⟨ess[k]'(by rw[hR.h4];exact h),za _⟩
  have PF:=hh k es dF;rw[if_neg (by omega)]at PF;obtain⟨fR,pK,BC⟩:=tW h;refine ew (h:=?_);refine aq rfl (Hg k) rfl ?_;refine dh (h:=?_);rw[if_neg (by omega),zV];refine dq (h:=ew (h:=?_));refine aq rfl (aaD b hc (f:=first+k) (by omega) fR PF) rfl ?_;rintro v B ⟨ps,b',rfl,rfl,PG⟩;refine a_ (h:=ew (h:=?_));refine dd rfl rfl (j:=k) rfl h rfl ?_;have kd:(db xs++List.replicate (4-k) (Value.pointer none)).length=4:=by simp[ku];omega
  refine dO (h:=?_);refine iS (i:=k) rfl rfl rfl (by omega) (by rw[kd];simpa[zN]using h) ?_;have kW:(db xs++List.replicate (4-k) (Value.pointer none)).set k (dp ps)=db (xs++[(ps,⟨first+k,128*2^k,fK es,false⟩)])++List.replicate (4-(k+1)) (Value.pointer none):=by
   rw[za6 _ _ (by simp[ku]),show 4-k=(4-(k+1))+1 by omega,zbl];simp[ku,db]
  rw[kW];refine Wv ?_;refine bJ (Γ':=Row r 0 (db (xs++[(ps,⟨first+k,128*2^k,fK es,false⟩)])++List.replicate (4-(k+1)) (Value.pointer none))::dT (RG b) (xs++[(ps,⟨first+k,128*2^k,fK es,false⟩)])::aF b (f_ (kK.set (first+k) b'))::Γ)
   ((Sub.h (Δ:=dT (RG b) xs::cO ps b ⟨first+k,128*2^k,fK es,false⟩::Row r 0 (db (xs++[(ps,⟨first+k,128*2^k,fK es,false⟩)])++List.replicate (4-(k+1)) (Value.pointer none))::aF b (f_ (kK.set (first+k) b'))::Γ)).trans ((ak.aaj xs (ps,⟨first+k,128*2^k,fK es,false⟩) _).trans (ak.perm (.swap _ _ _)))) ?_
  exact aV (back (k+1,xs++[(ps,⟨first+k,128*2^k,fK es,false⟩)],kK.set (first+k) b') ⟨by dsimp only;omega,by simp[ku],by
   dsimp only;rw[zg,mq,zp,BR (es:=fK es) (by rw[zf,dF];rfl)];rfl,hc.set _ (PG.size ⟨pK,BC⟩),fun j pT hj=>by
   dsimp only;by_cases e:k=j
   ·subst e;obtain rfl:pT=es:=zD (hj.symm.trans dF);rw[if_pos (by omega),IH hc.h8 (by omega)];exact PG
   ·rw[getD_set_ne (by omega)];have:=hh j pT hj;by_cases e2:j<k
    ·rw[if_pos e2]at this;rw[if_pos (by omega)];exact this
    ·rw[if_neg e2]at this;rw[if_neg (by omega)];exact this,fun j hj=>by
   dsimp only;rw[getD_set_ne (by omega)];exact kI j hj⟩ (by dsimp only;omega))
 ·obtain rfl:k=4:=by omega
  have fj:(ess.map fK).length=4:=by rw[zm];exact hR.h4
  rw[zo (by rw[Pj];omega)]at mq;refine Wv ?_;refine ap rfl [bj r b (aW first (ess.map fK)),aF b (f_ kK)] ⟨r,kK,rfl,rfl,hc,⟨fj,hf,fun k es hk=>?_⟩,kI⟩ ?_
  ·rw[zf,zad]at hk;obtain⟨pT,he,rfl⟩:=hk;have my:k<4:=by have:=(List.getElem?_eq_some_iff.1 he).1;have:=hR.h4;omega
   have:=hh k pT he;rw[if_pos my]at this;exact this
  ·have h1:db xs++List.replicate (4-4) (Value.pointer none)=db xs:=by simp
   rw[h1];exact ak.oR xs ⟨mq,ku⟩ _
end
section
open Go.Proofs Tryz
open Go.Proofs V
def AtR(ess:List (List En))(y:RE):Prop:=∃es,ess[y.1.1]? =some es∧es[y.1.2]? =some (some y.2)
theorem I9:∀(ess:List (List En)) (k:Nat) (y:RE),y∈gN k ess↔k≤y.1.1∧∃es,ess[y.1.1-k]? =some es∧es[y.1.2]? =some (some y.2)
 |[],k,y=>by simp[gN]
 |es::ess,k,y=>by
  unfold gN;rw[zL,I9 ess (k+1) y];unfold tag;rw[zbY];constructor
  ·rintro(⟨z,hz,rfl⟩|⟨h1,h2⟩)
   ·obtain⟨_,h2⟩:=(E5 es 0 z).1 hz;exact⟨zq _,es,by simp,by simpa using h2⟩
   ·refine⟨by omega,?_⟩;rw[show y.1.1-k=(y.1.1-(k+1))+1 by omega];simpa using h2
  ·rintro⟨h1,e,h2,h3⟩;by_cases hk:y.1.1=k
   ·left;rw[hk]at h2;simp at h2;subst h2;refine⟨(y.1.2,y.2),(E5 es 0 _).2 ⟨zj _,by simpa using h3⟩,?_⟩;rw[←hk]
   ·right;refine⟨by omega,e,?_,h3⟩;rw[show y.1.1-k=(y.1.1-(k+1))+1 by omega]at h2;simpa using h2
theorem yo{first:Nat}{ess:List (List En)}{y:RE}:y∈gO (aW first ess)↔AtR ess y:=by
 unfold gO;rw[IM,I9];simp[AtR]
theorem I_:∀(es:List En) (k:Nat),(∀y∈live k es,k≤y.1)∧((live k es).map Prod.fst).Nodup
 |[],k=>by simp[live]
 |none::es,k=>by
  obtain⟨h1,h2⟩:=I_ es (k+1);exact⟨fun y hy=>by have:=h1 y hy;omega,h2⟩
 |some t::es,k=>by
  obtain⟨h1,h2⟩:=I_ es (k+1);refine⟨fun y hy=>?_,?_⟩
  ·rcases zbe.1 hy with rfl|hy
   ·exact zq _
   ·have:=h1 y hy;omega
  ·simp only[live,zE,zb5];refine⟨fun h=>?_,h2⟩;obtain⟨y,hy,e⟩:=zbY.1 h;have:=h1 y hy;omega
theorem PI:∀(ess:List (List En)) (k:Nat),((gN k ess).map Prod.fst).Nodup
 |[],k=>by simp[gN]
 |es::ess,k=>by
  unfold gN;rw[zg,zab];refine⟨?_,PI ess (k+1),?_⟩
  ·unfold tag;rw[zR];have h:=(I_ es 0).2;unfold List.Nodup at h⊢;rw[List.pairwise_map]at h⊢;exact h.imp fun h e=>h (by simpa using e)
  ·rintro a ha b hb rfl;obtain⟨y,hy,rfl⟩:=zbY.1 ha;obtain⟨z,hz,e⟩:=zbY.1 hb;have h1:=((I9 ess (k+1) z).1 hz).1;unfold tag at hy;obtain⟨x,_,rfl⟩:=zbY.1 hy;have:=congrArg Prod.fst e;simp at this;omega
theorem E6{first:Nat}{ess:List (List En)}:((gO (aW first ess)).map Prod.fst).Nodup:=by
 unfold gO;rw[IM];exact PI _ _
theorem aaE{ess:List (List En)}{y:RE}(h:AtR ess y)(h4:∃es,ess[y.1.1]? =some es)(z:RE):AtR (ess.set y.1.1 ((ess.getD y.1.1 []).set y.1.2 none)) z↔AtR ess z∧z.1≠y.1:=by
 obtain⟨es,h1,h2⟩:=h;have hg:ess.getD y.1.1 []=es:=by rw[ze,h1];rfl
 rw[hg];have hk:=(List.getElem?_eq_some_iff.1 h1).1;have hi:=(List.getElem?_eq_some_iff.1 h2).1;unfold AtR;constructor
 ·rintro⟨e,g1,g2⟩;rw[zae]at g1;by_cases bH:y.1.1=z.1.1
  ·rw[if_pos bH,if_pos (by omega)]at g1;obtain rfl:=zD g1;rw[zae]at g2;by_cases fS:y.1.2=z.1.2
   ·rw[if_pos fS,if_pos (by omega)]at g2;cases g2
   ·rw[if_neg fS]at g2;exact⟨⟨es,by rw[←bH];exact h1,g2⟩,fun e=>fS (by rw[e])⟩
  ·rw[if_neg bH]at g1;exact⟨⟨e,g1,g2⟩,fun e=>bH (by rw[e])⟩
 ·rintro⟨⟨e,g1,g2⟩,cE⟩;by_cases bH:y.1.1=z.1.1
  ·have he:e=es:=by rw[←bH,h1]at g1;exact(zD g1).symm
   subst he;refine⟨e.set y.1.2 none,by rw[zae,if_pos bH,if_pos (by omega)],?_⟩;rw[zaK fun h=>cE (Prod.ext bH.symm h.symm)];exact g2
  ·exact⟨e,by rw[zaK bH];exact g1,g2⟩
def nJ(ess:List (List En)):Nat:=(ess.map fun es=>(cz es).length).sum
theorem PJ:∀(ess:List (List En)) (k:Nat) (es e':List En),ess[k]? =some es→nJ (ess.set k e')+(cz es).length=nJ ess+(cz e').length
 |[],k,es,e',h=>by simp at h
 |x::ess,0,es,e',h=>by
  simp at h;subst h;simp[nJ];omega
 |x::ess,k+1,es,e',h=>by
  have:=PJ ess k es e' (by simpa using h);simp[nJ]at this⊢;omega
theorem aaF{ess:List (List En)}{y:RE}(h:AtR ess y):nJ (ess.set y.1.1 ((ess.getD y.1.1 []).set y.1.2 none))+1=nJ ess:=by
 obtain⟨es,h1,h2⟩:=h;have hg:ess.getD y.1.1 []=es:=by rw[ze,h1];rfl
 rw[hg];have e1:=PJ ess y.1.1 es (es.set y.1.2 none) h1;have e2:=(BV h2).length_eq;rw[zy]at e2;omega
theorem aaG(ess:List (List En)):nJ (ess.map fK)=nJ ess:=by
 unfold nJ;rw[zR];congr 1;refine zah fun es _=>?_;simp[fK,vF]
def B1(ess:List (List En))(t:Tx):Prop:=∃es∈ess,t∈cz es
theorem Ja{es:List En}{t:Tx}:t∈cz es↔∃i:Nat,es[i]? =some (some t):=by
 unfold cz;rw[List.mem_filterMap];constructor
 ·rintro⟨e,he,rfl⟩;obtain⟨i,hi⟩:=zk he;exact⟨i,hi⟩
 ·rintro⟨i,hi⟩;exact⟨_,zc hi,rfl⟩
theorem E7{ess:List (List En)}{t:Tx}:B1 ess t↔∃p,AtR ess (p,t):=by
 constructor
 ·rintro⟨es,dF,ht⟩;obtain⟨k,hk⟩:=zk dF;obtain⟨i,hi⟩:=Ja.1 ht;exact⟨(k,i),es,hk,hi⟩
 ·rintro⟨p,es,h1,h2⟩;exact⟨es,zc h1,Ja.2 ⟨_,h2⟩⟩
theorem aaH{ess:List (List En)}{t:Tx}:B1 (ess.map fK) t↔B1 ess t:=by
 unfold B1;constructor
 ·rintro⟨es,dF,ht⟩;obtain⟨e,he,rfl⟩:=zbY.1 dF;exact⟨e,he,by simpa[fK,vF]using ht⟩
 ·rintro⟨es,dF,ht⟩;exact⟨_,zbY.2 ⟨es,dF,rfl⟩,by simpa[fK,vF]using ht⟩
theorem PK{Pt:Tx→Prop}{bs:List (List UInt8)}(h:mH Pt bs):Calm bs∧(∃ess,vI 0 ess bs∧∀es∈ess,∀t∈cz es,Pt t)∧∃e4,vI 4 e4 bs∧e4.map fK=dm:=by
 obtain⟨h8,hh⟩:=h;refine⟨⟨h8,fun b hb=>?_⟩,?_,?_⟩
 ·obtain⟨j,hj⟩:=zk hb;have w7:j<8:=by have:=(List.getElem?_eq_some_iff.1 hj).1;omega
  have hg:bs.getD j []=b:=by rw[ze,hj];rfl
  by_cases h4:j<4
  ·have:=(hh j h4).1.1;rw[hg]at this;exact this
  ·have:=(hh (j-4) (by omega)).2.1;rw[show 4+(j-4)=j by omega,hg]at this;exact this
 ·obtain⟨_,e0,p0,q0⟩:=(hh 0 (by omega)).1;obtain⟨_,e1,p1,q1⟩:=(hh 1 (by omega)).1;obtain⟨_,e2,p2,q2⟩:=(hh 2 (by omega)).1;obtain⟨_,e3,p3,q3⟩:=(hh 3 (by omega)).1;refine⟨[e0,e1,e2,e3],⟨rfl,by omega,fun k es hk=>?_⟩,fun es dF=>?_⟩
  ·rw[zO]
   match k,hk with
   |0,hk=>obtain rfl:=zD hk;exact p0
   |1,hk=>obtain rfl:=zD hk;exact p1
   |2,hk=>obtain rfl:=zD hk;exact p2
   |3,hk=>obtain rfl:=zD hk;exact p3
   |k+4,hk=>simp at hk
  ·simp at dF;rcases dF with rfl|rfl|rfl|rfl<;>assumption
 ·obtain⟨_,e0,p0,q0⟩:=(hh 0 (by omega)).2;obtain⟨_,e1,p1,q1⟩:=(hh 1 (by omega)).2;obtain⟨_,e2,p2,q2⟩:=(hh 2 (by omega)).2;obtain⟨_,e3,p3,q3⟩:=(hh 3 (by omega)).2;have hz:∀es:List En,cz es=[]→fK es=[]:=fun es h=>by
   unfold fK;rw[zbH];intro e he hs;obtain⟨t,rfl⟩:=Option.isSome_iff_exists.1 hs;have:t∈cz es:=by unfold cz;rw[List.mem_filterMap];exact⟨_,he,rfl⟩
   rw[h]at this;cases this
  refine⟨[e0,e1,e2,e3],⟨rfl,by omega,fun k es hk=>?_⟩,?_⟩
  ·match k,hk with
   |0,hk=>obtain rfl:=zD hk;exact p0
   |1,hk=>obtain rfl:=zD hk;exact p1
   |2,hk=>obtain rfl:=zD hk;exact p2
   |3,hk=>obtain rfl:=zD hk;exact p3
   |k+4,hk=>simp at hk
  ·simp[hz _ q0,hz _ q1,hz _ q2,hz _ q3,dm]
end
end Go.Proofs.YtacfncmndodlpaaGreat
