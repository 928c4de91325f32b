/- Part of a proof over the seat YtacfncmndodlpaaGreat. Its claim's last module says what is proved. -/
import Derived.Test.YtacfncmndodlpaaGreatQ3
import Derived.Lib.Bytealg
set_option linter.all false
set_option maxHeartbeats 12800000
namespace Go.Proofs.YtacfncmndodlpaaGreat
section
open Go.Proofs Tryz
open Go.Proofs Go.RowKit
theorem Hw:∀(m a:Nat),cB ((List.range m).map fun j=>UInt8.ofNat (a/256^(m-1-j)%256))=a%256^m
 |0,a=>by simp[cB,Nat.mod_one]
 |m+1,a=>by
  rw[zbJ,zg,zE,zal,LQ];have e:(List.range m).map (fun j=>UInt8.ofNat (a/256^(m+1-1-j)%256))=(List.range m).map fun j=>UInt8.ofNat (a/256/256^(m-1-j)%256):=by
   refine zah fun j hj=>?_;have lX:j<m:=by simpa using hj
   rw[zbm,←Nat.pow_succ',show(m-1-j).succ=m+1-1-j by omega]
  rw[e,Hw m (a/256)];have e2:(UInt8.ofNat (a/256^(m+1-1-m)%256)).toNat=a%256:=by
   rw[show m+1-1-m=0 by omega];simp
  rw[e2,zas,zY (256^m) 256,Nat.mod_mul];omega
theorem DF{a:Nat}(h:0<a):2^(bT a-1)≤a∧a<2^bT a:=by
 have h0:a≠0:=by omega
 unfold bT;rw[if_neg h0];exact⟨Nat.log2_self_le h0,Nat.lt_log2_self⟩
theorem Hx{a:Nat}(h:0<a):0<bT a:=by unfold bT;rw[if_neg (by omega)];omega
theorem tA(a:Nat):cB (aU a)=a:=by
 unfold aU;rw[Hw];apply zaf;rcases Nat.eq_zero_or_pos a with rfl|h
 ·exact zbE (by decide)
 ·have:=(DF h).2;rw[show(256:Nat)=2^8 from rfl,←za4];exact zaw this (zai (by decide) (by omega))
theorem tB{a:Nat}(ha:a<aT):kX (aU a)=true:=by
 unfold kX;have hl:=mh (a:=a) (k:=32) (by simpa using ha);rw[decide_eq_true hl,Bool.true_and,zbz];rcases Nat.eq_zero_or_pos a with rfl|h
 ·rfl
 ·have hb:=Hx h;have hp:=(DF h).1;have k7:=(DF h).2;obtain⟨m,hm⟩:∃m,(bT a+7)/8=m+1:=⟨(bT a+7)/8-1,by omega⟩
  have e:(aU a).head? =some (UInt8.ofNat (a/256^m%256)):=by
   unfold aU;rw[hm,List.range_succ_eq_map];simp
  rw[e];have fN:256^m≤a:=by
   rw[show(256:Nat)=2^8 from rfl,←za4];exact z9 (zai (by decide) (by omega)) hp
  have kM:a<256^m*256:=by
   rw[←zas,show(256:Nat)=2^8 from rfl,←za4];exact zaw k7 (zai (by decide) (by omega))
  have h1:0<a/256^m:=Nat.div_pos fN (zbE (by decide));have h2:a/256^m<256:=zaU kM;rw[zaf h2];apply beq_eq_false_iff_ne.2;intro h3;have h4:=congrArg UInt8.toNat (zD h3);simp at h4;omega
def mT(s:List UInt8):Option (Bool×Nat×Nat):=match s with
 |[]=>none
 |c::w=>
  if c.toNat<128 then some (false,0,1)else
  let b:=if 192≤c.toNat then 192 else 128
  let n:=c.toNat-b
  if n≤55 then some (decide (192≤c.toNat),1,n)else
  if w.length<n-55 then none else
  if kX (w.take (n-55))=false then none else
  if 65536<cB (w.take (n-55))∨cB (w.take (n-55))≤55 then none else some (decide (192≤c.toNat),1+(n-55),cB (w.take (n-55)))
theorem My{b n:Nat}(hb:b=128∨b=192)(hn:n≤65536)(w:List UInt8):mT (cZ b n++w)=some (decide (b=192),(cZ b n).length,n):=by
 unfold cZ;by_cases h:n≤55
 ·rw[if_pos h];have hc:(UInt8.ofNat (b+n)).toNat=b+n:=by simp;omega
  simp only[zl,zB,mT,hc];rw[if_neg (by omega)];have e:(if 192≤b+n then 192 else 128)=b:=by
   rcases hb with rfl|rfl
   ·exact if_neg (by omega)
   ·exact if_pos (by omega)
  rw[e,zS,if_pos h];rcases hb with rfl|rfl
  ·rw[decide_eq_false (show¬192≤128+n by omega)];rfl
  ·rw[decide_eq_true (show 192≤192+n by omega)];rfl
 ·rw[if_neg h];have hl:=mh (a:=n) (k:=3) (by simp only[Nat.reduceMul,Nat.reducePow];omega);have qU:0<(aU n).length:=by rw[LA];have:=Hx (a:=n) (by omega);omega
  have hc:(UInt8.ofNat (b+55+(aU n).length)).toNat=b+55+(aU n).length:=by simp;omega
  simp only[zl,mT,hc];rw[if_neg (by omega)];have e:(if 192≤b+55+(aU n).length then 192 else 128)=b:=by
   rcases hb with rfl|rfl
   ·exact if_neg (by omega)
   ·exact if_pos (by omega)
  rw[e,show b+55+(aU n).length-b=55+(aU n).length by omega,if_neg (by omega),show 55+(aU n).length-55=(aU n).length by omega];rw[if_neg (by rw[zd];omega),zbT,tB (by unfold aT;omega),if_neg (by decide),tA,if_neg (by omega)];rw[zy,zaF 1];rcases hb with rfl|rfl
  ·rw[decide_eq_false (show¬192≤128+55+(aU n).length by omega)];rfl
  ·rw[decide_eq_true (show 192≤192+55+(aU n).length by omega)];rfl
theorem Vo{c:UInt8}(h:c.toNat<128)(w:List UInt8):mT (c::w)=some (false,0,1):=by simp only[mT];rw[if_pos h]
theorem Vp{P:Program}{ρ:aK}{Γ:List HP}{ty:TypeId}{t yt:TypeId}{x y:Operand}{kk:IntKind}{a b:Int}(hx:ev ρ x=some (.int kk a))(hy:ev ρ y=some (.int kk b)):bI P (.binOp .geq t x y yt) ty ρ Γ (.bool (decide (b≤a))):=by
 by_cases c:b≤a
 ·rw[decide_eq_true c];exact Ke hx hy (by omega)
 ·rw[decide_eq_false c];exact Kg hx hy (by omega)
abbrev tC(b:Bool)(f n:Int):Value:= .agg [.bool b,.int .i64 f,.int .i64 n].toArray
theorem Vq(s:List UInt8)(hs:s.length≤2^40):Spec prog 231 [tv s] [] (fun v B=>B=[]∧((∃b f n,mT s=some (b,f,n)∧v= .tuple #[tC b f n,.int .i64 0])∨(mT s=none∧∃e:Int,e≠0∧v= .tuple #[tC false 0 0,.int .i64 e]))):=by
 refine x_sp func231 ntmps231 fun E cs Γ=>?_;have hz:(bC s).size=s.length:=dV s;have cE:∀(p2:Nat) ρ k Δ (e:Int),e≠0→mT s=none→lk ρ 2=some (.pointer (some ⟨p2,0,none⟩))→lk ρ 3=some (.int .i64 e)→ak Δ (Row p2 0 [.bool false,.int .i64 0,.int .i64 0]::Γ)→
  Ex prog (jX prog 231 E cs (fun v B=>B=[]∧((∃b f n,mT s=some (b,f,n)∧v= .tuple #[tC b f n,.int .i64 0])∨(mT s=none∧∃e:Int,e≠0∧v= .tuple #[tC false 0 0,.int .i64 e]))) Γ) 73 [] (.code .ret::k) ρ Δ:=fun p2 ρ k Δ e he hn h2 h3 hE=>
  bJ hE (bP (rs:=[.cell 2 344,.tmp 3]) (vs:=[tC false 0 0,.int .i64 e]) ⟨bG (b:=p2) (off:=0) h2 rfl,bO h3,trivial⟩ [] ⟨rfl,.inr ⟨hn,e,he,rfl⟩⟩ Sub.h)
 refine ko (h:=?_);cases s with
 |nil=>
  refine bQ (h:=?_);refine ao (aC rfl fun p2=>?_);refine aA (h:=?_);refine Kv rfl rfl rfl rfl ?_;refine Wq ?_;exact cE p2 _ _ _ 7 (by decide) rfl rfl rfl Sub.h
 |cons c w=>
  have fj:=zbp c;refine bQ (h:=?_);refine ao (aC rfl fun p2=>?_);refine aA (h:=?_);refine Kw rfl rfl (fun h=>by have:=yM (b:=[]) h;cases this) rfl ?_;refine aA (h:=?_);refine bL (rD (bs:=c::w) (j:=0) rfl rfl rfl rfl) rfl ?_;refine aw (h:=?_);refine ft rfl rfl ?_;rw[gE (x:=(c.toNat:Int)) (by omega)];obtain⟨m,hm⟩:∃m,c.toNat=m:=⟨_,rfl⟩
  rw[hm]at fj⊢;have hP:mT (c::w)=(if m<128 then some (false,0,1)else
   let b:=if 192≤m then 192 else 128
   let n:=m-b
   if n≤55 then some (decide (192≤m),1,n)else
   if w.length<n-55 then none else
   if kX (w.take (n-55))=false then none else
   if 65536<cB (w.take (n-55))∨cB (w.take (n-55))≤55 then none else some (decide (192≤m),1+(n-55),cB (w.take (n-55)))):=by
   simp only[mT,hm]
  refine bU (h:=tq (h:=fv (h:=?_)));refine bL (Vp rfl rfl) rfl ?_;rw[show decide ((192:Int)≤(m:Int))=decide (192≤m)from decide_eq_decide.2 (by omega)];refine iu (h:=?_);refine ao (FA rfl rfl (F6 (by omega)) rfl ?_);refine ao (lV rfl (by rfl) rfl ?_);refine ao (aC rfl fun p5=>?_);refine mS (h:=?_);refine uH (α:=Nat) (fun n=>128≤m∧n=m-(if 192≤m then 192 else 128)) (fun _=>[(0,tv (c::w)),(2,dp p2),(5,dp p5)])
   (fun n=>Row p5 0 [.bool (decide (192≤m)),.int .i64 1,.int .i64 n]::Row p2 0 [.bool false,.int .i64 0,.int .i64 0]::Γ) ?_ ?_
  rotate_left
  ·intro td back;by_cases h1:m<128
   ·refine Wq ?_;rw[if_pos h1]at hP;exact bP (rs:=[.cell 2 344,.tmp 3]) (vs:=[tC false 0 1,.int .i64 0]) ⟨bG rfl rfl,bO rfl,trivial⟩ [] ⟨rfl,.inl ⟨false,0,1,hP,rfl⟩⟩ Sub.h
   ·by_cases h2:192≤m
    ·have hd:decide (192≤m)=true:=decide_eq_true h2;rw[hd]at back⊢;refine Wq ?_;refine bf (back (m-192) ⟨by omega,by rw[if_pos h2]⟩) ⟨rfl,rfl,rfl,trivial⟩ ?_;rw[show((m-192:Nat):Int)=(m:Int)-192 by omega];exact Sub.h
    ·have hd:decide (192≤m)=false:=decide_eq_false h2;rw[hd]at back⊢;refine Wq ?_;refine bf (back (m-128) ⟨by omega,by rw[if_neg h2]⟩) ⟨rfl,rfl,rfl,trivial⟩ ?_;rw[show((m-128:Nat):Int)=(m:Int)-128 by omega];exact Sub.h
  rintro n ⟨nw,hn⟩;rw[if_neg (by omega)]at hP;simp only[←hn]at hP;have acE:n≤63:=by rw[hn];split<;>omega
  obtain⟨l,hl⟩:∃l,decide (192≤m)=l:=⟨_,rfl⟩
  rw[hl]at hP⊢;by_cases pH:n≤55
  ·rw[if_pos pH]at hP;refine Wq ?_;exact bP (rs:=[.cell 2 344,.tmp 3]) (vs:=[tC l 1 n,.int .i64 0]) ⟨bG rfl rfl,bO rfl,trivial⟩ [] ⟨rfl,.inl ⟨l,1,n,hP,rfl⟩⟩ Sub.h
  ·rw[if_neg pH]at hP;have pD:(bC (c::w)).size=w.length+1:=by rw[dV];rfl
   by_cases hw:w.length<n-55
   ·rw[if_pos hw]at hP;refine Wq ?_;exact cE p2 _ _ _ 7 (by decide) hP rfl rfl Sub.h
   ·rw[if_neg hw]at hP;refine aA (h:=?_);refine bL (AI (bs:=c::w) (jl:=1) (jh:=1+(n-55)) rfl rfl rfl rfl (by omega) (by omega) (by simp;omega)) rfl ?_;rw[show((c::w).drop 1).take (1+(n-55)-1)=w.take (n-55)by simp];have Mz:(w.take (n-55)).length≤8:=by rw[zw];omega
    obtain⟨T,hT⟩:∃T,w.take (n-55)=T:=⟨_,rfl⟩
    rw[hT]at hP Mz⊢;have hv:=AK T;have Ba:cB T<aI:=zaw hv (z9 (zai (by decide) Mz) (by decide));refine aJ rfl (LS T (by omega)) rfl ?_;refine cS (h:=?_);cases fx:kX T with
    |false=>
     rw[fx,if_pos rfl]at hP;rw[if_neg (by decide),if_neg (by decide)];refine gj (h:=?_);refine ao (aC rfl fun p6=>?_);refine Wq ?_;exact cE p2 _ _ _ 1 (by decide) hP rfl rfl Sub.h
    |true=>
     rw[fx,if_neg (by decide)]at hP;rw[if_pos rfl,if_pos rfl];refine gj (h:=?_);refine ao (aC rfl fun p6=>?_);refine gg (h:=?_);refine aq (vs:=[uv (cB T),uv 65536]) rfl (ml (a:=cB T) (b:=65536) (Nat.lt_trans Ba (by decide)) (by decide)) rfl ?_;refine dh (h:=?_);have qU:ay (cB T) 0=cB T:=by unfold ay;rw[Nat.pow_zero,Nat.div_one,zaf Ba]
     refine dq (h:=?_);by_cases xz:65536<cB T
     ·rw[if_pos (.inl xz)]at hP;have hc:cV (cB T) 65536=1:=by unfold cV;rw[if_neg (by omega),if_pos xz]
      refine Wq ?_;exact cE p2 _ _ _ 1 (by decide) hP rfl rfl Sub.h
     ·have hc:cV (cB T) 65536≤0:=by unfold cV;(repeat' split)<;>omega
      refine m5 rfl (FH rfl rfl (by omega) rfl ?_);refine ao (Fy rfl rfl rfl ?_);refine iu (h:=fT (h:=?_));refine dd (j:=0) rfl rfl rfl (by omega) rfl ?_;refine fT (h:=?_);refine um rfl rfl rfl rfl ?_;by_cases gW:cB T≤55
      ·rw[if_pos (.inr gW)]at hP;refine Wq ?_;exact cE p2 _ _ _ 1 (by decide) hP rfl rfl Sub.h
      ·rw[if_neg (by omega)]at hP;refine aA (h:=?_);refine dd (j:=0) rfl rfl rfl (by omega) rfl ?_;refine aw (h:=?_);refine um rfl rfl rfl rfl ?_;refine aw (h:=?_);refine ft rfl rfl ?_;rw[qU,gE (x:=((cB T:Nat):Int)) (by omega)];refine Wq ?_;rw[show(1+((n:Int)-55))=((1+(n-55):Nat):Int)by omega];exact bP (rs:=[.cell 2 344,.tmp 3]) (vs:=[tC l (1+(n-55):Nat) (cB T:Nat),.int .i64 0]) ⟨bG rfl rfl,bO rfl,trivial⟩ [] ⟨rfl,.inl ⟨l,_,_,hP,rfl⟩⟩ Sub.h
end
section
open Go.Proofs Tryz
open Go.Proofs Go.RowKit
theorem Vr{s:List UInt8}{l:Bool}{f n:Nat}(h:mT s=some (l,f,n)):n≤65536∧f≤9∧1≤f+n∧(f=0→l=false):=by
 cases s with
 |nil=>cases h
 |cons c w=>
  have fj:c.toNat<256:=zbp c;simp only[mT]at h;by_cases h1:c.toNat<128
  ·rw[if_pos h1]at h;have h2:=zD h;obtain⟨rfl,h3⟩:=zbQ h2;obtain⟨rfl,rfl⟩:=zbQ h3;exact⟨by omega,by omega,by omega,fun _=>rfl⟩
  ·rw[if_neg h1]at h;have hb:c.toNat-(if 192≤c.toNat then 192 else 128)≤63:=by split<;>omega
   generalize c.toNat-(if 192≤c.toNat then 192 else 128)=m at h hb;by_cases h2:m≤55
   ·rw[if_pos h2]at h;have h2:=zD h;obtain⟨rfl,h3⟩:=zbQ h2;obtain⟨rfl,rfl⟩:=zbQ h3;exact⟨by omega,by omega,by omega,fun h=>by omega⟩
   ·rw[if_neg h2]at h;generalize cB (w.take (m-55))=v at h;generalize kX (w.take (m-55))=tk at h;by_cases h3:w.length<m-55
    ·rw[if_pos h3]at h;cases h
    ·rw[if_neg h3]at h;by_cases h4:tk=false
     ·rw[if_pos h4]at h;cases h
     ·rw[if_neg h4]at h;by_cases h5:65536<v∨v≤55
      ·rw[if_pos h5]at h;cases h
      ·rw[if_neg h5]at h;have h2:=zD h;obtain⟨rfl,h3⟩:=zbQ h2;obtain⟨rfl,rfl⟩:=zbQ h3;exact⟨by omega,by omega,by omega,fun h=>by omega⟩
theorem MA{s:List UInt8}{x:It}{r:List UInt8}(h:s=x.enc++r)(hlen:x.enc.length≤65536):∃l f n,mT s=some (l,f,n)∧f+n=x.enc.length∧
 ((l=false∧x= .aP ((s.drop f).take n)∧(0<f→iK ((s.drop f).take n)=false))∨(l=true∧∃xs,x= .bS xs∧(s.drop f).take n=It.cH xs)):=by
 subst h;cases x with
 |aP t=>
  have he:(It.aP t).enc=cT t:=by rw[It.enc]
  rw[he]at hlen⊢;rw[xu]at hlen⊢;cases jf:iK t with
  |true=>
   rw[if_pos rfl];unfold iK at jf;simp only[zh,decide_eq_true_eq]at jf;obtain⟨h1,h2⟩:=jf
   match t,h1 with
   |[c],_=>
    have hc:c.toNat<128:=by simpa[UInt8.lt_iff_toNat_lt]using h2
    exact⟨false,0,1,Vo hc _,rfl,.inl ⟨rfl,by simp,fun h=>by omega⟩⟩
  |false=>
   rw[jf,if_neg (by decide),zd]at hlen;rw[if_neg (by decide),zr];refine⟨false,(cZ 128 t.length).length,t.length,My (.inl rfl) (by omega) _,by rw[zd],.inl ⟨rfl,?_,fun _=>?_⟩⟩
   ·rw[zbC,zbT]
   ·rw[zbC,zbT];exact jf
 |bS xs=>
  have he:(It.bS xs).enc=cZ 192 (It.cH xs).length++It.cH xs:=by rw[It.enc]
  rw[he,zd]at hlen;rw[he,zr];exact⟨true,(cZ 192 (It.cH xs).length).length,(It.cH xs).length,My (.inr rfl) (by omega) _,by rw[zd],.inr ⟨rfl,xs,rfl,by rw[zbC,zbT]⟩⟩
theorem Vs(x:It):0<x.enc.length:=by
 cases x with
 |aP t=>
  rw[It.enc,xu];cases jf:iK t with
  |true=>
   rw[if_pos rfl];unfold iK at jf;simp only[zh,decide_eq_true_eq]at jf;omega
  |false=>
   rw[if_neg (by decide),zd];have:=xv 128 t.length;omega
 |bS l=>rw[It.enc,zd];have:=xv 192 (It.cH l).length;omega
def vc(s:List UInt8)(deep:Nat)(z:IZ)(m:Nat)(e:Int):Prop:=
 (e=0→1≤m∧m≤s.length)∧(∀(x:It) (r:List UInt8),s=x.enc++r→x.dep+deep≤16→x.enc.length≤65536→e=0∧z.er=x∧m=x.enc.length)
theorem vc.bad{s:List UInt8}{deep:Nat}{z:IZ}{e:Int}(he:e≠0)(h:∀(x:It) (r:List UInt8),s=x.enc++r→x.dep+deep≤16→x.enc.length≤65536→False):vc s deep z 0 e:=
 ⟨fun h=>absurd h he,fun x r h1 h2 h3=>(h x r h1 h2 h3).elim⟩
theorem Vt:∀(n:Nat) (s:List UInt8) (deep:Nat),deep≤16→16-deep<n→s.length≤2^30→Spec prog 187 [tv s,.int .i64 deep] [] (fun v B=>∃(k:PH) (z:IZ) (m:Nat) (e:Int),v= .tuple #[z.val,.int .i64 m,.int .i64 e]∧B=[Mem k]∧z.In (Mem k)∧vc s deep z m e):=by
 intro n;induction n with
 |zero=>
  intro s deep Vu hd hs;omega
 |succ n ih=>
  intro s deep Vu hd hs;refine x_sp func187 ntmps187 fun E cs Γ=>?_;have hz:(bC s).size=s.length:=dV s;have fU:∀(p4:Nat) ρ k Δ (e:Int),e≠0→(∀(x:It) (r:List UInt8),s=x.enc++r→x.dep+deep≤16→x.enc.length≤65536→False)→lk ρ 4=some (.pointer (some ⟨p4,0,none⟩))→lk ρ 5=some (.int .i64 0)→lk ρ 6=some (.int .i64 e)→ak Δ (Row p4 0 [.bool false,.string ⟨#[]⟩,.slice none 0 0]::Γ)→
   Ex prog (jX prog 187 E cs (fun v B=>∃(k:PH) (z:IZ) (m:Nat) (e:Int),v= .tuple #[z.val,.int .i64 m,.int .i64 e]∧B=[Mem k]∧z.In (Mem k)∧vc s deep z m e) Γ) 104 [] (.code .ret::k) ρ Δ:=fun p4 ρ k Δ e he bM h4 h5 h6 hE=>
   bJ (hE.trans (ak.mu _)) (bP (rs:=[.cell 4 179,.tmp 5,.tmp 6]) (vs:=[(IZ.aP []).val,.int .i64 0,.int .i64 e]) ⟨bG (b:=p4) (off:=0) (us:=[.bool false,.string ⟨#[]⟩,.slice none 0 0]) h4 rfl,bO h5,bO h6,trivial⟩ [Mem PH.emp] ⟨PH.emp,.aP [],0,e,rfl,rfl,.aP _ (by simp),vc.bad he bM⟩ Sub.h)
  refine lL (h:=?_);refine ao (aC rfl fun p4=>?_);refine Wq ?_;refine aJ rfl (Vq s (by omega)) rfl ?_;rintro v B ⟨rfl,⟨l,f,n',hh,rfl⟩|⟨hh,e,he,rfl⟩⟩
  ·obtain⟨hf1,MB,hf3,Vv⟩:=Vr hh;have hX:∀(x:It) (r:List UInt8),s=x.enc++r→x.enc.length≤65536→f+n'=x.enc.length∧((l=false∧x= .aP ((s.drop f).take n')∧(0<f→iK ((s.drop f).take n')=false))∨(l=true∧∃xs,x= .bS xs∧(s.drop f).take n'=It.cH xs)):=fun x r h1 h2=>by
    obtain⟨l2,f2,n2,g1,g2,g3⟩:=MA h1 h2;rw[hh]at g1;obtain⟨rfl,g4⟩:=zbQ (zD g1);obtain⟨rfl,rfl⟩:=zbQ g4;exact⟨g2,g3⟩
   refine qq (h:=?_);refine ao (aC rfl fun p7=>?_);refine Wq ?_;cases l with
   |false=>
    refine Wq ?_;by_cases xz:f+n'>65536
    ·refine Wq ?_;exact fU p4 _ _ _ 1 (by decide) (fun x r h1 _ h3=>by have:=(hX x r h1 h3).1;omega) rfl rfl rfl Sub.h
    ·refine Wq ?_;by_cases Vw:f+n'>s.length
     ·refine Wq ?_;exact fU p4 _ _ _ 7 (by decide) (fun x r h1 _ h3=>by
       have h4:=(hX x r h1 h3).1;have h5:=congrArg List.length h1;rw[zd]at h5;omega) rfl rfl rfl Sub.h
     ·have fin:∀ρ k,(0<f→iK ((s.drop f).take n')=false)→lk ρ 4=some (.pointer (some ⟨p4,0,none⟩))→lk ρ 5=some (.int .i64 ((f:Int)+n'))→lk ρ 6=some (.int .i64 0)→
       Ex prog (jX prog 187 E cs (fun v B=>∃(k:PH) (z:IZ) (m:Nat) (e:Int),v= .tuple #[z.val,.int .i64 m,.int .i64 e]∧B=[Mem k]∧z.In (Mem k)∧vc s deep z m e) Γ) 104 [] (.code .ret::k) ρ (Row p4 0 [.bool false,tv ((s.drop f).take n'),.slice none 0 0]::Γ):=fun ρ k jf h4 h5 h6=>
       bJ (ak.mu _) (bP (rs:=[.cell 4 179,.tmp 5,.tmp 6]) (vs:=[(IZ.aP ((s.drop f).take n')).val,.int .i64 ((f:Int)+n'),.int .i64 0]) ⟨bG (b:=p4) (off:=0) (us:=[.bool false,tv ((s.drop f).take n'),.slice none 0 0]) h4 rfl,bO h5,bO h6,trivial⟩ [Mem PH.emp]
        ⟨PH.emp,.aP ((s.drop f).take n'),f+n',0,by rw[show((f+n':Nat):Int)=(f:Int)+n' by omega];rfl,rfl,.aP _ (by rw[zw];omega),fun _=>⟨by omega,by omega⟩,fun x r h1 h2 h3=>by
         obtain⟨g1,⟨_,g2,_⟩|⟨g0,_⟩⟩:=hX x r h1 h3
         ·exact⟨rfl,by rw[g2,IZ.er],g1⟩
         ·cases g0⟩ Sub.h)
      by_cases Bb:0<f
      ·refine gg (h:=?_);refine bL (AI (bs:=s) (jl:=f) (jh:=f+n') rfl rfl rfl rfl (by omega) (by omega) (by omega)) rfl ?_;rw[show f+n'-f=n' by omega];refine fT (h:=?_);refine aq rfl (Hm ((s.drop f).take n')) rfl ?_;refine cS (h:=?_);cases jf:iK ((s.drop f).take n')with
       |true=>
        refine Wq ?_;exact fU p4 _ _ _ 1 (by decide) (fun x r h1 _ h3=>by
         obtain⟨g1,⟨_,g2,g3⟩|⟨g0,_⟩⟩:=hX x r h1 h3
         ·rw[jf]at g3;exact absurd (g3 Bb) (by decide)
         ·cases g0) rfl rfl rfl Sub.h
       |false=>
        refine aA (h:=?_);refine bL (AI (bs:=s) (jl:=f) (jh:=f+n') rfl rfl rfl rfl (by omega) (by omega) (by omega)) rfl ?_;rw[show f+n'-f=n' by omega];refine Wq ?_;exact bJ Sub.h (fin _ _ (fun _=>jf) rfl rfl rfl)
      ·refine aA (h:=?_);refine bL (AI (bs:=s) (jl:=f) (jh:=f+n') rfl rfl rfl rfl (by omega) (by omega) (by omega)) rfl ?_;rw[show f+n'-f=n' by omega];refine Wq ?_;exact bJ Sub.h (fin _ _ (fun h=>absurd h Bb) rfl rfl rfl)
   |true=>
    have iJ:∀(x:It) (r:List UInt8),s=x.enc++r→x.dep+deep≤16→x.enc.length≤65536→f+n'=x.enc.length∧∃xs,x= .bS xs∧(s.drop f).take n'=It.cH xs∧It.gv xs+(deep+1)≤16:=fun x r h1 h2 h3=>by
     obtain⟨g1,⟨g0,_⟩|⟨_,xs,rfl,g2⟩⟩:=hX x r h1 h3
     ·cases g0
     ·rw[It.dep]at h2;exact⟨g1,xs,rfl,g2,by omega⟩
    have Bb:0<f:=by
     rcases Nat.eq_zero_or_pos f with h|h
     ·exact absurd (Vv h) (by decide)
     ·exact h
    refine uI (h:=?_);by_cases kS:deep≥16
    ·refine Wq ?_;exact fU p4 _ _ _ 1 (by decide) (fun x r h1 h2 h3=>by
      obtain⟨_,xs,_,_,h⟩:=iJ x r h1 h2 h3;omega) rfl rfl rfl Sub.h
    ·refine Wq ?_;by_cases xz:f+n'>65536
     ·refine Wq ?_;exact fU p4 _ _ _ 1 (by decide) (fun x r h1 h2 h3=>by have:=(iJ x r h1 h2 h3).1;omega) rfl rfl rfl Sub.h
     ·refine Wq ?_;by_cases Vw:f+n'>s.length
      ·refine Wq ?_;exact fU p4 _ _ _ 7 (by decide) (fun x r h1 h2 h3=>by
        have h4:=(iJ x r h1 h2 h3).1;have h5:=congrArg List.length h1;rw[zd]at h5;omega) rfl rfl rfl Sub.h
      ·refine aA (h:=?_);refine bL (AI (bs:=s) (jl:=f) (jh:=f+n') rfl rfl rfl rfl (by omega) (by omega) (by omega)) rfl ?_;rw[show f+n'-f=n' by omega];obtain⟨t,ht⟩:∃t,(s.drop f).take n'=t:=⟨_,rfl⟩
       have ga:t.length≤65536∧t.length≤s.length:=by rw[←ht,zw,zQ];omega
       rw[ht]at iJ⊢;refine bU (h:=eW (h:=?_));refine aQ (α:=List UInt8×PH×List IZ×Option Addr×Nat) (fun q=>q.2.2.1.length+q.1.length≤t.length∧(∀x∈q.2.2.1,x.In (Mem q.2.1))∧(∀xs:List It,t=It.cH xs→It.gv xs+(deep+1)≤16→∃ys,xs=q.2.2.1.map IZ.er++ys∧q.1=It.cH ys))
        (fun q=>[(9,tv q.1),(8,iv ((f:Int)+n')),(6,iv 0),(5,iv 0),(4,dp p4),(1,iv deep)])
        (fun q=>Mem q.2.1::Row p4 0 [.bool true,.string ⟨#[]⟩,.slice q.2.2.2.1 q.2.2.1.length q.2.2.2.2]::Sl 3 q.2.2.2.1 q.2.2.1.length q.2.2.2.2 (q.2.2.1.flatMap IZ.cells)::Γ) (fun q=>q.1.length) (t,PH.emp,[],none,0)
        ⟨by simp,(fun x hx=>by cases hx),fun xs h1 _=>⟨xs,rfl,h1⟩⟩ x_tv ((ak.cq 3 _).trans ((ak.mu _).trans (Sub.h (Δ:=Mem PH.emp::Row p4 0 [.bool true,.string ⟨#[]⟩,.slice none 0 0]::Sl 3 none 0 0 []::Γ)))) ?_
       rintro⟨rest,k,l',a3,c3⟩ ⟨hlen,rM,DG⟩ back;dsimp only at hlen rM DG back⊢;refine lN (h:=?_);by_cases hr:rest=[]
       ·subst hr;refine aw (h:=?_);refine yN rfl rfl rfl rfl ?_;refine Wq ?_;refine fw a3 (h:=k) fun k3 dZ R3 lH=>?_;refine bP (rs:=[.cell 4 179,.tmp 5,.tmp 6]) (vs:=[(IZ.bS a3 c3 l').val,.int .i64 ((f:Int)+n'),.int .i64 0]) ⟨bG (us:=[.bool true,.string ⟨#[]⟩,.slice a3 l'.length c3]) rfl rfl,bO rfl,bO rfl,trivial⟩ [Mem k3]
         ⟨k3,.bS a3 c3 l',f+n',0,by rw[show((f+n':Nat):Int)=(f:Int)+n' by omega];rfl,rfl,.bS _ _ _ R3 lH (by omega) fun y hy=>(rM y hy).up dZ,fun _=>⟨by omega,by omega⟩,fun x r h1 h2 h3=>?_⟩ Sub.h
        obtain⟨g1,xs,rfl,g2,g3⟩:=iJ x r h1 h2 h3;obtain⟨ys,g4,g5⟩:=DG xs g2 g3;have hy:ys=[]:=by
         cases ys with
         |nil=>rfl
         |cons y ys=>
          rw[It.cH]at g5;have:=congrArg List.length g5;rw[zd]at this;have h6:=Vs y;rw[zaT]at this;omega
        subst hy;rw[zF]at g4;exact⟨rfl,by rw[IZ.er,IZ.nz,g4],g1⟩
       ·refine aw (h:=?_);refine F2 rfl rfl (fun h=>hr (yM (b:=[]) h)) rfl ?_;refine Wq ?_;rw[show((deep:Int)+1)=((deep+1:Nat):Int)by omega];refine aJ rfl (ih rest (deep+1) (by omega) (by omega) (by omega)) rfl ?_;rintro v B ⟨k2,x',m,e,rfl,rfl,j8,Hy,xA⟩;refine a_ (h:=?_);by_cases he:e=0
        ·subst he;obtain⟨j2,jv⟩:=Hy rfl;refine Wq ?_;refine ao (aC rfl fun je=>?_);refine Wq ?_;refine aZ 9 (aX [3,4,9] [0,1,2,5,6,7,3,4,8,9,10]) [Row p4 0 [.bool true,.string ⟨#[]⟩,.slice a3 l'.length c3],Row je 0 x'.cells] ?_;refine Ws ?_;refine au rfl (T0 (bs:=rest) (jl:=m) rfl rfl rfl jv) ?_;refine aE rfl (cf rfl (by rfl) (by rfl) (by rfl) (by rfl) rfl fun a2=>⟨bd,?_⟩);refine aE rfl (cF rfl rfl (by rfl) (by rfl) (by rfl) (by omega) rfl fun a4 c4 gI=>⟨bd,?_⟩);refine j6 (h:=?_);refine bN rfl rfl (eZ rfl rfl rfl rfl (by simp) ?_);refine df (h:=?_);dsimp only[Nat.reduceSub,Nat.reduceAdd,List.set];rw[show(l'.flatMap IZ.cells++[Value.bool x'.n8,tv x'.text,Value.slice x'.a x'.bq.length x'.c])=(l'++[x']).flatMap IZ.cells by simp];refine iz (h:=?_);refine ny k k2 fun k3 hk bH=>?_;have hb:=back (rest.drop m,k3,l'++[x'],a4,c4) ⟨by simp;omega,(fun y hy=>by
          rcases zL.1 hy with hy|hy
          ·exact(rM y hy).up hk
          ·obtain rfl:y=x':=by simpa using hy
           exact j8.up bH),fun xs h1 h2=>by
          obtain⟨ys,g4,g5⟩:=DG xs h1 h2;cases ys with
          |nil=>exact absurd g5 hr
          |cons y ys=>
           rw[It.cH]at g5;have Vx:y.dep≤It.gv xs:=DB (by rw[g4];simp);have gG:y.enc.length≤65536:=by
            have:=congrArg List.length g5;rw[zd]at this;omega
           obtain⟨_,o2,o3⟩:=xA y _ g5 (by omega) gG;exact⟨ys,by rw[g4,←o2];simp,by rw[g5,o3,zbC]⟩⟩ (by simp;omega)
         rw[zd]at hb;exact aV (hb)
        ·refine Wq ?_;refine ao (aC rfl fun je=>?_);refine Wq ?_;refine fU p4 _ _ _ 1 (by decide) (fun x r h1 h2 h3=>?_) rfl rfl rfl Sub.h;obtain⟨g1,xs,rfl,g2,g3⟩:=iJ x r h1 h2 h3;obtain⟨ys,g4,g5⟩:=DG xs g2 g3;cases ys with
         |nil=>exact hr g5
         |cons y ys=>
          rw[It.cH]at g5;have Vx:y.dep≤It.gv xs:=DB (by rw[g4];simp);have gG:y.enc.length≤65536:=by
           have:=congrArg List.length g5;rw[zd]at this;omega
          exact he (xA y _ g5 (by omega) gG).1
  ·refine qq (h:=?_);refine ao (aC rfl fun p7=>?_);refine Wq ?_;refine fU p4 _ _ _ e he (fun x r h1 _ h3=>?_) rfl rfl rfl Sub.h;obtain⟨l,f,n,g1,_⟩:=MA h1 h3;rw[hh]at g1;cases g1
end
section
open Go.Proofs Tryz
open Go.Proofs Go.RowKit
theorem Vy(s:List UInt8)(hs:s.length≤2^30):Spec prog 142 [tv s] [] (fun v B=>∃(k:PH) (z:IZ) (m:Nat) (e:Int),v= .tuple #[z.val,.int .i64 m,.int .i64 e]∧B=[Mem k]∧z.In (Mem k)∧vc s 0 z m e):=by
 refine x_sp func142 ntmps142 fun E cs Γ=>?_;refine gi (h:=?_);refine ao (aC rfl fun p2=>?_);refine Wq ?_;refine aJ rfl (Vt _ s 0 (by omega) (za7 _) hs) rfl ?_;rintro v B ⟨k,z,m,e,rfl,rfl,hI,hO⟩;refine bW (h:=?_);exact bP (rs:=[.cell 2 179,.tmp 3,.tmp 4]) (vs:=[z.val,.int .i64 m,.int .i64 e]) ⟨bG (us:=z.cells) rfl rfl,bO rfl,bO rfl,trivial⟩ [Mem k] ⟨k,z,m,e,rfl,rfl,hI,hO⟩ Sub.h
def MC(s:List UInt8)(z:IZ)(e:Int):Prop:=∀x:It,s=x.enc→x.dep≤16→x.enc.length≤65536→e=0∧z.er=x
theorem Vz(s:List UInt8)(hs:s.length≤2^30):Spec prog 97 [tv s] [] (fun v B=>∃(k:PH) (z:IZ) (e:Int),v= .tuple #[z.val,.int .i64 e]∧B=[Mem k]∧z.In (Mem k)∧MC s z e):=by
 refine x_sp func97 ntmps97 fun E cs Γ=>?_;have hz:(bC s).size=s.length:=dV s;refine gi (h:=?_);refine ao (aC rfl fun p2=>?_);refine Wq ?_;refine aJ rfl (Vy s hs) rfl ?_;rintro v B ⟨k,z,m,e,rfl,rfl,hI,Hy,xA⟩;refine a_ (h:=?_);have fU:∀(e':Int) ρ td,e'≠0→(∀x:It,s=x.enc→x.dep≤16→x.enc.length≤65536→False)→lk ρ 2=some (.pointer (some ⟨p2,0,none⟩))→lk ρ 3=some (.int .i64 e')→
  Ex prog (jX prog 97 E cs (fun v B=>∃(k:PH) (z:IZ) (e:Int),v= .tuple #[z.val,.int .i64 e]∧B=[Mem k]∧z.In (Mem k)∧MC s z e) Γ) 25 [] (.code .ret::td) ρ (Row p2 0 [.bool false,.string ⟨#[]⟩,.slice none 0 0]::Mem k::Γ):=fun e' ρ td he bM h2 h3=>
  bP (rs:=[.cell 2 179,.tmp 3]) (vs:=[(IZ.aP []).val,.int .i64 e']) ⟨bG (b:=p2) (off:=0) (us:=[.bool false,.string ⟨#[]⟩,.slice none 0 0]) h2 rfl,bO h3,trivial⟩ [Mem k] ⟨k,.aP [],e',rfl,rfl,.aP _ (by simp),fun x h1 h2 h3=>(bM x h1 h2 h3).elim⟩ Sub.h
 by_cases he:e=0
 ·subst he;obtain⟨j2,jv⟩:=Hy rfl;refine Wq ?_;refine ao (aC rfl fun p4=>?_);refine Wq ?_;by_cases aN:m<s.length
  ·refine Wq ?_;refine bJ Sub.h (fU 1 _ _ (by decide) (fun x h1 h2 h3=>?_) rfl rfl);have:=(xA x [] (by rw[h1,zF]) (by omega) h3).2.2;have:=congrArg List.length h1;omega
  ·refine Wq ?_;exact bP (rs:=[.cell 2 179,.tmp 3]) (vs:=[z.val,.int .i64 0]) ⟨bG (us:=z.cells) rfl rfl,bO rfl,trivial⟩ [Mem k] ⟨k,z,0,rfl,rfl,hI,fun x h1 h2 h3=>⟨rfl,(xA x [] (by rw[h1,zF]) (by omega) h3).2.1⟩⟩ Sub.h
 ·refine Wq ?_;refine ao (aC rfl fun p4=>?_);refine Wq ?_;exact bJ Sub.h (fU e _ _ he (fun x h1 h2 h3=>he (xA x [] (by rw[h1,zF]) (by omega) h3).1) rfl rfl)
theorem VA{s:List UInt8}{i:Nat}{c:UInt8}(h:s[i]? =some c):cB (s.take (i+1))=cB (s.take i)*256+c.toNat:=by
 rw[zp,h,zaa,LQ]
theorem VB{v c:Nat}(hc:c<256):(v*2^8)|||c=v*256+c:=by
 rw[zY v,←zbN (by simpa using hc)]
theorem VC(s:List UInt8)(hs:s.length≤2^47):Spec prog 99 [tv s] [] (fun v B=>v= .tuple #[nv (if s.length=8 then cB s else 0),.bool (decide (s.length=8))]∧B=[]):=by
 refine x_sp func99 ntmps99 fun E cs Γ=>?_;have hz:(bC s).size=s.length:=dV s;refine ko (h:=?_);by_cases h8:s.length=8
 ·rw[if_pos h8,decide_eq_true h8];refine Wq ?_;refine aQ (α:=Nat) (fun i=>i≤8) (fun i=>[(11,iv i),(10,iv (bC s).size),(4,nv (cB (s.take i))),(0,tv s)]) (fun _=>Γ) (fun i=>8-i) 0 (by omega) x_tv Sub.h ?_;intro i hi back;refine bQ (h:=?_);by_cases h:i<8
  ·obtain⟨c,hc⟩:=bc (l:=s) (i:=i) (by omega);have fj:=zbp c;have hv:cB (s.take i)<256^7:=by
    have h1:=AK (s.take i);rw[zw]at h1;exact zaw h1 (zai (by decide) (by omega))
   have Ba:cB (s.take i)*2^8<18446744073709551616:=by simp only[Nat.reducePow]at hv⊢;omega
   refine aA (h:=?_);refine bL (Dc (b:=8) rfl rfl rfl (by omega) Ba) rfl ?_;refine iu (h:=fv (h:=?_));refine bL (rD (bs:=s) (j:=i) rfl rfl rfl hc) rfl ?_;refine aw (h:=?_);refine bL (Dd rfl) rfl ?_;refine aw (h:=?_);refine bL (j5 _ rfl rfl Ba (by omega) (.inr (.inl ⟨rfl,rfl⟩))) rfl ?_;rw[VB (by omega),←VA hc];refine Wq ?_;exact aV (back (i+1) (by omega) (by omega))
  ·obtain rfl:i=8:=by omega
   rw[zo (by omega)];refine Wq ?_;exact ap rfl [] ⟨rfl,rfl⟩ Sub.h
 ·rw[if_neg h8,decide_eq_false h8];refine Wq ?_;exact ap rfl [] ⟨rfl,rfl⟩ Sub.h
end
section
open Go.Proofs Tryz
open Go.Proofs Go.RowKit
theorem DH{α:Type}{f:α→List Value}{s:Nat}(hf:∀x,(f x).length=s)(y:α):∀(l:List α) (i:Nat),i<l.length→(l.flatMap f).take (i*s)++f y++(l.flatMap f).drop (i*s+s)=(l.set i y).flatMap f
 |x::l,0,_=>by
  simp only[zT,zbw,zbq,zB,zO,List.set_cons_zero];rw[zaE (by rw[hf];omega),zU (by rw[hf];omega)];simp
 |x::l,i+1,h=>by
  have ih:=DH hf y l i (by simpa using h);simp only[zT,zaJ];rw[←ih,show(i+1)*s=(f x).length+i*s by rw[hf,zA];omega,List.take_append,zo (by omega)];rw[show(f x).length+i*s-(f x).length=i*s by omega,show(f x).length+i*s+s=(f x).length+(i*s+s)by omega,zbD,zU (by omega)];rw[show(f x).length+(i*s+s)-(f x).length=i*s+s by omega];simp
theorem vd{s:List UInt8}(h:kX s=true):cB s<aT:=by
 have h1:s.length≤32:=by
  unfold kX at h;simp only[zh,decide_eq_true_eq]at h;exact h.1
 have h2:=AK s;exact zaw h2 (by
  have:256^s.length≤256^32:=zai (by decide) h1;exact z9 this (by decide))
theorem Hz{a:Nat}(ha:a<aT):Spec prog 144 [uv a] [] (fun v B=>∃(n:Int) (ok:Bool),v= .tuple #[.int .i64 n,.bool ok]∧B=[]∧(a<9223372036854775808→ok=true∧n=a)):=by
 refine x_sp func144 ntmps144 fun E cs Γ=>?_;have qU:=fE a 0;have e_:=fE a 1;have iq:=fE a 2;have VD:=fE a 3;have gW:a<9223372036854775808→ay a 1=0∧ay a 2=0∧ay a 3=0∧ay a 0=a:=fun h=>by
  unfold ay;simp only[Nat.reducePow];omega
 have oy:ay a 1|||ay a 2<18446744073709551616:=zcb (n:=64) e_ iq;obtain⟨L,hL⟩:∃L,L=ay a 1|||ay a 2|||ay a 3:=⟨_,rfl⟩
 have go:∀(ok:Bool),(a<9223372036854775808→ok=true)→(a<9223372036854775808→ok=true∧IntKind.i64.wrap ((ay a 0:Nat):Int)=a):=fun ok h ha=>⟨h ha,by
  obtain⟨_,_,_,h0⟩:=gW ha;rw[h0,IntKind.wrap_i64];omega⟩
 refine gi (h:=?_);refine ao (aM rfl rfl fun p1=>?_);refine Wq ?_;refine aZ 13 (aX [] [0,1,2,3,4,5,6,7,8,9,10,11,12,13,14,15,16,17,18]) [Row p1 0 (uc a)] ?_;refine au rfl (du (j:=0) rfl rfl rfl (by decide)) ?_;refine au rfl (fk (i:=0) rfl (by omega) (fO a (by decide))) ?_;refine au rfl (yP rfl) ?_;refine au rfl (du (j:=1) rfl rfl rfl (by decide)) ?_;refine au rfl (fk (i:=1) rfl (by omega) (fO a (by decide))) ?_;refine au rfl (du (j:=2) rfl rfl rfl (by decide)) ?_;refine au rfl (fk (i:=2) rfl (by omega) (fO a (by decide))) ?_;refine au rfl (j5 _ rfl rfl e_ iq (.inr (.inl ⟨rfl,rfl⟩))) ?_;refine au rfl (du (j:=3) rfl rfl rfl (by decide)) ?_;refine au rfl (fk (i:=3) rfl (by omega) (fO a (by decide))) ?_;refine au rfl (j5 _ rfl rfl oy VD (.inr (.inl ⟨rfl,rfl⟩))) ?_;rw[←hL];by_cases h0:L=0
 ·refine au rfl (Kh rfl rfl (by omega)) ?_;refine dD (h:=?_);refine bE rfl rfl (du (j:=0) rfl rfl rfl (by decide)) ?_;refine bE rfl rfl (fk (i:=0) rfl (by omega) (fO a (by decide))) ?_;by_cases h1:ay a 0≤9223372036854775807
  ·refine kC (h:=?_);exact ap rfl [] ⟨_,true,rfl,rfl,go true fun _=>rfl⟩ Sub.h
  ·refine kC (h:=?_);exact ap rfl [] ⟨_,false,rfl,rfl,go false fun h=>by have:=gW h;omega⟩ Sub.h
 ·refine kC (h:=?_);exact ap rfl [] ⟨_,false,rfl,rfl,go false fun h=>by
   obtain⟨a1,a2,a3,_⟩:=gW h;rw[hL,a1,a2,a3]at h0;exact absurd rfl h0⟩ Sub.h
end
section
open Go.Proofs Tryz
open Go.Proofs Go.RowKit
def VE:TX:=⟨0,0,0,0,0,0,0,[],[]⟩
abbrev ve:TZ:=⟨VE,none,0,none,0⟩
theorem HA(A:HP):ve.In A:=⟨⟨rfl,fun _ _ _ _=> .inl rfl⟩,⟨rfl,fun _ _ _ _=> .inl rfl⟩,zq _,zq _,⟨by decide,by decide,by decide,by decide,fun h hh=>by cases hh⟩,zj _,zj _,fun b hb=>by cases hb⟩
abbrev tD:List Value:=[.int .i64 0,.int .i64 0,.int .u64 0,.int .u64 0,.int .u64 0,.int .u64 0,.int .u64 0,.int .u64 0,.int .u64 0,.int .u64 0,.int .u64 0,.int .u64 0,.int .u64 0,.int .u64 0,.int .u64 0,.int .u64 0,.int .u64 0,.int .u64 0,.int .i64 0,.slice none 0 0,.slice none 0 0]
def mU(t:TX):List It:=[.aP (aU t.bx.toNat),.aP (aU t.ck.toNat),.aP (aU t.bV),.aP (aU t.cap),.aP (aU t.bX),.aP (aU t.val),.aP (aU t.dr.toNat),.bS ((t.hs.map dw).map It.aP),.bS (t.bl.map It.aP)]
theorem MD(t:TX):(u_ t none none 0 none 0).er= .bS (mU t):=by
 rw[IZ.er,IZ.nz];simp only[zE,zal,IZ.er,IZ.nz,Ht];rfl
theorem MF(t:TX):(It.bS (mU t)).enc=t.bytes:=by rw[←MD,A_]
theorem VF(t:TX):(It.bS (mU t)).dep≤16:=by rw[←MD];exact Hu _ _ _ _ _ _
abbrev jD(l:List IZ)(j:Nat):List UInt8:=(l.getD j (.aP [])).text
abbrev valOf(l:List IZ)(j:Nat):Nat:=cB (jD l j)
def oH(l:List IZ)(i:Nat):List Nat:=(List.range 7).map fun j=>if j<i then valOf l j else 0
theorem MG(l:List IZ)(i:Nat):(oH l i).length=7:=by simp[oH]
theorem VG(l:List IZ){i:Nat}(h:i<7):(oH l i).set i (valOf l i)=oH l (i+1):=by
 refine zbB (by simp[oH]) fun j h1 h2=>?_;rw[zbZ];simp only[oH,List.getElem_map,zb8];split
 ·rename_i e;subst e;rw[if_pos (by omega)]
 ·rename_i e;by_cases g:j<i
  ·rw[if_pos g,if_pos (by omega)]
  ·rw[if_neg g,if_neg (by omega)]
theorem VH(l:List IZ):oH l 7=[valOf l 0,valOf l 1,valOf l 2,valOf l 3,valOf l 4,valOf l 5,valOf l 6]:=rfl
abbrev hN(x:IZ):Nat:=if x.text.length=8 then cB x.text else 0
theorem VI(x:IZ):hN x<aI:=by
 unfold hN;split
 ·rename_i h;have:=AK x.text;rw[h]at this;exact zaw this (by decide)
 ·decide
def DI(p2:Nat)(t:TX)(hs:List Nat):HP:=Any fun q:Option Addr×Nat=>Sep [Row p2 0 (TZ.cells ⟨{t with hs:=hs,bl:=[]},q.1,q.2,none,0⟩),Sl 1 q.1 hs.length q.2 (hs.map nv)]
theorem St.Bc{E:Env}{p2:Nat}{t:TX}{hs:List Nat}{Γ:List HP}{w:World}(st:St E (DI p2 t hs::Γ) w):∃q:Option Addr×Nat,St E (Row p2 0 (TZ.cells ⟨{t with hs:=hs,bl:=[]},q.1,q.2,none,0⟩)::Sl 1 q.1 hs.length q.2 (hs.map nv)::Γ) w:=by
 obtain⟨q,s1⟩:=st.ex;exact⟨q,(ak.cx [_,_] _).st s1⟩
theorem ak.Bc{p2:Nat}{t:TX}{hs:List Nat}{a:Option Addr}{c:Nat}(Γ:List HP):ak (Row p2 0 (TZ.cells ⟨{t with hs:=hs,bl:=[]},a,c,none,0⟩)::Sl 1 a hs.length c (hs.map nv)::Γ) (DI p2 t hs::Γ):=
 (ak.cA [_,_] Γ).trans (ak.ex (A:=fun q:Option Addr×Nat=>Sep [Row p2 0 (TZ.cells ⟨{t with hs:=hs,bl:=[]},q.1,q.2,none,0⟩),Sl 1 q.1 hs.length q.2 (hs.map nv)]) (a,c) Γ)
def DJ(p2:Nat)(t:TX)(ah:Option Addr)(ch:Nat)(bl:List (List UInt8)):HP:=Any fun q:Option Addr×Nat=>Sep [Row p2 0 (TZ.cells ⟨{t with bl:=bl},ah,ch,q.1,q.2⟩),Sl 1 q.1 bl.length q.2 (bl.map tv)]
theorem St.DK{E:Env}{p2:Nat}{t:TX}{ah:Option Addr}{ch:Nat}{bl:List (List UInt8)}{Γ:List HP}{w:World}(st:St E (DJ p2 t ah ch bl::Γ) w):∃q:Option Addr×Nat,St E (Row p2 0 (TZ.cells ⟨{t with bl:=bl},ah,ch,q.1,q.2⟩)::Sl 1 q.1 bl.length q.2 (bl.map tv)::Γ) w:=by
 obtain⟨q,s1⟩:=st.ex;exact⟨q,(ak.cx [_,_] _).st s1⟩
theorem ak.DK{p2:Nat}{t:TX}{ah:Option Addr}{ch:Nat}{bl:List (List UInt8)}{a:Option Addr}{c:Nat}(Γ:List HP):ak (Row p2 0 (TZ.cells ⟨{t with bl:=bl},ah,ch,a,c⟩)::Sl 1 a bl.length c (bl.map tv)::Γ) (DJ p2 t ah ch bl::Γ):=
 (ak.cA [_,_] Γ).trans (ak.ex (A:=fun q:Option Addr×Nat=>Sep [Row p2 0 (TZ.cells ⟨{t with bl:=bl},ah,ch,q.1,q.2⟩),Sl 1 q.1 bl.length q.2 (bl.map tv)]) (a,c) Γ)
abbrev DL(t:TX)(x y:Value):List Value:=[.int .i64 t.bx,.int .i64 t.ck,nv (ay t.bV 0),nv (ay t.bV 1),nv (ay t.bV 2),nv (ay t.bV 3),nv (ay t.cap 0),nv (ay t.cap 1),nv (ay t.cap 2),nv (ay t.cap 3),
 nv (ay t.bX 0),nv (ay t.bX 1),nv (ay t.bX 2),nv (ay t.bX 3),nv (ay t.val 0),nv (ay t.val 1),nv (ay t.val 2),nv (ay t.val 3),.int .i64 t.dr,x,y]
theorem ak.VJ{p2:Nat}{t:TX}{hs:List Nat}{a:Option Addr}{c n:Nat}{vs:List Value}(hn:hs.length=n)(hv:hs.map nv=vs)(Γ:List HP):ak (Row p2 0 (DL t (.slice a n c) (.slice none 0 0))::Sl 1 a n c vs::Γ) (DI p2 t hs::Γ):=by
 subst hn hv;exact ak.Bc (p2:=p2) (t:=t) (hs:=hs) (a:=a) (c:=c) Γ
theorem ak.MH{p2:Nat}{t:TX}{ah:Option Addr}{ch:Nat}{bl:List (List UInt8)}{a:Option Addr}{c n:Nat}{vs:List Value}(hn:bl.length=n)(hv:bl.map tv=vs)(Γ:List HP):ak (Row p2 0 (DL t (.slice ah t.hs.length ch) (.slice a n c))::Sl 1 a n c vs::Γ) (DJ p2 t ah ch bl::Γ):=by
 subst hn hv;exact ak.DK (p2:=p2) (t:=t) (ah:=ah) (ch:=ch) (bl:=bl) (a:=a) (c:=c) Γ
theorem MI{α β:Type}(f:α→β){l:List α}{i:Nat}{x:α}(h:l[i]? =some x):(l.take (i+1)).map f=(l.take i).map f++[f x]:=by
 rw[zp,h];simp
theorem HB{t:TX}(bn:t.ok=true)(hw:t.Wf){l:List IZ}(h:l.map IZ.er=mU t):
 l.length=9∧(∀j,j<7→kX (jD l j)=true)∧valOf l 0=t.bx.toNat∧valOf l 1=t.ck.toNat∧valOf l 2=t.bV∧valOf l 3=t.cap∧valOf l 4=t.bX∧valOf l 5=t.val∧valOf l 6=t.dr.toNat∧
 ((l.getD 7 (.aP [])).bq.map hN)=t.hs∧((l.getD 8 (.aP [])).bq.map IZ.text)=t.bl:=by
 have hlen:l.length=9:=by have:=congrArg List.length h;simpa[mU]using this
 have hg:∀j (x:It),(mU t)[j]? =some x→(l.getD j (.aP [])).er=x:=fun j x hx=>by
  rw[←h,zf]at hx;cases hj:l[j]? with
  |none=>rw[hj]at hx;cases hx
  |some z=>
   rw[hj]at hx;rw[ze,hj];exact zD hx
 have ht:∀j s,(mU t)[j]? =some (.aP s)→jD l j=s:=fun j s hx=>by
  have:=hg j _ hx;unfold jD;rw[←IZ.u7,this];rfl
 obtain⟨f1,f2,f3,f4,f5,f6,_⟩:=mr bn;have e0:=ht 0 _ rfl;have e1:=ht 1 _ rfl;have e2:=ht 2 _ rfl;have e3:=ht 3 _ rfl;have e4:=ht 4 _ rfl;have e5:=ht 5 _ rfl;have e6:=ht 6 _ rfl;have h7:=hg 7 _ rfl;have h8:=hg 8 _ rfl;refine⟨hlen,fun j hj=>?_,?_,?_,?_,?_,?_,?_,?_,?_,?_⟩
 ·have:j=0∨j=1∨j=2∨j=3∨j=4∨j=5∨j=6:=by omega
  rcases this with rfl|rfl|rfl|rfl|rfl|rfl|rfl
  ·rw[e0];exact tB (by unfold aT;omega)
  ·rw[e1];exact tB (by unfold aT;omega)
  ·rw[e2];exact tB hw.bV
  ·rw[e3];exact tB hw.cap
  ·rw[e4];exact tB hw.bX
  ·rw[e5];exact tB hw.val
  ·rw[e6];exact tB (by unfold aT;omega)
 ·unfold valOf;rw[e0,tA]
 ·unfold valOf;rw[e1,tA]
 ·unfold valOf;rw[e2,tA]
 ·unfold valOf;rw[e3,tA]
 ·unfold valOf;rw[e4,tA]
 ·unfold valOf;rw[e5,tA]
 ·unfold valOf;rw[e6,tA]
 ·have h9:=IZ.Hj (l.getD 7 (.aP []));rw[h7]at h9;have mM:((l.getD 7 (.aP [])).bq.map IZ.er)=(t.hs.map dw).map It.aP:=h9.symm;have pf:((l.getD 7 (.aP [])).bq.map IZ.text)=t.hs.map dw:=by
   have:=congrArg (List.map It.text) mM;rw[zR,zR]at this;refine Eq.trans (zah fun x _=>(IZ.u7 x).symm) (this.trans ?_);exact(zah (g:=id) fun s _=>rfl).trans (List.map_id _)
  have oy:((l.getD 7 (.aP [])).bq.map hN)=((l.getD 7 (.aP [])).bq.map IZ.text).map (fun s=>if s.length=8 then cB s else 0):=by
   rw[zR];rfl
  rw[oy,pf,zR]
  conv=>rhs;rw[←List.map_id t.hs]
  refine zah fun h hh=>?_;have aN:=hw.hs h hh;simp only[Function.comp_apply,xf,if_true,id];unfold dw;rw[Hw 8 h];exact zaf (by simpa using aN)
 ·have h9:=IZ.Hj (l.getD 8 (.aP []));rw[h8]at h9;have mM:((l.getD 8 (.aP [])).bq.map IZ.er)=t.bl.map It.aP:=h9.symm;have:=congrArg (List.map It.text) mM;rw[zR,zR]at this;refine Eq.trans (zah fun x _=>(IZ.u7 x).symm) (this.trans ?_);exact(zah (g:=id) fun s _=>rfl).trans (List.map_id _)
end
section
open Go.Proofs Tryz
open Go.Proofs Go.RowKit
theorem VK(l:List IZ):(oH l 0).flatMap uc=[.int .u64 0,.int .u64 0,.int .u64 0,.int .u64 0,.int .u64 0,.int .u64 0,.int .u64 0,.int .u64 0,.int .u64 0,.int .u64 0,.int .u64 0,.int .u64 0,.int .u64 0,.int .u64 0,.int .u64 0,.int .u64 0,.int .u64 0,.int .u64 0,.int .u64 0,.int .u64 0,.int .u64 0,.int .u64 0,.int .u64 0,.int .u64 0,.int .u64 0,.int .u64 0,.int .u64 0,.int .u64 0]:=by
 have h:oH l 0=[0,0,0,0,0,0,0]:=by
  unfold oH;exact(zah (g:=fun _=>0) fun j _=>if_neg (Nat.not_lt_zero j)).trans rfl
 rw[h];simp only[zT,zbo,De]
 rfl
theorem VL{A:HP}{a:Option Addr}{cap:Nat}{l:List IZ}(R:Reads A 3 a l.length (l.flatMap IZ.cells))(hI:∀z∈l,z.In A):
 Spec prog 98 [.slice a l.length cap] [A] (fun v B=>∃(k:PH) (z:TZ) (ok:Bool),v= .tuple #[z.val,.bool ok]∧B=[A,Mem k]∧z.In (Mem k)∧(∀t:TX,t.ok=true→t.Wf→l.map IZ.er=mU t→ok=true∧z.t=t)):=by
 refine x_sp func98 ntmps98 fun E cs Γ=>?_;have fU:∀(p2:Nat) ρ td Δ,(∀t:TX,t.ok=true→t.Wf→l.map IZ.er=mU t→False)→lk ρ 2=some (.pointer (some ⟨p2,0,none⟩))→lk ρ 3=some (.bool false)→ak Δ (Row p2 0 tD::A::Γ)→
  Ex prog (jX prog 98 E cs (fun v B=>∃(k:PH) (z:TZ) (ok:Bool),v= .tuple #[z.val,.bool ok]∧B=[A,Mem k]∧z.In (Mem k)∧(∀t:TX,t.ok=true→t.Wf→l.map IZ.er=mU t→ok=true∧z.t=t)) Γ) 112 [] (.code .ret::td) ρ Δ:=fun p2 ρ td Δ bM h2 h3 hE=>
  bJ (hE.trans (ak.mu _)) (bP (rs:=[.cell 2 88,.tmp 3]) (vs:=[ve.val,.bool false]) ⟨bG (b:=p2) (off:=0) (us:=tD) h2 rfl,bO h3,trivial⟩ [A,Mem PH.emp] ⟨PH.emp,ve,false,rfl,rfl,HA _,fun t h1 h2 h3=>(bM t h1 h2 h3).elim⟩ Sub.h)
 refine eh (h:=?_);refine ao (aC rfl fun p2=>?_);refine Wq ?_;by_cases h9:l.length=9
 case neg=>
  refine Wq ?_;exact fU p2 _ _ _ (fun t h1 h2 h3=>h9 (HB h1 h2 h3).1) rfl rfl Sub.h
 refine Wq ?_;refine ao (aC rfl fun p4=>?_);refine Wq ?_;refine aQ (α:=Nat) (fun i=>i≤7∧∀j,j<i→kX (jD l j)=true) (fun i=>[(22,iv i),(4,dp p4),(3,.bool false),(2,dp p2),(0,.slice a l.length cap)])
  (fun i=>Row p4 0 ((oH l i).flatMap uc)::Row p2 0 tD::A::Γ) (fun i=>7-i) 0 ⟨by omega,fun j hj=>by omega⟩ x_tv (by rw[VK];exact Sub.h) ?_
 rintro i ⟨hi,fx⟩ back;refine bQ (h:=?_);by_cases h:i<7
 ·obtain⟨z,hz⟩:=bc (l:=l) (i:=i) (by omega);have jP:=hI z (zc hz);have rF:jD l i=z.text:=by unfold jD;rw[ze,hz];rfl
  have fB:=jP.text;refine aA (h:=?_);refine bK rfl rfl R (j:=i) rfl (by omega) rfl fun b off ha=>?_;refine oC (h:=?_);refine fM rfl R ha (i:=i*3+1) (by omega) (tw hz (j:=1) rfl) rfl ?_;refine aJ rfl (LS z.text (by omega)) rfl ?_;refine cS (h:=?_);rw[←rF];cases HC:kX (jD l i)with
  |false=>
   rw[if_neg (by decide),if_neg (by decide)];refine gj (h:=?_);refine ao (aC rfl fun p6=>?_);refine Wq ?_;exact fU p2 _ _ _ (fun t h1 h2 h3=>by rw[(HB h1 h2 h3).2.1 i h]at HC;cases HC) rfl rfl Sub.h
  |true=>
   rw[if_pos rfl,if_pos rfl];refine gj (h:=?_);refine ao (aC rfl fun p6=>?_);refine aA (h:=?_);refine dd (j:=i) rfl rfl rfl h rfl ?_;refine dO (h:=?_);refine jH (us:=uc (valOf l i)) rfl rfl rfl rfl (by rw[za9];omega) (by rw[lF (s:=4) fun _=>rfl,MG];show 0+i*4-0+4≤_;omega) ?_;have kW:=DH (f:=uc) (s:=4) (fun _=>rfl) (valOf l i) (oH l i) i (by rw[MG];exact h);rw[show 0+i*4-0=i*4 by omega,show(uc (valOf l i)).length=4 from rfl,kW,VG l h];refine Wq ?_;exact aV (back (i+1) ⟨by omega,fun j hj=>by
    by_cases e:j=i
    ·subst e;exact HC
    ·exact fx j (by omega)⟩ (by omega))
 ·obtain rfl:i=7:=by omega
  have w0:=vd (fx 0 (by omega));have w1:=vd (fx 1 (by omega));have w2:=vd (fx 2 (by omega));have w3:=vd (fx 3 (by omega));have w4:=vd (fx 4 (by omega));have w5:=vd (fx 5 (by omega));have w6:=vd (fx 6 (by omega));have VM:∀t:TX,t.ok=true→t.Wf→l.map IZ.er=mU t→cB (jD l 0)=t.bx.toNat∧cB (jD l 1)=t.ck.toNat∧cB (jD l 2)=t.bV∧cB (jD l 3)=t.cap∧cB (jD l 4)=t.bX∧cB (jD l 5)=t.val∧cB (jD l 6)=t.dr.toNat∧
   ((l.getD 7 (.aP [])).bq.map hN)=t.hs∧((l.getD 8 (.aP [])).bq.map IZ.text)=t.bl:=fun t h1 h2 h3=>(HB h1 h2 h3).2.2
  rw[VH];simp only[valOf];generalize cB (jD l 0)=x0 at*;generalize cB (jD l 1)=x1 at*;generalize cB (jD l 2)=x2 at*;generalize cB (jD l 3)=x3 at*;generalize cB (jD l 4)=x4 at*;generalize cB (jD l 5)=x5 at*;generalize cB (jD l 6)=x6 at*;rw[show[x0,x1,x2,x3,x4,x5,x6].flatMap uc=uc x0++(uc x1++(uc x2++(uc x3++(uc x4++(uc x5++(uc x6++[]))))))from rfl];simp only[uc,zl,zB];refine aA (h:=?_);refine dd (j:=0) rfl rfl rfl (by decide) rfl ?_;refine xB (h:=?_);refine aJ rfl (Hz w0) rfl ?_;rintro v B ⟨n0,k0,rfl,rfl,mV⟩;refine dq (h:=aA (h:=?_));refine dd (j:=1) rfl rfl rfl (by decide) rfl ?_;refine xB (h:=?_);refine aJ rfl (Hz w1) rfl ?_;rintro v B ⟨n1,k1,rfl,rfl,pK⟩;refine dq (h:=aA (h:=?_));refine dd (j:=6) rfl rfl rfl (by decide) rfl ?_;refine xB (h:=?_);refine aJ rfl (Hz w6) rfl ?_;rintro v B ⟨n6,k6,rfl,rfl,VN⟩;refine dq (h:=?_);have fX:∀t:TX,t.ok=true→t.Wf→l.map IZ.er=mU t→k0=true∧k1=true∧k6=true∧n0=t.bx∧n1=t.ck∧n6=t.dr∧x2=t.bV∧x3=t.cap∧x4=t.bX∧x5=t.val∧
   ((l.getD 7 (.aP [])).bq.map hN)=t.hs∧((l.getD 8 (.aP [])).bq.map IZ.text)=t.bl:=fun t h1 h2 h3=>by
   obtain⟨e0,e1,e2,e3,e4,e5,e6,e7,e8⟩:=VM t h1 h2 h3;obtain⟨f1,f2,f3,f4,f5,f6,_⟩:=mr h1;obtain⟨g1,g2⟩:=mV (by omega);obtain⟨g3,g4⟩:=pK (by omega);obtain⟨g5,g6⟩:=VN (by omega);exact⟨g1,g3,g5,by omega,by omega,by omega,e2,e3,e4,e5,e7,e8⟩
  by_cases hk:k0=true∧k1=true∧k6=true
  case neg=>
   have bM:∀t:TX,t.ok=true→t.Wf→l.map IZ.er=mU t→False:=fun t h1 h2 h3=>by
    obtain⟨g1,g2,g3,_⟩:=fX t h1 h2 h3;exact hk ⟨g1,g2,g3⟩
   cases k0 with
   |false=>(refine Wq ?_);exact fU p2 _ _ _ bM rfl rfl Sub.h
   |true=>
    cases k1 with
    |false=>(refine Wq ?_);exact fU p2 _ _ _ bM rfl rfl Sub.h
    |true=>
     cases k6 with
     |false=>(refine Wq ?_);exact fU p2 _ _ _ bM rfl rfl Sub.h
     |true=>exact absurd ⟨rfl,rfl,rfl⟩ hk
  obtain⟨rfl,rfl,rfl⟩:=hk;refine aA (h:=?_);refine dd (j:=2) rfl rfl rfl (by decide) rfl ?_;refine xB (h:=aw (h:=?_));refine dd (j:=3) rfl rfl rfl (by decide) rfl ?_;refine xB (h:=aw (h:=?_));refine dd (j:=4) rfl rfl rfl (by decide) rfl ?_;refine xB (h:=aw (h:=?_));refine dd (j:=5) rfl rfl rfl (by decide) rfl ?_;refine Wq ?_;obtain⟨s7,HD⟩:=bc (l:=l) (i:=7) (by omega);obtain⟨s8,HE⟩:=bc (l:=l) (i:=8) (by omega);have e7:l.getD 7 (.aP [])=s7:=by rw[ze,HD];rfl
  have e8:l.getD 8 (.aP [])=s8:=by rw[ze,HE];rfl
  rw[e7,e8]at fX;have MJ:=hI s7 (zc HD);have MK:=hI s8 (zc HE);obtain⟨R7,Bd,hl7,VO⟩:=MJ.bq;obtain⟨R8,rq,Dm,AA⟩:=MK.bq;obtain⟨T,hT⟩:∃T:TX,T=⟨n0,n1,x2,x3,x4,x5,n6,[],[]⟩:=⟨_,rfl⟩
  refine aw (h:=?_);refine bK rfl rfl R (j:=7) rfl (by omega) rfl fun b off ha=>?_;refine aw (h:=?_);refine dA rfl R ha (i:=7*3) (us:=s7.cells) (by omega) rfl (fun j v hv=>tw HD hv) rfl ?_;refine aJ rfl (Hk s7) rfl ?_;rintro v B ⟨pe,rfl,rfl⟩;refine nU (h:=?_);refine bJ (ak.nO _) ?_;refine xq (Ds:=[]) rfl rfl (Hl pe MJ) (fun j=>[DI p2 T ((s7.bq.take j).map hN)]) (fun _ _=>[Fact False jr]) (Δ2:=Γ) ?_ (by rfl) ?_ ?_ ?_ ?_
  ·have e:=ak.Bc (p2:=p2) (t:=T) (hs:=[]) (a:=none) (c:=0) Γ;rw[hT]at e⊢;exact(ak.cq 1 _).trans ((Sub.h (Δ:=Row p2 0 (TZ.cells ⟨⟨n0,n1,x2,x3,x4,x5,n6,[],[]⟩,none,0,none,0⟩)::Sl 1 none 0 0 []::Γ)).trans e)
  ·rintro j vs R ⟨x,hx,k,z',fe,eA,rfl,rfl⟩
   rfl
  ·rintro j vs R ⟨x,hx,k,z',fe,eA,rfl,rfl⟩;intro Y lp r Θ fZ eT cv nV nq;refine a_ (h:=?_);refine dz (Γ':=fun q:Option Addr×Nat=>Row p2 0 (TZ.cells ⟨{T with hs:=(s7.bq.take j).map hN,bl:=[]},q.1,q.2,none,0⟩)::Sl 1 q.1 ((s7.bq.take j).map hN).length q.2 (((s7.bq.take j).map hN).map nv)::Rec lp r .ready none::Mem k::Θ) (fun E w st=>
    St.Bc (Sub.h.st st)) ?_
   rintro⟨aj,cj⟩;dsimp only;have mw:=VO x (zc hx);have rF:z'.text=x.text:=by rw[←IZ.u7,←IZ.u7,fe]
   have iJ:=mw.text;have fx:=MI hN hx;refine nW (h:=?_);refine ao (aC rfl fun xl=>?_);refine mS (h:=?_);refine nP (r:=r) eT ?_;refine Wq ?_;refine aJ rfl (VC z'.text (by rw[rF];omega)) rfl ?_;refine cS (h:=?_);rw[rF,show(if x.text.length=8 then cB x.text else 0)=hN x from rfl];refine aA (h:=?_);refine cf rfl (by rfl) (by rfl) (by rfl) (by rfl) rfl fun a2=>?_;refine aw (h:=?_);refine cF rfl rfl (by rfl) (by rfl) (by rfl) (by simp;omega) rfl fun a4 c4 hc=>?_;refine Wq ?_;refine bJ ?_ (cv _);refine a_ (h:=?_);rw[fx];refine ak.trans ?_ (ak.perm (List.Perm.swap _ _ _));refine ak.trans ?_ (ak.VJ (n:=((s7.bq.take j).map hN).length+1) (a:=a4) (c:=c4) (vs:=((s7.bq.take j).map hN).map nv++[nv (hN x)]) (by simp) (by simp) _);exact Sub.h
  ·intro D;refine dz (Γ':=fun q:Option Addr×Nat=>Row p2 0 (TZ.cells ⟨{T with hs:=s7.bq.map hN,bl:=[]},q.1,q.2,none,0⟩)::Sl 1 q.1 (s7.bq.map hN).length q.2 ((s7.bq.map hN).map nv)::Marks [D]::A::Γ) (fun E w st=>by
    rw[zu]at st;simp only[zl,zB]at st;exact St.Bc (Sub.h.st st)) ?_
   rintro⟨ah,ch⟩;dsimp only;obtain⟨T2,tE⟩:∃T2:TX,T2={T with hs:=s7.bq.map hN,bl:=[]}:=⟨_,rfl⟩
   refine bJ (Γ':=Mem PH.emp::Row p2 0 (DL T2 (.slice ah T2.hs.length ch) (.slice none 0 0))::Sl 1 ah T2.hs.length ch (T2.hs.map nv)::Marks [D]::A::Γ) (by rw[tE];exact(ak.mu _).trans Sub.h) ?_;refine fw ah (h:=PH.emp) fun k3 dZ R3 lH=>?_;have VP:T2.hs=s7.bq.map hN∧T2.bl=[]:=by rw[tE];exact⟨rfl,rfl⟩
   refine aA (h:=?_);refine bK rfl rfl R (j:=8) rfl (by omega) rfl fun b8 acF kF=>?_;refine aw (h:=?_);refine dA rfl R kF (i:=8*3) (us:=s8.cells) (by omega) rfl (fun j v hv=>tw HE hv) rfl ?_;refine aJ rfl (Hk s8) rfl ?_;rintro v B ⟨HF,rfl,rfl⟩;refine nU (h:=?_);refine bf (ρ':=[(101,.agg s8.cells.toArray),(102,.func (.func 188) #[] #[dp HF]),(2,dp p2)]) (Γ':=Row HF 0 s8.cells::Mem k3::Row p2 0 (DL T2 (.slice ah T2.hs.length ch) (.slice none 0 0))::Marks [D]::A::Γ) ?_ x_tv Sub.h;refine xq (Ds:=[D]) rfl rfl (Hl HF MK) (fun j=>[DJ p2 T2 ah ch ((s8.bq.take j).map IZ.text)]) (fun _ _=>[Fact False jr]) (Δ2:=Mem k3::Γ) ?_ (by rfl) ?_ ?_ ?_ ?_
   ·have e:=ak.MH (p2:=p2) (t:=T2) (ah:=ah) (ch:=ch) (bl:=[]) (a:=none) (c:=0) (n:=0) (vs:=[]) rfl rfl (Mem k3::Γ);exact(ak.cq 1 _).trans (ak.trans Sub.h e)
   ·rintro j vs R ⟨x,hx,k,z',fe,eA,rfl,rfl⟩
    rfl
   ·rintro j vs R ⟨x,hx,k,z',fe,eA,rfl,rfl⟩;intro Y lp r Θ fZ eT cv nV nq;refine a_ (h:=?_);refine dz (Γ':=fun q:Option Addr×Nat=>Row p2 0 (TZ.cells ⟨{T2 with bl:=(s8.bq.take j).map IZ.text},ah,ch,q.1,q.2⟩)::Sl 1 q.1 ((s8.bq.take j).map IZ.text).length q.2 (((s8.bq.take j).map IZ.text).map tv)::Rec lp r .ready none::Mem k::Θ) (fun E w st=>
     St.DK (Sub.h.st st)) ?_
    rintro⟨aj,cj⟩;dsimp only;have mw:=AA x (zc hx);have rF:z'.text=x.text:=by rw[←IZ.u7,←IZ.u7,fe]
    have fx:=MI IZ.text hx;refine nW (h:=?_);refine ao (aC rfl fun nA=>?_);refine mS (h:=?_);refine nP (r:=r) eT ?_;refine aA (h:=?_);refine cf rfl (by rfl) (by rfl) (by rfl) (by rfl) rfl fun a2=>?_;refine aw (h:=?_);refine cF rfl rfl (by rfl) (by rfl) (by rfl) (by simp;omega) rfl fun a4 c4 hc=>?_;rw[rF];refine Wq ?_;refine bJ ?_ (cv _);refine a_ (h:=?_);rw[fx];refine ak.trans ?_ (ak.perm (List.Perm.swap _ _ _));refine ak.trans ?_ (ak.MH (n:=((s8.bq.take j).map IZ.text).length+1) (a:=a4) (c:=c4) (vs:=((s8.bq.take j).map IZ.text).map tv++[tv x.text]) (by simp) (by simp) _);exact Sub.h
   ·intro D2;refine dz (Γ':=fun q:Option Addr×Nat=>Row p2 0 (TZ.cells ⟨{T2 with bl:=s8.bq.map IZ.text},ah,ch,q.1,q.2⟩)::Sl 1 q.1 (s8.bq.map IZ.text).length q.2 ((s8.bq.map IZ.text).map tv)::Marks [D2,D]::Mem k3::A::Γ) (fun E w st=>by
     rw[zu]at st;simp only[zl,zB]at st;exact St.DK (Sub.h.st st)) ?_
    rintro⟨ab,cb⟩;dsimp only;obtain⟨Z,hZ⟩:∃Z:TZ,Z=⟨{T2 with bl:=s8.bq.map IZ.text},ah,ch,ab,cb⟩:=⟨_,rfl⟩
    refine bJ (Γ':=Row p2 0 Z.cells::Sl 1 Z.ab Z.t.bl.length Z.cb (Z.t.bl.map tv)::Marks [D2,D]::Mem k3::A::Γ) (by rw[hZ];exact Sub.h) ?_;refine fw Z.ab (h:=k3) fun k4 my R4 gI=>?_;refine Wq ?_;have VQ:Z.In (Mem k4):=by
     refine⟨?_,R4,?_,gI,?_,?_,?_,?_⟩
     ·have:=R3.up my;rw[hZ];exact this
     ·rw[hZ];exact lH
     ·rw[hZ];refine⟨?_,?_,?_,?_,?_⟩
      ·rw[tE,hT];exact w2
      ·rw[tE,hT];exact w3
      ·rw[tE,hT];exact w4
      ·rw[tE,hT];exact w5
      ·intro h hh;have Be:h∈s7.bq.map hN:=by rw[tE]at hh;exact hh
       obtain⟨x,_,rfl⟩:=zbY.1 Be;exact VI x
     ·rw[hZ];show T2.hs.length≤_;rw[VP.1,zm];omega
     ·rw[hZ];show(s8.bq.map IZ.text).length≤_;rw[zm];omega
     ·rw[hZ];intro b hb;obtain⟨x,hx,rfl⟩:=zbY.1 (show b∈s8.bq.map IZ.text from hb);exact(AA x hx).text
    refine ry (rs:=[.cell 2 88,.tmp 3]) (vs:=[Z.val,.bool true]) ⟨bG (us:=Z.cells) rfl rfl,bO rfl,trivial⟩ [A,Mem k4] ⟨k4,Z,true,rfl,rfl,VQ,fun t h1 h2 h3=>⟨rfl,?_⟩⟩ Sub.h;obtain⟨_,_,_,g1,g2,g3,g4,g5,g6,g7,g8,g9⟩:=fX t h1 h2 h3;rw[hZ,tE,hT];show(⟨n0,n1,x2,x3,x4,x5,n6,s7.bq.map hN,s8.bq.map IZ.text⟩:TX)=t;rw[g1,g2,g3,g4,g5,g6,g7,g8,g9]
   ·intro D c i;refine a_ (h:=?_);exact uY
  ·intro D c i;refine a_ (h:=?_);exact uY
end
section
open Go.Proofs Tryz
open Go.Proofs Go.RowKit
structure ML(s:List UInt8)(z:TZ)(e:Int):Prop where
 snd:e=0→z.t.ok=true∧z.t.bytes=s
 VR:∀t:TX,t.ok=true→t.Wf→s=t.bytes→e=0∧z.t=t
theorem MM(s:List UInt8)(hs:s.length≤2^30):Spec prog 63 [tv s] [] (fun v B=>∃(k:PH) (z:TZ) (e:Int),v= .tuple #[z.val,.int .i64 e]∧B=[Mem k]∧z.In (Mem k)∧ML s z e):=by
 refine x_sp func63 ntmps63 fun E cs Γ=>?_;have fU:∀(p2:Nat) (k:PH) ρ td Δ,(∀t:TX,t.ok=true→t.Wf→s=t.bytes→False)→lk ρ 2=some (.pointer (some ⟨p2,0,none⟩))→lk ρ 3=some (.int .i64 1)→ak Δ (Row p2 0 tD::Mem k::Γ)→
  Ex prog (jX prog 63 E cs (fun v B=>∃(k:PH) (z:TZ) (e:Int),v= .tuple #[z.val,.int .i64 e]∧B=[Mem k]∧z.In (Mem k)∧ML s z e) Γ) 41 [] (.code .ret::td) ρ Δ:=fun p2 k ρ td Δ bM h2 h3 hE=>
  bJ hE (bP (rs:=[.cell 2 88,.tmp 3]) (vs:=[ve.val,.int .i64 1]) ⟨bG (b:=p2) (off:=0) (us:=tD) h2 rfl,bO h3,trivial⟩ [Mem k] ⟨k,ve,1,rfl,rfl,HA _,fun h=>absurd h (by decide),fun t h1 h2 h3=>(bM t h1 h2 h3).elim⟩ Sub.h)
 refine gi (h:=?_);refine ao (aC rfl fun p2=>?_);refine Wq ?_;refine aJ rfl (Vz s hs) rfl ?_;rintro v B ⟨k,x,e,rfl,rfl,hI,hP⟩;refine a_ (h:=?_);have MN:∀t:TX,t.ok=true→t.Wf→s=t.bytes→e=0∧x.er= .bS (mU t):=fun t h1 h2 h3=>hP _ (by rw[MF];exact h3) (VF t) (by rw[MF];have:=TX.rB h2 h1;omega);by_cases he:e=0
 case neg=>
  refine gj (h:=?_);refine ao (aC rfl fun p4=>?_);refine Wq ?_;exact fU p2 k _ _ _ (fun t h1 h2 h3=>he (MN t h1 h2 h3).1) rfl rfl Sub.h
 subst he;obtain⟨R,hc,hl,hx⟩:=hI.bq;have xC:∀t:TX,t.ok=true→t.Wf→s=t.bytes→x.bq.map IZ.er=mU t:=fun t h1 h2 h3=>by
  have:=(MN t h1 h2 h3).2;have h4:=IZ.Hj x;rw[this]at h4;exact h4.symm
 refine gj (h:=?_);refine ao (aC rfl fun p4=>?_);refine Wq ?_;refine aJ rfl (VL R hx) rfl ?_;rintro v B ⟨k2,z,ok,rfl,rfl,jP,hR⟩;refine a_ (h:=?_);cases ok with
 |false=>
  refine gj (h:=?_);refine ao (aC rfl fun p6=>?_);refine Wq ?_;exact fU p2 k _ _ _ (fun t h1 h2 h3=>by have:=(hR t h1 h2 (xC t h1 h2 h3)).1;cases this) rfl rfl Sub.h
 |true=>
  refine gj (h:=?_);refine ao (aC rfl fun p6=>?_);refine aA (h:=?_);refine aq (vs:=[z.val]) rfl (va z jP) rfl ?_;refine de (h:=?_);cases hz:z.t.ok with
  |false=>
   rw[if_neg (by decide),if_neg (by decide)];refine Wq ?_;exact fU p2 k _ _ _ (fun t h1 h2 h3=>by have:=(hR t h1 h2 (xC t h1 h2 h3)).2;rw[this,h1]at hz;cases hz) rfl rfl Sub.h
  |true=>
   rw[if_pos rfl,if_pos rfl];refine Wq ?_;by_cases hb:z.t.bytes=s
   ·refine fT (h:=?_);refine yN rfl rfl (by rw[hb]) rfl ?_;refine Wq ?_;exact bP (rs:=[.cell 2 88,.tmp 3]) (vs:=[z.val,.int .i64 0]) ⟨bG (us:=z.cells) rfl rfl,bO rfl,trivial⟩ [Mem k2] ⟨k2,z,0,rfl,rfl,jP,fun _=>⟨hz,hb⟩,fun t h1 h2 h3=>⟨rfl,(hR t h1 h2 (xC t h1 h2 h3)).2⟩⟩ Sub.h
   ·refine fT (h:=?_);refine F2 rfl rfl (fun h=>hb (yM h)) rfl ?_;refine Wq ?_;exact fU p2 k _ _ _ (fun t h1 h2 h3=>hb (by rw[(hR t h1 h2 (xC t h1 h2 h3)).2];exact h3.symm)) rfl rfl Sub.h
end
section
open Go.Proofs Tryz
open Go.Proofs Go.RowKit
section ops
variable {P:Program} {X:Cx} {n:Nat} {ds:List Deferred} {ρ:aK} {Γ:List HP} {Nx:Value→List HP→Prop} {d:Nat} {ty:TypeId}
theorem VS{x y z:Operand}{ts:Array TypeId}{kk:IntKind}{a b c:Int}(hx:ev ρ x=some (.int kk a))(hy:ev ρ y=some (.int kk b))(hz:ev ρ z=some (.int kk c)):bI P (.call ⟨.builtin .min,#[x,y,z],ts⟩) ty ρ Γ (.int kk (min (min a b) c)):=
 ⟨by simp,fun ee o E w ax aS he bg hs=>by
  have h1:(if b<a then b else a)=min a b:=by rw[Int.min_def];split<;>split<;>omega
  have h2:(if c<min a b then c else min a b)=min (min a b) c:=by rw[Int.min_def (min a b) c];split<;>split<;>omega
  simp[execOp,ax,resolve,he x _ hx,he y _ hy,he z _ hz,invoke,builtin,Builtin.min_,Builtin.min2,h1,h2]⟩
end ops
theorem VT{n:Nat}(h:n≤484):sizeOf (n:Int)=(((mi n:Nat):Int),0)∧mi n≤2:=by
 unfold sizeOf mi;rw[if_neg (by omega)];by_cases h1:n≤112
 ·rw[if_pos (by omega),if_pos h1];exact⟨rfl,by omega⟩
 ·rw[if_neg (by omega),if_neg h1];by_cases h2:n≤240
  ·rw[if_pos (by omega),if_pos h2];exact⟨rfl,by omega⟩
  ·rw[if_neg (by omega),if_neg h2,if_pos (by omega),if_pos (by omega)];exact⟨rfl,by omega⟩
theorem MO{A:HP}(z:TZ)(I:z.In A)(bn:z.t.ok=true):Spec prog 164 [z.val] [A] (fun v B=>v= .tuple #[.int .i64 (z.t.bytes.length:Nat),.int .i64 (mi z.t.bytes.length:Nat),.int .i64 (z.t.slot:Nat),.int .i64 0]∧B=[A]):=by
 refine x_sp func164 ntmps164 fun E cs Γ=>?_;have hle:=TX.rB I.wf bn;obtain⟨xD,pL⟩:=VT hle;have hz:(bC z.t.bytes).size=z.t.bytes.length:=dV _;refine eh (h:=?_);refine ao (aM rfl rfl fun p1=>?_);refine Wq ?_;refine aJ rfl (va z I) rfl ?_;refine dh (h:=?_);rw[bn,if_pos rfl,if_pos rfl];refine bW (h:=?_);refine aJ rfl (Mf _) rfl ?_;refine dh (h:=?_);rw[hz,xD];refine nZ (h:=?_);refine Dp 2 (aX [] [0,1,2,3,4,5,6,7,8]) [] ?_;refine Ws ?_;refine au rfl (FD (kk:= .i64) rfl rfl ⟨by omega,by simp[IntKind.bits];omega⟩ (gE ?_)) ?_
 ·rw[zV];have:mi z.t.bytes.length=0∨mi z.t.bytes.length=1∨mi z.t.bytes.length=2:=by omega
  rcases this with h|h|h<;>rw[h]<;>decide
 rw[zV,show(128:Int)*2^mi z.t.bytes.length=(z.t.slot:Nat)by unfold TX.slot;push_cast;rfl];refine kC (h:=?_);rw[hz];skip;exact ap rfl [A] ⟨rfl,rfl⟩ Sub.h
abbrev fD:List Value:=[.int .i64 0,.int .u64 0,.int .u64 0,.int .u64 0,.int .u64 0,.int .i64 0]
abbrev vf(d:Int)(t:Nat):List Value:=[.int .i64 d,nv (ay t 0),nv (ay t 1),nv (ay t 2),nv (ay t 3)]
abbrev qx(d:Int)(t:Nat):Value:= .agg (vf d t).toArray
theorem VU{A:HP}(z:TZ)(I:z.In A)(bn:z.t.ok=true):Spec prog 215 [z.val,.agg fD.toArray] [A] (fun v B=>∃d:Int,v= .tuple #[qx d z.t.bV,.int .i64 0]∧B=[A]∧-4096≤d∧d≤0):=by
 refine x_sp func215 ntmps215 fun E cs Γ=>?_;have w:=I.wf;have l1:=xm w.cap;have l2:=xm w.bX;have l3:=xm (a:=0) (by decide);have l4:=xm (a:=1) (by decide);refine dx (h:=?_);refine ao (aM rfl rfl fun p2=>?_);refine ao (aM rfl rfl fun p3=>?_);refine ao (aC rfl fun p4=>?_);refine Wq ?_;refine aJ rfl UA rfl ?_;refine xk (h:=?_);refine ao (aC rfl fun p6=>?_);refine gg (h:=?_);refine aq rfl (rK z I) rfl ?_;refine dh (h:=?_);rw[bn,if_pos rfl];refine bW (h:=?_);refine aZ 14 (aX [4,8,13] [0,1,2,3,5,6,7,10,11,4,8,9,12,13,14]) [Row p6 0 [nv (ay 1 0),nv (ay 1 1),nv (ay 1 2),nv (ay 1 3)],Row p3 0 fD,Row p2 0 z.cells] ?_;refine Ws ?_;refine aE rfl (aq (vs:=[uv z.t.cap,uv 0]) rfl (L6 w.cap (b:=0) (by decide)) rfl ?_);refine cn (h:=?_);refine aE rfl (aq (vs:=[uv z.t.bX,uv 1]) rfl (L6 w.bX (b:=1) (by decide)) rfl ?_);refine cn (h:=?_);refine au rfl (VS rfl rfl rfl) ?_;obtain⟨d,hd⟩:∃d,d=min (min 0 (nu z.t.cap-nu 0)) (nu z.t.bX-nu 1):=⟨_,rfl⟩
 rw[←hd];refine au rfl (yL (cs:=vf d z.t.bV) rfl (by rfl)) ?_;skip;refine aE rfl (dt (us:=vf d z.t.bV) rfl rfl rfl rfl (by rfl) ⟨bd,?_⟩);refine df (h:=?_);exact bP (rs:=[.cell 4 267,.tmp 5]) (vs:=[qx d z.t.bV,.int .i64 0]) ⟨bG (us:=vf d z.t.bV) rfl rfl,bO rfl,trivial⟩ [A] ⟨d,rfl,rfl,by omega,by omega⟩ Sub.h
theorem MP{A:HP}{a:Option Addr}{cap:Nat}{l:List TZ}(R:Reads A 21 a l.length (av l))(I:bR A l)(bn:∀z∈l,z.t.ok=true)(h0:0<l.length)(hl:l.length≤2^38):
 Spec prog 166 [.slice a l.length cap,.agg fD.toArray] [A] (fun v B=>∃(d:Int) (t:Nat),v= .tuple #[qx d t,.int .i64 0]∧B=[A]∧-4096≤d∧d≤0∧t<aT):=by
 refine x_sp func166 ntmps166 fun E cs Γ=>?_;refine dx (h:=?_);refine ao (aM rfl rfl fun p3=>?_);refine ao (aC rfl fun p4=>?_);refine Wq ?_;refine ao (aC rfl fun p6=>?_);refine Wq ?_;refine aQ (α:=Nat×Int×Nat) (fun q=>q.1≤l.length∧-4096≤q.2.1∧q.2.1≤0∧q.2.2<aT) (fun q=>[(17,iv q.1),(16,iv l.length),(15,.slice a l.length cap),(6,dp p6),(5,iv 0),(4,dp p4),(3,dp p3)])
  (fun q=>Row p6 0 (vf q.2.1 q.2.2)::Row p4 0 (vf 0 0)::Row p3 0 fD::A::Γ) (fun q=>l.length-q.1) (0,0,0) ⟨by omega,by decide,by decide,by decide⟩ x_tv (Sub.h (Δ:=Row p6 0 [.int .i64 0,.int .u64 0,.int .u64 0,.int .u64 0,.int .u64 0]::Row p4 0 [.int .i64 0,.int .u64 0,.int .u64 0,.int .u64 0,.int .u64 0]::Row p3 0 fD::A::Γ)) ?_
 rintro⟨i,d,t⟩ ⟨hi,oI,kS,ht⟩ back;dsimp only at hi oI kS ht back⊢;refine bQ (h:=?_);by_cases h:i<l.length
 ·obtain⟨z,hz⟩:=bc (l:=l) (i:=i) h;have jP:=I z (zc hz);have pM:=bn z (zc hz);have w:=jP.wf;refine aA (h:=?_);refine bK rfl rfl R (j:=i) rfl h rfl fun b off ha=>?_;refine aw (h:=?_);refine dA rfl R ha (i:=i*21) (us:=z.cells) (by omega) rfl (fun j v hv=>cG hz hv) rfl ?_;refine ao (aC rfl fun p8=>?_);refine aA (h:=?_);refine aq (vs:=[z.val,.agg fD.toArray]) rfl (VU z jP pM) rfl ?_;rintro v B ⟨e,rfl,rfl,rJ,nx⟩;refine a_ (h:=?_);by_cases i0:i=0
  ·refine gj (h:=?_);refine ao (aC rfl fun p9=>?_);refine aA (h:=?_);refine aq (vs:=[uv z.t.bV,uv z.t.bV]) rfl (ml w.bV w.bV) rfl ?_;refine dh (h:=?_);rw[show cV z.t.bV z.t.bV=0 by unfold cV;rw[if_neg (by omega),if_neg (by omega)]];refine nZ (h:=?_);exact aV (back (i+1,min e e,z.t.bV) ⟨by dsimp only;omega,by dsimp only;omega,by dsimp only;omega,w.bV⟩ (by dsimp only;omega))
  ·refine gj (h:=?_);refine ao (aC rfl fun p9=>?_);refine aA (h:=?_);refine aq (vs:=[uv z.t.bV,uv t]) rfl (ml w.bV ht) rfl ?_;refine cS (h:=?_);by_cases aN:z.t.bV<t
   ·rw[show cV z.t.bV t= -1 by unfold cV;rw[if_pos aN]];refine Wq ?_;exact aV (back (i+1,min d e,z.t.bV) ⟨by dsimp only;omega,by dsimp only;omega,by dsimp only;omega,w.bV⟩ (by dsimp only;omega))
   ·have hc:¬cV z.t.bV t<0:=by unfold cV;rw[if_neg aN];split<;>omega
    refine Wq ?_;exact aV (back (i+1,min d e,t) ⟨by dsimp only;omega,by dsimp only;omega,by dsimp only;omega,ht⟩ (by dsimp only;omega))
 ·obtain rfl:i=l.length:=by omega
  refine Wq ?_;exact bP (rs:=[.cell 4 267,.tmp 5]) (vs:=[qx d t,.int .i64 0]) ⟨bG (us:=vf d t) rfl rfl,bO rfl,trivial⟩ [A] ⟨d,t,rfl,rfl,oI,kS,ht⟩ Sub.h
end
section
open Go.Proofs Tryz
section
variable {α:Type} (le:α→α→Prop)
def cW(j:Nat):Nat:=(j-1)/2
theorem mz{j:Nat}(h:0<j):cW j<j:=by unfold cW;omega
def tF(f:Nat→α)(i p j:Nat):α:=if j=i then f p else if j=p then f i else f j
def Heap(f:Nat→α)(n:Nat):Prop:=∀j,0<j→j<n→le (f (cW j)) (f j)
def oJ(f:Nat→α)(n i:Nat):Prop:=(∀j,0<j→j<n→j≠i→le (f (cW j)) (f j))∧(0<i→∀j,0<j→j<n→cW j=i→le (f (cW i)) (f j))
def rN(f:Nat→α)(n i:Nat):Prop:=(∀j,0<j→j<n→cW j≠i→le (f (cW j)) (f j))∧(0<i→∀j,0<j→j<n→cW j=i→le (f (cW i)) (f j))
variable {le}
theorem oJ.done{f:Nat→α}{n i:Nat}(h:oJ le f n i)(hi:i=0∨le (f (cW i)) (f i)):Heap le f n:=fun j h0 hj=>by
 by_cases e:j=i
 ·subst e;rcases hi with hi|hi
  ·omega
  ·exact hi
 ·exact h.1 j h0 hj e
theorem oJ.step{f:Nat→α}{n i:Nat}(tr:∀a b c,le a b→le b c→le a c)(h:oJ le f n i)(hi:0<i)(hn:i<n)(hl:le (f i) (f (cW i))):oJ le (tF f i (cW i)) n (cW i):=by
 have hp:=mz hi;refine⟨fun j h0 hj cE=>?_,fun j3 j h0 hj rH=>?_⟩
 ·have lX:=mz h0;unfold tF;by_cases e1:j=i
  ·subst e1;rw[if_neg (by omega),if_pos rfl,if_pos rfl];exact hl
  ·rw[if_neg (c:=j=i) e1,if_neg (c:=j=cW i) cE];by_cases e2:cW j=i
   ·rw[if_pos e2];exact h.2 hi j h0 hj e2
   ·rw[if_neg e2];by_cases e3:cW j=cW i
    ·rw[if_pos e3];have:=h.1 j h0 hj e1;rw[e3]at this;exact tr _ _ _ hl this
    ·rw[if_neg e3];exact h.1 j h0 hj e1
 ·have vg:=mz j3;have lX:=mz h0;have hb:=h.1 (cW i) j3 (by omega) (by omega);unfold tF;rw[if_neg (c:=cW (cW i)=i) (by omega),if_neg (c:=cW (cW i)=cW i) (by omega)];by_cases e1:j=i
  ·rw[if_pos e1];exact hb
  ·rw[if_neg e1,if_neg (by omega)];have:=h.1 j h0 hj e1;rw[rH]at this;exact tr _ _ _ hb this
theorem rN.done{f:Nat→α}{n i:Nat}(h:rN le f n i)(hi:∀j,0<j→j<n→cW j=i→le (f i) (f j)):Heap le f n:=fun j h0 hj=>by
 by_cases e:cW j=i
 ·rw[e];exact hi j h0 hj e
 ·exact h.1 j h0 hj e
theorem rN.step{f:Nat→α}{n i k:Nat}(h:rN le f n i)(Bf:0<k)(hk:k<n)(rO:cW k=i)(wH:∀j,0<j→j<n→cW j=i→le (f k) (f j))(hl:le (f k) (f i)):rN le (tF f i k) n k:=by
 have HG:i<k:=rO ▸ mz Bf;refine⟨fun j h0 hj cE=>?_,fun _ j h0 hj rH=>?_⟩
 ·have lX:=mz h0;unfold tF;rw[if_neg (c:=cW j=k) cE];by_cases e1:cW j=i
  ·rw[if_pos e1,if_neg (c:=j=i) (by omega)];by_cases e2:j=k
   ·rw[if_pos e2];exact hl
   ·rw[if_neg e2];exact wH j h0 hj e1
  ·rw[if_neg e1];by_cases e2:j=i
   ·rw[if_pos e2];have:=h.2 (by omega) k Bf hk rO;rw[e2];exact this
   ·rw[if_neg e2];by_cases e3:j=k
    ·exact absurd (e3 ▸ rO) e1
    ·rw[if_neg e3];exact h.1 j h0 hj e1
 ·have lX:=mz h0;unfold tF;rw[rO,if_pos rfl,if_neg (c:=j=i) (by omega),if_neg (c:=j=k) (by omega)];have:=h.1 j h0 hj (by omega);rw[rH]at this;exact this
theorem Heap.VV{f g:Nat→α}{n i:Nat}(tr:∀a b c,le a b→le b c→le a c)(h:Heap le f n)(hg:∀j,j≠i→g j=f j)(hi:0<i)(hl:le (g i) (g (cW i)))(hn:i<n):oJ le g n i:=by
 have hp:=mz hi;refine⟨fun j h0 hj cE=>?_,fun _ j h0 hj rH=>?_⟩
 ·have lX:=mz h0;rw[hg j cE];by_cases e:cW j=i
  ·rw[e];have h1:=h j h0 hj;have h2:=h i hi hn;rw[e]at h1;rw[hg (cW i) (by omega)]at hl;exact tr _ _ _ (tr _ _ _ hl h2) h1
  ·rw[hg _ e];exact h j h0 hj
 ·have lX:=mz h0;rw[hg j (by omega),hg (cW i) (by omega)];have h1:=h j h0 hj;have h2:=h i hi hn;rw[rH]at h1;exact tr _ _ _ h2 h1
theorem Heap.VW{f g:Nat→α}{n i:Nat}(tr:∀a b c,le a b→le b c→le a c)(h:Heap le f n)(hg:∀j,j≠i→g j=f j)(hl:i=0∨le (g (cW i)) (g i))(hn:i<n):rN le g n i:=by
 refine⟨fun j h0 hj cE=>?_,fun hi j h0 hj rH=>?_⟩
 ·have lX:=mz h0;rw[hg _ cE];by_cases e:j=i
  ·subst e;rcases hl with hl|hl
   ·omega
   ·rw[hg _ (by omega)]at hl;exact hl
  ·rw[hg j e];exact h j h0 hj
 ·have lX:=mz h0;have hp:=mz hi;rw[hg j (by omega),hg (cW i) (by omega)];have h1:=h j h0 hj;have h2:=h i hi hn;rw[rH]at h1;exact tr _ _ _ h2 h1
theorem Heap.push{f g:Nat→α}{n:Nat}(h:Heap le f n)(hg:∀j,j<n→g j=f j):oJ le g (n+1) n:=by
 refine⟨fun j h0 hj cE=>?_,fun hi j h0 hj rH=>?_⟩
 ·have lX:=mz h0;rw[hg j (by omega),hg (cW j) (by omega)];exact h j h0 (by omega)
 ·have lX:=mz h0;omega
end
end
section
open Go.Proofs Tryz
structure Nd where
 a:Nat
 d:Int
 t:Nat
def VX:Nd:=⟨0,0,0⟩
def ei(n m:Nd):Prop:=n.d<m.d∨n.d=m.d∧(n.t<m.t∨n.t=m.t∧n.a≤m.a)
def xE(d1:Int)(t1:Nat)(d2:Int)(t2:Nat):Int:=if d1<d2 then -1 else if d1>d2 then 1 else if t1<t2 then -1 else if t1>t2 then 1 else 0
def tG(m n:Nd):Int:=if xE m.d m.t n.d n.t≠0 then xE m.d m.t n.d n.t else (m.a:Int)-n.a
theorem DM(a b c:Nd)(h:ei a b)(k:ei b c):ei a c:=by unfold ei at*;omega
theorem vh(m n:Nd):tG m n<0↔¬ei n m:=by
 unfold tG xE ei;by_cases h1:m.d<n.d
 ·simp[h1];omega
 ·by_cases h2:m.d>n.d
  ·simp[h1,h2]
  ·by_cases h3:m.t<n.t
   ·simp[h1,h2,h3];omega
   ·by_cases h4:m.t>n.t
    ·simp[h1,h2,h3,h4];omega
    ·simp[h1,h2,h3,h4];omega
theorem DN{n m:Nd}(h:¬ei n m):ei m n:=by unfold ei at*;omega
abbrev dR(l:List Nd)(i:Nat):Nd:=l.getD i VX
theorem MQ{l:List Nd}{i:Nat}(h:i<l.length):dR l i=l[i]:=by unfold dR;rw[ze,za h];rfl
theorem HH{l:List Nd}{i j:Nat}(h:i<l.length)(n:Nd):dR (l.set i n) j=if j=i then n else dR l j:=by
 unfold dR;rw[ze,ze,zae];by_cases e:i=j
 ·subst e;simp[h]
 ·rw[if_neg e,if_neg (zb4 e)]
def fP{α:Type}(l:List α)(i k:Nat)(h1:i<l.length)(h2:k<l.length):List α:=(l.set i l[k]).set k l[i]
theorem k8{α:Type}(l:List α)(i k:Nat)(h1:i<l.length)(h2:k<l.length):(fP l i k h1 h2).Perm l:=List.set_set_perm h1 h2
theorem kG{α:Type}(l:List α)(i k:Nat)(h1:i<l.length)(h2:k<l.length):(fP l i k h1 h2).length=l.length:=by simp[fP]
theorem MR(l:List Nd)(i k:Nat)(h1:i<l.length)(h2:k<l.length)(cE:i≠k):dR (fP l i k h1 h2)=tF (dR l) i k:=by
 funext j;unfold fP;rw[HH (by simpa using h2),HH h1];unfold tF;rw[MQ h1,MQ h2];by_cases e1:j=k
 ·subst e1;rw[if_pos rfl,if_neg (zb4 cE),if_pos rfl]
 ·rw[if_neg e1];by_cases e2:j=i
  ·rw[if_pos e2,if_pos e2]
  ·rw[if_neg e2,if_neg e2,if_neg e1]
def Nd.Wf(n:Nd):Prop:=n.a<8∧-4096≤n.d∧n.d≤0∧n.t<115792089237316195423570985008687907853269984665640564039457584007913129639936
structure gw(l:List Nd):Prop where
 wf:∀n∈l,n.Wf
 nd:(l.map Nd.a).Nodup
 hp:Heap ei (dR l) l.length
theorem gw.nil:gw []:=⟨fun n h=>(by cases h),by simp,fun j h0 hj=>(by simp at hj)⟩
theorem HI:∀(n:Nat) (l:List Nat),l.Nodup→(∀x∈l,x<n)→l.length≤n
 |0,l,_,h=>by
  cases l with
  |nil=>simp
  |cons x l=>exact absurd (h x (by simp)) (by omega)
 |n+1,l,hn,h=>by
  have h1:=HI n (l.filter fun x=>x !=n) (hn.filter _) (fun x hx=>by
   obtain⟨a,b⟩:=List.mem_filter.1 hx;have:=h x a;simp at b;omega)
  have h2:l.length≤(l.filter fun x=>x !=n).length+1:=by
   clear h1 h;induction l with
   |nil=>simp
   |cons y l ih=>
    obtain⟨ha,hb⟩:=zb5.1 hn;rw[List.filter_cons];by_cases e:y=n
    ·subst e;rw[if_neg (by simp),zy];have:l.filter (fun x=>x !=y)=l:=by
      rw[List.filter_eq_self];intro x hx;simp;rintro rfl;exact ha hx
     rw[this];omega
    ·rw[if_pos (by simpa using e),zy,zy];have:=ih hb;omega
  omega
theorem gw.len{l:List Nd}(h:gw l):l.length≤8:=by
 have:=HI 8 (l.map Nd.a) h.nd (fun x hx=>by
  obtain⟨n,hn,rfl⟩:=zbY.1 hx;exact(h.wf n hn).1)
 simpa using this
theorem gw.MS{l l':List Nd}(wf:∀n∈l,n.Wf)(nd:(l.map Nd.a).Nodup)(p:l'.Perm l)(hp:Heap ei (dR l') l'.length):gw l':=
 ⟨fun n hn=>wf n (p.mem_iff.1 hn),(p.map Nd.a).nodup_iff.2 nd,hp⟩
end
section
open Go.Proofs Tryz
open Go.Proofs Go.RowKit
abbrev fH(n:Nd):List Value:=[.int .i64 n.a,.int .i64 n.d,nv (ay n.t 0),nv (ay n.t 1),nv (ay n.t 2),nv (ay n.t 3)]
abbrev j9(n:Nd):Value:= .agg (fH n).toArray
abbrev cw(l:List Nd):List Value:=l.flatMap fH
theorem mA(l:List Nd):(cw l).length=l.length*6:=lF (f:=fH) (s:=6) (fun _=>rfl) l
theorem vi(n:Nd):(fH n).all Value.oneCell'=true:=by simp[Value.oneCell']
theorem DO(l:List Nd):(cw l).all Value.oneCell'=true:=by
 rw[zaQ];intro v hv;obtain⟨n,_,hn⟩:=List.mem_flatMap.1 hv;exact zaQ.1 (vi n) v hn
theorem mW{l:List Nd}{i:Nat}{z:Nd}(h:l[i]? =some z){j:Nat}{v:Value}(hv:(fH z)[j]? =some v):(cw l)[i*6+j]? =some v:=by
 obtain⟨h1,h2⟩:=List.getElem?_eq_some_iff.1 h;have:=oA (s:=6) (l:=l) (f:=fH) (fun _=>rfl) h1 j (by have:=(List.getElem?_eq_some_iff.1 hv).1;exact this);rw[this,h2];exact hv
theorem MT(n:Nd)(h:n.Wf):n.t<aT:=h.2.2.2
theorem VY{d1 d2:Int}{t1 t2:Nat}(h1:t1<aT)(h2:t2<aT):Spec prog 281 [qx d1 t1,qx d2 t2] [] (fun v B=>v= .int .i64 (xE d1 t1 d2 t2)∧B=[]):=by
 refine x_sp func281 ntmps281 fun E cs Γ=>?_;refine qf (h:=?_);unfold xE;by_cases g1:d1<d2
 ·rw[if_pos g1];refine bQ (h:=?_);refine ao (aM rfl rfl fun p2=>?_);refine ao (aM rfl rfl fun p3=>?_);refine Wq ?_;exact ap rfl [] ⟨rfl,rfl⟩ Sub.h
 ·rw[if_neg g1];by_cases g2:d1>d2
  ·rw[if_pos g2];refine bQ (h:=?_);refine ao (aM rfl rfl fun p2=>?_);refine ao (aM rfl rfl fun p3=>?_);refine Wq ?_;exact ap rfl [] ⟨rfl,rfl⟩ Sub.h
  ·rw[if_neg g2];refine bQ (h:=?_);refine ao (aM rfl rfl fun p2=>?_);refine ao (aM rfl rfl fun p3=>?_);refine aA (h:=?_);refine aq (vs:=[uv t1,uv t2]) rfl (ml h1 h2) rfl ?_;refine xn (h:=?_);exact ap rfl [] ⟨rfl,rfl⟩ Sub.h
theorem DP{m n:Nd}(h1:m.Wf)(h2:n.Wf):Spec prog 246 [j9 m,j9 n] [] (fun v B=>v= .int .i64 (tG m n)∧B=[]):=by
 refine x_sp func246 ntmps246 fun E cs Γ=>?_;have b1:=h1.1;have b2:=h2.1;refine lL (h:=?_);refine ao (aM rfl rfl fun p2=>?_);refine ao (aM rfl rfl fun p3=>?_);refine aA (h:=?_);refine aq (vs:=[qx m.d m.t,qx n.d n.t]) rfl (VY (MT m h1) (MT n h2)) rfl ?_;refine cS (h:=?_);unfold tG;by_cases g:xE m.d m.t n.d n.t=0
 ·rw[if_neg (by omega)];refine Wq ?_;exact ap rfl [] ⟨rfl,rfl⟩ Sub.h
 ·rw[if_pos g];refine Wq ?_;exact ap rfl [] ⟨rfl,rfl⟩ Sub.h
theorem VZ{d:Int}(t:Nat)(h1: -4096≤d)(h2:d≤0):Spec prog 252 [qx d t] [] (fun v B=>v= .int .i64 0∧B=[]):=by
 refine x_sp func252 ntmps252 fun E cs Γ=>?_;refine gi (h:=?_);refine ao (aM rfl rfl fun p1=>?_);refine Wq ?_;exact ap rfl [] ⟨rfl,rfl⟩ Sub.h
theorem DQ{n:Nd}(h:n.Wf):Spec prog 216 [j9 n] [] (fun v B=>v= .bool true∧B=[]):=by
 refine x_sp func216 ntmps216 fun E cs Γ=>?_;have b1:=h.1;refine gi (h:=?_);refine ao (aM rfl rfl fun p1=>?_);refine gg (h:=?_);refine aq (vs:=[qx n.d n.t]) rfl (VZ n.t h.2.1 h.2.2.1) rfl ?_;refine jO (h:=?_);exact ap rfl [] ⟨rfl,rfl⟩ Sub.h
theorem V0(p:Nat)(a:Int)(n:Nd):Spec prog 248 [j9 n,dp p] [Row p 0 [.int .i64 a]] (fun v B=>v= .bool (decide ((n.a:Int)=a))∧B=[Row p 0 [.int .i64 a]]):=by
 refine x_sp func248 ntmps248 fun E cs Γ=>?_;refine eg (h:=?_);by_cases h:(n.a:Int)=a
 ·rw[decide_eq_true h];refine bQ (h:=?_);refine ao (aM rfl rfl fun p2=>?_);refine Wq ?_;exact ap rfl [Row p 0 [.int .i64 a]] ⟨rfl,rfl⟩ Sub.h
 ·rw[decide_eq_false h];refine bQ (h:=?_);refine ao (aM rfl rfl fun p2=>?_);refine Wq ?_;exact ap rfl [Row p 0 [.int .i64 a]] ⟨rfl,rfl⟩ Sub.h
def Bg(l:List Nd)(a:Int)(r:Int):Prop:=(r= -1∧∀n∈l,(n.a:Int)≠a)∨∃(i:Nat) (n:Nd),r=i∧l[i]? =some n∧(n.a:Int)=a∧∀j m,j<i→l[j]? =some m→(m.a:Int)≠a
theorem V1{A:HP}{ad:Option Addr}{cap:Nat}{l:List Nd}(R:Reads A 6 ad l.length (cw l))(p:Nat)(a:Int)(hl:l.length≤2^40):
 Spec prog 247 [.slice ad l.length cap,.func (.func 248) #[] #[dp p]] [A,Row p 0 [.int .i64 a]] (fun v B=>∃r,v= .int .i64 r∧B=[A,Row p 0 [.int .i64 a]]∧Bg l a r):=by
 refine x_sp func247 ntmps247 fun E cs Γ=>?_;refine gJ (h:=?_);refine aQ (α:=Nat) (fun i=>i≤l.length∧∀j m,j<i→l[j]? =some m→(m.a:Int)≠a) (fun i=>[(8,iv i),(7,iv l.length),(1,.func (.func 248) #[] #[dp p]),(0,.slice ad l.length cap)]) (fun _=>A::Row p 0 [.int .i64 a]::Γ) (fun i=>l.length-i) 0 ⟨by omega,fun j m h=>by omega⟩ x_tv Sub.h ?_;rintro i ⟨hi,bM⟩ back;refine bQ (h:=?_);by_cases h:i<l.length
 ·obtain⟨n,hn⟩:=bc (l:=l) (i:=i) h;refine aA (h:=?_);refine bK rfl rfl R (j:=i) rfl h rfl fun b off ha=>?_;refine aw (h:=?_);refine dA rfl R ha (i:=i*6) (us:=fH n) (by omega) rfl (fun j v hv=>mW hn hv) rfl ?_;refine aw (h:=?_);refine o5 (f:=248) (fs:=[]) (caps:=[dp p]) rfl rfl (V0 p a n) rfl ?_;refine de (h:=?_);by_cases e:(n.a:Int)=a
  ·rw[decide_eq_true e];refine Wq ?_;exact ap rfl [A,Row p 0 [.int .i64 a]] ⟨i,rfl,rfl,.inr ⟨i,n,rfl,hn,e,bM⟩⟩ Sub.h
  ·rw[decide_eq_false e];refine Wq ?_;exact aV (back (i+1) ⟨by omega,fun j m hj hm=>by
    by_cases g:j=i
    ·subst g;rw[hn]at hm;cases hm;exact e
    ·exact bM j m (by omega) hm⟩ (by omega))
 ·obtain rfl:i=l.length:=by omega
  refine Wq ?_;exact ap rfl [A,Row p 0 [.int .i64 a]] ⟨-1,rfl,rfl,.inl ⟨rfl,fun n hn=>by
   obtain⟨j,hj⟩:=zk hn;exact bM j n (List.getElem?_eq_some_iff.1 hj).1 hj⟩⟩ Sub.h
theorem Bh{A:HP}{ad:Option Addr}{cap:Nat}{l:List Nd}(R:Reads A 6 ad l.length (cw l))(a:Int)(hl:l.length≤2^40):
 Spec prog 212 [.slice ad l.length cap,.int .i64 a] [A] (fun v B=>∃r,v= .int .i64 r∧B=[A]∧Bg l a r):=by
 refine x_sp func212 ntmps212 fun E cs Γ=>?_;refine dx (h:=?_);refine ao (m8 rfl rfl rfl fun p3=>?_);refine aA (h:=?_);refine oW rfl rfl rfl ?_;refine aJ rfl (V1 R p3 a hl) rfl ?_;rintro v B ⟨r,rfl,rfl,hr⟩;refine xF (h:=?_);exact ap rfl [A] ⟨r,rfl,rfl,hr⟩ Sub.h
end
section
open Go.Proofs Tryz
open Go.Proofs Go.RowKit
theorem MU{l:List Nd}(hn:(l.map Nd.a).Nodup){i:Nat}{n:Nd}(h:l[i]? =some n){r:Int}(hp:Bg l n.a r):r=i:=by
 rcases hp with ⟨_,hp⟩|⟨j,m,rfl,hj,ha,bM⟩
 ·exact absurd rfl (hp n (zc h))
 ·have e:j=i:=by
   have h1:(l.map Nd.a)[j]? =some m.a:=by rw[zf,hj];rfl
   have h2:(l.map Nd.a)[i]? =some n.a:=by rw[zf,h];rfl
   have e:m.a=n.a:=by omega
   rw[e]at h1;exact(zbg (List.getElem?_eq_some_iff.1 h1).1 hn).1 (h1.trans h2.symm)
  omega
theorem mB{l:List Nd}{i:Nat}{n:Nd}(h:l[i]? =some n):dR l i=n:=by unfold dR;rw[ze,h];rfl
theorem MV(i:Nat)(h:0<i):((i:Int)-1)/2=((i-1)/2:Nat):=by omega
theorem HJ{A:HP}{ad:Option Addr}{cap:Nat}{l:List Nd}(R:Reads A 6 ad l.length (cw l))(H:gw l):
 Spec prog 211 [.slice ad l.length cap] [A] (fun v B=>v= .int .i64 0∧B=[A]):=by
 refine x_sp func211 ntmps211 fun E cs Γ=>?_;have hl:=H.len;refine j7 (h:=?_);refine aQ (α:=Nat) (fun i=>i≤l.length) (fun i=>[(10,iv i),(9,iv l.length),(8,.slice ad l.length cap),(0,.slice ad l.length cap)]) (fun _=>A::Γ) (fun i=>l.length-i) 0 (by omega) x_tv Sub.h ?_;intro i hi back;by_cases h:i<l.length
 ·obtain⟨n,hn⟩:=bc (l:=l) (i:=i) h;have hw:=H.wf n (zc hn);have hb:=hw.1;refine jw R (by omega) fun b off ha=>?_;subst ha;refine nB (h:=?_);refine bK rfl rfl R (j:=i) rfl h rfl fun b' qO ha=>?_;cases ha;refine aw (h:=?_);refine dA rfl R rfl (i:=i*6) (us:=fH n) (by omega) rfl (fun j v hv=>mW hn hv) rfl ?_;refine ao (aC rfl fun p4=>?_);refine Wq ?_;by_cases i0:i>0
  ·have hk:(i-1)/2<l.length:=by omega
   obtain⟨m,hm⟩:=bc (l:=l) (i:=(i-1)/2) hk;have Bi:=H.wf m (zc hm);have Dn:¬tG n m<0:=fun aN=>by
    have h1:=H.hp i i0 h;rw[mB hn,show cW i=(i-1)/2 from rfl,mB hm]at h1;exact(vh n m).1 aN h1
   refine aZ 26 (aX [1,7,22] [0,1,2,3,4,5,6,8,7,9,10,11,12,13,14,15,16,17,18,19,20,21,22,23,24,25]) [Row p4 0 (fH n),A] ?_;refine iA (h:=?_);refine aE rfl (aq (vs:=[j9 n]) rfl (DQ hw) rfl ?_);refine cn (h:=Ws ?_);refine gp rfl rfl (aq rfl (Bh R (n.a:Int) (by omega)) rfl ?_);rintro v B ⟨r,rfl,rfl,hr⟩;obtain rfl:=MU H.nd hn hr;refine rP (h:=?_);refine bE rfl rfl (aY rfl rfl rfl (MV i i0) hk) ?_;refine bE rfl rfl (eQ (us:=fH m) rfl R rfl (i:=(i-1)/2*6) rfl rfl fun j v hv=>mW hm hv) ?_;refine gp rfl rfl (aq (vs:=[j9 n,j9 m]) rfl (DP hw Bi) rfl ?_);refine cn (h:=Bj (h:=?_));refine bE rfl rfl (Cn rfl rfl) ?_;refine vj (h:=?_);exact aV (back (i+1) (by omega) (by omega))
  ·refine aZ 26 (aX [1,7] [0,1,2,3,4,5,6,8,7,9,10,11,12,13,14,15,16,17,18,19,20,21,22,23,24,25]) [Row p4 0 (fH n),A] ?_;refine iA (h:=?_);refine aE rfl (aq (vs:=[j9 n]) rfl (DQ hw) rfl ?_);refine cn (h:=Ws ?_);refine gp rfl rfl (aq rfl (Bh R (n.a:Int) (by omega)) rfl ?_);rintro v B ⟨r,rfl,rfl,hr⟩;obtain rfl:=MU H.nd hn hr;refine rP (h:=dQ (h:=?_));exact aV (back (i+1) (by omega) (by omega))
 ·obtain rfl:i=l.length:=by omega
  refine j_ (h:=?_);exact ap rfl [A] ⟨rfl,rfl⟩ Sub.h
end
section
open Go.Proofs Tryz
open Go.Proofs Go.RowKit
abbrev bu(l:List TZ):List TX:=l.map TZ.t
def dC(l:List TZ):Nat:=(l.map fun z=>z.t.fF).sum
theorem DR(l:List TZ):dC l=((bu l).map TX.fF).sum:=by unfold dC bu;rw[zR];rfl
theorem HK{l:List TZ}{i:Nat}{z:TZ}(h:l[i]? =some z):dC (l.take (i+1))=dC (l.take i)+z.t.fF:=by
 unfold dC;rw[zp,h];simp
theorem V2(l:List TZ)(i:Nat):dC (l.take i)≤dC l:=by
 conv=>rhs;rw[←zG i l]
 unfold dC;rw[zg,zbI];omega
theorem vk{a:Nat}{l:List TZ}(H:jN a (bu l)){i:Nat}{z:TZ}(h:l[i]? =some z):z.t.bx=a∧z.t.ck=i∧z.t.ok=true:=by
 obtain⟨h1,h2,h3,_⟩:=H.aO i z.t (by rw[zf,h];rfl);exact⟨h1,h2,h3⟩
theorem MW{A:HP}{ad:Option Addr}{cap a:Nat}{l:List TZ}(R:Reads A 21 ad l.length (av l))(I:bR A l)(H:jN a (bu l)):
 Spec prog 242 [.slice ad l.length cap] [A] (fun v B=>v= .tuple #[uv (dC l),.bool true]∧B=[A]):=by
 refine x_sp func242 ntmps242 fun E cs Γ=>?_;have hl:l.length≤6:=by have:=H.len;simpa using this
 have Bk:dC l≤18446744073709551616:=by rw[DR];exact H.sum
 refine eh (h:=?_);refine ao (aC rfl fun p2=>?_);refine Wq ?_;refine aQ (α:=Nat) (fun i=>i≤l.length) (fun i=>[(14,iv i),(13,iv l.length),(12,.slice ad l.length cap),(2,dp p2),(0,.slice ad l.length cap)]) (fun i=>Row p2 0 (uc (dC (l.take i)))::A::Γ) (fun i=>l.length-i) 0 (by omega) ⟨rfl,rfl,rfl,rfl,rfl,trivial⟩
  (by rw[show dC (l.take 0)=0 by simp[dC],De];exact Sub.h) ?_
 intro i hi back;by_cases h:i<l.length
 ·obtain⟨z,hz⟩:=bc (l:=l) (i:=i) h;have jP:=I z (zc hz);obtain⟨hf,hn,bn⟩:=vk H hz;obtain⟨z0,fY⟩:=bc (l:=l) (i:=0) (by omega);obtain⟨Bb,_,_⟩:=vk H fY;have tH:=HK hz;have fj:=V2 l (i+1);refine jw R (by omega) fun b off ha=>?_;subst ha;refine nB (h:=?_);refine bK rfl rfl R (j:=i) rfl h rfl fun b' qO ha=>?_;cases ha;refine aw (h:=?_);refine dA rfl R rfl (i:=i*21) (us:=z.cells) (by omega) rfl (fun j v hv=>cG hz hv) rfl ?_;refine ao (aC rfl fun p5=>?_);refine aA (h:=?_);refine aq (vs:=[z.val]) rfl (Hh z jP) rfl ?_;refine dh (h:=?_);rw[bn,if_pos rfl,if_pos rfl];refine nC (h:=?_);refine ao (aC rfl fun p6=>?_);refine Wq ?_;refine eL (α:=Unit) (fun _=>True) (fun _=>[(50,.bool false),(6,dp p6),(14,iv i),(13,iv l.length),(12,.slice (some ⟨b,off,none⟩) l.length cap),(2,dp p2),(0,.slice (some ⟨b,off,none⟩) l.length cap)]) (fun _=>Row p6 0 (uc z.t.fF)::Row p2 0 (uc (dC (l.take i)))::A::Γ) ?_ ?_;rotate_left
  ·intro td eY;by_cases i0:0<i
   ·obtain⟨m,hm⟩:=bc (l:=l) (i:=i-1) (by omega);obtain⟨_,pK,_⟩:=vk H hm;refine aZ 27 (aX [] [0,1,2,3,4,5,6,7,8,9,10,11,12,13,14,15,16,17,18,19,20,21,22,23,24,25,26]) [Row p5 0 z.cells,A] ?_;refine Ws ?_;refine bE rfl rfl (aY (j:=0) rfl rfl rfl rfl (by omega)) ?_;refine lP (h:=?_);refine bE rfl rfl (b7 (v:= .int .i64 z0.t.bx) rfl R rfl (i:=0*21) (by omega) (cG fY (j:=0) rfl)) ?_;rw[Bb,hf];refine Ws ?_;refine bE rfl rfl (aY (j:=i-1) rfl rfl rfl (by omega) (by omega)) ?_;refine lP (h:=?_);refine bE rfl rfl (b7 (v:= .int .i64 m.t.ck) rfl R rfl (i:=(i-1)*21+1) (by omega) (cG hm (j:=1) rfl)) ?_;rw[pK];refine kC (h:=?_);exact aV (eY () trivial)
   ·obtain rfl:i=0:=by omega
    refine aZ 27 (aX [] [0,1,2,3,4,5,6,7,8,9,10,11,12,13,14,15,16,17,18,19,20,21,22,23,24,25,26]) [Row p5 0 z.cells,A] ?_;refine kC (h:=?_);exact aV (eY () trivial)
  intro _ _;refine aA (h:=?_);refine aq (vs:=[uv (dC (l.take i)),uv z.t.fF]) rfl (uT (by unfold aT;omega) (by unfold aT;omega)) rfl ?_;refine dh (h:=?_);rw[←tH,if_pos (by unfold aT;omega),if_pos (by unfold aT;omega)];refine nZ (h:=?_);exact aV (back (i+1) (by omega) (by omega))
 ·obtain rfl:i=l.length:=by omega
  rw[zu];refine j_ (h:=?_);exact bP (rs:=[.cell 2 24,.tmp 3]) (vs:=[uv (dC l),.bool true]) ⟨bG (us:=uc (dC l)) rfl rfl,bO rfl,trivial⟩ [A] ⟨rfl,rfl⟩ Sub.h
theorem V3{A:HP}{ad:Option Addr}{cap a:Nat}{l:List TZ}(R:Reads A 21 ad l.length (av l))(I:bR A l)(H:jN a (bu l)):
 Spec prog 204 [.slice ad l.length cap] [A] (fun v B=>v= .tuple #[uv (dC l),.int .i64 0]∧B=[A]):=by
 refine x_sp func204 ntmps204 fun E cs Γ=>?_;refine eh (h:=?_);refine ao (aC rfl fun p2=>?_);refine Wq ?_;refine aJ rfl (MW R I H) rfl ?_;refine de (h:=gj (h:=?_));refine ao (aC rfl fun p4=>?_);refine Wq ?_;exact bP (rs:=[.cell 2 24,.tmp 3]) (vs:=[uv (dC l),.int .i64 0]) ⟨bG (us:=uc (dC l)) rfl rfl,bO rfl,trivial⟩ [A] ⟨rfl,rfl⟩ Sub.h
theorem V4{A:HP}{ad:Option Addr}{cap a:Nat}{l:List TZ}(R:Reads A 21 ad l.length (av l))(I:bR A l)(H:jN a (bu l)):
 Spec prog 310 [.slice ad l.length cap] [A] (fun v B=>v= .int .i64 0∧B=[A]):=by
 refine x_sp func310 ntmps310 fun E cs Γ=>?_;refine j7 (h:=?_);refine aJ rfl (MW R I H) rfl ?_;refine de (h:=gj (h:=?_));refine ao (aC rfl fun p3=>?_);refine Wq ?_;exact ap rfl [A] ⟨rfl,rfl⟩ Sub.h
theorem V5{A:HP}{ad:Option Addr}{cap a:Nat}{l:List TZ}(R:Reads A 21 ad l.length (av l))(I:bR A l)(H:jN a (bu l)):
 Spec prog 287 [.slice ad l.length cap,.int .i64 0] [A] (fun v B=>v= .tuple #[.int .i64 (l.length:Nat),.int .i64 0]∧B=[A]):=by
 refine x_sp func287 ntmps287 fun E cs Γ=>?_;have hl:l.length≤6:=by have:=H.len;simpa using this
 refine gJ (h:=?_);refine aJ rfl (V4 R I H) rfl ?_;refine jC (h:=?_);by_cases h0:l.length>0
 ·obtain⟨m,hm⟩:=bc (l:=l) (i:=l.length-1) (by omega);obtain⟨_,pK,_⟩:=vk H hm;refine aA (h:=?_);refine bK rfl rfl R (j:=l.length-1) (by omega) (by omega) rfl fun b off ha=>?_;refine oC (h:=?_);refine fM rfl R ha (i:=(l.length-1)*21+1) (by omega) (cG hm (j:=1) rfl) rfl ?_;rw[pK];refine Wq ?_;exact ap rfl [A] ⟨by show Value.tuple #[.int .i64 (((l.length-1:Nat):Int)+1),_]=_;rw[show((l.length-1:Nat):Int)+1=(l.length:Nat)by omega],rfl⟩ Sub.h
 ·have e:l.length=0:=by omega
  rw[e]at*;refine Wq ?_;exact ap rfl [A] ⟨rfl,rfl⟩ Sub.h
theorem V6{A:HP}{ad:Option Addr}{cap b:Nat}{l:List TZ}(R:Reads A 21 ad l.length (av l))(I:bR A l)(bn:∀z∈l,z.t.ok=true)(hb:b<aT)(hl:l.length≤2^38):
 Spec prog 158 [.slice ad l.length cap,uv b] [A] (fun v B=>∃k:Nat,v= .int .i64 k∧B=[A]∧k≤l.length∧dC (l.take k)≤b):=by
 refine x_sp func158 ntmps158 fun E cs Γ=>?_;refine dx (h:=?_);refine ao (aM rfl rfl fun p3=>?_);refine rE (h:=?_);refine ao (aC rfl fun p5=>?_);refine Wq ?_;refine aQ (α:=Nat) (fun i=>i≤l.length∧dC (l.take i)≤b) (fun i=>[(12,iv i),(11,iv l.length),(10,.slice ad l.length cap),(5,dp p5),(3,dp p3),(0,.slice ad l.length cap)]) (fun i=>Row p5 0 (uc (dC (l.take i)))::Row p3 0 (uc b)::A::Γ) (fun i=>l.length-i) 0 ⟨by omega,by simp[dC]⟩ ⟨rfl,rfl,rfl,rfl,rfl,rfl,trivial⟩
  (by rw[show dC (l.take 0)=0 by simp[dC],De];exact Sub.h) ?_
 rintro i ⟨hi,hle⟩ back;refine bQ (h:=?_);by_cases h:i<l.length
 ·obtain⟨z,hz⟩:=bc (l:=l) (i:=i) h;have jP:=I z (zc hz);have pM:=bn z (zc hz);have tH:=HK hz;have hc:=(mr pM).2.2.2.2.2.2.2.2;refine aA (h:=?_);refine bK rfl rfl R (j:=i) rfl h rfl fun b' qO ha=>?_;refine aw (h:=?_);refine dA rfl R ha (i:=i*21) (us:=z.cells) (by omega) rfl (fun j v hv=>cG hz hv) rfl ?_;refine ao (aC rfl fun p7=>?_);refine aA (h:=?_);refine aq (vs:=[z.val]) rfl (Hh z jP) rfl ?_;refine dh (h:=?_);rw[pM,if_pos rfl,if_pos rfl];refine nC (h:=?_);refine ao (aC rfl fun p8=>?_);refine aA (h:=?_);refine aq (vs:=[uv (dC (l.take i)),uv z.t.fF]) rfl (uT (by omega) hc) rfl ?_;refine cS (h:=?_);rw[←tH];by_cases pN:dC (l.take (i+1))<aT
  ·rw[if_pos pN,if_pos pN];refine gg (h:=?_);refine aq (vs:=[uv (dC (l.take (i+1))),uv b]) rfl (ml pN hb) rfl ?_;refine cS (h:=?_);by_cases kU:dC (l.take (i+1))>b
   ·have jg:cV (dC (l.take (i+1))) b=1:=by unfold cV;rw[if_neg (by omega),if_pos kU]
    rw[jg];refine Wq ?_;exact ap rfl [A] ⟨i,rfl,rfl,by omega,hle⟩ Sub.h
   ·have jg:¬cV (dC (l.take (i+1))) b>0:=by unfold cV;rw[if_neg kU];split<;>omega
    refine Wq ?_;exact aV (back (i+1) ⟨by omega,by omega⟩ (by omega))
  ·rw[if_neg pN,if_neg pN];refine Wq ?_;exact ap rfl [A] ⟨i,rfl,rfl,by omega,hle⟩ Sub.h
 ·obtain rfl:i=l.length:=by omega
  refine Wq ?_;exact ap rfl [A] ⟨l.length,rfl,rfl,zq _,hle⟩ Sub.h
end
section
open Go.Proofs Tryz
open Go.Proofs Go.RowKit
theorem V7(a b:List UInt8):∃r:Int,∀w:World,(callFunc 301 [tv a,tv b].toArray).run prog w= .ok (.value (.int .i64 r)) w:=by
 refine⟨Go.Lib.compareBytes (bC a).data.toList (bC b).data.toList,fun w=>?_⟩;have h:=run_callFunc_extern func301 (by kernel_rfl) (by kernel_rfl) (by kernel_rfl) (e:=Extern.BytealgCompare.compare) (by kernel_rfl) #[tv a,tv b] w;rw[Go.Lib.run_compareString]at h;exact h
theorem V8(a b:List UInt8):Spec prog 270 [tv a,tv b] [] (fun v B=>∃r:Int,v= .int .i64 r∧B=[]):=by
 refine x_sp func270 ntmps270 fun E cs Γ=>?_;obtain⟨r,hr⟩:=V7 a b;refine qf (h:=aA (h:=?_));refine AH rfl hr rfl ?_;refine bU (h:=?_);exact ap rfl [] ⟨r,rfl,rfl⟩ Sub.h
theorem V9(a b:List UInt8):Spec prog 240 [tv a,tv b] [] (fun v B=>∃r:Int,v= .int .i64 r∧B=[]):=by
 refine x_sp func240 ntmps240 fun E cs Γ=>?_;refine mR (h:=?_);refine aJ rfl (V8 a b) rfl ?_;rintro v B ⟨r,rfl,rfl⟩;refine dq (h:=bU (h:=?_));exact ap rfl [] ⟨r,rfl,rfl⟩ Sub.h
abbrev pO(t:TX):List Value:=[nv (ay t.bX 0),nv (ay t.bX 1),nv (ay t.bX 2),nv (ay t.bX 3),nv (ay t.cap 0),nv (ay t.cap 1),nv (ay t.cap 2),nv (ay t.cap 3),nv (ay t.bV 0),nv (ay t.bV 1),nv (ay t.bV 2),nv (ay t.bV 3)]
theorem DS(z:TZ):Spec prog 239 [z.val] [] (fun v B=>v= .agg (pO z.t).toArray∧B=[]):=by
 refine x_sp func239 ntmps239 fun E cs Γ=>?_;refine gi (h:=?_);refine ao (aM rfl rfl fun p1=>?_);refine ao (aC rfl fun p2=>?_);refine Wq ?_;exact bP (rs:=[.cell 2 354]) (vs:=[.agg (pO z.t).toArray]) ⟨bG (us:=pO z.t) rfl rfl,trivial⟩ [] ⟨rfl,rfl⟩ Sub.h
def gx(t:TX)(j:Nat):Nat:=match j with
 |0=>t.bX
 |1=>t.cap
 |_=>t.bV
theorem DT{t:TX}(w:t.Wf)(j:Nat):gx t j<aT:=by
 match j with
 |0=>exact w.bX
 |1=>exact w.cap
 |j+2=>exact w.bV
theorem DU(t:TX){j:Nat}(h:j<3):((pO t).drop (j*4)).take 4=uc (gx t j):=by
 have:j=0∨j=1∨j=2:=by omega
 rcases this with rfl|rfl|rfl<;>rfl
theorem V_{A B:HP}(x y:TZ)(Ix:x.In A)(Iy:y.In B)(hx:x.t.ok=true)(hy:y.t.ok=true):Spec prog 238 [x.val,y.val] [A,B] (fun v C=>∃b,v= .bool b∧C=[A,B]):=by
 refine x_sp func238 ntmps238 fun E cs Γ=>?_;refine dx (h:=?_);refine ao (aM rfl rfl fun p2=>?_);refine ao (aM rfl rfl fun p3=>?_);refine aA (h:=?_);refine aq (vs:=[x.val]) rfl (rK x Ix) rfl ?_;rintro v C ⟨rfl,rfl⟩;rw[hx,if_pos rfl];refine a_ (h:=?_);refine ao (FK rfl rfl (by omega) rfl ?_);refine xG (h:=?_);refine aq (vs:=[y.val]) rfl (rK y Iy) rfl ?_;rintro v C ⟨rfl,rfl⟩;rw[hy,if_pos rfl];refine a_ (h:=?_);by_cases h1:x.t.bx=y.t.bx
 ·by_cases h2:x.t.ck=y.t.ck
  ·refine Wq ?_;exact ap rfl [A,B] ⟨_,rfl,rfl⟩ Sub.h
  ·refine Wq ?_;exact ap rfl [A,B] ⟨_,rfl,rfl⟩ Sub.h
 ·refine Wq ?_;exact ap rfl [A,B] ⟨_,rfl,rfl⟩ Sub.h
theorem Wa{a:Nat}(ha:a<aT):Spec prog 313 [uv a] [] (fun v B=>v= .tuple #[uv (if a+a<aT then a+a else 0),.int .i64 (if a+a<aT then 0 else 8)]∧B=[]):=by
 refine x_sp func313 ntmps313 fun E cs Γ=>?_;refine gi (h:=?_);refine ao (aM rfl rfl fun p1=>?_);refine ao (aC rfl fun p2=>?_);refine aA (h:=?_);refine aq (vs:=[uv a,uv a]) rfl (uT ha ha) rfl ?_;refine cS (h:=?_);generalize (if a+a<aT then a+a else 0)=s;generalize (if a+a<aT then (0:Int)else 8)=e;refine Wq ?_;exact bP (rs:=[.cell 2 24,.tmp 3]) (vs:=[uv s,.int .i64 e]) ⟨bG (us:=uc s) rfl rfl,bO rfl,trivial⟩ [] ⟨rfl,rfl⟩ Sub.h
end
section
open Go.Proofs Tryz
open Go.Proofs Go.RowKit
theorem Wc{A B:HP}(x y:TZ)(Ix:x.In A)(Iy:y.In B)(hx:x.t.ok=true)(hy:y.t.ok=true):Spec prog 289 [x.val,y.val] [A,B] (fun v C=>∃e:Int,v= .int .i64 e∧C=[A,B]):=by
 refine x_sp func289 ntmps289 fun E cs Γ=>?_;refine dx (h:=?_);refine ao (aM rfl rfl fun p2=>?_);refine ao (aM rfl rfl fun p3=>?_);refine aA (h:=?_);refine aq (vs:=[x.val,y.val]) rfl (V_ x y Ix Iy hx hy) rfl ?_;rintro v C ⟨b,rfl,rfl⟩;refine a_ (h:=?_);cases b with
 |false=>
  refine Wq ?_;exact ap rfl [A,B] ⟨_,rfl,rfl⟩ Sub.h
 |true=>
  refine aA (h:=?_);refine aq (vs:=[y.val]) rfl (DS y) rfl ?_;rintro v C ⟨rfl,rfl⟩;refine dq (h:=?_);refine ao (aC rfl fun p5=>?_);refine aA (h:=?_);refine aq (vs:=[x.val]) rfl (DS x) rfl ?_;rintro v C ⟨rfl,rfl⟩;refine dq (h:=uN (h:=?_));refine aQ (α:=Nat) (fun i=>i≤3) (fun i=>[(18,iv i),(17,.agg (pO x.t).toArray),(5,dp p5),(4,iv 0)]) (fun _=>Row p5 0 (pO y.t)::A::B::Γ) (fun i=>3-i) 0 (by omega) x_tv Sub.h ?_;intro i hi back;refine bQ (h:=?_);by_cases h:i<3
  ·have hf:=DT Ix.wf i;have hg:=DT Iy.wf i;refine aA (h:=?_);refine Gx rfl rfl rfl h (DU x.t h) rfl ?_;refine ao (aC rfl fun p7=>?_);refine aA (h:=?_);refine aq (vs:=[uv (gx x.t i)]) rfl (Wa hf) rfl ?_;rintro v C ⟨rfl,rfl⟩;refine dq (h:=?_);by_cases ho:gx x.t i+gx x.t i<aT
   ·rw[if_pos ho,if_pos ho];refine gj (h:=?_);refine ao (aC rfl fun p8=>?_);refine Wq ?_;refine aZ 10 (aX [7] [0,1,2,3,4,5,6,7,8,9]) [Row p5 0 (pO y.t),Row p8 0 (uc (gx x.t i+gx x.t i))] ?_;refine Ws ?_;refine bE rfl rfl (du (j:=i) rfl rfl rfl h) ?_;refine bE rfl rfl (oz (us:=uc (gx y.t i)) rfl (by rw[za9];omega) (by rw[show 0+i*4-0=i*4 by omega];exact DU y.t h) rfl) ?_;refine HL (h:=?_);refine gp rfl rfl (aq (vs:=[uv (gx y.t i),uv (gx x.t i+gx x.t i)]) rfl (ml hg ho) rfl ?_);rintro v C ⟨rfl,rfl⟩;refine kx (h:=dq (h:=?_));by_cases hc:cV (gx y.t i) (gx x.t i+gx x.t i)<0
    ·refine DV (h:=vj (h:=?_));exact ap rfl [A,B] ⟨_,rfl,rfl⟩ Sub.h
    ·refine Bj (h:=vj (h:=?_));exact aV (back (i+1) (by omega) (by omega))
   ·rw[if_neg ho,if_neg ho];refine gj (h:=?_);refine ao (aC rfl fun p8=>?_);refine Wq ?_;refine aZ 10 (aX [] [0,1,2,3,4,5,6,7,8,9]) [Row p5 0 (pO y.t),Row p8 0 (uc 0)] ?_;refine Ws ?_;refine dQ (h:=?_);exact ap rfl [A,B] ⟨_,rfl,rfl⟩ Sub.h
  ·obtain rfl:i=3:=by omega
   refine Wq ?_;exact ap rfl [A,B] ⟨_,rfl,rfl⟩ Sub.h
theorem We{A:HP}{ad:Option Addr}{cap b:Nat}{l:List TZ}(R:Reads A 21 ad l.length (av l))(I:bR A l)(bn:∀z∈l,z.t.ok=true)(hb:b<aT)(hl:l.length≤2^38):
 Spec prog 290 [.slice ad l.length cap,uv b] [A] (fun v B=>∃c:Bool,v= .bool c∧B=[A]∧(c=true→dC l≤b)):=by
 refine x_sp func290 ntmps290 fun E cs Γ=>?_;refine dx (h:=?_);refine ao (aM rfl rfl fun p3=>?_);refine rE (h:=?_);refine ao (aC rfl fun p5=>?_);refine Wq ?_;refine aQ (α:=Nat) (fun i=>i≤l.length∧dC (l.take i)<aT) (fun i=>[(12,iv i),(11,iv l.length),(10,.slice ad l.length cap),(5,dp p5),(3,dp p3),(0,.slice ad l.length cap)]) (fun i=>Row p5 0 (uc (dC (l.take i)))::Row p3 0 (uc b)::A::Γ) (fun i=>l.length-i) 0 ⟨by omega,by simp[dC]⟩ ⟨rfl,rfl,rfl,rfl,rfl,rfl,trivial⟩
  (by rw[show dC (l.take 0)=0 by simp[dC],De];exact Sub.h) ?_
 rintro i ⟨hi,hle⟩ back;refine bQ (h:=?_);by_cases h:i<l.length
 ·obtain⟨z,hz⟩:=bc (l:=l) (i:=i) h;have jP:=I z (zc hz);have pM:=bn z (zc hz);have tH:=HK hz;have hc:=(mr pM).2.2.2.2.2.2.2.2;refine aA (h:=?_);refine bK rfl rfl R (j:=i) rfl h rfl fun b' qO ha=>?_;refine aw (h:=?_);refine dA rfl R ha (i:=i*21) (us:=z.cells) (by omega) rfl (fun j v hv=>cG hz hv) rfl ?_;refine ao (aC rfl fun p7=>?_);refine aA (h:=?_);refine aq (vs:=[z.val]) rfl (Hh z jP) rfl ?_;refine dh (h:=?_);rw[pM,if_pos rfl,if_pos rfl];refine nC (h:=?_);refine ao (aC rfl fun p8=>?_);refine aA (h:=?_);refine aq (vs:=[uv (dC (l.take i)),uv z.t.fF]) rfl (uT hle hc) rfl ?_;refine cS (h:=?_);rw[←tH];by_cases pN:dC (l.take (i+1))<aT
  ·rw[if_pos pN,if_pos pN];refine Wq ?_;exact aV (back (i+1) ⟨by omega,pN⟩ (by omega))
  ·rw[if_neg pN,if_neg pN];refine Wq ?_;exact ap rfl [A] ⟨false,rfl,rfl,fun h=>by cases h⟩ Sub.h
 ·obtain rfl:i=l.length:=by omega
  rw[zu]at hle⊢;refine aA (h:=?_);refine aq (vs:=[uv (dC l),uv b]) rfl (ml hle hb) rfl ?_;refine cS (h:=?_);by_cases kU:dC l>b
  ·rw[show cV (dC l) b=1 by unfold cV;rw[if_neg (by omega),if_pos kU]];refine ao (Kb rfl rfl (by omega) rfl ?_);refine bU (h:=?_);exact ap rfl [A] ⟨false,rfl,rfl,fun h=>by cases h⟩ Sub.h
  ·have jg:cV (dC l) b≤0:=by unfold cV;rw[if_neg kU];split<;>omega
   refine ao (Ka rfl rfl (by omega) rfl ?_);refine bU (h:=?_);exact ap rfl [A] ⟨true,rfl,rfl,fun _=>by omega⟩ Sub.h
end
section
open Go.Proofs Tryz
open Go.Proofs Go.RowKit
abbrev ji:List Value:=[.int .i64 0,.int .u64 0,.int .u64 1,.int .u64 0,.int .u64 0]
abbrev kH:List Value:=(List.replicate 8 ()).flatMap fun _=>ji
theorem rQ{i:Nat}(h:i<8){j:Nat}{v:Value}(hv:ji[j]? =some v):kH[i*5+j]? =some v:=by
 have:=oA (s:=5) (f:=fun _:Unit=>ji) (fun _=>rfl) (l:=List.replicate 8 ()) (i:=i) (by simpa using h) j (by have:=(List.getElem?_eq_some_iff.1 hv).1;exact this);rw[this];exact hv
theorem MX:Spec prog 59 [.agg fD.toArray] [] (fun v B=>v= .bool true∧B=[]):=by
 refine x_sp func59 ntmps59 fun E cs Γ=>?_;refine gi (h:=?_);refine ao (aM rfl rfl fun p1=>?_);refine Wq ?_;exact ap rfl [] ⟨rfl,rfl⟩ Sub.h
theorem Wg:Spec prog 93 [.agg ji.toArray] [] (fun v B=>v= .bool false∧B=[]):=by
 refine x_sp func93 ntmps93 fun E cs Γ=>?_;refine gi (h:=?_);refine ao (aM rfl rfl fun p1=>?_);refine Wq ?_;exact ap rfl [] ⟨rfl,rfl⟩ Sub.h
theorem Wh{A:HP}{ad:Option Addr}{cap:Nat}(R:Reads A 5 ad 8 kH):Spec prog 134 [.slice ad 8 cap,.func (.func 93) #[] #[]] [A] (fun v B=>v= .int .i64 (-1)∧B=[A]):=by
 refine x_sp func134 ntmps134 fun E cs Γ=>?_;refine gJ (h:=?_);refine aQ (α:=Nat) (fun i=>i≤8) (fun i=>[(8,iv i),(7,iv (8:Nat)),(1,.func (.func 93) #[] #[]),(0,.slice ad 8 cap)]) (fun _=>A::Γ) (fun i=>8-i) 0 (by omega) x_tv Sub.h ?_;intro i hi back;refine bQ (h:=?_);by_cases h:i<8
 ·refine aA (h:=?_);refine bK rfl rfl R (j:=i) rfl h rfl fun b off ha=>?_;refine aw (h:=?_);refine dA rfl R ha (i:=i*5) (us:=ji) (by omega) rfl (fun j v hv=>rQ h hv) rfl ?_;refine aw (h:=?_);refine o5 (f:=93) (fs:=[]) (caps:=[]) rfl rfl Wg rfl ?_;refine jO (h:=?_);exact aV (back (i+1) (by omega) (by omega))
 ·obtain rfl:i=8:=by omega
  refine Wq ?_;exact ap rfl [A] ⟨rfl,rfl⟩ Sub.h
theorem Wi{A:HP}{ad:Option Addr}{cap:Nat}(R:Reads A 5 ad 8 kH):Spec prog 92 [.slice ad 8 cap,.func (.func 93) #[] #[]] [A] (fun v B=>v= .bool false∧B=[A]):=by
 refine x_sp func92 ntmps92 fun E cs Γ=>?_;refine gJ (h:=?_);refine aJ rfl (Wh R) rfl ?_;refine de (h:=HM (h:=bU (h:=?_)));exact ap rfl [A] ⟨rfl,rfl⟩ Sub.h
theorem MY{A:HP}{ad:Option Addr}{cap:Nat}(R:Reads A 5 ad 8 kH):Spec prog 60 [.slice ad 8 cap] [A] (fun v B=>v= .bool true∧B=[A]):=by
 refine x_sp func60 ntmps60 fun E cs Γ=>?_;refine jx (h:=gg (h:=?_));refine aq rfl (Wi R) rfl ?_;refine jC (h:=?_);exact ap rfl [A] ⟨rfl,rfl⟩ Sub.h
theorem MZ(ad:Option Addr)(cap:Nat):Spec prog 152 [.slice ad 0 cap] [] (fun v B=>v= .bool true∧B=[]):=by
 refine x_sp func152 ntmps152 fun E cs Γ=>?_;refine kD (h:=?_);refine aQ (α:=Unit) (fun _=>True) (fun _=>[(13,iv 0),(12,iv (0:Nat))]) (fun _=>Γ) (fun _=>0) () trivial x_tv Sub.h ?_;intro _ _ back;refine j_ (h:=?_);exact ap rfl [] ⟨rfl,rfl⟩ Sub.h
theorem M0{r:Int}(h:1024≤r∧r≤1048576):Spec prog 58 [.int .i64 r] [] (fun v B=>v= .bool true∧B=[]):=by
 refine x_sp func58 ntmps58 fun E cs Γ=>?_;refine kD (h:=?_);refine aJ rfl (Hg 3) rfl ?_;refine dh (h:=?_);rw[if_neg (by decide),show((128*2^(3:Int).toNat:Nat):Int)=1024 by decide];refine nZ (h:=?_);exact ap rfl [] ⟨rfl,rfl⟩ Sub.h
def cR(l:List TZ):Nat:=(l.map fun z=>z.t.slot).sum
theorem DW(l:List TZ):cR l=C_ (bu l):=by unfold cR C_ bu;rw[zR];rfl
theorem M1{l:List TZ}{i:Nat}{z:TZ}(h:l[i]? =some z):cR (l.take (i+1))=cR (l.take i)+z.t.slot:=by
 unfold cR;rw[zp,h];simp
theorem DX(t:TX):128≤t.slot∧t.slot≤1024:=by
 unfold TX.slot mi;split
 ·omega
 ·split
  ·omega
  ·split<;>omega
theorem DY(l:List TZ):128*l.length≤cR l∧cR l≤1024*l.length:=by
 induction l with
 |nil=>simp[cR]
 |cons z l ih=>
  have:=DX z.t;unfold cR at*;simp only[zE,zbL,zy];omega
theorem M3{A:HP}{ad:Option Addr}{cap:Nat}{l:List TZ}(R:Reads A 21 ad l.length (av l))(I:bR A l)(bn:∀z∈l,z.t.ok=true)(hl:l.length≤2^38):
 Spec prog 161 [.slice ad l.length cap] [A] (fun v B=>v= .int .i64 (cR l:Nat)∧B=[A]):=by
 refine x_sp func161 ntmps161 fun E cs Γ=>?_;refine j7 (h:=?_);refine aQ (α:=Nat) (fun i=>i≤l.length) (fun i=>[(12,iv i),(11,iv l.length),(10,.slice ad l.length cap),(3,iv (cR (l.take i):Nat))]) (fun _=>A::Γ) (fun i=>l.length-i) 0 (by omega) x_tv Sub.h ?_;intro i hi back;refine bQ (h:=?_);by_cases h:i<l.length
 ·obtain⟨z,hz⟩:=bc (l:=l) (i:=i) h;have jP:=I z (zc hz);have pM:=bn z (zc hz);have eD:=M1 hz;have h1:=DY (l.take i);have h2:=DX z.t;rw[zw]at h1;refine aA (h:=?_);refine bK rfl rfl R (j:=i) rfl h rfl fun b off ha=>?_;refine aw (h:=?_);refine dA rfl R ha (i:=i*21) (us:=z.cells) (by omega) rfl (fun j v hv=>cG hz hv) rfl ?_;refine ao (aC rfl fun p5=>?_);refine aA (h:=?_);refine aq (vs:=[z.val]) rfl (MO z jP pM) rfl ?_;refine jC (h:=?_);rw[show((cR (l.take i):Nat):Int)+(z.t.slot:Nat)=(cR (l.take (i+1)):Nat)by omega];exact aV (back (i+1) (by omega) (by omega))
 ·obtain rfl:i=l.length:=by omega
  rw[zu];refine Wq ?_;exact ap rfl [A] ⟨rfl,rfl⟩ Sub.h
abbrev bB(l:List TZ):List Nat:=l.map fun z=>z.t.id
theorem xH(t:TX):t.id<aI:=Dt _
theorem vl{A:HP}{ad:Option Addr}{cap:Nat}{l:List TZ}(R:Reads A 21 ad l.length (av l))(I:bR A l)(bn:∀z∈l,z.t.ok=true)(hl:l.length≤2^38):
 Spec prog 69 [.slice ad l.length cap] [A] (fun v B=>∃a' c',v= .slice a' l.length c'∧B=[A,Sl 1 a' l.length c' ((bB l).map nv)]):=by
 refine x_sp func69 ntmps69 fun E cs Γ=>?_;refine j7 (h:=?_);refine aQ (α:=Nat×Option Addr×Nat) (fun q=>q.1≤l.length) (fun q=>[(10,iv q.1),(9,iv l.length),(8,.slice ad l.length cap),(3,.slice q.2.1 q.1 q.2.2)]) (fun q=>Sl 1 q.2.1 q.1 q.2.2 (((bB l).take q.1).map nv)::A::Γ) (fun q=>l.length-q.1) (0,none,0) (by simp) ⟨rfl,rfl,rfl,rfl,trivial⟩
  ((ak.cq 1 _).trans (Sub.h (Δ:=Sl 1 none 0 0 []::A::Γ))) ?_
 rintro⟨i,a3,c3⟩ hi back;dsimp only at hi back⊢;refine bQ (h:=?_);by_cases h:i<l.length
 ·obtain⟨z,hz⟩:=bc (l:=l) (i:=i) h;have jP:=I z (zc hz);have pM:=bn z (zc hz);refine aA (h:=?_);refine bK rfl rfl R (j:=i) rfl h rfl fun b off ha=>?_;refine aw (h:=?_);refine dA rfl R ha (i:=i*21) (us:=z.cells) (by omega) rfl (fun j v hv=>cG hz hv) rfl ?_;refine ao (aC rfl fun p5=>?_);refine aA (h:=?_);refine aq (vs:=[z.val]) rfl (xy z jP) rfl ?_;refine dh (h:=?_);rw[pM,if_pos rfl,if_pos rfl];refine n9 (h:=?_);refine cf rfl (by rfl) (by rfl) (by rfl) (by rfl) rfl fun a2=>?_;refine aw (h:=?_);refine cF rfl rfl (by rfl) (by rfl) (by rfl) (by omega) rfl fun a4 c4 hc=>?_;have e:((bB l).take i).map nv++[nv z.t.id]=((bB l).take (i+1)).map nv:=by
   have hg:(bB l)[i]? =some z.t.id:=by rw[zf,hz];rfl
   rw[zp,hg];simp
  rw[e];refine Wq ?_;exact aV (back (i+1,a4,c4) (by dsimp only;omega) (by dsimp only;omega))
 ·obtain rfl:i=l.length:=by omega
  rw[zo (by simp)];refine Wq ?_;exact ap rfl [A,Sl 1 a3 l.length c3 ((bB l).map nv)] ⟨a3,c3,rfl,rfl⟩ Sub.h
end
section
open Go.Proofs Tryz
open Go.RowKit Go.Proofs
theorem Reads.sep{A:HP}{s len:Nat}{a:Option Addr}{xs:List Value}(R:Reads A s a len xs):∀{l:List HP},A∈l→Reads (Sep l) s a len xs
 |B::l,h=>⟨R.1,fun g w hg W=>by
  obtain⟨x,r,hB,hr,d,rfl⟩:=hg;rcases zbe.1 h with rfl|h
  ·exact R.2 x w hB W.left
  ·exact(Reads.sep R h).2 r w hr (Wd.right d W)⟩
def M4(P:Program)(C:HP→Prop)(gf:FuncId)(fs caps:List Value)(A A':List HP)(xs:List (List Value)):Prop:=
 ∀(l:Nat) (I J:Nat→HP),(∀i,C (I i))→(∀i vs,xs[i]? =some vs→uF P l vs [I i] fun b B=>(b=true∧B=[I (i+1)])∨(b=false∧B=[J (i+1)]))→
  Spec P gf (fs++[.func (.yield l) #[] #[]]++caps) (A++[I 0]) fun _ B=>B=A'++[I xs.length]∨∃i,B=A'++[J i]
section
variable {P:Program} {X:Cx} {n:Nat} {ρ:aK} {Γ:List HP} {k:List Item}
theorem Wj{f:Operand}{ps:List Nat}{assign body:Code}{gf:FuncId}{fs caps:List Value}{A A' Δ Δ1 Δ2:List HP}{Ds:List Nat}{xs:List (List Value)}(eT:X.ro=none)(hf:ev ρ f=some (.func (.func gf) fs.toArray caps.toArray))[CA:aB P gf]
 [TM:Take Γ (Marks Ds) Δ] [TA:nN Δ A Δ1] {C:HP→Prop} (it:M4 P C gf fs caps A A' xs) (I:Nat→List HP) (hC:∀(X Y:HP) (i:Nat),C (Sep (X::Y::I i))) (J:Code→Nat→List HP) (hI:ak Δ1 (I 0++Δ2)) (po:ps.all (fun p=>Nat.blt p n)=true) (ni:∀(i:Nat) (vs:List Value),xs[i]? =some vs→vs.length=ps.length)
 (Ai:∀i vs,xs[i]? =some vs→Body P X.fn n [.code assign,.beginRound,.code body] (Ah ps vs ρ) I J i)
 (Aj:∀D,Ex P X n (dX (D::Ds)) k ρ (Marks (D::Ds)::(I xs.length++(A'++Δ2))))
 (Ak:∀D c i,Ex P X n (dX (D::Ds)) (.code c::k) ρ (Marks (D::Ds)::(J c i++(A'++Δ2)))):
 Ex P X n (dX Ds) (.code (.rangeFunc f ps.toArray assign body)::k) ρ Γ:=by
 intro t w cP hm hs;obtain⟨E,hE⟩:∃E,X.E=E:=⟨_,rfl⟩
 rw[hE]at hs;obtain⟨r,hr⟩:∃r:Loop,r={state:= .ready,pending:=none,fn:=X.fn,tmps:=t,params:=ps.toArray,assign,body,defers:=w.heap.size}:=⟨_,rfl⟩
 have s0:=hs.perm TM.h;have s1:=((s0.sE (.deferred (some []))).sE (.loop r))
 simp only[World.size_alloc]at s1;obtain⟨w1,q9⟩:∃w1,(w.alloc (.deferred (some []))).alloc (.loop r)=w1:=⟨_,rfl⟩
 rw[q9]at s1;obtain⟨D,hD⟩:∃D,D=w.heap.size:=⟨_,rfl⟩
 rw[←hD]at s1;have Al:Rec (D+1) r .ready none=Whole (D+1) (.loop r):=by rw[hr];rfl
 rw[←Al]at s1;obtain⟨II,mN⟩:∃II:Nat→HP,II=fun i=>Sep (Rec (D+1) r .ready none::Whole D (.deferred (some []))::I i):=⟨_,rfl⟩
 obtain⟨JJ,pq⟩:∃JJ:Nat→HP,JJ=fun i=>Any fun c=>Sep (Rec (D+1) r .done (some c)::Whole D (.deferred (some []))::J c i):=⟨_,rfl⟩
 have sA:St E ((A++[II 0])++(Marks Ds::Δ2)) w1:=by
  have p1:(Rec (D+1) r .ready none::Whole D (.deferred (some []))::Marks Ds::Δ).Perm (A++(Rec (D+1) r .ready none::Whole D (.deferred (some []))::Marks Ds::Δ1)):=by
   refine((((TA.h).cons (Marks Ds)).cons _).cons _).trans ?_;refine List.Perm.trans ?_ (zac (l₁:=_::_::_::Δ1));simp only[zl];exact(((zac (l₁:=A) (l₂:=Δ1)).cons _).cons _).cons _
  have s2:=s1.perm p1;have e1:ak (Rec (D+1) r .ready none::Whole D (.deferred (some []))::Marks Ds::Δ1) (II 0::Marks Ds::Δ2):=by
   refine(((hI.cons (Marks Ds)).cons _).cons _).trans ?_;refine(ak.perm (?_:List.Perm _ ((Rec (D+1) r .ready none::Whole D (.deferred (some []))::I 0)++(Marks Ds::Δ2)))).trans ?_
   ·simp only[zl];exact(zau.symm.cons _).cons _
   ·rw[mN];exact ak.cA _ _
  have s3:=(e1.append A).st s2;simpa using s3
 have Am:∀i vs,xs[i]? =some vs→uF P (D+1) vs [II i] fun b B=>(b=true∧B=[II (i+1)])∨(b=false∧B=[JJ (i+1)]):=by
  intro i vs hi E' Θ w' s';rw[mN]at s';have s2:=(ak.cx _ _).st s';simp only[zl]at s2;have hl:=s2.fz;have hlen:=ni i vs hi;have hy:=run_yield (P:=P) (args:=vs.toArray) hl (by rw[hr];simpa using hlen);rw[hr]at hy;refine⟨X.fn,_,assign,body,hy,fun c cs=>?_⟩;obtain⟨Rr,nj⟩:∃Rr:Bool→List HP→Prop,Rr=fun b B=>(b=true∧B=[II (i+1)])∨(b=false∧B=[JJ (i+1)]):=⟨_,rfl⟩
  have hB:=Ai i vs hi (wQ X.fn (D+1) c cs E' Rr Θ) (D+1) r (Whole D (.deferred (some []))::Θ) rfl rfl ?_ ?_ ?_
  ·have hz:=Gg ps vs ρ t hm (by rw[cP];exact po);have e2:((ps.toArray.zip vs.toArray).foldl (fun tmps x=>tmps.setIfInBounds x.1 x.2) t)=(ps.zip vs).foldl (fun tmps (x:Nat×Value)=>tmps.setIfInBounds x.1 x.2) t:=by simp
   have:=hB _ w' (by rw[hz.2];exact cP) hz.1 (s2.perm (by
    refine List.Perm.cons _ ?_;exact zau.symm))
   rw[←nj];have e3:(wQ X.fn (D+1) c cs E' Rr Θ).base.atR ⟨(ps.zip vs).foldl (fun tmps (x:Nat×Value)=>tmps.setIfInBounds x.1 x.2) t,[]⟩ [.code assign,.beginRound,.code body]=Frame.round (D+1) X.fn ((ps.toArray.zip vs.toArray).foldl (fun tmps x=>tmps.setIfInBounds x.1 x.2) t) assign body .normal:=by
    rw[e2];rfl
   rw[e3]at this;exact this
  ·
   intro ρ' t' v' _ _ st;have cv:=run_endRound (P:=P) none st.fz;refine .step (stepR_round_end rfl rfl cv) (.now ⟨true,[II (i+1)],_,rfl,by rw[nj];exact .inl ⟨rfl,rfl⟩,?_⟩);have iU:=st.lD (.loop {r with state:= .ready,pending:=none});rw[mN];refine(ak.cA (Rec (D+1) r .ready none::Whole D (.deferred (some []))::I (i+1)) Θ).st (iU.perm ?_);simp only[zl];exact List.Perm.cons _ zau
  ·intro id k' ρ' hk t' v' _ _ st;have cv:=run_endRound (P:=P) (some (.exit id)) st.fz;refine .step (stepR_round_exit rfl rfl hk cv) (.now ⟨false,[JJ (i+1)],_,rfl,by rw[nj];exact .inr ⟨rfl,rfl⟩,?_⟩);have iU:=st.lD (.loop {r with state:= .done,pending:=some (.exit id)});rw[pq];refine(ak.ex (A:=fun c=>Sep (Rec (D+1) r .done (some c)::Whole D (.deferred (some []))::J c (i+1))) (.exit id) Θ).st ?_;refine(ak.cA (Rec (D+1) r .done (some (.exit id))::Whole D (.deferred (some []))::J (.exit id) (i+1)) Θ).st (iU.perm ?_);simp only[zl];exact List.Perm.cons _ zau
  ·intro k' ρ' t' v' _ _ st;have cv:=run_endRound (P:=P) (some .ret) st.fz;refine .step (stepR_round_ret rfl rfl cv) (.now ⟨false,[JJ (i+1)],_,rfl,by rw[nj];exact .inr ⟨rfl,rfl⟩,?_⟩);have iU:=st.lD (.loop {r with state:= .done,pending:=some .ret});rw[pq];refine(ak.ex (A:=fun c=>Sep (Rec (D+1) r .done (some c)::Whole D (.deferred (some []))::J c (i+1))) .ret Θ).st ?_;refine(ak.cA (Rec (D+1) r .done (some .ret)::Whole D (.deferred (some []))::J .ret (i+1)) Θ).st (iU.perm ?_);simp only[zl];exact List.Perm.cons _ zau
 have An:=it (D+1) II JJ (fun i=>by rw[mN];exact hC _ _ i) Am E (Marks Ds::Δ2) w1 sA;have Ao:(Instr.enterLoop X.base.fn t ps.toArray assign body X.base.roundOf).run P w= .ok (D+1,[ng D]) w1:=by
  have hb:X.base.roundOf=none:=eT;rw[hb,run_enterLoop_outer,←q9,hr,hD];rfl
 have qZ:=hm.ev (dX Ds) hf;have lx:(resolve (Act.mk t (dX Ds)).eval (rangeCall f (D+1)) 0).run P w1= .ok {target:= .fn (.func gf) caps.toArray,args:=fs.toArray++ #[.func (.yield (D+1)) #[] #[]]} w1:=by
  show((Deferred.ofValue ((Act.mk t (dX Ds)).eval f) (#[Operand.const (.func (.yield (D+1)) #[] #[])].map (Act.mk t (dX Ds)).eval)):Sem Deferred).run P w1=_;rw[qZ];simp[Deferred.ofValue,Act.eval]
 have lY:=stepR_rangeFunc (P:=P) (b:=X.base) (a:=⟨t,dX Ds⟩) (k:=k) (cs:=X.cs) (w:=w) (g:=f) (ps:=ps.toArray) (assign:=assign) (body:=body) Ao lx
  (show(invoke (.fn (.func gf) caps.toArray) (fs.toArray++ #[.func (.yield (D+1)) #[] #[]])).run P w1= .ok (.enter gf _) w1 from CA.run _ _)
 refine .step lY ?_;obtain⟨e,w2,fr,⟨v,B,rfl,hB,s2⟩,p_,fZ,qT⟩:=An (X.base.atR ⟨t,[ng D]++dX Ds⟩ (.inRangeFunc (D+1)::k)::X.cs);have Ap:(fs++[Value.func (.yield (D+1)) #[] #[]]++caps).toArray=(fs.toArray++ #[.func (.yield (D+1)) #[] #[]])++caps.toArray:=by simp
 rw[Ap]at p_;refine .steps p_ (.step (step_leave_returned qT) ?_);rw[finish_atR_inRangeFunc];rcases hB with rfl|⟨i,rfl⟩
 ·have s3:St E (Rec (D+1) r .ready none::(Whole D (.deferred (some []))::Marks Ds::(I xs.length++(A'++Δ2)))) w2:=by
   have p1:((A'++[II xs.length])++(Marks Ds::Δ2)).Perm (II xs.length::(Marks Ds::(A'++Δ2))):=by
    simp only[zr,zl,zB];exact zau.trans (zau.cons _)
   have s4:=s2.perm p1;rw[mN]at s4;have s5:=(ak.cx _ _).st s4;refine s5.perm ?_;simp only[zl];exact(zau.cons _).cons _
  have pr:=run_endLoop (P:=P) s3.fz (by simp);refine .step (stepR_endRangeFunc (b:=X.base) (a:=⟨t,[ng D]++dX Ds⟩) pr) ?_;have s4:=s3.lD (.loop {r with state:= .exhausted,pending:=none});have s6:=(ak.wP D Ds _).st (s4.drop);exact Aj D t _ cP hm (by rw[hE];exact s6)
 ·have s3:∃c,St E (Rec (D+1) r .done (some c)::(Whole D (.deferred (some []))::Marks Ds::(J c i++(A'++Δ2)))) w2:=by
   have p1:((A'++[JJ i])++(Marks Ds::Δ2)).Perm (JJ i::(Marks Ds::(A'++Δ2))):=by
    simp only[zr,zl,zB];exact zau.trans (zau.cons _)
   have s4:=s2.perm p1;rw[pq]at s4;obtain⟨c,s4⟩:=s4.ex;refine⟨c,?_⟩;have s5:=(ak.cx _ _).st s4;refine s5.perm ?_;simp only[zl];exact(zau.cons _).cons _
  obtain⟨c,s3⟩:=s3;have pr:=run_endLoop (P:=P) s3.fz (by simp);refine .step (stepR_endRangeFunc (b:=X.base) (a:=⟨t,[ng D]++dX Ds⟩) pr) ?_;have s4:=s3.lD (.loop {r with state:= .exhausted,pending:=some c});have s6:=(ak.wP D Ds _).st (s4.drop);exact Ak D c i t _ cP hm (by rw[hE];exact s6)
end
end
section
open Go.Proofs Tryz
open Go.Proofs Go.RowKit
abbrev qy:=Nat×List TZ
def qz:Int→List qy→Prop
 |_,[]=>True
 |last,(a,c)::S=>last<a∧a<8∧jN a (bu c)∧c≠[]∧qz a S
def fQ(S:List qy):List TZ:=(S.map Prod.snd).flatten
theorem vm(x:qy)(S:List qy):fQ (x::S)=x.2++fQ S:=rfl
def nD:List qy→Option Addr→Nat→List (List Value)
 |[],_,_=>[]
 |(a,c)::S,ad,cap=>[.int .i64 (a:Nat),.slice ad c.length cap]::nD S (cy 21 ad cap c.length) (cap-c.length)
theorem DZ{A:HP}{ad:Option Addr}{cap:Nat}{c r:List TZ}(R:Reads A 21 ad (c++r).length (av (c++r)))(hc:(c++r).length≤cap):
 Reads A 21 (cy 21 ad cap c.length) r.length (av r)∧r.length≤cap-c.length:=by
 have hl:(c++r).length=c.length+r.length:=zd;have R1:=R.sub cap c.length (c++r).length (by omega) (zq _) hc;have e:(((av (c++r)).drop (c.length*21)).take (((c++r).length-c.length)*21))=av r:=by
  rw[CS (f:=TZ.cells) (s:=21) TZ.len,zbC,zo (by rw[da];omega)]
 rw[e,hl,zS]at R1;exact⟨R1,by omega⟩
theorem M5{A:HP}{ad:Option Addr}{c r:List TZ}(R:Reads A 21 ad (c++r).length (av (c++r))):Reads A 21 ad c.length (av c):=by
 have R1:=R.oZ c.length (by rw[zd];omega);have e:(av (c++r)).take (c.length*21)=av c:=by
  rw[show av (c++r)=av c++av r by simp[av],zZ (by rw[da];omega),zo (by rw[da];omega)]
 rw[e]at R1;exact R1
theorem D1{A:HP}:∀(S:List qy) (ad:Option Addr) (cap:Nat),Reads A 21 ad (fQ S).length (av (fQ S))→(fQ S).length≤cap→(nD S ad cap).length=S.length∧
 ∀(i:Nat) (vs:List Value),(nD S ad cap)[i]? =some vs→∃(a:Nat) (c:List TZ) (a':Option Addr) (c':Nat),S[i]? =some (a,c)∧vs=[.int .i64 (a:Nat),.slice a' c.length c']∧Reads A 21 a' c.length (av c)∧c.length≤c'
 |[],ad,cap,_,_=>⟨rfl,fun i vs h=>by simp[nD]at h⟩
 |(a,c)::S,ad,cap,R,hc=>by
  rw[vm]at R hc;obtain⟨R1,jg⟩:=DZ R hc;obtain⟨h1,h2⟩:=D1 S _ _ R1 jg;refine⟨by simp[nD,h1],fun i vs h=>?_⟩;cases i with
  |zero=>
   simp only[nD,zaW,Option.some.injEq]at h;exact⟨a,c,ad,cap,rfl,h.symm,M5 R,by rw[zd]at hc;dsimp only at hc;omega⟩
  |succ i=>
   simp only[nD,zaX]at h;obtain⟨a',c',b,d,g1,g2⟩:=h2 i vs h;exact⟨a',c',b,d,by simpa using g1,g2⟩
theorem Wk(p1:Nat){ad:Option Addr}{cap:Nat}{S:List qy}(hc:(fQ S).length≤cap)(hS:qz (-1) S)(hl:(fQ S).length≤2^38):
 M4 prog (fun H=>Reads H 21 ad (fQ S).length (av (fQ S))) 241 [] [dp p1] [Row p1 0 [.slice ad (fQ S).length cap]] [] (nD S ad cap):=by
 intro l I J R hy;refine x_sp func241 ntmps241 fun E cs Γ=>?_;refine jx (h:=Wl ?_);refine aQ (α:=Nat×List qy×Option Addr×Nat×Int) (fun q=>q.2.1=S.drop q.1∧q.1≤S.length∧nD q.2.1 q.2.2.1 q.2.2.2.1=(nD S ad cap).drop q.1∧qz q.2.2.2.2 q.2.1∧-1≤q.2.2.2.2∧(∀i,Reads (I i) 21 q.2.2.1 (fQ q.2.1).length (av (fQ q.2.1)))∧(fQ q.2.1).length≤q.2.2.2.1∧(fQ q.2.1).length≤2^38)
  (fun q=>[(0,.func (.yield l) #[] #[]),(1,dp p1),(3,iv q.2.2.2.2)]) (fun q=>I q.1::Row p1 0 [.slice q.2.2.1 (fQ q.2.1).length q.2.2.2.1]::Γ) (fun q=>q.2.1.length) (0,S,ad,cap,-1)
  ⟨by simp,by simp,by simp,hS,Int.le_refl _,R,hc,hl⟩ x_tv Sub.h ?_
 rintro⟨j,S',Bl,bi,last⟩ ⟨vn,hj,HN,bn,uQ,R',jz,fi⟩ back;dsimp only at vn hj HN bn uQ R' jz fi back⊢;cases S' with
 |nil=>
  have hlen:(nD S ad cap).length=S.length:=(D1 S ad cap (R 0) hc).1;have lu:j=S.length:=by
   have:=congrArg List.length vn;rw[zQ]at this;simp at this;omega
  have h0:(fQ []).length=0:=rfl;refine Wq ?_;exact cJ ([]++[I (nD S ad cap).length]) (.inl rfl) (by rw[hlen,←lu];(refine dq (h:=?_));exact Sub.h)
 |cons x S'=>
  obtain⟨a,c⟩:=x;obtain⟨g1,g2,g3,g4,g5⟩:=bn;rw[vm]at R' jz fi⊢;dsimp only at R' jz fi⊢;have fj:0<c.length:=List.length_pos_iff.2 g4;have tI:(c++fQ S').length=c.length+(fQ S').length:=zd;have mX:∀n (z:TZ),c[n]? =some z→(c++fQ S')[n]? =some z:=fun n z h=>by rw[zt (List.getElem?_eq_some_iff.1 h).1];exact h
  have M6:∀n (z:TZ),c[n]? =some z→z.t.bx=a:=fun n z h=>(vk g3 h).1;obtain⟨z0,fY⟩:=bc (l:=c) (i:=0) fj;have jg:c.length≤6:=by have:=g3.len;simpa using this
  have R1:=fun i=>(DZ (R' i) jz).1;have eV:=(DZ (R' 0) jz).2;refine aA (h:=?_);refine bK rfl rfl (R' j) (j:=0) rfl (by omega) rfl fun b off ha=>?_;refine oC (h:=?_);refine fM rfl (R' j) ha (i:=0*21) (by omega) (cG (mX 0 z0 fY) (j:=0) rfl) rfl ?_;rw[M6 0 z0 fY];refine Wb ?_;refine eL (α:=Unit) (fun _=>True) (fun _=>[(5,iv (c.length:Nat)),(4,iv (a:Nat)),(0,.func (.yield l) #[] #[]),(1,dp p1),(3,iv last)]) (fun _=>I j::Row p1 0 [.slice Bl (c++fQ S').length bi]::Γ) ?_ ?_;rotate_left
  ·intro td fin;refine eW (h:=?_);refine aQ (α:=Nat) (fun n=>n≤c.length) (fun n=>[(5,iv (n:Nat)),(4,iv (a:Nat)),(0,.func (.yield l) #[] #[]),(1,dp p1),(3,iv last)]) (fun _=>I j::Row p1 0 [.slice Bl (c++fQ S').length bi]::Γ) (fun n=>c.length-n) 0 (by omega) x_tv Sub.h ?_;intro n hn eY;by_cases h:n<c.length
   ·obtain⟨z,hz⟩:=bc (l:=c) (i:=n) h;refine gg (h:=?_);refine bK rfl rfl (R' j) (j:=n) rfl (by omega) rfl fun b off ha=>?_;refine w_ (h:=fT (h:=?_));refine fM rfl (R' j) ha (i:=n*21) (by omega) (cG (mX n z hz) (j:=0) rfl) rfl ?_;rw[M6 n z hz];refine Wq ?_;exact aV (eY (n+1) (by omega) (by omega))
   ·obtain rfl:n=c.length:=by omega
    match S',g5,R',jz,fi,tI,mX with
    |[],_,_,_,_,tI,_=>
     have h0:(fQ []).length=0:=rfl;have h1:(c++fQ []).length=c.length:=by rw[zd,h0];rfl
     refine Wq ?_;exact aV (fin () trivial)
    |(a2,c2)::S2,g5,R',jz,fi,tI,mX=>
     obtain⟨k1,k2,k3,k4,k5⟩:=g5;obtain⟨z2,pD⟩:∃z,c2[0]? =some z:=⟨_,za (List.length_pos_iff.2 k4)⟩
     have MB:=(vk k3 pD).1;have kY:=List.length_pos_iff.2 k4;have lu:(fQ ((a2,c2)::S2)).length=c2.length+(fQ S2).length:=by rw[vm];exact zd
     have vo:(c++fQ ((a2,c2)::S2))[c.length]? =some z2:=by
      rw[zz (zq _),zbX,vm,zt kY];exact pD
     refine gg (h:=?_);refine bK rfl rfl (R' j) (j:=c.length) rfl (by omega) rfl fun b off ha=>?_;refine w_ (h:=fT (h:=?_));refine fM rfl (R' j) ha (i:=c.length*21) (by omega) (cG vo (j:=0) rfl) rfl ?_;rw[MB];refine Wq ?_;exact aV (fin () trivial)
  intro _ _;have ni:(nD S ad cap)[j]? =some [.int .i64 (a:Nat),.slice Bl c.length bi]:=by
   have:=congrArg (fun l=>l[0]?) HN;simp only[nD,zaW,zar,zbx]at this;exact this.symm
  refine aA (h:=?_);refine qP rfl rfl rfl (by omega) rfl ?_;refine aw (h:=?_);refine qe rfl rfl (hy j _ ni) rfl ?_;rintro y B (⟨rfl,rfl⟩|⟨rfl,rfl⟩)
  ·refine bW (h:=?_);refine aZ 0 (aX [5] [0,1,2,3,4,5]) [Row p1 0 [.slice Bl (c++fQ S').length bi]] ?_;refine dD (h:=nn (h:=dD (h:=?_)));refine au rfl (uu rfl rfl rfl (by omega)) ?_;refine pP (h:=?_);refine bN rfl rfl (eZ rfl rfl rfl rfl (by simp) ?_);refine dU (h:=?_);dsimp only[Nat.reduceSub,List.set];rw[show(c++fQ S').length-c.length=(fQ S').length by omega];refine iz (h:=?_);exact aV (back (j+1,S',cy 21 Bl bi c.length,bi-c.length,a) ⟨by
    dsimp only;rw[←zaS,←vn];rfl,by
    have:=congrArg List.length vn;rw[zQ,zy]at this;dsimp only;omega,by
    dsimp only;rw[←zaS,←HN];rfl,g5,by dsimp only;omega,R1,eV,by dsimp only;omega⟩ (by dsimp only;simp))
  ·refine uZ (h:=?_);exact ap rfl ([]++[J (j+1)]) (.inr ⟨_,rfl⟩) (by (refine dq (h:=?_));exact Sub.h)
end
section
open Go.Proofs Tryz
open Go.Proofs Go.RowKit
theorem D3{α:Type}{l:List α}{i k:Nat}{n m:α}(hn:l[i]? =some n)(hm:l[k]? =some m):(l.set i m).set k n=fP l i k (List.getElem?_eq_some_iff.1 hn).1 (List.getElem?_eq_some_iff.1 hm).1:=by
 unfold fP;rw[(List.getElem?_eq_some_iff.1 hn).2,(List.getElem?_eq_some_iff.1 hm).2]
theorem xI(l:List Nd)(i:Nat)(m:Nd)(h:i<l.length):(cw l).take (i*6)++fH m++(cw l).drop (i*6+(fH m).length)=cw (l.set i m):=DH (f:=fH) (s:=6) (fun _=>rfl) m l i h
theorem M7{ad:Option Addr}{cap i:Nat}{l:List Nd}(h:i<l.length)(hl:l.length≤8)(hw:∀n∈l,n.Wf)(hR:0<i→¬ei (dR l (cW i)) (dR l i)→oJ ei (dR l) l.length i):
 Spec prog 245 [.slice ad l.length cap,.int .i64 i] [Sl 6 ad l.length cap (cw l)] (fun v B=>∃(l':List Nd) (r:Nat),v= .int .i64 r∧B=[Sl 6 ad l'.length cap (cw l')]∧l'.length=l.length∧l'.Perm l∧
  ((r=i∧l'=l∧(i=0∨ei (dR l (cW i)) (dR l i)))∨(r<i∧Heap ei (dR l') l'.length))):=by
 refine x_sp func245 ntmps245 fun E cs Γ=>?_;obtain⟨N,hN⟩:∃N,N=l.length:=⟨_,rfl⟩
 rw[←hN]at h hl hR⊢;refine eg (h:=Wl ?_);refine aQ (α:=List Nd×Nat) (fun q=>q.1.length=N∧q.1.Perm l∧q.2≤i∧((q.1=l∧q.2=i)∨(q.2<i∧oJ ei (dR q.1) N q.2))) (fun q=>[(4,iv 0),(1,iv q.2),(0,.slice ad N cap)]) (fun q=>Sl 6 ad N cap (cw q.1)::Γ) (fun q=>q.2) (l,i)
  ⟨hN.symm,.refl _,zq _,.inl ⟨rfl,rfl⟩⟩ x_tv Sub.h ?_
 rintro⟨l',j⟩ ⟨hlen,hp,hj,eD⟩ back;dsimp only at hlen hp hj eD back⊢;have RS:=Sl.reads 6 ad N cap (cw l') (by rw[mA,hlen]);obtain⟨n,hn⟩:=bc (l:=l') (i:=j) (by omega);have yK:=hw n (hp.mem_iff.1 (zc hn));refine jw RS (by omega) fun b off ha=>?_;subst ha;by_cases j0:0<j
 ·have hk:(j-1)/2<N:=by omega
  obtain⟨m,hm⟩:=bc (l:=l') (i:=(j-1)/2) (by omega);have Bi:=hw m (hp.mem_iff.1 (zc hm));have hq:((j:Int)-1)/2=((j-1)/2:Nat):=MV j j0;refine lJ (h:=?_);refine aZ 16 (aX [13] [0,1,2,3,4,5,6,7,8,9,10,11,12,13,14,15]) [Sl 6 (some ⟨b,off,none⟩) N cap (cw l')] ?_;refine Ws ?_;refine bE rfl rfl (aY (j:=j) rfl rfl rfl rfl (by omega)) ?_;refine bE rfl rfl (eQ (us:=fH n) rfl RS rfl (i:=j*6) rfl rfl fun k v hv=>mW hn hv) ?_;refine Ws ?_;refine bE rfl rfl (aY (j:=(j-1)/2) rfl rfl rfl hq hk) ?_;refine bE rfl rfl (eQ (us:=fH m) rfl RS rfl (i:=(j-1)/2*6) rfl rfl fun k v hv=>mW hm hv) ?_;refine gp rfl rfl (aq (vs:=[j9 n,j9 m]) rfl (DP yK Bi) rfl ?_);refine cn (h:=?_);by_cases ho:tG n m<0
  ·have hle:¬ei m n:=(vh n m).1 ho;have D4:oJ ei (dR l') N j:=by
    rcases eD with ⟨rfl,rfl⟩|⟨_,h2⟩
    ·refine hR j0 ?_;rw[mB hn,show cW j=(j-1)/2 from rfl,mB hm];exact hle
    ·exact h2
   refine DV (h:=tJ (h:=Wl ?_));refine aZ 17 (aX [17,19] [0,1,2,3,4,5,6,7,8,9,10,11,12,13,14,15,16,17,18,19]) [Sl 6 (some ⟨b,off,none⟩) N cap (cw l')] ?_;refine Ws ?_;refine au rfl (aY (j:=(j-1)/2) rfl rfl rfl hq hk) ?_;refine au rfl (eQ (us:=fH m) rfl RS rfl (i:=(j-1)/2*6) rfl rfl fun k v hv=>mW hm hv) ?_;refine dK (h:=?_);refine au rfl (aY (j:=j) rfl rfl rfl rfl (by omega)) ?_;refine au rfl (eQ (us:=fH n) rfl RS rfl (i:=j*6) rfl rfl fun k v hv=>mW hn hv) ?_;skip;refine au rfl (aY (j:=j) rfl rfl rfl rfl (by omega)) ?_;refine bN rfl rfl (j4 (us:=fH m) rfl rfl rfl (vi m) rfl (i:=j*6) rfl (by rw[mA];show j*6+6≤_;omega) ?_);rw[xI l' j m (by omega)];refine au rfl (aY (j:=(j-1)/2) rfl rfl rfl hq hk) ?_;refine bN rfl rfl (j4 (us:=fH n) rfl rfl rfl (vi n) rfl (i:=(j-1)/2*6) rfl (by rw[mA,zH];show(j-1)/2*6+6≤_;omega) ?_);rw[xI _ _ n (by rw[zH];omega),D3 hn hm];refine dQ (h:=?_);refine bf (back (fP l' j ((j-1)/2) _ _,(j-1)/2) ⟨by rw[kG];exact hlen,(k8 _ _ _ _ _).trans hp,by dsimp only;omega,.inr ⟨by dsimp only;omega,?_⟩⟩ (by dsimp only;omega)) ⟨rfl,by rw[hq];rfl,rfl,trivial⟩ Sub.h;dsimp only;rw[MR _ _ _ (by omega) (by omega) (by omega)];refine D4.step DM j0 (by omega) ?_;rw[mB hn,show cW j=(j-1)/2 from rfl,mB hm];exact DN hle
  ·have hle:ei m n:=zI fun h=>ho ((vh n m).2 h);have M8:ei (dR l' (cW j)) (dR l' j):=by rw[mB hn,show cW j=(j-1)/2 from rfl,mB hm];exact hle
   refine Bj (h:=tK (h:=?_));refine ap rfl [Sl 6 (some ⟨b,off,none⟩) l'.length cap (cw l')] ⟨l',j,rfl,rfl,hlen,hp,?_⟩ (by rw[hlen];exact Sub.h);rcases eD with ⟨rfl,rfl⟩|⟨h1,h2⟩
   ·exact .inl ⟨rfl,rfl,.inr M8⟩
   ·exact .inr ⟨h1,by rw[hlen];exact h2.done (.inr M8)⟩
 ·obtain rfl:j=0:=by omega
  refine lJ (h:=?_);refine aZ 16 (aX [] [0,1,2,3,4,5,6,7,8,9,10,11,12,13,14,15]) [Sl 6 (some ⟨b,off,none⟩) N cap (cw l')] ?_;refine Ws ?_;refine dQ (h:=?_);refine ap rfl [Sl 6 (some ⟨b,off,none⟩) l'.length cap (cw l')] ⟨l',0,rfl,rfl,hlen,hp,?_⟩ (by rw[hlen];exact Sub.h);rcases eD with ⟨rfl,rfl⟩|⟨h1,h2⟩
  ·exact .inl ⟨rfl,rfl,.inl rfl⟩
  ·exact .inr ⟨h1,by rw[hlen];exact h2.done (.inl rfl)⟩
end
section
open Go.Proofs Tryz
open Go.Proofs Go.RowKit
theorem Wm(x:Nat):Spec prog 150 [nv x] [] (fun v B=>v= .bool false∧B=[]):=by
 refine x_sp func150 ntmps150 fun E cs Γ=>?_;refine kD (h:=?_);exact ap rfl [] ⟨rfl,rfl⟩ Sub.h
theorem oK(x y:Nat):Spec prog 277 [nv x,nv y] [] (fun v B=>v= .bool (decide (x<y))∧B=[]):=by
 refine x_sp func277 ntmps277 fun E cs Γ=>?_;refine mR (h:=?_);refine aJ rfl (Wm x) rfl ?_;refine cS (h:=?_);by_cases h:x<y
 ·rw[decide_eq_true h];refine Wq ?_;exact ap rfl [] ⟨rfl,rfl⟩ Sub.h
 ·rw[decide_eq_false h];refine Wq ?_;exact ap rfl [] ⟨rfl,rfl⟩ Sub.h
theorem dy{xs:List Nat}{i x:Nat}(h:xs[i]? =some x):(xs.map nv)[i]? =some (nv x):=by rw[zf,h];rfl
theorem oL{xs:List Nat}{i k n m:Nat}(hn:xs[i]? =some n)(hm:xs[k]? =some m):((xs.map nv).set i (nv m)).set k (nv n)=(fP xs i k (List.getElem?_eq_some_iff.1 hn).1 (List.getElem?_eq_some_iff.1 hm).1).map nv:=by
 rw[←zak (f:=nv),←zak (f:=nv),D3 hn hm]
def qA(ad:Option Addr)(n cap:Nat)(xs:List Nat)(B:List HP):Prop:=∃ys:List Nat,ys.length=n∧ys.Perm xs∧B=[Sl 1 ad n cap (ys.map nv)]
theorem Wn{bk off n cap a b:Nat}{xs:List Nat}(hn:xs.length=n)(dS:a≤b)(hb:b≤n)(hN:n≤2^40):
 Spec prog 271 [.slice (some ⟨bk,off,none⟩) n cap,.int .i64 a,.int .i64 b] [Sl 1 (some ⟨bk,off,none⟩) n cap (xs.map nv)] (fun v B=>v= .tuple #[]∧qA (some ⟨bk,off,none⟩) n cap xs B):=by
 refine x_sp func271 ntmps271 fun E cs Γ=>?_;refine gJ (h:=?_);refine aQ (α:=List Nat×Nat) (fun q=>q.1.length=n∧q.1.Perm xs∧a<q.2∧q.2≤n+1) (fun q=>[(6,iv q.2),(2,iv b),(1,iv a),(0,.slice (some ⟨bk,off,none⟩) n cap)]) (fun q=>Sl 1 (some ⟨bk,off,none⟩) n cap (q.1.map nv)::Γ) (fun q=>n+1-q.2) (xs,a+1)
  ⟨hn,.refl _,by dsimp only;omega,by dsimp only;omega⟩ x_tv Sub.h ?_
 rintro⟨ys,i⟩ ⟨hy,hp,hi,fS⟩ back;dsimp only at hy hp hi fS back⊢;refine Wl ?_;by_cases h:i<b
 ·refine Wb ?_;refine eL (α:=List Nat) (fun zs=>zs.length=n∧zs.Perm xs) (fun _=>[(6,iv i),(2,iv b),(1,iv a),(0,.slice (some ⟨bk,off,none⟩) n cap)]) (fun zs=>Sl 1 (some ⟨bk,off,none⟩) n cap (zs.map nv)::Γ) ?_ ?_
  ·rintro zs ⟨hz,dG⟩;refine Wq ?_;exact aV (back (zs,i+1) ⟨hz,dG,by dsimp only;omega,by dsimp only;omega⟩ (by dsimp only;omega))
  ·intro td fin;refine Wq ?_;refine aQ (α:=List Nat×Nat) (fun q=>q.1.length=n∧q.1.Perm xs∧a≤q.2∧q.2≤i) (fun q=>[(7,iv q.2),(6,iv i),(2,iv b),(1,iv a),(0,.slice (some ⟨bk,off,none⟩) n cap)]) (fun q=>Sl 1 (some ⟨bk,off,none⟩) n cap (q.1.map nv)::Γ) (fun q=>q.2) (ys,i)
    ⟨hy,hp,by dsimp only;omega,zq _⟩ x_tv Sub.h ?_
   rintro⟨zs,j⟩ ⟨hz,dG,hj,te⟩ eY;dsimp only at hz dG hj te eY⊢;have RS:=Sl.reads 1 (some ⟨bk,off,none⟩) n cap (zs.map nv) (by simp[hz]);by_cases Wo:a<j
   ·obtain⟨x,hx⟩:=bc (l:=zs) (i:=j) (by omega);obtain⟨y,gu⟩:=bc (l:=zs) (i:=j-1) (by omega);refine lJ (h:=?_);refine aZ 15 (aX [13] [0,1,2,3,4,5,6,7,8,9,10,11,12,13,14]) [Sl 1 (some ⟨bk,off,none⟩) n cap (zs.map nv)] ?_;refine Ws ?_;refine bE rfl rfl (aY (j:=j) rfl rfl rfl rfl (by omega)) ?_;refine bE rfl rfl (b7 (v:=nv x) rfl RS rfl (i:=j) (by omega) (dy hx)) ?_;refine oM (h:=D5 (h:=?_));refine bE rfl rfl (aY (j:=j-1) rfl rfl rfl (by omega) (by omega)) ?_;refine bE rfl rfl (b7 (v:=nv y) rfl RS rfl (i:=j-1) (by omega) (dy gu)) ?_;refine gp rfl rfl (aq rfl (oK x y) rfl ?_);refine cn (h:=?_);by_cases aN:x<y
    ·rw[decide_eq_true aN];refine tJ (h:=Wl ?_);refine aZ 15 (aX [15,17] [0,1,2,3,4,5,6,7,8,9,10,11,12,13,14,15,16,17]) [Sl 1 (some ⟨bk,off,none⟩) n cap (zs.map nv)] ?_;refine Ws ?_;refine au rfl (aY (j:=j-1) rfl rfl rfl (by omega) (by omega)) ?_;refine au rfl (b7 (v:=nv y) rfl RS rfl (i:=j-1) (by omega) (dy gu)) ?_;refine dK (h:=?_);refine au rfl (aY (j:=j) rfl rfl rfl rfl (by omega)) ?_;refine au rfl (b7 (v:=nv x) rfl RS rfl (i:=j) (by omega) (dy hx)) ?_;refine au rfl (aY (j:=j) rfl rfl rfl rfl (by omega)) ?_;refine bN rfl rfl (gm (a:=some ⟨bk,off,none⟩) (off:=off) rfl rfl rfl rfl (i:=j) (by omega) (by simp;omega) ?_);refine au rfl (aY (j:=j-1) rfl rfl rfl (by omega) (by omega)) ?_;refine bN rfl rfl (gm (a:=some ⟨bk,off,none⟩) (off:=off) rfl rfl rfl rfl (i:=j-1) (by omega) (by simp;omega) ?_);rw[oL hx gu];refine dQ (h:=?_);rw[show(j:Int)-1=((j-1:Nat):Int)by omega];exact aV (eY (fP zs j (j-1) _ _,j-1) ⟨by rw[kG];exact hz,(k8 _ _ _ _ _).trans dG,by dsimp only;omega,by dsimp only;omega⟩ (by dsimp only;omega))
    ·rw[decide_eq_false aN];refine rR (h:=iz (h:=?_));exact aV (fin zs ⟨hz,dG⟩)
   ·refine lJ (h:=?_);refine aZ 15 (aX [] [0,1,2,3,4,5,6,7,8,9,10,11,12,13,14]) [Sl 1 (some ⟨bk,off,none⟩) n cap (zs.map nv)] ?_;refine rS (h:=iz (h:=?_));exact aV (fin zs ⟨hz,dG⟩)
 ·refine Wq ?_;exact cJ _ ⟨rfl,ys,hy,hp,rfl⟩ Sub.h
end
section
open Go.Proofs Tryz
open Go.Proofs Go.RowKit
theorem M9{bk off n cap lo hi first:Nat}{xs:List Nat}(hn:xs.length=n)(hf:first+hi≤n)(hN:n≤2^40)(fN:lo≤n):
 Spec prog 302 [.slice (some ⟨bk,off,none⟩) n cap,.int .i64 lo,.int .i64 hi,.int .i64 first] [Sl 1 (some ⟨bk,off,none⟩) n cap (xs.map nv)] (fun v B=>v= .tuple #[]∧qA (some ⟨bk,off,none⟩) n cap xs B):=by
 refine x_sp func302 ntmps302 fun E cs Γ=>?_;refine gJ (h:=?_);refine aQ (α:=List Nat×Nat) (fun q=>q.1.length=n∧q.1.Perm xs∧q.2≤n) (fun q=>[(8,iv q.2),(3,iv first),(2,iv hi),(0,.slice (some ⟨bk,off,none⟩) n cap)]) (fun q=>Sl 1 (some ⟨bk,off,none⟩) n cap (q.1.map nv)::Γ) (fun q=>n-q.2) (xs,lo)
  ⟨hn,.refl _,fN⟩ x_tv Sub.h ?_
 rintro⟨ys,r⟩ ⟨hy,hp,hr⟩ back;dsimp only at hy hp hr back⊢;have RS:=Sl.reads 1 (some ⟨bk,off,none⟩) n cap (ys.map nv) (by simp[hy]);refine Wq ?_;by_cases hc:2*r+1≥hi
 ·refine Wq ?_;exact cJ _ ⟨rfl,ys,hy,hp,rfl⟩ Sub.h
 ·obtain⟨c,tL⟩:∃c,c=2*r+1:=⟨_,rfl⟩
  rw[show(2*(r:Int)+1)=((c:Nat):Int)by omega];obtain⟨x,hx⟩:=bc (l:=ys) (i:=first+c) (by omega);refine Wb ?_;refine eL (α:=Bool) (fun b=>b=true→c+1<hi) (fun b=>[(36,.bool b),(9,iv c),(8,iv r),(3,iv first),(2,iv hi),(0,.slice (some ⟨bk,off,none⟩) n cap)]) (fun _=>Sl 1 (some ⟨bk,off,none⟩) n cap (ys.map nv)::Γ) ?_ ?_;rotate_left
  ·intro td fin;by_cases h1:c+1<hi
   ·obtain⟨y,gu⟩:=bc (l:=ys) (i:=first+c+1) (by omega);refine aZ 20 (aX [18] [0,1,2,3,4,5,6,7,8,9,10,11,12,13,14,15,16,17,18,19]) [Sl 1 (some ⟨bk,off,none⟩) n cap (ys.map nv)] ?_;refine Ws ?_;refine bE rfl rfl (aY (j:=first+c) rfl rfl rfl (by omega) (by omega)) ?_;refine bE rfl rfl (b7 (v:=nv x) rfl RS rfl (i:=first+c) (by omega) (dy hx)) ?_;refine Ws ?_;refine bE rfl rfl (aY (j:=first+c+1) rfl rfl rfl (by omega) (by omega)) ?_;refine bE rfl rfl (b7 (v:=nv y) rfl RS rfl (i:=first+c+1) (by omega) (dy gu)) ?_;refine gp rfl rfl (aq rfl (oK x y) rfl ?_);refine cn (h:=tJ (h:=?_));exact aV (fin _ fun _=>h1)
   ·refine aZ 20 (aX [] [0,1,2,3,4,5,6,7,8,9,10,11,12,13,14,15,16,17,18,19]) [Sl 1 (some ⟨bk,off,none⟩) n cap (ys.map nv)] ?_;refine kC (h:=?_);exact aV (fin false fun h=>by cases h)
  intro b hb;refine eL (α:=Nat) (fun k=>r<k∧k<hi) (fun k=>[(9,iv k),(8,iv r),(3,iv first),(2,iv hi),(0,.slice (some ⟨bk,off,none⟩) n cap)]) (fun _=>Sl 1 (some ⟨bk,off,none⟩) n cap (ys.map nv)::Γ) ?_ ?_;rotate_left
  ·intro td fin;cases b with
   |true=>
    have:=hb rfl;refine Wq ?_;rw[show((c:Int)+1)=((c+1:Nat):Int)by omega];exact aV (fin (c+1) ⟨by omega,this⟩)
   |false=>
    refine rI (h:=?_);exact aV (fin c ⟨by omega,by omega⟩)
  rintro k ⟨ey,bH⟩;obtain⟨z,hz⟩:=bc (l:=ys) (i:=first+r) (by omega);obtain⟨u,hu⟩:=bc (l:=ys) (i:=first+k) (by omega);refine lJ (h:=?_);refine aZ 14 (aX [12] [0,1,2,3,4,5,6,7,8,9,10,11,12,13]) [Sl 1 (some ⟨bk,off,none⟩) n cap (ys.map nv)] ?_;refine Ws ?_;refine au rfl (aY (j:=first+r) rfl rfl rfl (by omega) (by omega)) ?_;refine au rfl (b7 (v:=nv z) rfl RS rfl (i:=first+r) (by omega) (dy hz)) ?_;refine Ws ?_;refine au rfl (aY (j:=first+k) rfl rfl rfl (by omega) (by omega)) ?_;refine au rfl (b7 (v:=nv u) rfl RS rfl (i:=first+k) (by omega) (dy hu)) ?_;refine aE rfl (aq rfl (oK z u) rfl ?_);refine cn (h:=ql (h:=dU (h:=?_)));by_cases aN:z<u
  ·rw[decide_eq_true aN];refine rI (h:=eM (h:=?_));refine aZ 21 (aX [21,23] [0,1,2,3,4,5,6,7,8,9,10,11,12,13,14,15,16,17,18,19,20,21,22,23]) [Sl 1 (some ⟨bk,off,none⟩) n cap (ys.map nv)] ?_;refine Ws ?_;refine au rfl (aY (j:=first+k) rfl rfl rfl (by omega) (by omega)) ?_;refine au rfl (b7 (v:=nv u) rfl RS rfl (i:=first+k) (by omega) (dy hu)) ?_;refine Ws ?_;refine au rfl (aY (j:=first+r) rfl rfl rfl (by omega) (by omega)) ?_;refine au rfl (b7 (v:=nv z) rfl RS rfl (i:=first+r) (by omega) (dy hz)) ?_;refine au rfl (aY (j:=first+r) rfl rfl rfl (by omega) (by omega)) ?_;refine bN rfl rfl (gm (a:=some ⟨bk,off,none⟩) (off:=off) rfl rfl rfl rfl (i:=first+r) (by omega) (by simp;omega) ?_);refine au rfl (aY (j:=first+k) rfl rfl rfl (by omega) (by omega)) ?_;refine bN rfl rfl (gm (a:=some ⟨bk,off,none⟩) (off:=off) rfl rfl rfl rfl (i:=first+k) (by omega) (by simp;omega) ?_);rw[oL hz hu];refine dQ (h:=?_);exact aV (back (fP ys (first+r) (first+k) _ _,k) ⟨by rw[kG];exact hy,(k8 _ _ _ _ _).trans hp,by dsimp only;omega⟩ (by dsimp only;omega))
  ·rw[decide_eq_false aN];refine sF rfl ?_;exact ap (vs:=[]) rfl [Sl 1 (some ⟨bk,off,none⟩) n cap (ys.map nv)] ⟨rfl,ys,hy,hp,rfl⟩ Sub.h
theorem M_{x y:Int}(h:x=y):some (Value.int .i64 x)=some (Value.int .i64 y):=by rw[h]
theorem Wp{bk off n cap a b:Nat}{xs:List Nat}(hn:xs.length=n)(dS:a<b)(hb:b≤n)(hN:n≤2^40):
 Spec prog 272 [.slice (some ⟨bk,off,none⟩) n cap,.int .i64 a,.int .i64 b] [Sl 1 (some ⟨bk,off,none⟩) n cap (xs.map nv)] (fun v B=>v= .tuple #[]∧qA (some ⟨bk,off,none⟩) n cap xs B):=by
 refine x_sp func272 ntmps272 fun E cs Γ=>?_;obtain⟨m,hm⟩:∃m,m=b-a:=⟨_,rfl⟩
 refine eg (h:=Wb ?_);refine eL (α:=List Nat) (fun zs=>zs.length=n∧zs.Perm xs) (fun _=>[(8,iv m),(7,iv 0),(6,iv a),(0,.slice (some ⟨bk,off,none⟩) n cap)]) (fun zs=>Sl 1 (some ⟨bk,off,none⟩) n cap (zs.map nv)::Γ) ?_ ?_;rotate_left
 ·intro td fin;refine eW (h:=?_);refine aQ (α:=List Nat×Nat) (fun q=>q.1.length=n∧q.1.Perm xs∧q.2≤m) (fun q=>[(9,iv ((q.2:Int)-1)),(8,iv m),(7,iv 0),(6,iv a),(0,.slice (some ⟨bk,off,none⟩) n cap)]) (fun q=>Sl 1 (some ⟨bk,off,none⟩) n cap (q.1.map nv)::Γ) (fun q=>q.2) (xs,(m-1)/2+1)
   ⟨hn,.refl _,by show(m-1)/2+1≤m;omega⟩ ⟨M_ (by show((b:Int)-a-1)/2=(((m-1)/2+1:Nat):Int)-1;omega),M_ (by show(b:Int)-a=(m:Int);omega),rfl,rfl,rfl,trivial⟩ Sub.h ?_
  rintro⟨ys,i⟩ ⟨hy,hp,hi⟩ back;dsimp only at hy hp hi back⊢;refine lN (h:=?_);by_cases h:0<i
  ·refine Wq ?_;rw[show((i:Int)-1)=((i-1:Nat):Int)by omega];refine aJ rfl (M9 (first:=a) (hi:=m) hy (by omega) hN (by omega)) rfl ?_;rintro v B ⟨rfl,zs,hz,dG,rfl⟩;refine bW (h:=?_);exact aV (back (zs,i-1) ⟨hz,dG.trans hp,by dsimp only;omega⟩ (by dsimp only;omega))
  ·refine Wq ?_;exact aV (fin ys ⟨hy,hp⟩)
 rintro zs ⟨hz,dG⟩;refine Wq ?_;refine aQ (α:=List Nat×Nat) (fun q=>q.1.length=n∧q.1.Perm xs∧q.2≤m) (fun q=>[(10,iv ((q.2:Int)-1)),(8,iv m),(7,iv 0),(6,iv a),(0,.slice (some ⟨bk,off,none⟩) n cap)]) (fun q=>Sl 1 (some ⟨bk,off,none⟩) n cap (q.1.map nv)::Γ) (fun q=>q.2) (zs,m)
  ⟨hz,dG,zq _⟩ x_tv Sub.h ?_
 rintro⟨ys,i⟩ ⟨hy,hp,hi⟩ back;dsimp only at hy hp hi back⊢;have RS:=Sl.reads 1 (some ⟨bk,off,none⟩) n cap (ys.map nv) (by simp[hy]);refine lN (h:=?_);by_cases h:0<i
 ·obtain⟨k,hk⟩:∃k,k=i-1:=⟨_,rfl⟩
  rw[show((i:Int)-1)=((k:Nat):Int)by omega];obtain⟨z,D6⟩:=bc (l:=ys) (i:=a) (by omega);obtain⟨u,hu⟩:=bc (l:=ys) (i:=a+k) (by omega);refine Wq ?_;refine aZ 17 (aX [17,19] [0,1,2,3,4,5,6,7,8,9,10,11,12,13,14,15,16,17,18,19]) [Sl 1 (some ⟨bk,off,none⟩) n cap (ys.map nv)] ?_;refine Ws ?_;refine au rfl (aY (j:=a+k) rfl rfl rfl (by omega) (by omega)) ?_;refine au rfl (b7 (v:=nv u) rfl RS rfl (i:=a+k) (by omega) (dy hu)) ?_;refine dK (h:=?_);refine au rfl (aY (j:=a) rfl rfl rfl (by omega) (by omega)) ?_;refine au rfl (b7 (v:=nv z) rfl RS rfl (i:=a) (by omega) (dy D6)) ?_;refine au rfl (aY (j:=a) rfl rfl rfl (by omega) (by omega)) ?_;refine bN rfl rfl (gm (a:=some ⟨bk,off,none⟩) (off:=off) rfl rfl rfl rfl (i:=a) (by omega) (by simp;omega) ?_);refine au rfl (aY (j:=a+k) rfl rfl rfl (by omega) (by omega)) ?_;refine bN rfl rfl (gm (a:=some ⟨bk,off,none⟩) (off:=off) rfl rfl rfl rfl (i:=a+k) (by omega) (by simp;omega) ?_);rw[oL D6 hu];refine dU (h:=?_);have dP:(fP ys a (a+k) (by omega) (by omega)).length=n:=by rw[kG];exact hy
  have iL:(fP ys a (a+k) (by omega) (by omega)).Perm xs:=(k8 _ _ _ _ _).trans hp;refine Wq ?_;refine aJ rfl (M9 (lo:=0) (first:=a) (hi:=k) dP (by omega) hN (by omega)) rfl ?_;rintro v B ⟨rfl,us,rT,rU,rfl⟩;refine bW (h:=?_);exact aV (back (us,k) ⟨rT,rU.trans iL,by dsimp only;omega⟩ (by dsimp only;omega))
 ·refine Wq ?_;exact cJ _ ⟨rfl,ys,hy,hp,rfl⟩ Sub.h
end
section
open Go.Proofs Tryz
open Go.Proofs Go.RowKit
theorem Wu{bk off n cap a b:Nat}{xs:List Nat}(hn:xs.length=n)(dS:a<b)(hb:b≤n)(hN:n≤2^40):
 Spec prog 275 [.slice (some ⟨bk,off,none⟩) n cap,.int .i64 a,.int .i64 b] [Sl 1 (some ⟨bk,off,none⟩) n cap (xs.map nv)] (fun v B=>v= .tuple #[]∧qA (some ⟨bk,off,none⟩) n cap xs B):=by
 refine x_sp func275 ntmps275 fun E cs Γ=>?_;refine gJ (h:=?_);rw[show((b:Int)-1)=((b-1:Nat):Int)by omega];refine aQ (α:=List Nat×Nat×Nat) (fun q=>q.1.length=n∧q.1.Perm xs∧q.2.2<n∧q.2.1≤q.2.2+1) (fun q=>[(6,iv q.2.1),(7,iv q.2.2),(0,.slice (some ⟨bk,off,none⟩) n cap)]) (fun q=>Sl 1 (some ⟨bk,off,none⟩) n cap (q.1.map nv)::Γ) (fun q=>q.2.2+1-q.2.1) (xs,a,b-1)
  ⟨hn,.refl _,by dsimp only;omega,by dsimp only;omega⟩ x_tv Sub.h ?_
 rintro⟨ys,i,j⟩ ⟨hy,hp,hj,jk⟩ back;dsimp only at hy hp hj jk back⊢;have RS:=Sl.reads 1 (some ⟨bk,off,none⟩) n cap (ys.map nv) (by simp[hy]);refine Wl ?_;by_cases h:i<j
 ·obtain⟨z,hz⟩:=bc (l:=ys) (i:=i) (by omega);obtain⟨u,hu⟩:=bc (l:=ys) (i:=j) (by omega);refine Wq ?_;refine aZ 13 (aX [13,15] [0,1,2,3,4,5,6,7,8,9,10,11,12,13,14,15]) [Sl 1 (some ⟨bk,off,none⟩) n cap (ys.map nv)] ?_;refine Ws ?_;refine au rfl (aY (j:=j) rfl rfl rfl (by omega) (by omega)) ?_;refine au rfl (b7 (v:=nv u) rfl RS rfl (i:=j) (by omega) (dy hu)) ?_;refine dK (h:=?_);refine au rfl (aY (j:=i) rfl rfl rfl (by omega) (by omega)) ?_;refine au rfl (b7 (v:=nv z) rfl RS rfl (i:=i) (by omega) (dy hz)) ?_;refine au rfl (aY (j:=i) rfl rfl rfl (by omega) (by omega)) ?_;refine bN rfl rfl (gm (a:=some ⟨bk,off,none⟩) (off:=off) rfl rfl rfl rfl (i:=i) (by omega) (by simp;omega) ?_);refine au rfl (aY (j:=j) rfl rfl rfl (by omega) (by omega)) ?_;refine bN rfl rfl (gm (a:=some ⟨bk,off,none⟩) (off:=off) rfl rfl rfl rfl (i:=j) (by omega) (by simp;omega) ?_);rw[oL hz hu];refine dU (h:=?_);obtain⟨ws,d_⟩:∃x,x=fP ys (i) (j) (by omega) (by omega):=⟨_,rfl⟩
  have dP:ws.length=n:=by rw[d_,kG];exact hy
  have iL:ws.Perm xs:=by rw[d_];exact(k8 _ _ _ _ _).trans hp
  rw[←d_];clear d_;refine Wq ?_;rw[show((j:Int)-1)=((j-1:Nat):Int)by omega];exact aV (back (ws,i+1,j-1) ⟨dP,iL,by dsimp only;omega,by dsimp only;omega⟩ (by dsimp only;omega))
 ·refine Wq ?_;exact cJ _ ⟨rfl,ys,hy,hp,rfl⟩ Sub.h
theorem Wx{bk off n cap a b:Nat}{xs:List Nat}(hy:xs.length=n)(dS:a<b)(hb:b≤n)(hN:n≤49):
 Spec prog 276 [.slice (some ⟨bk,off,none⟩) n cap,.int .i64 a,.int .i64 b] [Sl 1 (some ⟨bk,off,none⟩) n cap (xs.map nv)] (fun v B=>∃r,v= .bool r∧B=[Sl 1 (some ⟨bk,off,none⟩) n cap (xs.map nv)]):=by
 refine x_sp func276 ntmps276 fun E cs Γ=>?_;refine gJ (h:=?_);refine aQ (α:=Unit) (fun _=>True) (fun _=>[(8,iv 0),(7,iv ((a:Int)+1)),(6,.bool false),(2,iv b),(1,iv a),(0,.slice (some ⟨bk,off,none⟩) n cap)]) (fun _=>Sl 1 (some ⟨bk,off,none⟩) n cap (xs.map nv)::Γ) (fun _=>0) () trivial x_tv Sub.h ?_;rintro _ _ -;have RS:=Sl.reads 1 (some ⟨bk,off,none⟩) n cap (xs.map nv) (by simp[hy]);refine Wb ?_;refine eW (h:=eM (h:=?_));refine eL (α:=Nat) (fun i=>a<i∧i≤b) (fun i=>[(7,iv i),(6,.bool false),(2,iv b),(1,iv a),(0,.slice (some ⟨bk,off,none⟩) n cap)]) (fun _=>Sl 1 (some ⟨bk,off,none⟩) n cap (xs.map nv)::Γ) ?_ ?_;rotate_left
 ·intro td fin;refine eW (h:=?_);refine aQ (α:=Nat) (fun i=>a<i∧i≤b) (fun i=>[(7,iv i),(6,.bool false),(2,iv b),(1,iv a),(0,.slice (some ⟨bk,off,none⟩) n cap)]) (fun _=>Sl 1 (some ⟨bk,off,none⟩) n cap (xs.map nv)::Γ) (fun i=>b-i) (a+1) ⟨by omega,by omega⟩ x_tv Sub.h ?_;rintro i ⟨h1,h2⟩ back;refine lJ (h:=?_);by_cases h:i<b
  ·obtain⟨x,hx⟩:=bc (l:=xs) (i:=i) (by omega);obtain⟨y,gu⟩:=bc (l:=xs) (i:=i-1) (by omega);refine aZ 16 (aX [13] [0,1,2,3,4,5,6,7,8,9,10,11,12,13,14,15]) [Sl 1 (some ⟨bk,off,none⟩) n cap (xs.map nv)] ?_;refine Ws ?_;refine bE rfl rfl (aY (j:=i) rfl rfl rfl (by omega) (by omega)) ?_;refine bE rfl rfl (b7 (v:=nv x) rfl RS rfl (i:=i) (by omega) (dy hx)) ?_;refine oM (h:=D5 (h:=?_));refine bE rfl rfl (aY (j:=i-1) rfl rfl rfl (by omega) (by omega)) ?_;refine bE rfl rfl (b7 (v:=nv y) rfl RS rfl (i:=i-1) (by omega) (dy gu)) ?_;refine gp rfl rfl (aq rfl (oK x y) rfl ?_);refine cn (h:=?_);by_cases aN:x<y
   ·rw[decide_eq_true aN];refine qB (h:=rR (h:=?_));exact aV (fin i ⟨h1,h2⟩)
   ·rw[decide_eq_false aN];refine qB (h:=tK (h:=?_));exact aV (back (i+1) ⟨by omega,by omega⟩ (by omega))
  ·refine aZ 16 (aX [] [0,1,2,3,4,5,6,7,8,9,10,11,12,13,14,15]) [Sl 1 (some ⟨bk,off,none⟩) n cap (xs.map nv)] ?_;refine rS (h:=?_);exact aV (fin i ⟨h1,h2⟩)
 rintro i ⟨h1,h2⟩;by_cases h:i=b
 ·subst h;refine Wq ?_;exact ap rfl [Sl 1 (some ⟨bk,off,none⟩) n cap (xs.map nv)] ⟨true,rfl,rfl⟩ Sub.h
 ·refine Wq ?_;exact ap rfl [Sl 1 (some ⟨bk,off,none⟩) n cap (xs.map nv)] ⟨false,rfl,rfl⟩ Sub.h
theorem Wy{bk off n cap a b p:Nat}{xs:List Nat}(hn:xs.length=n)(Bm:a≤p)(Wz:p<b)(hb:b≤n)(hN:n≤2^40):
 Spec prog 278 [.slice (some ⟨bk,off,none⟩) n cap,.int .i64 a,.int .i64 b,.int .i64 p] [Sl 1 (some ⟨bk,off,none⟩) n cap (xs.map nv)] (fun v B=>∃r:Nat,v= .int .i64 r∧a<r∧r≤b∧qA (some ⟨bk,off,none⟩) n cap xs B):=by
 refine x_sp func278 ntmps278 fun E cs Γ=>?_;obtain⟨ys,k_⟩:∃ys,ys=xs:=⟨_,rfl⟩
 have hy:ys.length=n:=by rw[k_];exact hn
 have hp:ys.Perm xs:=by rw[k_]
 rw[show xs.map nv=ys.map nv by rw[k_]];have RS:=Sl.reads 1 (some ⟨bk,off,none⟩) n cap (ys.map nv) (by simp[hy]);obtain⟨z,hz⟩:=bc (l:=ys) (i:=a) (by omega);obtain⟨u,hu⟩:=bc (l:=ys) (i:=p) (by omega);refine gJ (h:=?_);refine aZ 13 (aX [13,15] [0,1,2,3,4,5,6,7,8,9,10,11,12,13,14,15]) [Sl 1 (some ⟨bk,off,none⟩) n cap (ys.map nv)] ?_;refine Ws ?_;refine au rfl (aY (j:=p) rfl rfl rfl (by omega) (by omega)) ?_;refine au rfl (b7 (v:=nv u) rfl RS rfl (i:=p) (by omega) (dy hu)) ?_;refine dK (h:=?_);refine au rfl (aY (j:=a) rfl rfl rfl (by omega) (by omega)) ?_;refine au rfl (b7 (v:=nv z) rfl RS rfl (i:=a) (by omega) (dy hz)) ?_;refine au rfl (aY (j:=a) rfl rfl rfl (by omega) (by omega)) ?_;refine bN rfl rfl (gm (a:=some ⟨bk,off,none⟩) (off:=off) rfl rfl rfl rfl (i:=a) (by omega) (by simp;omega) ?_);refine au rfl (aY (j:=p) rfl rfl rfl (by omega) (by omega)) ?_;refine bN rfl rfl (gm (a:=some ⟨bk,off,none⟩) (off:=off) rfl rfl rfl rfl (i:=p) (by omega) (by simp;omega) ?_);rw[oL hz hu];refine dU (h:=?_);obtain⟨ws,d_⟩:∃x,x=fP ys (a) (p) (by omega) (by omega):=⟨_,rfl⟩
 have dP:ws.length=n:=by rw[d_,kG];exact hy
 have iL:ws.Perm xs:=by rw[d_];exact(k8 _ _ _ _ _).trans hp
 rw[←d_];clear d_;clear RS hy hp hz hu k_;refine Wq ?_;rw[show((b:Int)-1)=((b-1:Nat):Int)by omega];refine aQ (α:=List Nat×Nat×Nat) (fun q=>q.1.length=n∧q.1.Perm xs∧a<q.2.1∧q.2.1≤q.2.2+2∧a≤q.2.2∧q.2.2<b∧q.2.1≤b) (fun q=>[(9,iv q.2.1),(10,iv q.2.2),(8,iv 0),(1,iv a),(0,.slice (some ⟨bk,off,none⟩) n cap)]) (fun q=>Sl 1 (some ⟨bk,off,none⟩) n cap (q.1.map nv)::Γ) (fun q=>q.2.2+2-q.2.1) (ws,a+1,b-1)
  ⟨dP,iL,by dsimp only;omega,by dsimp only;omega,by dsimp only;omega,by dsimp only;omega,by dsimp only;omega⟩ x_tv Sub.h ?_
 clear dP iL ys ws;rintro⟨ys,i0,j0⟩ ⟨hy,hp,h1,h2,h3,h4,h5⟩ back;dsimp only at hy hp h1 h2 h3 h4 h5 back⊢;have RS:=Sl.reads 1 (some ⟨bk,off,none⟩) n cap (ys.map nv) (by simp[hy]);refine eW (h:=eM (h:=?_));refine eL (α:=Nat) (fun k=>i0≤k∧k≤n+1∧(k≤j0+1∨k=i0)) (fun k=>[(9,iv k),(10,iv j0),(8,iv 0),(1,iv a),(0,.slice (some ⟨bk,off,none⟩) n cap)]) (fun _=>Sl 1 (some ⟨bk,off,none⟩) n cap (ys.map nv)::Γ) ?_ ?_;rotate_left
 ·intro td fin;refine eW (h:=?_);refine aQ (α:=Nat) (fun k=>i0≤k∧k≤n+1∧(k≤j0+1∨k=i0)) (fun k=>[(9,iv k),(10,iv j0),(8,iv 0),(1,iv a),(0,.slice (some ⟨bk,off,none⟩) n cap)]) (fun _=>Sl 1 (some ⟨bk,off,none⟩) n cap (ys.map nv)::Γ) (fun k=>n+2-k) i0 ⟨by omega,by omega,by omega⟩ x_tv Sub.h ?_;rintro k ⟨ey,bH,dZ⟩ back;refine lJ (h:=?_);by_cases h:k≤j0
  ·obtain⟨x,hx⟩:=bc (l:=ys) (i:=k) (by omega);obtain⟨w,hw⟩:=bc (l:=ys) (i:=a) (by omega);refine aZ 15 (aX [12] [0,1,2,3,4,5,6,7,8,9,10,11,12,13,14]) [Sl 1 (some ⟨bk,off,none⟩) n cap (ys.map nv)] ?_;refine Ws ?_;refine bE rfl rfl (aY (j:=a) rfl rfl rfl (by omega) (by omega)) ?_;refine bE rfl rfl (b7 (v:=nv w) rfl RS rfl (i:=a) (by omega) (dy hw)) ?_;refine oM (h:=?_);refine bE rfl rfl (aY (j:=k) rfl rfl rfl (by omega) (by omega)) ?_;refine bE rfl rfl (b7 (v:=nv x) rfl RS rfl (i:=k) (by omega) (dy hx)) ?_;refine gp rfl rfl (aq rfl (oK w x) rfl ?_);refine cn (h:=?_);by_cases aN:w<x
   ·rw[decide_eq_true aN];refine qB (h:=rR (h:=?_));exact aV (fin k ⟨ey,bH,dZ⟩)
   ·rw[decide_eq_false aN];refine qB (h:=tK (h:=?_));exact aV (back (k+1) ⟨by omega,by omega,by omega⟩ (by omega))
  ·refine aZ 15 (aX [] [0,1,2,3,4,5,6,7,8,9,10,11,12,13,14]) [Sl 1 (some ⟨bk,off,none⟩) n cap (ys.map nv)] ?_;refine rS (h:=?_);exact aV (fin k ⟨ey,bH,dZ⟩)
 rintro i ⟨ey,bH,dZ⟩;refine eM (h:=?_);refine eL (α:=Nat) (fun k=>k≤j0∧a≤k∧(i≤k+1∨k=j0)) (fun k=>[(9,iv i),(10,iv k),(8,iv 0),(1,iv a),(0,.slice (some ⟨bk,off,none⟩) n cap)]) (fun _=>Sl 1 (some ⟨bk,off,none⟩) n cap (ys.map nv)::Γ) ?_ ?_;rotate_left
 ·intro td fin;refine eW (h:=?_);refine aQ (α:=Nat) (fun k=>k≤j0∧a≤k∧(i≤k+1∨k=j0)) (fun k=>[(9,iv i),(10,iv k),(8,iv 0),(1,iv a),(0,.slice (some ⟨bk,off,none⟩) n cap)]) (fun _=>Sl 1 (some ⟨bk,off,none⟩) n cap (ys.map nv)::Γ) (fun k=>k) j0 ⟨by omega,by omega,by omega⟩ x_tv Sub.h ?_;rintro k ⟨ey,bH,dZ⟩ back;refine lJ (h:=?_);by_cases h:i≤k
  ·obtain⟨x,hx⟩:=bc (l:=ys) (i:=k) (by omega);obtain⟨w,hw⟩:=bc (l:=ys) (i:=a) (by omega);refine aZ 14 (aX [12] [0,1,2,3,4,5,6,7,8,9,10,11,12,13]) [Sl 1 (some ⟨bk,off,none⟩) n cap (ys.map nv)] ?_;refine Ws ?_;refine bE rfl rfl (aY (j:=a) rfl rfl rfl (by omega) (by omega)) ?_;refine bE rfl rfl (b7 (v:=nv w) rfl RS rfl (i:=a) (by omega) (dy hw)) ?_;refine oM (h:=?_);refine bE rfl rfl (aY (j:=k) rfl rfl rfl (by omega) (by omega)) ?_;refine bE rfl rfl (b7 (v:=nv x) rfl RS rfl (i:=k) (by omega) (dy hx)) ?_;refine gp rfl rfl (aq rfl (oK w x) rfl ?_);refine cn (h:=?_);by_cases aN:w<x
   ·rw[decide_eq_true aN];refine tK (h:=?_);rw[show((k:Int)-1)=((k-1:Nat):Int)by omega];exact aV (back (k-1) ⟨by omega,by omega,by omega⟩ (by omega))
   ·rw[decide_eq_false aN];refine rR (h:=?_);exact aV (fin k ⟨ey,bH,dZ⟩)
  ·refine aZ 14 (aX [] [0,1,2,3,4,5,6,7,8,9,10,11,12,13]) [Sl 1 (some ⟨bk,off,none⟩) n cap (ys.map nv)] ?_;refine rS (h:=?_);exact aV (fin k ⟨ey,bH,dZ⟩)
 rintro j ⟨my,pQ,Na⟩;by_cases jk:i>j
 ·refine Wq ?_;exact ap rfl [Sl 1 (some ⟨bk,off,none⟩) n cap (ys.map nv)] ⟨i,rfl,by omega,by omega,ys,hy,hp,rfl⟩ Sub.h
 ·obtain⟨z,hz⟩:=bc (l:=ys) (i:=i) (by omega);obtain⟨u,hu⟩:=bc (l:=ys) (i:=j) (by omega);refine Wq ?_;refine aZ 13 (aX [13,15] [0,1,2,3,4,5,6,7,8,9,10,11,12,13,14,15]) [Sl 1 (some ⟨bk,off,none⟩) n cap (ys.map nv)] ?_;refine Ws ?_;refine au rfl (aY (j:=j) rfl rfl rfl (by omega) (by omega)) ?_;refine au rfl (b7 (v:=nv u) rfl RS rfl (i:=j) (by omega) (dy hu)) ?_;refine dK (h:=?_);refine au rfl (aY (j:=i) rfl rfl rfl (by omega) (by omega)) ?_;refine au rfl (b7 (v:=nv z) rfl RS rfl (i:=i) (by omega) (dy hz)) ?_;refine au rfl (aY (j:=i) rfl rfl rfl (by omega) (by omega)) ?_;refine bN rfl rfl (gm (a:=some ⟨bk,off,none⟩) (off:=off) rfl rfl rfl rfl (i:=i) (by omega) (by simp;omega) ?_);refine au rfl (aY (j:=j) rfl rfl rfl (by omega) (by omega)) ?_;refine bN rfl rfl (gm (a:=some ⟨bk,off,none⟩) (off:=off) rfl rfl rfl rfl (i:=j) (by omega) (by simp;omega) ?_);rw[oL hz hu];refine dU (h:=?_);obtain⟨ws,d_⟩:∃x,x=fP ys (i) (j) (by omega) (by omega):=⟨_,rfl⟩
  have dP:ws.length=n:=by rw[d_,kG];exact hy
  have iL:ws.Perm xs:=by rw[d_];exact(k8 _ _ _ _ _).trans hp
  rw[←d_];clear d_;refine Wq ?_;rw[show((j:Int)-1)=((j-1:Nat):Int)by omega];exact aV (back (ws,i+1,j-1) ⟨dP,iL,by dsimp only;omega,by dsimp only;omega,by dsimp only;omega,by dsimp only;omega,by dsimp only;omega⟩ (by dsimp only;omega))
end
section
open Go.Proofs Tryz
open Go.Proofs Go.RowKit
theorem WA{bk off n cap a b p:Nat}{xs:List Nat}(hn:xs.length=n)(Bm:a≤p)(Wz:p<b)(hb:b≤n)(hN:n≤2^40):
 Spec prog 279 [.slice (some ⟨bk,off,none⟩) n cap,.int .i64 a,.int .i64 b,.int .i64 p] [Sl 1 (some ⟨bk,off,none⟩) n cap (xs.map nv)] (fun v B=>∃(r:Nat) (t:Bool),v= .tuple #[.int .i64 r,.bool t]∧a≤r∧r<b∧qA (some ⟨bk,off,none⟩) n cap xs B):=by
 refine x_sp func279 ntmps279 fun E cs Γ=>?_;obtain⟨zs,jK⟩:∃zs,zs=xs:=⟨_,rfl⟩
 have iT:zs.length=n:=by rw[jK];exact hn
 have j3:zs.Perm xs:=by rw[jK]
 rw[show xs.map nv=zs.map nv by rw[jK]];have RS:=Sl.reads 1 (some ⟨bk,off,none⟩) n cap (zs.map nv) (by simp[iT]);obtain⟨z,hz⟩:=bc (l:=zs) (i:=a) (by omega);obtain⟨u,hu⟩:=bc (l:=zs) (i:=p) (by omega);refine gJ (h:=?_);refine aZ 13 (aX [13,15] [0,1,2,3,4,5,6,7,8,9,10,11,12,13,14,15]) [Sl 1 (some ⟨bk,off,none⟩) n cap (zs.map nv)] ?_;refine Ws ?_;refine au rfl (aY (j:=p) rfl rfl rfl (by omega) (by omega)) ?_;refine au rfl (b7 (v:=nv u) rfl RS rfl (i:=p) (by omega) (dy hu)) ?_;refine dK (h:=?_);refine au rfl (aY (j:=a) rfl rfl rfl (by omega) (by omega)) ?_;refine au rfl (b7 (v:=nv z) rfl RS rfl (i:=a) (by omega) (dy hz)) ?_;refine au rfl (aY (j:=a) rfl rfl rfl (by omega) (by omega)) ?_;refine bN rfl rfl (gm (a:=some ⟨bk,off,none⟩) (off:=off) rfl rfl rfl rfl (i:=a) (by omega) (by simp;omega) ?_);refine au rfl (aY (j:=p) rfl rfl rfl (by omega) (by omega)) ?_;refine bN rfl rfl (gm (a:=some ⟨bk,off,none⟩) (off:=off) rfl rfl rfl rfl (i:=p) (by omega) (by simp;omega) ?_);rw[oL hz hu];refine dU (h:=?_);obtain⟨ys,d_⟩:∃x,x=fP zs (a) (p) (by omega) (by omega):=⟨_,rfl⟩
 have hy:ys.length=n:=by rw[d_,kG];exact iT
 have hp:ys.Perm xs:=by rw[d_];exact(k8 _ _ _ _ _).trans j3
 rw[←d_];clear d_;have RS:=Sl.reads 1 (some ⟨bk,off,none⟩) n cap (ys.map nv) (by simp[hy]);refine Wb ?_;rw[show((b:Int)-1)=((b-1:Nat):Int)by omega,show((a:Int)+1)=((a+1:Nat):Int)by omega];obtain⟨i0,mJ⟩:∃i0,i0=a+1:=⟨_,rfl⟩
 obtain⟨j0,D7⟩:∃j0,j0=b-1:=⟨_,rfl⟩
 rw[←mJ,←D7];skip;refine eL (α:=Nat) (fun k=>i0≤k∧k≤n+1∧(k≤j0+1∨k=i0)) (fun k=>[(10,iv k),(11,iv j0),(8,iv 0),(9,.bool false),(1,iv a),(0,.slice (some ⟨bk,off,none⟩) n cap)]) (fun _=>Sl 1 (some ⟨bk,off,none⟩) n cap (ys.map nv)::Γ) ?_ ?_;rotate_left
 ·intro td fin;refine eW (h:=?_);refine aQ (α:=Nat) (fun k=>i0≤k∧k≤n+1∧(k≤j0+1∨k=i0)) (fun k=>[(10,iv k),(11,iv j0),(8,iv 0),(9,.bool false),(1,iv a),(0,.slice (some ⟨bk,off,none⟩) n cap)]) (fun _=>Sl 1 (some ⟨bk,off,none⟩) n cap (ys.map nv)::Γ) (fun k=>n+2-k) i0 ⟨by omega,by omega,by omega⟩ x_tv Sub.h ?_;rintro k ⟨ey,bH,dZ⟩ back;refine lJ (h:=?_);by_cases h:k≤j0
  ·obtain⟨x,hx⟩:=bc (l:=ys) (i:=k) (by omega);obtain⟨w,hw⟩:=bc (l:=ys) (i:=a) (by omega);refine aZ 14 (aX [12] [0,1,2,3,4,5,6,7,8,9,10,11,12,13]) [Sl 1 (some ⟨bk,off,none⟩) n cap (ys.map nv)] ?_;refine Ws ?_;refine bE rfl rfl (aY (j:=k) rfl rfl rfl (by omega) (by omega)) ?_;refine bE rfl rfl (b7 (v:=nv x) rfl RS rfl (i:=k) (by omega) (dy hx)) ?_;refine oM (h:=?_);refine bE rfl rfl (aY (j:=a) rfl rfl rfl (by omega) (by omega)) ?_;refine bE rfl rfl (b7 (v:=nv w) rfl RS rfl (i:=a) (by omega) (dy hw)) ?_;refine gp rfl rfl (aq rfl (oK x w) rfl ?_);refine cn (h:=?_);by_cases aN:x<w
   ·rw[decide_eq_true aN];refine tK (h:=?_);exact aV (back (k+1) ⟨by omega,by omega,by omega⟩ (by omega))
   ·rw[decide_eq_false aN];refine rR (h:=?_);exact aV (fin k ⟨ey,bH,dZ⟩)
  ·refine aZ 14 (aX [] [0,1,2,3,4,5,6,7,8,9,10,11,12,13]) [Sl 1 (some ⟨bk,off,none⟩) n cap (ys.map nv)] ?_;refine rS (h:=?_);exact aV (fin k ⟨ey,bH,dZ⟩)
 rintro i ⟨ey,bH,dZ⟩;refine eM (h:=?_);refine eL (α:=Nat) (fun k=>k≤j0∧a≤k∧(i≤k+1∨k=j0)) (fun k=>[(10,iv i),(11,iv k),(8,iv 0),(9,.bool false),(1,iv a),(0,.slice (some ⟨bk,off,none⟩) n cap)]) (fun _=>Sl 1 (some ⟨bk,off,none⟩) n cap (ys.map nv)::Γ) ?_ ?_;rotate_left
 ·intro td fin;refine eW (h:=?_);refine aQ (α:=Nat) (fun k=>k≤j0∧a≤k∧(i≤k+1∨k=j0)) (fun k=>[(10,iv i),(11,iv k),(8,iv 0),(9,.bool false),(1,iv a),(0,.slice (some ⟨bk,off,none⟩) n cap)]) (fun _=>Sl 1 (some ⟨bk,off,none⟩) n cap (ys.map nv)::Γ) (fun k=>k) j0 ⟨by omega,by omega,by omega⟩ x_tv Sub.h ?_;rintro k ⟨ey,bH,dZ⟩ back;refine lJ (h:=?_);by_cases h:i≤k
  ·obtain⟨x,hx⟩:=bc (l:=ys) (i:=k) (by omega);obtain⟨w,hw⟩:=bc (l:=ys) (i:=a) (by omega);refine aZ 15 (aX [12] [0,1,2,3,4,5,6,7,8,9,10,11,12,13,14]) [Sl 1 (some ⟨bk,off,none⟩) n cap (ys.map nv)] ?_;refine Ws ?_;refine bE rfl rfl (aY (j:=k) rfl rfl rfl (by omega) (by omega)) ?_;refine bE rfl rfl (b7 (v:=nv x) rfl RS rfl (i:=k) (by omega) (dy hx)) ?_;refine oM (h:=?_);refine bE rfl rfl (aY (j:=a) rfl rfl rfl (by omega) (by omega)) ?_;refine bE rfl rfl (b7 (v:=nv w) rfl RS rfl (i:=a) (by omega) (dy hw)) ?_;refine gp rfl rfl (aq rfl (oK x w) rfl ?_);refine cn (h:=?_);by_cases aN:x<w
   ·rw[decide_eq_true aN];refine qB (h:=rR (h:=?_));exact aV (fin k ⟨ey,bH,dZ⟩)
   ·rw[decide_eq_false aN];refine qB (h:=tK (h:=?_));rw[show((k:Int)-1)=((k-1:Nat):Int)by omega];exact aV (back (k-1) ⟨by omega,by omega,by omega⟩ (by omega))
  ·refine aZ 15 (aX [] [0,1,2,3,4,5,6,7,8,9,10,11,12,13,14]) [Sl 1 (some ⟨bk,off,none⟩) n cap (ys.map nv)] ?_;refine rS (h:=?_);exact aV (fin k ⟨ey,bH,dZ⟩)
 rintro j ⟨my,pQ,Na⟩;by_cases jk:i>j
 ·obtain⟨z,hz⟩:=bc (l:=ys) (i:=j) (by omega);obtain⟨u,hu⟩:=bc (l:=ys) (i:=a) (by omega);refine Wq ?_;refine aZ 13 (aX [13,15] [0,1,2,3,4,5,6,7,8,9,10,11,12,13,14,15]) [Sl 1 (some ⟨bk,off,none⟩) n cap (ys.map nv)] ?_;refine Ws ?_;refine au rfl (aY (j:=a) rfl rfl rfl (by omega) (by omega)) ?_;refine au rfl (b7 (v:=nv u) rfl RS rfl (i:=a) (by omega) (dy hu)) ?_;refine dK (h:=?_);refine au rfl (aY (j:=j) rfl rfl rfl (by omega) (by omega)) ?_;refine au rfl (b7 (v:=nv z) rfl RS rfl (i:=j) (by omega) (dy hz)) ?_;refine au rfl (aY (j:=j) rfl rfl rfl (by omega) (by omega)) ?_;refine bN rfl rfl (gm (a:=some ⟨bk,off,none⟩) (off:=off) rfl rfl rfl rfl (i:=j) (by omega) (by simp;omega) ?_);refine au rfl (aY (j:=a) rfl rfl rfl (by omega) (by omega)) ?_;refine bN rfl rfl (gm (a:=some ⟨bk,off,none⟩) (off:=off) rfl rfl rfl rfl (i:=a) (by omega) (by simp;omega) ?_);rw[oL hz hu];refine dU (h:=?_);obtain⟨ws,d_⟩:∃x,x=fP ys (j) (a) (by omega) (by omega):=⟨_,rfl⟩
  have dP:ws.length=n:=by rw[d_,kG];exact hy
  have iL:ws.Perm xs:=by rw[d_];exact(k8 _ _ _ _ _).trans hp
  rw[←d_];clear d_;refine Wq ?_;exact ap rfl [Sl 1 (some ⟨bk,off,none⟩) n cap (ws.map nv)] ⟨j,true,rfl,by omega,by omega,ws,dP,iL,rfl⟩ Sub.h
 obtain⟨z,hz⟩:=bc (l:=ys) (i:=i) (by omega);obtain⟨u,hu⟩:=bc (l:=ys) (i:=j) (by omega);refine Wq ?_;refine aZ 13 (aX [13,15] [0,1,2,3,4,5,6,7,8,9,10,11,12,13,14,15]) [Sl 1 (some ⟨bk,off,none⟩) n cap (ys.map nv)] ?_;refine Ws ?_;refine au rfl (aY (j:=j) rfl rfl rfl (by omega) (by omega)) ?_;refine au rfl (b7 (v:=nv u) rfl RS rfl (i:=j) (by omega) (dy hu)) ?_;refine dK (h:=?_);refine au rfl (aY (j:=i) rfl rfl rfl (by omega) (by omega)) ?_;refine au rfl (b7 (v:=nv z) rfl RS rfl (i:=i) (by omega) (dy hz)) ?_;refine au rfl (aY (j:=i) rfl rfl rfl (by omega) (by omega)) ?_;refine bN rfl rfl (gm (a:=some ⟨bk,off,none⟩) (off:=off) rfl rfl rfl rfl (i:=i) (by omega) (by simp;omega) ?_);refine au rfl (aY (j:=j) rfl rfl rfl (by omega) (by omega)) ?_;refine bN rfl rfl (gm (a:=some ⟨bk,off,none⟩) (off:=off) rfl rfl rfl rfl (i:=j) (by omega) (by simp;omega) ?_);rw[oL hz hu];refine dU (h:=?_);obtain⟨ws,d_⟩:∃x,x=fP ys (i) (j) (by omega) (by omega):=⟨_,rfl⟩
 have dP:ws.length=n:=by rw[d_,kG];exact hy
 have iL:ws.Perm xs:=by rw[d_];exact(k8 _ _ _ _ _).trans hp
 rw[←d_];clear d_;refine Wb ?_;rw[show((j:Int)-1)=((j-1:Nat):Int)by omega,show((i:Int)+1)=((i+1:Nat):Int)by omega];refine eL (α:=List Nat×Nat) (fun q=>q.1.length=n∧q.1.Perm xs∧a≤q.2∧q.2<b) (fun q=>[(11,iv q.2),(1,iv a),(0,.slice (some ⟨bk,off,none⟩) n cap)]) (fun q=>Sl 1 (some ⟨bk,off,none⟩) n cap (q.1.map nv)::Γ) ?_ ?_
 ·rintro⟨ys,j⟩ ⟨hy,hp,h1,h2⟩;dsimp only at hy hp h1 h2⊢;have RS:=Sl.reads 1 (some ⟨bk,off,none⟩) n cap (ys.map nv) (by simp[hy]);obtain⟨z,hz⟩:=bc (l:=ys) (i:=j) (by omega);obtain⟨u,hu⟩:=bc (l:=ys) (i:=a) (by omega);refine eM (h:=?_);refine aZ 13 (aX [13,15] [0,1,2,3,4,5,6,7,8,9,10,11,12,13,14,15]) [Sl 1 (some ⟨bk,off,none⟩) n cap (ys.map nv)] ?_;refine Ws ?_;refine au rfl (aY (j:=a) rfl rfl rfl (by omega) (by omega)) ?_;refine au rfl (b7 (v:=nv u) rfl RS rfl (i:=a) (by omega) (dy hu)) ?_;refine dK (h:=?_);refine au rfl (aY (j:=j) rfl rfl rfl (by omega) (by omega)) ?_;refine au rfl (b7 (v:=nv z) rfl RS rfl (i:=j) (by omega) (dy hz)) ?_;refine au rfl (aY (j:=j) rfl rfl rfl (by omega) (by omega)) ?_;refine bN rfl rfl (gm (a:=some ⟨bk,off,none⟩) (off:=off) rfl rfl rfl rfl (i:=j) (by omega) (by simp;omega) ?_);refine au rfl (aY (j:=a) rfl rfl rfl (by omega) (by omega)) ?_;refine bN rfl rfl (gm (a:=some ⟨bk,off,none⟩) (off:=off) rfl rfl rfl rfl (i:=a) (by omega) (by simp;omega) ?_);rw[oL hz hu];refine dU (h:=?_);obtain⟨ws,d_⟩:∃x,x=fP ys (j) (a) (by omega) (by omega):=⟨_,rfl⟩
  have dP:ws.length=n:=by rw[d_,kG];exact hy
  have iL:ws.Perm xs:=by rw[d_];exact(k8 _ _ _ _ _).trans hp
  rw[←d_];clear d_;refine Wq ?_;exact ap rfl [Sl 1 (some ⟨bk,off,none⟩) n cap (ws.map nv)] ⟨j,false,rfl,by omega,by omega,ws,dP,iL,rfl⟩ Sub.h
 intro td WB;refine eW (h:=?_);refine aQ (α:=List Nat×Nat×Nat) (fun q=>q.1.length=n∧q.1.Perm xs∧a<q.2.1∧q.2.1≤q.2.2+2∧a≤q.2.2∧q.2.2<b∧q.2.1≤b) (fun q=>[(10,iv q.2.1),(11,iv q.2.2),(8,iv 0),(9,.bool false),(1,iv a),(0,.slice (some ⟨bk,off,none⟩) n cap)]) (fun q=>Sl 1 (some ⟨bk,off,none⟩) n cap (q.1.map nv)::Γ) (fun q=>q.2.2+2-q.2.1) (ws,i+1,j-1)
  ⟨dP,iL,by dsimp only;omega,by dsimp only;omega,by dsimp only;omega,by dsimp only;omega,by dsimp only;omega⟩ x_tv Sub.h ?_
 rintro⟨ys,i0,j0⟩ ⟨hy,hp,h1,h2,h3,h4,h5⟩ back;dsimp only at hy hp h1 h2 h3 h4 h5 back⊢;have RS:=Sl.reads 1 (some ⟨bk,off,none⟩) n cap (ys.map nv) (by simp[hy]);refine eW (h:=eM (h:=?_));refine eL (α:=Nat) (fun k=>i0≤k∧k≤n+1∧(k≤j0+1∨k=i0)) (fun k=>[(10,iv k),(11,iv j0),(8,iv 0),(9,.bool false),(1,iv a),(0,.slice (some ⟨bk,off,none⟩) n cap)]) (fun _=>Sl 1 (some ⟨bk,off,none⟩) n cap (ys.map nv)::Γ) ?_ ?_;rotate_left
 ·intro td fin;refine eW (h:=?_);refine aQ (α:=Nat) (fun k=>i0≤k∧k≤n+1∧(k≤j0+1∨k=i0)) (fun k=>[(10,iv k),(11,iv j0),(8,iv 0),(9,.bool false),(1,iv a),(0,.slice (some ⟨bk,off,none⟩) n cap)]) (fun _=>Sl 1 (some ⟨bk,off,none⟩) n cap (ys.map nv)::Γ) (fun k=>n+2-k) i0 ⟨by omega,by omega,by omega⟩ x_tv Sub.h ?_;rintro k ⟨ey,bH,dZ⟩ back;refine lJ (h:=?_);by_cases h:k≤j0
  ·obtain⟨x,hx⟩:=bc (l:=ys) (i:=k) (by omega);obtain⟨w,hw⟩:=bc (l:=ys) (i:=a) (by omega);refine aZ 14 (aX [12] [0,1,2,3,4,5,6,7,8,9,10,11,12,13]) [Sl 1 (some ⟨bk,off,none⟩) n cap (ys.map nv)] ?_;refine Ws ?_;refine bE rfl rfl (aY (j:=k) rfl rfl rfl (by omega) (by omega)) ?_;refine bE rfl rfl (b7 (v:=nv x) rfl RS rfl (i:=k) (by omega) (dy hx)) ?_;refine oM (h:=?_);refine bE rfl rfl (aY (j:=a) rfl rfl rfl (by omega) (by omega)) ?_;refine bE rfl rfl (b7 (v:=nv w) rfl RS rfl (i:=a) (by omega) (dy hw)) ?_;refine gp rfl rfl (aq rfl (oK x w) rfl ?_);refine cn (h:=?_);by_cases aN:x<w
   ·rw[decide_eq_true aN];refine tK (h:=?_);exact aV (back (k+1) ⟨by omega,by omega,by omega⟩ (by omega))
   ·rw[decide_eq_false aN];refine rR (h:=?_);exact aV (fin k ⟨ey,bH,dZ⟩)
  ·refine aZ 14 (aX [] [0,1,2,3,4,5,6,7,8,9,10,11,12,13]) [Sl 1 (some ⟨bk,off,none⟩) n cap (ys.map nv)] ?_;refine rS (h:=?_);exact aV (fin k ⟨ey,bH,dZ⟩)
 rintro i ⟨ey,bH,dZ⟩;refine eM (h:=?_);refine eL (α:=Nat) (fun k=>k≤j0∧a≤k∧(i≤k+1∨k=j0)) (fun k=>[(10,iv i),(11,iv k),(8,iv 0),(9,.bool false),(1,iv a),(0,.slice (some ⟨bk,off,none⟩) n cap)]) (fun _=>Sl 1 (some ⟨bk,off,none⟩) n cap (ys.map nv)::Γ) ?_ ?_;rotate_left
 ·intro td fin;refine eW (h:=?_);refine aQ (α:=Nat) (fun k=>k≤j0∧a≤k∧(i≤k+1∨k=j0)) (fun k=>[(10,iv i),(11,iv k),(8,iv 0),(9,.bool false),(1,iv a),(0,.slice (some ⟨bk,off,none⟩) n cap)]) (fun _=>Sl 1 (some ⟨bk,off,none⟩) n cap (ys.map nv)::Γ) (fun k=>k) j0 ⟨by omega,by omega,by omega⟩ x_tv Sub.h ?_;rintro k ⟨ey,bH,dZ⟩ back;refine lJ (h:=?_);by_cases h:i≤k
  ·obtain⟨x,hx⟩:=bc (l:=ys) (i:=k) (by omega);obtain⟨w,hw⟩:=bc (l:=ys) (i:=a) (by omega);refine aZ 15 (aX [12] [0,1,2,3,4,5,6,7,8,9,10,11,12,13,14]) [Sl 1 (some ⟨bk,off,none⟩) n cap (ys.map nv)] ?_;refine Ws ?_;refine bE rfl rfl (aY (j:=k) rfl rfl rfl (by omega) (by omega)) ?_;refine bE rfl rfl (b7 (v:=nv x) rfl RS rfl (i:=k) (by omega) (dy hx)) ?_;refine oM (h:=?_);refine bE rfl rfl (aY (j:=a) rfl rfl rfl (by omega) (by omega)) ?_;refine bE rfl rfl (b7 (v:=nv w) rfl RS rfl (i:=a) (by omega) (dy hw)) ?_;refine gp rfl rfl (aq rfl (oK x w) rfl ?_);refine cn (h:=?_);by_cases aN:x<w
   ·rw[decide_eq_true aN];refine qB (h:=rR (h:=?_));exact aV (fin k ⟨ey,bH,dZ⟩)
   ·rw[decide_eq_false aN];refine qB (h:=tK (h:=?_));rw[show((k:Int)-1)=((k-1:Nat):Int)by omega];exact aV (back (k-1) ⟨by omega,by omega,by omega⟩ (by omega))
  ·refine aZ 15 (aX [] [0,1,2,3,4,5,6,7,8,9,10,11,12,13,14]) [Sl 1 (some ⟨bk,off,none⟩) n cap (ys.map nv)] ?_;refine rS (h:=?_);exact aV (fin k ⟨ey,bH,dZ⟩)
 rintro j ⟨my,pQ,Na⟩;by_cases jk:i>j
 ·refine Wq ?_;exact aV (WB (ys,j) ⟨hy,hp,by dsimp only;omega,by dsimp only;omega⟩)
 ·obtain⟨z,hz⟩:=bc (l:=ys) (i:=i) (by omega);obtain⟨u,hu⟩:=bc (l:=ys) (i:=j) (by omega);refine Wq ?_;refine aZ 13 (aX [13,15] [0,1,2,3,4,5,6,7,8,9,10,11,12,13,14,15]) [Sl 1 (some ⟨bk,off,none⟩) n cap (ys.map nv)] ?_;refine Ws ?_;refine au rfl (aY (j:=j) rfl rfl rfl (by omega) (by omega)) ?_;refine au rfl (b7 (v:=nv u) rfl RS rfl (i:=j) (by omega) (dy hu)) ?_;refine dK (h:=?_);refine au rfl (aY (j:=i) rfl rfl rfl (by omega) (by omega)) ?_;refine au rfl (b7 (v:=nv z) rfl RS rfl (i:=i) (by omega) (dy hz)) ?_;refine au rfl (aY (j:=i) rfl rfl rfl (by omega) (by omega)) ?_;refine bN rfl rfl (gm (a:=some ⟨bk,off,none⟩) (off:=off) rfl rfl rfl rfl (i:=i) (by omega) (by simp;omega) ?_);refine au rfl (aY (j:=j) rfl rfl rfl (by omega) (by omega)) ?_;refine bN rfl rfl (gm (a:=some ⟨bk,off,none⟩) (off:=off) rfl rfl rfl rfl (i:=j) (by omega) (by simp;omega) ?_);rw[oL hz hu];refine dU (h:=?_);obtain⟨ws,d_⟩:∃x,x=fP ys (i) (j) (by omega) (by omega):=⟨_,rfl⟩
  have dP:ws.length=n:=by rw[d_,kG];exact hy
  have iL:ws.Perm xs:=by rw[d_];exact(k8 _ _ _ _ _).trans hp
  rw[←d_];clear d_;refine Wq ?_;rw[show((j:Int)-1)=((j-1:Nat):Int)by omega];exact aV (back (ws,i+1,j-1) ⟨dP,iL,by dsimp only;omega,by dsimp only;omega,by dsimp only;omega,by dsimp only;omega,by dsimp only;omega⟩ (by dsimp only;omega))
end
section
open Go.Proofs Tryz
open Go.Proofs Go.RowKit
theorem Nb{P:Program}{ρ:aK}{Γ:List HP}{ty t yt:TypeId}{x y:Operand}{ky:IntKind}{a b:Nat}{i:Int}(hx:ev ρ x=some (.int .u64 (a:Int)))(hy:ev ρ y=some (.int ky i))(hi:i=(b:Int))(hb:b≤64):
 bI P (.binOp .shl t x y yt) ty ρ Γ (.int .u64 ((a*2^b%18446744073709551616:Nat):Int)):=
 ⟨by simp,fun e o E w ax aS he bg hs=>by
  subst hi;have h1:¬(b:Int)<0:=by omega
  have h2:min (b:Int).toNat IntKind.u64.bits=b:=by simp[IntKind.bits];omega
  have h3:IntKind.u64.wrap ((a:Int)*2^b)=((a*2^b%18446744073709551616:Nat):Int):=by
   rw[show(a:Int)*2^b=((a*2^b:Nat):Int)by push_cast;rfl,wrap_u64]
  simp only[execOp,ax,he _ _ hx,he _ _ hy,eqGuard,binOp,Op.shift,if_neg h1,h2,h3,Sem.run_bind,Sem.run_pure]
  rfl⟩
theorem rV{x:Nat}(h:x<aI):Value.int .u64 (IntKind.u64.wrap (x:Int))=nv x:=by rw[nY h]
theorem HO{x:Nat}(hx:x<aI):Spec prog 244 [nv x] [] (fun v B=>v= .int .i64 (bT x:Nat)∧B=[]):=by
 refine x_sp func244 ntmps244 fun E cs Γ=>?_;refine kD (h:=?_);refine aJ rfl (LK hx) rfl ?_;refine xn (h:=?_);exact ap rfl [] ⟨rfl,rfl⟩ Sub.h
theorem WC{l:Nat}(h:l≤2^40):Spec prog 303 [.int .i64 l] [] (fun v B=>v=nv (2^bT l)∧B=[]):=by
 refine x_sp func303 ntmps303 fun E cs Γ=>?_;have hb:bT l≤41:=uR (by omega);have hp:2^bT l≤2^41:=zai (by decide) hb;refine ko (h:=aA (h:=?_));refine ft rfl rfl ?_;rw[rV (x:=l) (by unfold aI;omega)];refine aJ rfl (HO (x:=l) (by unfold aI;omega)) rfl ?_;refine cS (h:=aw (h:=?_));refine bL (Dc (a:=1) (b:=bT l) rfl rfl rfl (by omega) (by omega)) rfl ?_;rw[zbR];refine bU (h:=?_);exact ap rfl [] ⟨rfl,rfl⟩ Sub.h
theorem WD{p x:Nat}(hx:x<aI):Spec prog 304 [dp p] [Row p 0 [nv x]] (fun v B=>∃y:Nat,y<aI∧v=nv y∧B=[Row p 0 [nv y]]):=by
 refine x_sp func304 ntmps304 fun E cs Γ=>?_;have hm:∀z:Nat,z%18446744073709551616<18446744073709551616:=fun z=>za0 _ (by decide);have HQ:∀{y z:Nat},y<18446744073709551616→z<18446744073709551616→y^^^z<18446744073709551616:=fun h1 h2=>zb6 (n:=64) h1 h2;refine j7 (h:=?_);refine aZ 9 (aX [9] [0,1,2,3,4,5,6,7,8,9]) [Row p 0 [nv x]] ?_;refine Ws ?_;refine au rfl (Nb (b:=13) rfl rfl rfl (by omega)) ?_;refine au rfl (j5 _ rfl rfl hx (hm _) (.inr (.inr ⟨rfl,rfl⟩))) ?_;have h1:=HQ hx (hm (x*2^13));generalize x^^^x*2^13%18446744073709551616=x1 at h1⊢;refine D8 (h:=?_);refine bN rfl rfl (eZ rfl rfl rfl rfl (by simp) ?_);refine dU (h:=?_);dsimp only[Nat.reduceSub,List.set];refine eM (h:=?_);refine aZ 9 (aX [9] [0,1,2,3,4,5,6,7,8,9]) [Row p 0 [nv x1]] ?_;refine Ws ?_;refine au rfl (mj (a:=x1) (b:=7) rfl rfl rfl (by decide)) ?_;refine au rfl (j5 _ rfl rfl h1 (zaI (zbv _ _) h1) (.inr (.inr ⟨rfl,rfl⟩))) ?_;have h2:=HQ h1 (zaI (zbv x1 (2^7)) h1);generalize x1^^^x1/2^7=x2 at h2⊢;refine D8 (h:=?_);refine bN rfl rfl (eZ rfl rfl rfl rfl (by simp) ?_);refine dU (h:=?_);dsimp only[Nat.reduceSub,List.set];refine eM (h:=?_);refine aZ 9 (aX [9] [0,1,2,3,4,5,6,7,8,9]) [Row p 0 [nv x2]] ?_;refine Ws ?_;refine au rfl (Nb (b:=17) rfl rfl rfl (by omega)) ?_;refine au rfl (j5 _ rfl rfl h2 (hm _) (.inr (.inr ⟨rfl,rfl⟩))) ?_;have h3:=HQ h2 (hm (x2*2^17));generalize x2^^^x2*2^17%18446744073709551616=x3 at h3⊢;refine D8 (h:=?_);refine bN rfl rfl (eZ rfl rfl rfl rfl (by simp) ?_);refine dU (h:=?_);dsimp only[Nat.reduceSub,List.set];refine Wq ?_;exact ap rfl [Row p 0 [nv x3]] ⟨x3,h3,rfl,rfl⟩ Sub.h
theorem HR{bk off n cap a b p s:Nat}{xs:List Nat}(hn:xs.length=n)(ha:a<n)(hb:b<n)(hs:s≤100)(hN:n≤2^40):
 Spec prog 319 [.slice (some ⟨bk,off,none⟩) n cap,.int .i64 a,.int .i64 b,dp p] [Sl 1 (some ⟨bk,off,none⟩) n cap (xs.map nv),Row p 0 [.int .i64 s]] (fun v B=>∃(x y t:Nat),v= .tuple #[.int .i64 x,.int .i64 y]∧B=[Sl 1 (some ⟨bk,off,none⟩) n cap (xs.map nv),Row p 0 [.int .i64 t]]∧(x=a∧y=b∨x=b∧y=a)∧t≤s+1):=by
 refine x_sp func319 ntmps319 fun E cs Γ=>?_;have RS:=Sl.reads 1 (some ⟨bk,off,none⟩) n cap (xs.map nv) (by simp[hn]);obtain⟨x,hx⟩:=bc (l:=xs) (i:=a) (by omega);obtain⟨y,hy⟩:=bc (l:=xs) (i:=b) (by omega);refine gJ (h:=?_);refine aZ 9 (aX [8] [0,1,2,3,4,5,6,7,8]) [Sl 1 (some ⟨bk,off,none⟩) n cap (xs.map nv)] ?_;refine dK (h:=?_);refine au rfl (aY (j:=b) rfl rfl rfl rfl hb) ?_;refine au rfl (b7 (v:=nv y) rfl RS rfl (i:=b) (by omega) (dy hy)) ?_;refine dK (h:=?_);refine au rfl (aY (j:=a) rfl rfl rfl rfl ha) ?_;refine au rfl (b7 (v:=nv x) rfl RS rfl (i:=a) (by omega) (dy hx)) ?_;refine aE rfl (aq rfl (oK y x) rfl ?_);refine cn (h:=dU (h:=?_));by_cases aN:y<x
 ·rw[decide_eq_true aN];refine Wq ?_;rw[show((s:Int)+1)=((s+1:Nat):Int)by omega];exact ap rfl [Sl 1 (some ⟨bk,off,none⟩) n cap (xs.map nv),Row p 0 [.int .i64 (s+1:Nat)]] ⟨b,a,s+1,rfl,rfl,.inr ⟨rfl,rfl⟩,zq _⟩ Sub.h
 ·rw[decide_eq_false aN];refine Wq ?_;exact ap rfl [Sl 1 (some ⟨bk,off,none⟩) n cap (xs.map nv),Row p 0 [.int .i64 s]] ⟨a,b,s,rfl,rfl,.inl ⟨rfl,rfl⟩,Nat.le_succ _⟩ Sub.h
theorem WE{bk off n cap a b c lo hi p:Nat}{xs:List Nat}(hn:xs.length=n)(ha:lo≤a∧a<hi)(hb:lo≤b∧b<hi)(hc:lo≤c∧c<hi)(hh:hi≤n)(hN:n≤2^40):
 Spec prog 306 [.slice (some ⟨bk,off,none⟩) n cap,.int .i64 a,.int .i64 b,.int .i64 c,dp p] [Sl 1 (some ⟨bk,off,none⟩) n cap (xs.map nv),Row p 0 [.int .i64 (0:Nat)]] (fun v B=>∃(x t:Nat),v= .int .i64 x∧B=[Sl 1 (some ⟨bk,off,none⟩) n cap (xs.map nv),Row p 0 [.int .i64 t]]∧lo≤x∧x<hi):=by
 refine x_sp func306 ntmps306 fun E cs Γ=>?_;refine gJ (h:=?_);refine aJ rfl (HR (a:=a) (b:=b) (s:=0) hn (by omega) (by omega) (by omega) hN) rfl ?_;rintro v B ⟨x1,y1,t1,rfl,rfl,h1,ht1⟩;refine bW (h:=?_);refine aJ rfl (HR (a:=y1) (b:=c) (s:=t1) hn (by omega) (by omega) (by omega) hN) rfl ?_;rintro v B ⟨x2,y2,t2,rfl,rfl,h2,ht2⟩;refine bW (h:=?_);refine aJ rfl (HR (a:=x1) (b:=x2) (s:=t2) hn (by omega) (by omega) (by omega) hN) rfl ?_;rintro v B ⟨x3,y3,t3,rfl,rfl,h3,ht3⟩;refine bW (h:=?_);exact ap rfl [Sl 1 (some ⟨bk,off,none⟩) n cap (xs.map nv),Row p 0 [.int .i64 t3]] ⟨y3,t3,rfl,rfl,by omega,by omega⟩ Sub.h
theorem WG{bk off n cap a b:Nat}{xs:List Nat}(hn:xs.length=n)(dS:a+12<b)(hb:b≤n)(hN:n≤49):
 Spec prog 274 [.slice (some ⟨bk,off,none⟩) n cap,.int .i64 a,.int .i64 b] [Sl 1 (some ⟨bk,off,none⟩) n cap (xs.map nv)] (fun v B=>∃(x:Nat) (h:Int),v= .tuple #[.int .i64 x,.int .i64 h]∧B=[Sl 1 (some ⟨bk,off,none⟩) n cap (xs.map nv)]∧a≤x∧x<b):=by
 refine x_sp func274 ntmps274 fun E cs Γ=>?_;obtain⟨q,hq⟩:∃q,q=(b-a)/4:=⟨_,rfl⟩
 refine gJ (h:=?_);refine ao (aC rfl fun p9=>?_);refine Wq ?_;rw[show((b:Int)-a)/4=(q:Nat)by omega];rw[show(a:Int)+(q:Nat)*1=((a+q:Nat):Int)by omega,show(a:Int)+(q:Nat)*2=((a+q*2:Nat):Int)by omega,show(a:Int)+(q:Nat)*3=((a+q*3:Nat):Int)by omega];refine aJ rfl (WE (a:=a+q) (b:=a+q*2) (c:=a+q*3) (lo:=a) (hi:=b) hn (by omega) (by omega) (by omega) hb (by omega)) rfl ?_;rintro v B ⟨x,t,rfl,rfl,ku,mq⟩;refine a_ (h:=?_);by_cases h0:t=0
 ·refine Wq ?_;exact ap rfl [Sl 1 (some ⟨bk,off,none⟩) n cap (xs.map nv)] ⟨x,_,rfl,rfl,ku,mq⟩ Sub.h
 ·by_cases oy:t=12
  ·refine Wq ?_;exact ap rfl [Sl 1 (some ⟨bk,off,none⟩) n cap (xs.map nv)] ⟨x,_,rfl,rfl,ku,mq⟩ Sub.h
  ·refine Wq ?_;exact ap rfl [Sl 1 (some ⟨bk,off,none⟩) n cap (xs.map nv)] ⟨x,_,rfl,rfl,ku,mq⟩ Sub.h
end
section
open Go.Proofs Tryz
open Go.Proofs Go.RowKit
theorem WH{r k:Nat}:r&&&(2^k-1)=r%2^k:=zba r k
theorem WI{P:Program}{ρ:aK}{Γ:List HP}{ty t yt:TypeId}{x y:Operand}{a b:Nat}(hx:ev ρ x=some (.int .u64 (a:Int)))(hy:ev ρ y=some (.int .u64 (b:Int)))(dS:b≤a)(ha:a<18446744073709551616):bI P (.binOp .sub t x y yt) ty ρ Γ (.int .u64 ((a-b:Nat):Int)):=by
 have h:=Rf (P:=P) (ty:=ty) (Γ:=Γ) (t:=t) (yt:=yt) hx hy;rw[show(a:Int)-b=((a-b:Nat):Int)by omega,nY (by omega)]at h;exact h
theorem WJ{l:Nat}(h:0<l):2^bT l≤2*l:=by
 have:=Hx h;obtain⟨h1,_⟩:=DF h;have:2^bT l=2*2^(bT l-1):=by rw[←Nat.pow_succ'];congr 1;omega
 omega
theorem WK{bk off n cap a b:Nat}{xs:List Nat}(hn:xs.length=n)(dS:a+12<b)(hb:b≤n)(hN:n≤49):
 Spec prog 273 [.slice (some ⟨bk,off,none⟩) n cap,.int .i64 a,.int .i64 b] [Sl 1 (some ⟨bk,off,none⟩) n cap (xs.map nv)] (fun v B=>v= .tuple #[]∧qA (some ⟨bk,off,none⟩) n cap xs B):=by
 refine x_sp func273 ntmps273 fun E cs Γ=>?_;obtain⟨l,hl⟩:∃l,l=b-a:=⟨_,rfl⟩
 obtain⟨q,hq⟩:∃q,q=l/4:=⟨_,rfl⟩
 have k7:=WJ (l:=l) (by omega);have j3:0<2^bT l:=zbE (by decide);refine gJ (h:=?_);rw[show(b:Int)-a=(l:Nat)by omega];refine aw (h:=?_);refine ft rfl rfl ?_;rw[rV (x:=l) (by unfold aI;omega)];refine ao (aC rfl fun p7=>?_);refine Wq ?_;refine aJ rfl (WC (l:=l) (by omega)) rfl ?_;refine jO (h:=?_);rw[show(l:Int)/4=(q:Nat)by omega,show(a:Int)+(q:Nat)*2-1=((a+q*2-1:Nat):Int)by omega];refine aQ (α:=List Nat×Nat×Nat) (fun z=>z.1.length=n∧z.1.Perm xs∧z.2.2<aI∧z.2.1≤a+q*2+2) (fun z=>[(9,iv z.2.1),(8,nv (2^bT l)),(7,dp p7),(6,iv l),(1,iv a),(0,.slice (some ⟨bk,off,none⟩) n cap)]) (fun z=>Sl 1 (some ⟨bk,off,none⟩) n cap (z.1.map nv)::Row p7 0 [nv z.2.2]::Γ) (fun z=>a+q*2+2-z.2.1) (xs,a+q*2-1,l)
  ⟨hn,.refl _,by dsimp only;unfold aI;omega,by dsimp only;omega⟩ x_tv Sub.h ?_
 rintro⟨ys,i,x⟩ ⟨hy,hp,hx,hi⟩ back;dsimp only at hy hp hx hi back⊢;have RS:=Sl.reads 1 (some ⟨bk,off,none⟩) n cap (ys.map nv) (by simp[hy]);refine Wl ?_;by_cases h:i≤a+q*2+1
 ·refine Wq ?_;rw[show(l:Int)/4=(q:Nat)by omega];refine aJ rfl (WD (p:=p7) hx) rfl ?_;rintro v B ⟨r,hr,rfl,rfl⟩;refine a_ (h:=fv (h:=?_));refine bL (WI (a:=2^bT l) (b:=1) rfl rfl (by omega) (by omega)) rfl ?_;refine aw (h:=?_);refine bL (j5 _ rfl rfl hr (by omega) (.inl ⟨rfl,rfl⟩)) rfl ?_;rw[WH];have hm:r%2^bT l<2^bT l:=za0 _ j3;generalize r%2^bT l=m at hm⊢;refine aw (h:=?_);refine ft rfl rfl ?_;rw[gE (x:=(m:Int)) (by omega)];refine nr (h:=?_);refine eL (α:=Nat) (fun o=>o<l) (fun o=>[(10,iv o),(9,iv i),(8,nv (2^bT l)),(7,dp p7),(6,iv l),(1,iv a),(0,.slice (some ⟨bk,off,none⟩) n cap)]) (fun _=>Row p7 0 [nv r]::Sl 1 (some ⟨bk,off,none⟩) n cap (ys.map nv)::Γ) ?_ ?_;rotate_left
  ·intro td fin;by_cases ja:m≥l
   ·refine Wq ?_;rw[show(m:Int)-l=((m-l:Nat):Int)by omega];exact aV (fin (m-l) (by omega))
   ·refine Wq ?_;exact aV (fin m (by omega))
  rintro o ho;obtain⟨z,hz⟩:=bc (l:=ys) (i:=i) (by omega);obtain⟨u,hu⟩:=bc (l:=ys) (i:=a+o) (by omega);refine aZ 17 (aX [17,19] [0,1,2,3,4,5,6,7,8,9,10,11,12,13,14,15,16,17,18,19]) [Sl 1 (some ⟨bk,off,none⟩) n cap (ys.map nv)] ?_;refine Ws ?_;refine au rfl (aY (j:=a+o) rfl rfl rfl (by omega) (by omega)) ?_;refine au rfl (b7 (v:=nv u) rfl RS rfl (i:=a+o) (by omega) (dy hu)) ?_;refine dK (h:=?_);refine au rfl (aY (j:=i) rfl rfl rfl (by omega) (by omega)) ?_;refine au rfl (b7 (v:=nv z) rfl RS rfl (i:=i) (by omega) (dy hz)) ?_;refine au rfl (aY (j:=i) rfl rfl rfl (by omega) (by omega)) ?_;refine bN rfl rfl (gm (a:=some ⟨bk,off,none⟩) (off:=off) rfl rfl rfl rfl (i:=i) (by omega) (by simp;omega) ?_);refine au rfl (aY (j:=a+o) rfl rfl rfl (by omega) (by omega)) ?_;refine bN rfl rfl (gm (a:=some ⟨bk,off,none⟩) (off:=off) rfl rfl rfl rfl (i:=a+o) (by omega) (by simp;omega) ?_);rw[oL hz hu];refine dU (h:=?_);obtain⟨ws,d_⟩:∃x,x=fP ys (i) (a+o) (by omega) (by omega):=⟨_,rfl⟩
  have dP:ws.length=n:=by rw[d_,kG];exact hy
  have iL:ws.Perm xs:=by rw[d_];exact(k8 _ _ _ _ _).trans hp
  rw[←d_];clear d_;refine Wq ?_;exact aV (back (ws,i+1,r) ⟨dP,iL,hr,by dsimp only;omega⟩ (by dsimp only;omega))
 ·refine Wq ?_;exact cJ _ ⟨rfl,ys,hy,hp,rfl⟩ Sub.h
theorem WL{bk off n cap:Nat}(hN:n≤49):∀(m a b:Nat) (gK:Int) (xs:List Nat),b-a<m→a≤b→b≤n→xs.length=n→0≤gK∧gK≤100→
 Spec prog 243 [.slice (some ⟨bk,off,none⟩) n cap,.int .i64 a,.int .i64 b,.int .i64 gK] [Sl 1 (some ⟨bk,off,none⟩) n cap (xs.map nv)] (fun v B=>v= .tuple #[]∧qA (some ⟨bk,off,none⟩) n cap xs B):=by
 intro m;induction m with
 |zero=>intro a b gK xs h;omega
 |succ m ih=>
  intro a b gK xs hm dS hb hn oE;refine x_sp func243 ntmps243 fun E cs Γ=>?_;refine eg (h:=Wb ?_);refine eW (h:=?_);refine aQ (α:=List Nat×Nat×Nat×Int×Bool×Bool) (fun q=>q.1.length=n∧q.1.Perm xs∧q.2.1≤q.2.2.1∧q.2.2.1≤n∧q.2.2.1-q.2.1<m+1∧0≤q.2.2.2.1∧q.2.2.2.1≤100) (fun q=>[(8,.bool q.2.2.2.2.1),(9,.bool q.2.2.2.2.2),(3,iv q.2.2.2.1),(2,iv q.2.2.1),(1,iv q.2.1),(0,.slice (some ⟨bk,off,none⟩) n cap)]) (fun q=>Sl 1 (some ⟨bk,off,none⟩) n cap (q.1.map nv)::Γ) (fun q=>q.2.2.1-q.2.1) (xs,a,b,gK,true,true)
   ⟨hn,.refl _,dS,hb,hm,oE.1,oE.2⟩ x_tv Sub.h ?_
  clear hm dS hb hn oE a b gK;rintro⟨ys,a,b,gK,wb,wp⟩ ⟨hy,hp,dS,hb,hm,e_,iq⟩ back;dsimp only at hy hp dS hb hm e_ iq back⊢;refine Wl ?_;by_cases oy:b-a≤12
  ·refine Wq ?_;refine aJ rfl (Wn hy dS hb (by omega)) rfl ?_;rintro v B ⟨rfl,zs,hz,dG,rfl⟩;refine mY (h:=?_);exact ap (vs:=[]) rfl [Sl 1 (some ⟨bk,off,none⟩) n cap (zs.map nv)] ⟨rfl,zs,hz,dG.trans hp,rfl⟩ Sub.h
  refine Wq ?_;by_cases qU:gK=0
  ·refine Wq ?_;refine aJ rfl (Wp hy (by omega) hb (by omega)) rfl ?_;rintro v B ⟨rfl,zs,hz,dG,rfl⟩;refine mY (h:=?_);exact ap (vs:=[]) rfl [Sl 1 (some ⟨bk,off,none⟩) n cap (zs.map nv)] ⟨rfl,zs,hz,dG.trans hp,rfl⟩ Sub.h
  refine Wb ?_;have Nc:a+12<b:=by omega
  have hv:(b:Int)-a=((b-a:Nat):Int):=by omega
  refine eL (α:=List Nat×Int) (fun q=>q.1.length=n∧q.1.Perm xs∧0≤q.2∧q.2≤100) (fun q=>[(10,iv ((b:Int)-a)),(8,.bool wb),(9,.bool wp),(3,iv q.2),(2,iv b),(1,iv a),(0,.slice (some ⟨bk,off,none⟩) n cap)]) (fun q=>Sl 1 (some ⟨bk,off,none⟩) n cap (q.1.map nv)::Γ) ?_ ?_;rotate_left
  ·intro td fin;cases wb with
   |true=>
    refine rI (h:=?_);exact aV (fin (ys,gK) ⟨hy,hp,e_,iq⟩)
   |false=>
    refine Wq ?_;refine aJ rfl (WK hy Nc hb hN) rfl ?_;rintro v B ⟨rfl,zs,hz,dG,rfl⟩;refine bW (h:=?_);exact aV (fin (zs,gK-1) ⟨hz,dG.trans hp,by dsimp only;omega,by dsimp only;omega⟩)
  clear qU e_ iq hy hp;rintro⟨ys,gK⟩ ⟨hy,hp,e_,iq⟩;dsimp only at hy hp e_ iq⊢;refine Wb ?_;refine aJ rfl (WG hy Nc hb hN) rfl ?_;rintro v B ⟨p,hint,rfl,rfl,oF,k7⟩;refine qC (h:=eM (h:=?_));refine eL (α:=List Nat×Nat×Int) (fun q=>q.1.length=n∧q.1.Perm xs∧a≤q.2.1∧q.2.1<b) (fun q=>[(12,iv q.2.2),(11,iv q.2.1),(10,iv ((b:Int)-a)),(8,.bool wb),(9,.bool wp),(3,iv gK),(2,iv b),(1,iv a),(0,.slice (some ⟨bk,off,none⟩) n cap)]) (fun q=>Sl 1 (some ⟨bk,off,none⟩) n cap (q.1.map nv)::Γ) ?_ ?_;rotate_left
  ·intro td fin;by_cases h2:hint=2
   ·refine Wq ?_;refine aJ rfl (Wu hy (by omega) hb (by omega)) rfl ?_;rintro v B ⟨rfl,zs,hz,dG,rfl⟩;refine bW (h:=?_);rw[show(b:Int)-1-(p-a)=((b-1-(p-a):Nat):Int)by omega];exact aV (fin (zs,b-1-(p-a),1) ⟨hz,dG.trans hp,by dsimp only;omega,by dsimp only;omega⟩)
   ·refine Wq ?_;exact aV (fin (ys,p,hint) ⟨hy,hp,oF,k7⟩)
  clear oF k7 hy hp;rintro⟨ys,p,hint⟩ ⟨hy,hp,oF,k7⟩;dsimp only at hy hp oF k7⊢;refine eM (h:=?_);refine eL (α:=Unit) (fun _=>True) (fun q=>[(11,iv p),(10,iv ((b:Int)-a)),(8,.bool wb),(9,.bool wp),(3,iv gK),(2,iv b),(1,iv a),(0,.slice (some ⟨bk,off,none⟩) n cap)]) (fun _=>Sl 1 (some ⟨bk,off,none⟩) n cap (ys.map nv)::Γ) ?_ ?_;rotate_left
  ·intro td fin;have on:∀ρ,wk [(11,Value.int .i64 p),(10,iv ((b:Int)-a)),(8,.bool wb),(9,.bool wp),(3,iv gK),(2,iv b),(1,iv a),(0,.slice (some ⟨bk,off,none⟩) n cap)] ρ→Ex prog _ 134 [] td ρ (Sl 1 (some ⟨bk,off,none⟩) n cap (ys.map nv)::Γ):=fun ρ h=>bf (fin () trivial) h (.refl _);cases wb with
   |false=>(refine Wq ?_);exact on _ ⟨rfl,rfl,rfl,rfl,rfl,rfl,rfl,rfl,trivial⟩
   |true=>
    cases wp with
    |false=>(refine Wq ?_);exact on _ ⟨rfl,rfl,rfl,rfl,rfl,rfl,rfl,rfl,trivial⟩
    |true=>
     by_cases h1:hint=1
     ·refine Wq ?_;refine aJ rfl (Wx hy (by omega) hb hN) rfl ?_;rintro v B ⟨r,rfl,rfl⟩;refine a_ (h:=?_);cases r with
      |true=>
       refine rk (h:=?_);exact ap (vs:=[]) rfl [Sl 1 (some ⟨bk,off,none⟩) n cap (ys.map nv)] ⟨rfl,ys,hy,hp,rfl⟩ Sub.h
      |false=>(refine eR (h:=rI (h:=?_)));exact on _ ⟨rfl,rfl,rfl,rfl,rfl,rfl,rfl,rfl,trivial⟩
     ·refine Wq ?_;exact on _ ⟨rfl,rfl,rfl,rfl,rfl,rfl,rfl,rfl,trivial⟩
  rintro _ -;have RS:=Sl.reads 1 (some ⟨bk,off,none⟩) n cap (ys.map nv) (by simp[hy]);refine lJ (h:=?_);refine eL (α:=Bool) (fun _=>True) (fun c=>[(87,.bool c),(11,iv p),(10,iv ((b:Int)-a)),(8,.bool wb),(9,.bool wp),(3,iv gK),(2,iv b),(1,iv a),(0,.slice (some ⟨bk,off,none⟩) n cap)]) (fun _=>Sl 1 (some ⟨bk,off,none⟩) n cap (ys.map nv)::Γ) ?_ ?_;rotate_left
  ·intro td fin;by_cases WN:a>0
   ·obtain⟨x,hx⟩:=bc (l:=ys) (i:=a-1) (by omega);obtain⟨y,gu⟩:=bc (l:=ys) (i:=p) (by omega);refine aZ 15 (aX [12] [0,1,2,3,4,5,6,7,8,9,10,11,12,13,14]) [Sl 1 (some ⟨bk,off,none⟩) n cap (ys.map nv)] ?_;refine Ws ?_;refine bE rfl rfl (aY (j:=a-1) rfl rfl rfl (by omega) (by omega)) ?_;refine bE rfl rfl (b7 (v:=nv x) rfl RS rfl (i:=a-1) (by omega) (dy hx)) ?_;refine oM (h:=?_);refine bE rfl rfl (aY (j:=p) rfl rfl rfl (by omega) (by omega)) ?_;refine bE rfl rfl (b7 (v:=nv y) rfl RS rfl (i:=p) (by omega) (dy gu)) ?_;refine gp rfl rfl (aq rfl (oK x y) rfl ?_);refine cn (h:=qB (h:=tJ (h:=?_)));exact aV (fin _ trivial)
   ·refine aZ 15 (aX [] [0,1,2,3,4,5,6,7,8,9,10,11,12,13,14]) [Sl 1 (some ⟨bk,off,none⟩) n cap (ys.map nv)] ?_;refine kC (h:=?_);exact aV (fin _ trivial)
  rintro c -;cases c with
  |true=>
   refine Wq ?_;refine aJ rfl (Wy hy oF k7 hb (by omega)) rfl ?_;rintro v B ⟨r,rfl,js,ie,zs,hz,dG,rfl⟩;refine bW (h:=?_);exact aV (back (zs,r,b,gK,wb,wp) ⟨hz,dG.trans hp,by dsimp only;omega,by dsimp only;omega,by dsimp only;omega,e_,iq⟩ (by dsimp only;omega))
  |false=>
   refine Wq ?_;refine aJ rfl (WA hy oF k7 hb (by omega)) rfl ?_;rintro v B ⟨r,t,rfl,js,ie,zs,hz,dG,rfl⟩;refine bW (h:=?_);by_cases hlr:(r:Int)-a<b-r
   ·refine aA (h:=?_);refine wz rfl rfl rfl (fun _=>?_) (fun _=>?_)
    ·refine Wq ?_;refine aJ rfl (ih a r gK zs (by omega) (by omega) (by omega) hz ⟨e_,iq⟩) rfl ?_;rintro v B ⟨rfl,us,rT,rU,rfl⟩;refine bW (h:=?_);rw[show(r:Int)+1=((r+1:Nat):Int)by omega];exact aV (back (us,r+1,b,gK,true,t) ⟨rT,rU.trans (dG.trans hp),by dsimp only;omega,by dsimp only;omega,by dsimp only;omega,e_,iq⟩ (by dsimp only;omega))
    ·refine Wq ?_;refine aJ rfl (ih a r gK zs (by omega) (by omega) (by omega) hz ⟨e_,iq⟩) rfl ?_;rintro v B ⟨rfl,us,rT,rU,rfl⟩;refine bW (h:=?_);rw[show(r:Int)+1=((r+1:Nat):Int)by omega];exact aV (back (us,r+1,b,gK,false,t) ⟨rT,rU.trans (dG.trans hp),by dsimp only;omega,by dsimp only;omega,by dsimp only;omega,e_,iq⟩ (by dsimp only;omega))
   ·refine aA (h:=?_);refine wz rfl rfl rfl (fun _=>?_) (fun _=>?_)
    ·refine Wq ?_;rw[show(r:Int)+1=((r+1:Nat):Int)by omega];refine aJ rfl (ih (r+1) b gK zs (by omega) (by omega) (by omega) hz ⟨e_,iq⟩) rfl ?_;rintro v B ⟨rfl,us,rT,rU,rfl⟩;refine bW (h:=?_);exact aV (back (us,a,r,gK,true,t) ⟨rT,rU.trans (dG.trans hp),by dsimp only;omega,by dsimp only;omega,by dsimp only;omega,e_,iq⟩ (by dsimp only;omega))
    ·refine Wq ?_;rw[show(r:Int)+1=((r+1:Nat):Int)by omega];refine aJ rfl (ih (r+1) b gK zs (by omega) (by omega) (by omega) hz ⟨e_,iq⟩) rfl ?_;rintro v B ⟨rfl,us,rT,rU,rfl⟩;refine bW (h:=?_);exact aV (back (us,a,r,gK,false,t) ⟨rT,rU.trans (dG.trans hp),by dsimp only;omega,by dsimp only;omega,by dsimp only;omega,e_,iq⟩ (by dsimp only;omega))
theorem WO{ad:Option Addr}{cap:Nat}:Spec prog 271 [.slice ad 0 cap,.int .i64 0,.int .i64 0] [] (fun v B=>v= .tuple #[]∧B=[]):=by
 refine x_sp func271 ntmps271 fun E cs Γ=>?_;refine mR (h:=?_);refine aQ (α:=Unit) (fun _=>True) (fun _=>[(6,iv 1),(2,iv 0)]) (fun _=>Γ) (fun _=>0) () trivial x_tv Sub.h ?_;rintro _ _ -;refine Wq ?_;exact cJ _ ⟨rfl,rfl⟩ Sub.h
theorem WQ{ad:Option Addr}{cap:Nat}(gK:Int):Spec prog 243 [.slice ad 0 cap,.int .i64 0,.int .i64 0,.int .i64 gK] [] (fun v B=>v= .tuple #[]∧B=[]):=by
 refine x_sp func243 ntmps243 fun E cs Γ=>?_;refine mR (h:=?_);refine aQ (α:=Unit) (fun _=>True) (fun _=>[(2,iv 0),(1,iv 0),(0,.slice ad 0 cap)]) (fun _=>Γ) (fun _=>0) () trivial x_tv Sub.h ?_;rintro _ _ -;refine Wq ?_;refine aJ rfl WO rfl ?_;refine xJ (h:=?_);exact ap (vs:=[]) rfl [] ⟨rfl,rfl⟩ Sub.h
theorem HS{ad:Option Addr}{cap:Nat}{xs:List Nat}(hN:xs.length≤49):
 Spec prog 205 [.slice ad xs.length cap] [Sl 1 ad xs.length cap (xs.map nv)] (fun v B=>v= .tuple #[]∧qA ad xs.length cap xs B):=by
 refine x_sp func205 ntmps205 fun E cs Γ=>?_;have RS:=Sl.reads 1 ad xs.length cap (xs.map nv) (by simp);have hb:bT xs.length≤6:=uR (by simp only[Nat.reducePow];omega);refine jx (h:=?_);by_cases h0:xs.length=0
 ·have e:xs=[]:=List.length_eq_zero_iff.1 h0;subst e;refine aA (h:=?_);refine ft rfl rfl ?_;rw[rV (x:=([]:List Nat).length) (by decide)];refine aJ rfl (HO (x:=([]:List Nat).length) (by decide)) rfl ?_;refine cS (h:=aw (h:=?_));refine aq (vs:=[.slice ad 0 cap,.int .i64 0,.int .i64 0,_]) rfl (WQ _) rfl ?_;refine xJ (h:=?_);exact cJ [Sl 1 ad ([]:List Nat).length cap (([]:List Nat).map nv)] ⟨rfl,[],rfl,.refl _,rfl⟩ Sub.h
 ·refine jw RS (by omega) fun b off ha=>?_;subst ha;refine aA (h:=?_);refine ft rfl rfl ?_;rw[rV (x:=xs.length) (by unfold aI;omega)];refine aJ rfl (HO (x:=xs.length) (by unfold aI;omega)) rfl ?_;refine cS (h:=aw (h:=?_));refine aq (vs:=[.slice (some ⟨b,off,none⟩) xs.length cap,.int .i64 (0:Nat),.int .i64 xs.length,.int .i64 (bT xs.length:Nat)]) rfl (WL hN _ 0 xs.length _ xs (za7 _) (by omega) (zq _) rfl ⟨by omega,by omega⟩) rfl ?_;rintro v B ⟨rfl,zs,hz,dG,rfl⟩;refine mY (h:=?_);exact cJ [Sl 1 (some ⟨b,off,none⟩) xs.length cap (zs.map nv)] ⟨rfl,zs,hz,dG,rfl⟩ Sub.h
theorem WR{A:HP}{ad:Option Addr}{cap:Nat}{xs:List Nat}(R:Reads A 1 ad xs.length (xs.map nv))(hd:xs.Nodup)(hl:xs.length≤2^40):
 Spec prog 206 [.slice ad xs.length cap] [A] (fun v B=>v= .slice ad xs.length cap∧B=[A]):=by
 refine x_sp func206 ntmps206 fun E cs Γ=>?_;refine jx (h:=?_);by_cases h2:xs.length<2
 ·refine Wq ?_;exact ap rfl [A] ⟨rfl,rfl⟩ Sub.h
 ·refine jw R (by omega) fun b off ha=>?_;subst ha;refine Wq ?_;refine aQ (α:=Nat) (fun i=>0<i∧i≤xs.length) (fun i=>[(3,iv i),(0,.slice (some ⟨b,off,none⟩) xs.length cap)]) (fun _=>A::Γ) (fun i=>xs.length-i) 1 ⟨by omega,by omega⟩ x_tv Sub.h ?_;rintro i ⟨h1,hi⟩ back;refine Wl ?_;by_cases h:i<xs.length
  ·obtain⟨x,hx⟩:=bc (l:=xs) (i:=i) (by omega);obtain⟨y,gu⟩:=bc (l:=xs) (i:=i-1) (by omega);have cE:x≠y:=fun e=>by
    subst e;have:=(zbg h hd).1 (hx.trans gu.symm);omega
   refine Wq ?_;refine aZ 10 (aX [] [0,1,2,3,4,5,6,7,8,9]) [A] ?_;refine dK (h:=?_);refine au rfl (aY (j:=i) rfl rfl rfl rfl h) ?_;refine au rfl (b7 (v:=nv x) rfl R rfl (i:=i) (by omega) (dy hx)) ?_;refine dK (h:=L7 (h:=?_));refine au rfl (aY (j:=i-1) rfl rfl rfl (by omega) (by omega)) ?_;refine au rfl (b7 (v:=nv y) rfl R rfl (i:=i-1) (by omega) (dy gu)) ?_;refine au rfl (Rq rfl rfl (by omega)) ?_;refine dQ (h:=?_);exact aV (back (i+1) ⟨by omega,by omega⟩ (by omega))
  ·obtain rfl:i=xs.length:=by omega
   refine Wq ?_;exact ap rfl [A] ⟨rfl,rfl⟩ Sub.h
end
section
open Go.Proofs Tryz
open Go.Proofs Go.RowKit
theorem Bn{i j:Nat}(h0:0<j)(h:cW j=i):j=2*i+1∨j=2*i+2:=by unfold cW at h;omega
theorem WT(i:Nat):cW (2*i+1)=i:=by unfold cW;omega
theorem WU(i:Nat):cW (2*i+2)=i:=by unfold cW;omega
theorem HT(n:Nd):ei n n:=by unfold ei;omega
theorem WV{bk off cap i:Nat}{l:List Nd}(h:i<l.length)(hl:l.length≤8)(hw:∀n∈l,n.Wf)(hS:rN ei (dR l) l.length i):
 Spec prog 249 [.slice (some ⟨bk,off,none⟩) l.length cap,.int .i64 i] [Sl 6 (some ⟨bk,off,none⟩) l.length cap (cw l)] (fun v B=>∃(l':List Nd),v= .tuple #[]∧B=[Sl 6 (some ⟨bk,off,none⟩) l'.length cap (cw l')]∧l'.length=l.length∧l'.Perm l∧Heap ei (dR l') l'.length):=by
 refine x_sp func249 ntmps249 fun E cs Γ=>?_;obtain⟨N,hN⟩:∃N,N=l.length:=⟨_,rfl⟩
 rw[←hN]at h hl hS⊢;refine eg (h:=Wl ?_);refine aQ (α:=List Nd×Nat) (fun q=>q.1.length=N∧q.1.Perm l∧q.2<N∧rN ei (dR q.1) N q.2) (fun q=>[(1,iv q.2),(0,.slice (some ⟨bk,off,none⟩) N cap)]) (fun q=>Sl 6 (some ⟨bk,off,none⟩) N cap (cw q.1)::Γ) (fun q=>N-q.2) (l,i)
  ⟨hN.symm,.refl _,h,hS⟩ x_tv Sub.h ?_
 rintro⟨l',j⟩ ⟨hlen,hp,hj,eD⟩ back;dsimp only at hlen hp hj eD back⊢;have RS:=Sl.reads 6 (some ⟨bk,off,none⟩) N cap (cw l') (by rw[mA,hlen]);obtain⟨n,hn⟩:=bc (l:=l') (i:=j) (by omega);have yK:=hw n (hp.mem_iff.1 (zc hn));refine lN (h:=?_);by_cases hc:2*j+1<N;rotate_left
 ·refine Wq ?_;have H:=eD.done fun i h0 h1 h2=>(by rcases Bn h0 h2 with rfl|rfl<;>omega);exact cJ [Sl 6 (some ⟨bk,off,none⟩) l'.length cap (cw l')] ⟨l',rfl,rfl,by rw[hlen,hN],hp,by rw[hlen];exact H⟩ (by rw[hlen];exact Sub.h)
 refine Wq ?_;rw[show(2*(j:Int)+1)=((2*j+1:Nat):Int)by omega];obtain⟨c,tL⟩:∃c,c=2*j+1:=⟨_,rfl⟩
 rw[←tL]at hc⊢;refine jw RS (by omega) fun b0 D9 ha=>?_;cases ha;obtain⟨m,hm⟩:=bc (l:=l') (i:=c) (by omega);have Bi:=hw m (hp.mem_iff.1 (zc hm));skip;refine eL (α:=Bool) (fun b=>∃k,k=(if b then c+1 else c)∧0<k∧k<N∧cW k=j∧∀i,0<i→i<N→cW i=j→ei (dR l' k) (dR l' i)) (fun b=>[(31,.bool b),(4,iv c),(1,iv j),(0,.slice (some ⟨bk,off,none⟩) N cap)]) (fun _=>Sl 6 (some ⟨bk,off,none⟩) N cap (cw l')::Γ) ?_ ?_;rotate_left
 ·intro td xK;have CW:cW c=j:=by rw[tL];exact WT j
  by_cases h1:c+1<N
  ·obtain⟨u,hu⟩:=bc (l:=l') (i:=c+1) (by omega);have HU:=hw u (hp.mem_iff.1 (zc hu));have WW:cW (c+1)=j:=by rw[tL];exact WU j
   refine aZ 18 (aX [15] [0,1,2,3,4,5,6,7,8,9,10,11,12,13,14,15,16,17]) [Sl 6 (some ⟨bk,off,none⟩) N cap (cw l')] ?_;refine Ws ?_;refine bE rfl rfl (aY (j:=c+1) rfl rfl rfl (by omega) (by omega)) ?_;refine bE rfl rfl (eQ (us:=fH u) rfl RS rfl (i:=(c+1)*6) rfl rfl fun k v hv=>mW hu hv) ?_;refine oM (h:=?_);refine bE rfl rfl (aY (j:=c) rfl rfl rfl rfl (by omega)) ?_;refine bE rfl rfl (eQ (us:=fH m) rfl RS rfl (i:=c*6) rfl rfl fun k v hv=>mW hm hv) ?_;refine gp rfl rfl (aq (vs:=[j9 u,j9 m]) rfl (DP HU Bi) rfl ?_);refine cn (h:=?_);by_cases ho:tG u m<0
   ·have hle:=DN ((vh u m).1 ho);refine DV (h:=tJ (h:=?_));refine aV (xK true ⟨c+1,rfl,by omega,h1,WW,fun i h0 _ h2=>?_⟩);rcases Bn h0 h2 with rfl|rfl
    ·rw[←tL,mB hu,mB hm];exact hle
    ·rw[show 2*j+2=c+1 by omega];exact HT _
   ·have hle:ei m u:=zI fun h=>ho ((vh u m).2 h);refine Bj (h:=tJ (h:=?_));refine aV (xK false ⟨c,rfl,by omega,hc,CW,fun i h0 _ h2=>?_⟩);rcases Bn h0 h2 with rfl|rfl
    ·rw[←tL];exact HT _
    ·rw[show 2*j+2=c+1 by omega,mB hu,mB hm];exact hle
  ·refine aZ 18 (aX [] [0,1,2,3,4,5,6,7,8,9,10,11,12,13,14,15,16,17]) [Sl 6 (some ⟨bk,off,none⟩) N cap (cw l')] ?_;refine kC (h:=?_);refine aV (xK false ⟨c,rfl,by omega,hc,CW,fun i h0 hi h2=>?_⟩);rcases Bn h0 h2 with rfl|rfl
   ·rw[←tL];exact HT _
   ·omega
 rintro b ⟨k,D_,Bf,hk,rO,wH⟩;refine eL (α:=Unit) (fun _=>True) (fun _=>[(4,iv k),(1,iv j),(0,.slice (some ⟨bk,off,none⟩) N cap)]) (fun _=>Sl 6 (some ⟨bk,off,none⟩) N cap (cw l')::Γ) ?_ ?_;rotate_left
 ·intro td xK;cases b with
  |true=>
   obtain rfl:k=c+1:=D_;refine Wq ?_;rw[show((c:Int)+1)=((c+1:Nat):Int)by omega];exact aV (xK () trivial)
  |false=>
   obtain rfl:k=c:=D_;refine rI (h:=?_);exact aV (xK () trivial)
 rintro _ _;obtain⟨u,hu⟩:=bc (l:=l') (i:=k) (by omega);have HU:=hw u (hp.mem_iff.1 (zc hu));have Ea:j<k:=by rcases Bn Bf rO with rfl|rfl<;>omega
 refine lJ (h:=?_);refine aZ 10 (aX [8] [0,1,2,3,4,5,6,7,8,9]) [Sl 6 (some ⟨bk,off,none⟩) N cap (cw l')] ?_;refine dK (h:=?_);refine au rfl (aY (j:=k) rfl rfl rfl rfl (by omega)) ?_;refine au rfl (eQ (us:=fH u) rfl RS rfl (i:=k*6) rfl rfl fun k v hv=>mW hu hv) ?_;refine dK (h:=?_);refine au rfl (aY (j:=j) rfl rfl rfl rfl (by omega)) ?_;refine au rfl (eQ (us:=fH n) rfl RS rfl (i:=j*6) rfl rfl fun k v hv=>mW hn hv) ?_;refine aE rfl (aq (vs:=[j9 u,j9 n]) rfl (DP HU yK) rfl ?_);refine cn (h:=?_);by_cases ho:tG u n≥0
 ·have hle:ei n u:=zI fun h=>by have:=(vh u n).2 h;omega
  refine au rfl (Ke rfl rfl (by omega)) ?_;refine dU (h:=?_);refine sF rfl ?_;refine Ci rfl ?_;refine Cg ?_;have H:=eD.done fun i h0 h1 h2=>DM _ _ _ (by rw[mB hn,mB hu];exact hle) (wH i h0 h1 h2);exact cJ [Sl 6 (some ⟨bk,off,none⟩) l'.length cap (cw l')] ⟨l',rfl,rfl,by rw[hlen,hN],hp,by rw[hlen];exact H⟩ (by rw[hlen];exact Sub.h)
 ·have hle:ei u n:=DN ((vh u n).1 (by omega));refine au rfl (Kg rfl rfl (by omega)) ?_;refine wW (h:=eM (h:=?_));refine aZ 13 (aX [13,15] [0,1,2,3,4,5,6,7,8,9,10,11,12,13,14,15]) [Sl 6 (some ⟨bk,off,none⟩) N cap (cw l')] ?_;refine Ws ?_;refine au rfl (aY (j:=k) rfl rfl rfl rfl (by omega)) ?_;refine au rfl (eQ (us:=fH u) rfl RS rfl (i:=k*6) rfl rfl fun k v hv=>mW hu hv) ?_;refine dK (h:=?_);refine au rfl (aY (j:=j) rfl rfl rfl rfl (by omega)) ?_;refine au rfl (eQ (us:=fH n) rfl RS rfl (i:=j*6) rfl rfl fun k v hv=>mW hn hv) ?_;refine au rfl (aY (j:=j) rfl rfl rfl rfl (by omega)) ?_;refine bN rfl rfl (j4 (us:=fH u) rfl rfl rfl (vi u) rfl (i:=j*6) rfl (by rw[mA];show j*6+6≤_;omega) ?_);rw[xI l' j u (by omega)];refine au rfl (aY (j:=k) rfl rfl rfl rfl (by omega)) ?_;refine bN rfl rfl (j4 (us:=fH n) rfl rfl rfl (vi n) rfl (i:=k*6) rfl (by rw[mA,zH];show k*6+6≤_;omega) ?_);rw[xI _ _ n (by rw[zH];omega),D3 hn hu];refine dQ (h:=?_);refine aV (back (fP l' j k _ _,k) ⟨by rw[kG];exact hlen,(k8 _ _ _ _ _).trans hp,hk,?_⟩ (by dsimp only;omega));dsimp only;rw[MR _ _ _ (by omega) (by omega) (by omega)];refine eD.step Bf hk rO wH ?_;rw[mB hu,mB hn];exact hle
end
end Go.Proofs.YtacfncmndodlpaaGreat
