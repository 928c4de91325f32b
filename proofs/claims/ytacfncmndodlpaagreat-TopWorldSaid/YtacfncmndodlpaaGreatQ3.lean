/- Part of a proof over the seat YtacfncmndodlpaaGreat. Its claim's last module says what is proved. -/
import Derived.Test.YtacfncmndodlpaaGreatQ2
import Derived.Laws.Externs
import Derived.Laws.StructEq
set_option linter.all false
set_option maxHeartbeats 12800000
namespace Go.Proofs.YtacfncmndodlpaaGreat
section
open Go.Proofs Tryz
open Go.Proofs Go.RowKit
def PH.le(h k:PH):Prop:=∀b x e,h b x=some e→k b x=some e
def Mem(h:PH):HP:=fun g=>g=h
theorem Reads.up{h k:PH}{s len:Nat}{a:Option Addr}{xs:List Value}(R:Reads (Mem h) s a len xs)(p:PH.le h k):Reads (Mem k) s a len xs:=
 ⟨R.1,fun g w hg W=>R.2 h w rfl fun b x e he=>W b x e (by rw[show g=k from hg];exact p b x e he)⟩
theorem St.freeze{E:Env}{Γ:List HP}{w:World}{h:PH}{s len cap:Nat}{a:Option Addr}{xs:List Value}(st:St E (Sl s a len cap xs::Mem h::Γ) w):
 ∃k:{k:PH//PH.le h k∧Reads (Mem k) s a len xs∧len≤cap},St E (Mem k.1::Γ) w:=by
 obtain⟨e,g,⟨h1,r1,hA,⟨h2,r2,hM,hr,d2,rfl⟩,d1,rfl⟩,W⟩:=st;obtain rfl:h2=h:=hM;obtain⟨d11,d12⟩:=PH.oj.1 d1;have hl:=hA.len;refine⟨⟨h1.join h2,fun b x e he=>?_,⟨hl.1,fun g w' hg W'=>?_⟩,hl.2⟩,e,(h1.join h2).join r2,⟨_,r2,rfl,hr,PH.sB.2 ⟨d12,d2⟩,rfl⟩,by rw[PH.join_assoc];exact W⟩
 ·rw[PH.join_comm d11];simp[PH.join,he]
 ·rw[show g=h1.join h2 from hg]at W';exact(Sl.reads s a len cap xs hl.1).2 h1 w' hA W'.left
theorem fw{P:Program}{X:Cx}{n:Nat}{ds:List Deferred}{ρ:aK}{Γ Δ Θ:List HP}{todo:List Item}{h:PH}{s len cap:Nat}{xs:List Value}(a:Option Addr)[T:ig Γ a s len cap xs Δ][U:Take Δ (Mem h) Θ]
 (H:∀k:PH,PH.le h k→Reads (Mem k) s a len xs→len≤cap→Ex P X n ds todo ρ (Mem k::Θ)):Ex P X n ds todo ρ Γ:=
 dz (Γ':=fun k:{k:PH//PH.le h k∧Reads (Mem k) s a len xs∧len≤cap}=>Mem k.1::Θ) (fun E w st=>((st.perm T.h).perm (U.h.cons _)).freeze) fun k=>H k.1 k.2.1 k.2.2.1 k.2.2.2
theorem GQ{P:Program}{X:Cx}{n:Nat}{ds:List Deferred}{ops:Array Oper}{l:List Oper}{ks:List Item}{ρ:aK}{Γ Δ Θ:List HP}{h:PH}{s len cap:Nat}{xs:List Value}(a:Option Addr)[T:ig Γ a s len cap xs Δ][U:Take Δ (Mem h) Θ]
 (H:∀k:PH,PH.le h k→Reads (Mem k) s a len xs→len≤cap→jt P X n ds ops l ks ρ (Mem k::Θ)):jt P X n ds ops l ks ρ Γ:=
 yT (Γ':=fun k:{k:PH//PH.le h k∧Reads (Mem k) s a len xs∧len≤cap}=>Mem k.1::Θ) (fun E w st=>((st.perm T.h).perm (U.h.cons _)).freeze) fun k=>H k.1 k.2.1 k.2.2.1 k.2.2.2
section ops
variable {P:Program} {X:Cx} {n:Nat} {ds:List Deferred} {ρ:aK} {Γ:List HP} {Nx:Value→List HP→Prop} {d:Nat} {ty:TypeId}
theorem AH{f:FuncId}{args:List Operand}{ts:Array TypeId}{vs:List Value}{v:Value}(ha:gk ρ args=some vs)(C:∀w,(callFunc f vs.toArray).run P w= .ok (.value v) w)(hn:Nat.blt d n=true)(h:Nx v Γ):
 bm P X n ds (some d) (.call ⟨.value (.func f),args.toArray,ts⟩) ty Nx ρ Γ:=
 b_ (by simp) hn fun e o w ax aS he bg hs=>⟨v,w,Γ,by
  have:=C w;simp[execOp,ax,resolve,he _ _ (show ev ρ (.func f)=some (.func (.func f) #[] #[])from rfl),Deferred.ofValue,invoke,bg _ _ ha,this],hs,h⟩
end ops
section nat
variable {P:Program} {ρ:aK} {Γ:List HP} {ty:TypeId}
theorem wrap_u64(x:Nat):IntKind.u64.wrap (x:Int)=((x%18446744073709551616:Nat):Int):=by
 simp[IntKind.wrap,IntKind.signed,IntKind.bits]
theorem nY{x:Nat}(h:x<18446744073709551616):IntKind.u64.wrap (x:Int)=(x:Int):=by
 rw[wrap_u64,zaf h]
theorem mj{t yt:TypeId}{x y:Operand}{kk ky:IntKind}{a b:Nat}{i:Int}(hx:ev ρ x=some (.int kk (a:Int)))(hy:ev ρ y=some (.int ky i))(hi:i=(b:Int))(hb:b<kk.bits):
 bI P (.binOp .shr t x y yt) ty ρ Γ (.int kk ((a/2^b:Nat):Int)):=by
 subst hi;have h:=Rm (P:=P) (ty:=ty) (Γ:=Γ) (t:=t) (yt:=yt) hx hy (by omega);have e:(a:Int).fdiv (2^(b:Int).toNat)=((a/2^b:Nat):Int):=by
  rw[zV,zbt _ (by exact_mod_cast zj _)]
  push_cast
  rfl
 rw[e]at h;exact h
theorem TV{op:BinOp}{a b r:Nat}(ha:a<18446744073709551616)(hb:b<18446744073709551616)(h:op= .and∧r=a&&&b∨op= .or∧r=a|||b∨op= .xor∧r=a^^^b)(w:World):
 (Op.intBits op .u64 (a:Int) (b:Int)).run P w= .ok (.int .u64 (r:Int)) w:=by
 have e1:(BitVec.ofInt 64 (a:Int))=BitVec.ofNat 64 a:=BitVec.ofInt_natCast ..;have e2:(BitVec.ofInt 64 (b:Int))=BitVec.ofNat 64 b:=BitVec.ofInt_natCast ..;have f1:(BitVec.ofNat 64 a).toNat=a:=by simp;omega
 have f2:(BitVec.ofNat 64 b).toNat=b:=by simp;omega
 rcases h with ⟨rfl,rfl⟩|⟨rfl,rfl⟩|⟨rfl,rfl⟩
 ·have:a&&&b<18446744073709551616:=zaI Nat.and_le_left ha;have e:(BitVec.ofNat 64 a&&&BitVec.ofNat 64 b).toNat=a&&&b:=by rw[BitVec.toNat_and,f1,f2]
  simp only[Op.intBits,IntKind.bits,e1,e2];refine Eq.trans (congrArg (fun (z:Nat)=>(Sem.run P (pure (Value.int IntKind.u64 (IntKind.u64.wrap (z:Int)))) w)) e) ?_;rw[nY this];rfl
 ·have:a|||b<18446744073709551616:=zcb (n:=64) ha hb;have e:(BitVec.ofNat 64 a|||BitVec.ofNat 64 b).toNat=a|||b:=by rw[BitVec.toNat_or,f1,f2]
  simp only[Op.intBits,IntKind.bits,e1,e2];refine Eq.trans (congrArg (fun (z:Nat)=>(Sem.run P (pure (Value.int IntKind.u64 (IntKind.u64.wrap (z:Int)))) w)) e) ?_;rw[nY this];rfl
 ·have:a^^^b<18446744073709551616:=zb6 (n:=64) ha hb;have e:(BitVec.ofNat 64 a^^^BitVec.ofNat 64 b).toNat=a^^^b:=by rw[BitVec.toNat_xor,f1,f2]
  simp only[Op.intBits,IntKind.bits,e1,e2];refine Eq.trans (congrArg (fun (z:Nat)=>(Sem.run P (pure (Value.int IntKind.u64 (IntKind.u64.wrap (z:Int)))) w)) e) ?_;rw[nY this];rfl
theorem j5{t yt:TypeId}{x y:Operand}{op:BinOp}{a b:Nat}(r:Nat)(hx:ev ρ x=some (.int .u64 (a:Int)))(hy:ev ρ y=some (.int .u64 (b:Int)))(ha:a<18446744073709551616)(hb:b<18446744073709551616)
 (h:op= .and∧r=a&&&b∨op= .or∧r=a|||b∨op= .xor∧r=a^^^b):bI P (.binOp op t x y yt) ty ρ Γ (.int .u64 (r:Int)):=
 Rl (by rcases h with h|h|h<;>simp[h.1]) hx hy (TV ha hb h)
theorem to{t yt:TypeId}{x y:Operand}{a b:Nat}(hx:ev ρ x=some (.int .u64 (a:Int)))(hy:ev ρ y=some (.int .u64 (b:Int))):bI P (.binOp .mul t x y yt) ty ρ Γ (.int .u64 ((a*b%18446744073709551616:Nat):Int)):=by
 have h:=Rg (P:=P) (ty:=ty) (Γ:=Γ) (t:=t) (yt:=yt) hx hy;rw[show(a:Int)*b=((a*b:Nat):Int)by push_cast;rfl,wrap_u64]at h;exact h
theorem pA{t yt:TypeId}{x y:Operand}{a b:Nat}(hx:ev ρ x=some (.int .u64 (a:Int)))(hy:ev ρ y=some (.int .u64 (b:Int))):bI P (.binOp .add t x y yt) ty ρ Γ (.int .u64 (((a+b)%18446744073709551616:Nat):Int)):=by
 have h:=Re (P:=P) (ty:=ty) (Γ:=Γ) (t:=t) (yt:=yt) hx hy;rw[show(a:Int)+b=((a+b:Nat):Int)by push_cast;rfl,wrap_u64]at h;exact h
theorem Dc{t yt:TypeId}{x y:Operand}{ky:IntKind}{a b:Nat}{i:Int}(hx:ev ρ x=some (.int .u64 (a:Int)))(hy:ev ρ y=some (.int ky i))(hi:i=(b:Int))(hb:b<64)(hw:a*2^b<18446744073709551616):
 bI P (.binOp .shl t x y yt) ty ρ Γ (.int .u64 ((a*2^b:Nat):Int)):=by
 subst hi;have e:(a:Int)*2^(b:Int).toNat=((a*2^b:Nat):Int):=by rw[zV];push_cast;rfl
 have h:=FD (P:=P) (ty:=ty) (Γ:=Γ) (t:=t) (yt:=yt) (kk:= .u64) hx hy ⟨by omega,by simp[IntKind.bits];omega⟩ (by rw[e];exact nY hw);rw[e]at h;exact h
theorem rD{t:TypeId}{x ix:Operand}{bs:List UInt8}{c:UInt8}{j:Nat}{kk:IntKind}{i:Int}[T:pY P t](hx:ev ρ x=some (.string (bC bs)))(hi:ev ρ ix=some (.int kk i))(hj:i=(j:Int))(hv:bs[j]? =some c):
 bI P (.index t x ix) ty ρ Γ (bv c):=
 ⟨by simp,fun ee o E w ax aS he bg hs=>by
  subst hj;have hb:(bC bs)[j]? =some c:=by
   obtain⟨h1,h2⟩:=List.getElem?_eq_some_iff.1 hv;have h3:j<(bC bs).size:=by rw[dV];exact h1
   rw[getElem?_pos (bC bs) j h3];exact congrArg some h2
  simp[execOp,ax,he x _ hx,he ix _ hi,Instr.index,asIntOf,cN T.h,hb,bv]⟩
theorem Dd{src dst:Nat}{x:Operand}{c:UInt8}[S:lW P src .u8][T:lW P dst .u64](hx:ev ρ x=some (bv c)):bI P (.convert src dst x) ty ρ Γ (.int .u64 ((c.toNat:Nat):Int)):=by
 have h:=yP (P:=P) (ty:=ty) (Γ:=Γ) (src:=src) (dst:=dst) (k1:= .u8) (k2:= .u64) hx;rw[nY (x:=c.toNat) (by have:=zbp c;omega)]at h;exact h
theorem LF{src dst:Nat}{x:Operand}{a:Nat}[S:lW P src .u64][T:lW P dst .u8](hx:ev ρ x=some (.int .u64 (a:Int))):bI P (.convert src dst x) ty ρ Γ (bv (UInt8.ofNat (a%256))):=by
 have h:=yP (P:=P) (ty:=ty) (Γ:=Γ) (src:=src) (dst:=dst) (k1:= .u64) (k2:= .u8) hx;have e:IntKind.u8.wrap (a:Int)=((UInt8.ofNat (a%256)).toNat:Int):=by simp[IntKind.wrap,IntKind.signed,IntKind.bits]
 rw[e]at h;exact h
theorem TW{t m e s:Nat}{x:Operand}{b:Nat}[T:iR P t m e s](hx:ev ρ x=some (.pointer (some ⟨b,0,none⟩))):
 bI P (.slice t x none none none) ty ρ Γ (.slice (some ⟨b,0,none⟩) m m):=
 ⟨by simp,fun ee o E w ax aS he bg hs=>by
  obtain⟨hu,inf,en,bZ⟩:=T.fL;simp[execOp,ax,he x _ hx,Instr.sliceAt,Instr.slice,Instr.sliceBounds,cN hu,eB en,bZ,Instr.sureAddr,Addr.kL]⟩
theorem ak.TY{b:Nat}{s m:Nat}{xs:List Value}(h:xs.length=m*s)(Γ:List HP):ak (Row b 0 xs::Γ) (Sl s (some ⟨b,0,none⟩) m m xs::Γ):=
 ak.one (fun g hg=> .inr ⟨b,0,[],rfl,h,by simpa using h,zq _,by rw[zF];exact hg⟩) Γ
theorem LG(bs:List UInt8)(l h:Nat):(bC bs).extract l h=bC ((bs.drop l).take (h-l)):=by
 unfold bC;apply ByteArray.ext;rw[zcf];apply zbW;simp
theorem AI{t:Nat}{x lo hi:Operand}{bs:List UInt8}{jl jh:Nat}{k1 k2:IntKind}{il ih:Int}[T:pY P t](hx:ev ρ x=some (.string (bC bs)))(fN:ev ρ lo=some (.int k1 il))(kM:ev ρ hi=some (.int k2 ih))
 (h1:il=(jl:Int)) (h2:ih=(jh:Int)) (h3:jl≤jh) (h4:jh≤bs.length):bI P (.slice t x (some lo) (some hi) none) ty ρ Γ (.string (bC ((bs.drop jl).take (jh-jl)))):=
 ⟨by simp,fun ee o E w ax aS he bg hs=>by
  have h5:jh≤(bC bs).size:=by rw[dV];exact h4
  simp[execOp,ax,he x _ hx,he lo _ fN,he hi _ kM,Instr.sliceAt,cN T.h,Instr.slice,Instr.sliceBounds,m9 jl h1 h3,m9 jh h2 h5,LG]⟩
theorem T0{t:Nat}{x lo:Operand}{bs:List UInt8}{jl:Nat}{k1:IntKind}{il:Int}[T:pY P t](hx:ev ρ x=some (.string (bC bs)))(fN:ev ρ lo=some (.int k1 il))
 (h1:il=(jl:Int)) (h4:jl≤bs.length):bI P (.slice t x (some lo) none none) ty ρ Γ (.string (bC (bs.drop jl))):=
 ⟨by simp,fun ee o E w ax aS he bg hs=>by
  have h5:jl≤(bC bs).size:=by rw[dV];exact h4
  have e:(bC bs).extract jl (bC bs).size=bC (bs.drop jl):=by
   rw[LG,zo (by rw[dV];simp)]
  simp[execOp,ax,he x _ hx,he lo _ fN,Instr.sliceAt,cN T.h,Instr.slice,Instr.sliceBounds,m9 jl h1 h5];exact e⟩
end nat
theorem bG{P:Program}{Δ:List HP}{ρ:aK}{i ty b off s:Nat}{us:List Value}[T:cI P ty s](h:ev ρ (.tmp i)=some (.pointer (some ⟨b,off,none⟩)))[H:lq Δ b off us](hl:us.length=s):RV P Δ ρ (.cell i ty) (.agg us.toArray):=
 Ly h hl fun _ _ hj _ _ st=>(st.yE (b:=b) hj).1
end
section
open Go.Proofs Tryz
open Go.Proofs Go.RowKit
abbrev nv(x:Nat):Value:= .int .u64 (x:Int)
abbrev uc(a:Nat):List Value:=[nv (ay a 0),nv (ay a 1),nv (ay a 2),nv (ay a 3)]
abbrev uv(a:Nat):Value:= .agg (uc a).toArray
abbrev aI:Nat:=18446744073709551616
abbrev aT:Nat:=115792089237316195423570985008687907853269984665640564039457584007913129639936
theorem fO(a:Nat){i:Nat}(h:i<4):(uc a)[i]? =some (nv (ay a i)):=by
 have:i=0∨i=1∨i=2∨i=3:=by omega
 rcases this with rfl|rfl|rfl|rfl<;>rfl
theorem De:uc 0=[nv 0,nv 0,nv 0,nv 0]:=rfl
abbrev tp(f:Nat→Nat)(i:Nat):List Value:=(List.range 4).map fun j=>nv (if j<i then f j else 0)
theorem xg(f:Nat→Nat){i:Nat}(h:i<4):(tp f i).set i (nv (f i))=tp f (i+1):=by
 have:i=0∨i=1∨i=2∨i=3:=by omega
 rcases this with rfl|rfl|rfl|rfl<;>rfl
theorem LH(f:Nat→Nat):tp f 4=[nv (f 0),nv (f 1),nv (f 2),nv (f 3)]:=rfl
theorem GR(x y c:Nat)(hc:c≤1)(w:World):(callFunc 233 [nv x,nv y,nv c].toArray).run prog w= .ok (.value (.tuple [nv ((x+y+c)%aI),nv ((x+y+c)/aI)].toArray)) w:=by
 have h:=run_callFunc_extern func233 (by kernel_rfl) (by kernel_rfl) (by kernel_rfl) (e:=add64Entry) (by kernel_rfl) #[nv x,nv y,nv c] w;rw[run_add64 x y c (by omega) (by omega) (by omega) (by omega)]at h;refine h.trans ?_;simp only[Result.andThen];congr 5<;>omega
def fm(a b:Nat):Nat→Nat
 |0=>0
 |i+1=>(ay a i+ay b i+fm a b i)/aI
theorem uS(a b:Nat):∀i,fm a b i≤1
 |0=>by simp[fm]
 |i+1=>by
  have h:=uS a b i;have h1:=fE a i;have h2:=fE b i;unfold fm aI;omega
theorem Df(x y c:Nat)(hx:x<aI)(hy:y<aI)(hc:c≤1):∃o k,(x+y+c)%aI=o∧(x+y+c)/aI=k∧x+y+c=aI*k+o∧o<aI∧k≤1:=
 ⟨_,_,rfl,rfl,(Nat.div_add_mod _ _).symm,za0 _ (by decide),by unfold aI at*;omega⟩
theorem T1{a b a0 a1 a2 a3 b0 b1 b2 b3 k1 k2 k3 k4 o0 o1 o2 o3:Nat}(ea:kT a0 a1 a2 a3=a)(eb:kT b0 b1 b2 b3=b)(h0:a0+b0+0=aI*k1+o0)(h1:a1+b1+k1=aI*k2+o1)(h2:a2+b2+k2=aI*k3+o2)(h3:a3+b3+k3=aI*k4+o3):
 a+b=aT*k4+kT o0 o1 o2 o3:=by
 unfold kT at*;unfold aI at*;unfold aT;omega
theorem LI{a b:Nat}(ha:a<aT)(hb:b<aT):(fm a b 4>0→aT≤a+b)∧(fm a b 4=0→a+b<aT∧tp (fun i=>(ay a i+ay b i+fm a b i)%aI) 4=uc (a+b)):=by
 have ea:=ti ha;have eb:=ti hb;rw[LH];obtain⟨o0,k1,e0,f1,l0,m0,n1⟩:=Df (ay a 0) (ay b 0) (fm a b 0) (fE a 0) (fE b 0) (uS a b 0);obtain⟨o1,k2,e1,f2,l1,m1,n2⟩:=Df (ay a 1) (ay b 1) (fm a b 1) (fE a 1) (fE b 1) (uS a b 1);obtain⟨o2,k3,e2,f3,l2,m2,n3⟩:=Df (ay a 2) (ay b 2) (fm a b 2) (fE a 2) (fE b 2) (uS a b 2);obtain⟨o3,k4,e3,f4,l3,m3,n4⟩:=Df (ay a 3) (ay b 3) (fm a b 3) (fE a 3) (fE b 3) (uS a b 3);have g1:fm a b 1=k1:=f1;have g2:fm a b 2=k2:=f2;have g3:fm a b 3=k3:=f3;have g4:fm a b 4=k4:=f4;have g0:fm a b 0=0:=rfl;rw[g0]at l0;rw[g1]at l1;rw[g2]at l2;rw[g3]at l3;have hs:=T1 ea eb l0 l1 l2 l3;rw[g4,e0,e1,e2,e3];have ho:=C8 m0 m1 m2 m3;constructor
 ·intro h;have:k4=1:=by omega
  subst this;rw[hs];unfold aT;omega
 ·intro h;subst h;rw[zcc,zO]at hs;obtain⟨q0,q1,q2,q3⟩:=C7 m0 m1 m2 m3;rw[hs];exact⟨ho,by simp only[uc,q0,q1,q2,q3]⟩
theorem uT{a b:Nat}(ha:a<aT)(hb:b<aT):Spec prog 193 [uv a,uv b] [] (fun v B=>v= .tuple #[uv (if a+b<aT then a+b else 0),.int .i64 (if a+b<aT then 0 else 8)]∧B=[]):=by
 refine x_sp func193 ntmps193 fun E cs Γ=>?_;refine lL (h:=?_);refine ao (aM rfl rfl fun p2=>?_);refine ao (aM rfl rfl fun p3=>?_);refine ao (aC rfl fun p4=>?_);refine rE (h:=?_);refine ao (aC rfl fun p6=>?_);refine Wq ?_;refine aQ (α:=Nat) (fun i=>i≤4) (fun i=>[(9,iv i),(7,nv (fm a b i)),(6,dp p6),(4,dp p4),(3,dp p3),(2,dp p2),(5,iv 0)])
  (fun i=>Row p6 0 (tp (fun i=>(ay a i+ay b i+fm a b i)%aI) i)::Row p4 0 [nv 0,nv 0,nv 0,nv 0]::Row p3 0 (uc b)::Row p2 0 (uc a)::Γ) (fun i=>4-i) 0 (by omega) x_tv (Sub.h (Δ:=Row p6 0 [nv 0,nv 0,nv 0,nv 0]::Row p4 0 [nv 0,nv 0,nv 0,nv 0]::Row p3 0 (uc b)::Row p2 0 (uc a)::Γ)) ?_
 intro i hi back;refine bQ (h:=?_);by_cases h:i<4
 ·refine Wq ?_;refine aZ 14 (aX [8,13] [0,1,2,3,4,5,6,7,8,9,10,11,12,13,14]) [Row p2 0 (uc a),Row p3 0 (uc b)] ?_;refine dK (h:=?_);refine au rfl (du rfl rfl rfl h) ?_;refine au rfl (fk (i:=i) rfl (by omega) (fO a h)) ?_;refine dD (h:=?_);refine au rfl (du rfl rfl rfl h) ?_;refine au rfl (fk (i:=i) rfl (by omega) (fO b h)) ?_;refine dD (h:=?_);refine aE rfl (AH rfl (GR (ay a i) (ay b i) (fm a b i) (uS a b i)) rfl ⟨bd,?_⟩);refine lM (h:=?_);refine au rfl (du rfl rfl rfl h) ?_;refine aE rfl (iS (i:=i) rfl rfl rfl (by omega) (by simpa[zN]using h) ⟨bd,?_⟩);rw[xg _ h];refine kB (h:=?_);exact aV (back (i+1) (by omega) (by omega))
 ·obtain rfl:i=4:=by omega
  obtain⟨h1,h2⟩:=LI ha hb;by_cases h0:fm a b 4>0
  ·have:=h1 h0;rw[if_neg (by omega),if_neg (by omega)];refine Wq ?_;exact bP (rs:=[.cell 4 24,.tmp 5]) (vs:=[uv 0,.int .i64 8]) ⟨bG rfl rfl,bO rfl,trivial⟩ [] ⟨rfl,rfl⟩ Sub.h
  ·obtain⟨h3,h4⟩:=h2 (by omega);rw[if_pos h3,if_pos h3];rw[h4];refine Wq ?_;exact bP (rs:=[.cell 4 24,.tmp 5]) (vs:=[uv (a+b),.int .i64 0]) ⟨bG rfl rfl,bO rfl,trivial⟩ [] ⟨rfl,rfl⟩ Sub.h
end
section
open Go.Proofs Tryz
open Go.Proofs Go.RowKit
theorem Dg{a b i:Nat}(ha:a<aT)(hb:b<aT)(hi:i<4)(up:∀j,i<j→j<4→ay a j=ay b j)(h:ay a i<ay b i):a<b:=by
 have ea:=ti ha;have eb:=ti hb;have h0:=fE a 0;have h1:=fE a 1;have h2:=fE a 2;have g0:=fE b 0;have g1:=fE b 1;have g2:=fE b 2;unfold kT at ea eb;have:i=0∨i=1∨i=2∨i=3:=by omega
 rcases this with rfl|rfl|rfl|rfl
 ·have u1:=up 1 (by omega) (by omega);have u2:=up 2 (by omega) (by omega);have u3:=up 3 (by omega) (by omega);omega
 ·have u2:=up 2 (by omega) (by omega);have u3:=up 3 (by omega) (by omega);omega
 ·have u3:=up 3 (by omega) (by omega);omega
 ·omega
theorem cmp_eq{a b:Nat}(ha:a<aT)(hb:b<aT)(up:∀j,j<4→ay a j=ay b j):a=b:=by
 rw[←ti ha,←ti hb,up 0 (by omega),up 1 (by omega),up 2 (by omega),up 3 (by omega)]
def cV(a b:Nat):Int:=if a<b then -1 else if a>b then 1 else 0
theorem ml{a b:Nat}(ha:a<aT)(hb:b<aT):Spec prog 146 [uv a,uv b] [] (fun v B=>v= .int .i64 (cV a b)∧B=[]):=by
 refine x_sp func146 ntmps146 fun E cs Γ=>?_;refine lL (h:=?_);refine ao (aM rfl rfl fun p2=>?_);refine ao (aM rfl rfl fun p3=>?_);refine Wq ?_;refine aQ (α:=Nat) (fun k=>k≤4∧∀j,4≤j+k→j<4→ay a j=ay b j) (fun k=>[(5,iv (3-k)),(3,dp p3),(2,dp p2)])
  (fun _=>Row p3 0 (uc b)::Row p2 0 (uc a)::Γ) (fun k=>4-k) 0 ⟨by omega,fun j h1 h2=>by omega⟩ x_tv Sub.h ?_
 rintro k ⟨hk,up⟩ back;refine lN (h:=?_);by_cases h:k<4
 ·obtain⟨i,hi⟩:∃i,i=3-k:=⟨_,rfl⟩
  have fc:i<4:=by omega
  refine Wq ?_;refine aZ 8 (aX [] [0,1,2,3,4,5,6,7]) [Row p2 0 (uc a),Row p3 0 (uc b)] ?_;refine dD (h:=?_);refine au rfl (du (j:=i) rfl rfl (by omega) fc) ?_;refine au rfl (fk (i:=i) rfl (by omega) (fO a fc)) ?_;refine dD (h:=?_);refine au rfl (du (j:=i) rfl rfl (by omega) fc) ?_;refine au rfl (fk (i:=i) rfl (by omega) (fO b fc)) ?_;by_cases aN:ay a i<ay b i
  ·have hl:=Dg ha hb fc (fun j h1 h2=>up j (by omega) h2) aN;refine xh (h:=kB (h:=?_));exact ap rfl [] ⟨by unfold cV;rw[if_pos hl];rfl,rfl⟩ Sub.h
  ·refine xi (h:=df (h:=?_));refine Fu rfl ?_;refine eM (h:=?_);refine aZ 8 (aX [] [0,1,2,3,4,5,6,7]) [Row p2 0 (uc a),Row p3 0 (uc b)] ?_;refine dD (h:=?_);refine au rfl (du (j:=i) rfl rfl (by omega) fc) ?_;refine au rfl (fk (i:=i) rfl (by omega) (fO a fc)) ?_;refine dD (h:=?_);refine au rfl (du (j:=i) rfl rfl (by omega) fc) ?_;refine au rfl (fk (i:=i) rfl (by omega) (fO b fc)) ?_;by_cases kU:ay b i<ay a i
   ·have hl:=Dg hb ha fc (fun j h1 h2=>(up j (by omega) h2).symm) kU;refine au rfl (Kc rfl rfl (by omega)) ?_;refine kB (h:=?_);exact ap rfl [] ⟨by unfold cV;rw[if_neg (by omega),if_pos hl];rfl,rfl⟩ Sub.h
   ·refine au rfl (FI rfl rfl (by omega)) ?_;refine kB (h:=?_);rw[show(3-(k:Int)-1)=3-((k+1:Nat):Int)by omega];exact aV (back (k+1) ⟨by omega,fun j h1 h2=>by
     by_cases e:j=i
     ·subst e;omega
     ·exact up j (by omega) h2⟩ (by omega))
 ·obtain rfl:k=4:=by omega
  have e:=cmp_eq ha hb fun j h2=>up j (by omega) h2;refine Wq ?_;exact ap rfl [] ⟨by unfold cV;rw[if_neg (by omega),if_neg (by omega)];rfl,rfl⟩ Sub.h
structure LJ(a n:Nat):Prop where
 le:n≤4
 hi:a<aI^n
 lo:0<n→aI^(n-1)≤a
theorem T3{a k:Nat}(hk:k<4)(h:a<aI^(4-k))(hz:ay a (3-k)=0):a<aI^(3-k):=by
 unfold ay at hz;have e:aI^(4-k)=aI^(3-k)*aI:=by rw[←zas];congr 1;omega
 rw[e]at h;have h1:a/aI^(3-k)<aI:=zaU h;rw[zaf h1]at hz;exact(Nat.div_eq_zero_iff_lt (zbE (by decide))).1 hz
theorem T4{a k:Nat}(hz:ay a (3-k)≠0):aI^(3-k)≤a:=by
 apply zbn;intro h;apply hz;unfold ay;rw[zaO h]
theorem GU{a:Nat}(ha:a<aT):Spec prog 253 [uv a] [] (fun v B=>∃n:Nat,v= .int .i64 n∧B=[]∧LJ a n):=by
 refine x_sp func253 ntmps253 fun E cs Γ=>?_;refine gi (h:=?_);refine ao (aM rfl rfl fun p1=>?_);refine Wq ?_;refine aQ (α:=Nat) (fun k=>k≤4∧a<aI^(4-k)) (fun k=>[(3,iv (4-k)),(1,dp p1)])
  (fun _=>Row p1 0 (uc a)::Γ) (fun k=>4-k) 0 ⟨by omega,ha⟩ x_tv Sub.h ?_
 rintro k ⟨hk,aN⟩ back;by_cases h:k<4
 ·obtain⟨i,hi⟩:∃i,i=3-k:=⟨_,rfl⟩
  have fc:i<4:=by omega
  refine gg (h:=?_);refine dd (j:=i) rfl rfl (by omega) fc rfl ?_;refine fT (h:=?_);refine iF (i:=i) rfl (by omega) (fO a fc) rfl ?_;by_cases hz:ay a i=0
  ·refine Wq ?_;rw[show(4-(k:Int)-1)=4-((k+1:Nat):Int)by omega];exact aV (back (k+1) ⟨by omega,by
    have:=T3 h aN (by rw[←hi];exact hz);rw[show 4-(k+1)=3-k by omega];exact this⟩ (by omega))
  ·refine Wq ?_;refine ap rfl [] ⟨4-k,?_,rfl,by omega,aN,fun _=>?_⟩ Sub.h
   ·show Value.int .i64 (4-(k:Int))=_;rw[show(4-(k:Int))=((4-k:Nat):Int)by omega]
   ·have:=T4 (a:=a) (k:=k) (by rw[←hi];exact hz);rw[show 4-k-1=3-k by omega];exact this
 ·obtain rfl:k=4:=by omega
  refine Wq ?_;exact ap rfl [] ⟨0,rfl,rfl,by omega,aN,fun h=>by omega⟩ Sub.h
def GW:List UInt8:=(List.range 256).map fun j=>UInt8.ofNat (bT j)
theorem T5{j:Nat}(h:j<256):GW[j]? =some (UInt8.ofNat (bT j)):=by
 unfold GW;rw[zf,za3 h];rfl
theorem AJ{x k:Nat}(h:2^k≤x):bT x=k+bT (x/2^k):=by
 have hp:0<2^k:=zbE (by decide);have h1:x≠0:=by omega
 have h2:0<x/2^k:=Nat.div_pos h hp;unfold bT;rw[if_neg h1,if_neg (by omega)];have:x.log2=k+(x/2^k).log2:=by
  rw[Nat.log2_eq_iff h1];obtain⟨g1,g2⟩:=(Nat.log2_eq_iff (k:=(x/2^k).log2) (by omega:x/2^k≠0)).1 rfl;constructor
  ·rw[zbF];have:=zaA (2^k) g1;have:=Nat.mul_div_le x (2^k);omega
  ·have g3:x/2^k+1≤2^((x/2^k).log2+1):=g2;have g4:=zaA (2^k) g3;have g5:=Nat.lt_mul_div_succ x hp;have e:2^k*2^((x/2^k).log2+1)=2^(k+(x/2^k).log2+1):=by rw[←zbF];congr 1
   rw[e]at g4;omega
 omega
theorem LK{x:Nat}(hx:x<aI):Spec prog 254 [nv x] [] (fun v B=>v= .int .i64 (bT x:Nat)∧B=[]):=by
 refine x_sp func254 ntmps254 fun E cs Γ=>?_;refine ko (h:=tq (h:=bU (h:=?_)));refine uH (α:=Nat×Nat) (fun q=>q.2<2^32∧bT x=q.1+bT q.2∧q.1≤32) (fun q=>[(0,nv q.2),(2,iv q.1)]) (fun _=>Γ) ?_ ?_;rotate_left
 ·intro td back;by_cases h:4294967296≤x
  ·refine aA (h:=?_);refine bL (mj (b:=32) rfl rfl rfl (by decide)) rfl ?_;refine Wq ?_;refine aV (back (32,x/2^32) ⟨?_,AJ h,zq _⟩);simp only[Nat.reducePow];unfold aI at hx;omega
  ·refine Wq ?_;exact aV (back (0,x) ⟨by simp only[Nat.reducePow];omega,by simp,zj _⟩)
 rintro⟨n,y⟩ ⟨hy,hb,hn⟩;dsimp only at hy hb hn⊢;simp only[Nat.reducePow]at hy;refine uH (α:=Nat×Nat) (fun q=>q.2<2^16∧bT x=q.1+bT q.2∧q.1≤48) (fun q=>[(0,nv q.2),(2,iv q.1)]) (fun _=>Γ) ?_ ?_;rotate_left
 ·intro td back;by_cases h:65536≤y
  ·refine aA (h:=?_);refine bL (mj (b:=16) rfl rfl rfl (by decide)) rfl ?_;refine Wq ?_;refine aV (back (n+16,y/2^16) ⟨?_,by have:=AJ (k:=16) h;dsimp only;omega,by dsimp only;omega⟩);simp only[Nat.reducePow];omega
  ·refine Wq ?_;exact aV (back (n,y) ⟨by simp only[Nat.reducePow];omega,hb,by dsimp only;omega⟩)
 clear hy hb hn;rintro⟨n,y⟩ ⟨hy,hb,hn⟩;dsimp only at hy hb hn⊢;simp only[Nat.reducePow]at hy;refine uH (α:=Nat×Nat) (fun q=>q.2<2^8∧bT x=q.1+bT q.2∧q.1≤56) (fun q=>[(0,nv q.2),(2,iv q.1)]) (fun _=>Γ) ?_ ?_;rotate_left
 ·intro td back;by_cases h:256≤y
  ·refine aA (h:=?_);refine bL (mj (b:=8) rfl rfl rfl (by decide)) rfl ?_;refine Wq ?_;refine aV (back (n+8,y/2^8) ⟨?_,by have:=AJ (k:=8) h;dsimp only;omega,by dsimp only;omega⟩);simp only[Nat.reducePow];omega
  ·refine Wq ?_;exact aV (back (n,y) ⟨by simp only[Nat.reducePow];omega,hb,by dsimp only;omega⟩)
 clear hy hb hn;rintro⟨n,y⟩ ⟨hy,hb,hn⟩;dsimp only at hy hb hn⊢;simp only[Nat.reducePow]at hy;have T6:bT y≤8:=uR (k:=8) hy;refine qj (h:=fv (h:=?_));refine ft rfl rfl ?_;refine aw (h:=?_);have hw:IntKind.u8.wrap (y:Int)=(y:Int):=by simp[IntKind.wrap,IntKind.signed,IntKind.bits];omega
 rw[hw];refine bL (rD (bs:=GW) (j:=y) (by kernel_rfl) rfl rfl (T5 hy)) rfl ?_;have kV:((UInt8.ofNat (bT y)).toNat:Int)=(bT y:Int):=by simp;omega
 show jt _ _ _ _ _ _ _ ((22,bv (UInt8.ofNat (bT y)))::_) _;unfold bv;rw[kV];refine aw (h:=?_);refine ft rfl rfl ?_;rw[gE (x:=(bT y:Int)) (by omega)];refine Dh (h:=bU (h:=?_));exact ap rfl [] ⟨by
  show Value.int .i64 ((n:Int)+bT y)=_;rw[hb];push_cast;rfl,rfl⟩ Sub.h
end
section
open Go.Proofs Tryz
open Go.Proofs Go.RowKit
theorem LL(n:Nat):aI^n=2^(64*n):=by
 rw[show aI=2^64 from rfl,←za4]
theorem T7{a n:Nat}(L:LJ a n)(h:0<n):bT a=64*(n-1)+bT (ay a (n-1)):=by
 have h1:=L.lo h;have h2:=L.hi;rw[LL]at h1;rw[AJ h1];congr 2;unfold ay;have e:aI^n=aI^(n-1)*aI:=by rw[←zas];congr 1;omega
 rw[e]at h2;have h3:a/aI^(n-1)<aI:=zaU h2;rw[show(18446744073709551616:Nat)=aI from rfl,zaf h3,LL]
theorem Di{a:Nat}(ha:a<aT):bT a≤256:=uR (k:=256) (by simpa using ha)
theorem GX{a:Nat}(ha:a<aT):Spec prog 217 [uv a] [] (fun v B=>v= .int .i64 (bT a:Nat)∧B=[]):=by
 refine x_sp func217 ntmps217 fun E cs Γ=>?_;refine gi (h:=?_);refine ao (aM rfl rfl fun p1=>?_);refine aA (h:=?_);refine aq rfl (GU ha) rfl ?_;rintro v B ⟨n,rfl,rfl,L⟩;refine dq (h:=?_);by_cases h:n=0
 ·subst h;have h0:a=0:=by have:=L.hi;simp at this;exact this
  refine Wq ?_;exact ap rfl [] ⟨by subst h0;rfl,rfl⟩ Sub.h
 ·have hl:=L.le;have hb:=T7 L (by omega);have oE:=fE a (n-1);refine aA (h:=?_);refine dd (j:=n-1) rfl rfl (by omega) (by omega) rfl ?_;refine aw (h:=?_);refine iF (i:=n-1) rfl (by omega) (fO a (by omega)) rfl ?_;refine aw (h:=?_);refine aq rfl (LK oE) rfl ?_;refine cS (h:=?_);have T6:bT (ay a (n-1))≤64:=uR (k:=64) oE;refine Dh (h:=bU (h:=?_));exact ap rfl [] ⟨by
   show Value.int .i64 (64*((n:Int)-1)+_)=_;congr 1;rw[hb];omega,rfl⟩ Sub.h
theorem LM(a:Nat){i:Nat}:ay a (i/8)/2^(i%8*8)%256=a/256^i%256:=by
 unfold ay;have e:a/256^i=a/18446744073709551616^(i/8)/2^(i%8*8):=by
  rw[zbm];congr 1;rw[show(18446744073709551616:Nat)=2^64 from rfl,←za4,←zbF,show(256:Nat)=2^8 from rfl,←za4];congr 1;omega
 rw[e];generalize a/18446744073709551616^(i/8)=x;have:i%8=0∨i%8=1∨i%8=2∨i%8=3∨i%8=4∨i%8=5∨i%8=6∨i%8=7:=by omega
 rcases this with h|h|h|h|h|h|h|h<;>rw[h]<;>simp only[Nat.reduceMul,Nat.reducePow]<;>omega
def mm(f:Nat→UInt8)(m i:Nat):List UInt8:=(List.range m).map fun j=>if m≤j+i then f j else 0
theorem T8(f:Nat→UInt8)(m:Nat):mm f m 0=List.replicate m 0:=by
 unfold mm;rw[List.eq_replicate_iff];refine⟨by simp,fun b hb=>?_⟩;obtain⟨j,hj,rfl⟩:=zbY.1 hb;rw[List.mem_range]at hj;rw[if_neg (by omega)]
theorem T9(f:Nat→UInt8){m i:Nat}(h:i<m):(mm f m i).set (m-1-i) (f (m-1-i))=mm f m (i+1):=by
 refine zbB (by simp[mm]) fun j h1 h2=>?_;rw[zbZ];simp only[mm,List.getElem_map,zb8];split
 ·rename_i e;subst e;rw[if_pos (by omega)]
 ·rename_i e;have hj:j<m:=by simpa[mm]using h1
  by_cases g:m≤j+i
  ·rw[if_pos g,if_pos (by omega)]
  ·rw[if_neg g,if_neg (by omega)]
theorem LO(f:Nat→UInt8)(m:Nat):mm f m m=(List.range m).map f:=by
 unfold mm;refine zah fun j _=>?_;rw[if_pos (by omega)]
theorem GY(x:Nat):Value.int .u8 (IntKind.u8.wrap (x:Int))=bv (UInt8.ofNat (x%256)):=by
 unfold bv;congr 1;simp[IntKind.wrap,IntKind.signed,IntKind.bits]
theorem LP{a:Nat}(ha:a<aT):Spec prog 168 [uv a] [] (fun v B=>v= .string (bC (aU a))∧B=[]):=by
 refine x_sp func168 ntmps168 fun E cs Γ=>?_;have hb:=Di ha;refine gi (h:=?_);refine ao (aM rfl rfl fun p1=>?_);refine aA (h:=?_);refine aq rfl (GX ha) rfl ?_;refine cS (h:=Dh (h:=?_));refine ao (Rj rfl rfl (by omega) (by omega) (gE (by omega)) rfl ?_);obtain⟨m,hm⟩:∃m,m=(bT a+7)/8:=⟨_,rfl⟩
 have ja:m≤32:=by omega
 have rF:aU a=(List.range m).map fun j=>UInt8.ofNat (a/256^(m-1-j)%256):=by rw[hm];rfl
 refine aw (h:=?_);refine F1 rfl rfl (m:=m) (by omega) (by omega) (by rfl) (by omega) (by omega) rfl fun a9=>?_;rw[show zs [Value.int IntKind.u8 0] m=(mm (fun j=>UInt8.ofNat (a/256^(m-1-j)%256)) m 0).map bv by rw[FZ,T8];simp[bv]];refine Wq ?_;refine aQ (α:=Nat) (fun i=>i≤m) (fun i=>[(12,iv i),(11,iv m),(3,.slice a9 m m),(1,dp p1)])
  (fun i=>Sl 1 a9 m m ((mm (fun j=>UInt8.ofNat (a/256^(m-1-j)%256)) m i).map bv)::Row p1 0 (uc a)::Γ) (fun i=>m-i) 0 (by omega) x_tv Sub.h ?_
 intro i hi back;refine bQ (h:=?_);have RS:=Sl.reads 1 a9 m m ((mm (fun j=>UInt8.ofNat (a/256^(m-1-j)%256)) m i).map bv) (by simp[mm]);by_cases h:i<m
 ·refine aA (h:=?_);refine dd (j:=i/8) rfl rfl (by omega) (by omega) rfl ?_;refine aw (h:=?_);refine iF (i:=i/8) rfl (by omega) (fO a (by omega)) rfl ?_;refine iu (h:=Dj (h:=G0 (h:=aw (h:=?_))));refine bL (mj (b:=i%8*8) rfl rfl (by omega) (by simp[IntKind.bits];omega)) rfl ?_;refine aw (h:=?_);refine ft rfl rfl ?_;rw[GY,LM];refine aw (h:=?_);refine bK rfl rfl RS (j:=m-1-i) (by omega) (by omega) rfl fun b1 off ha=>?_;refine dO (h:=?_);refine gm rfl rfl rfl ha (i:=m-1-i) (by omega) (by simp[mm];omega) ?_;have kW:=T9 (fun j=>UInt8.ofNat (a/256^(m-1-j)%256)) h;have T_:((mm (fun j=>UInt8.ofNat (a/256^(m-1-j)%256)) m i).map bv).set (m-1-i) (bv (UInt8.ofNat (a/256^i%256)))=(mm (fun j=>UInt8.ofNat (a/256^(m-1-j)%256)) m (i+1)).map bv:=by
   rw[←kW,zak];rw[show m-1-(m-1-i)=i by omega]
  rw[T_];refine Wq ?_;exact aV (back (i+1) (by omega) (by omega))
 ·obtain rfl:i=m:=by omega
  rw[LO,←rF]at RS;rw[LO,←rF];refine aA (h:=?_);refine uy rfl RS rfl ?_;refine bU (h:=?_);exact ap rfl [] ⟨rfl,rfl⟩ Sub.h
end
section
open Go.Proofs Tryz
open Go.Proofs Go.RowKit
def cB(s:List UInt8):Nat:=s.foldl (fun m b=>m*256+b.toNat) 0
theorem LQ(s:List UInt8)(b:UInt8):cB (s++[b])=cB s*256+b.toNat:=by simp[cB]
theorem Ua(s:List UInt8)(m:Nat):s.foldl (fun m b=>m*256+b.toNat) m=m*256^s.length+cB s:=by
 induction s generalizing m with
 |nil=>simp[cB]
 |cons b s ih=>
  unfold cB;rw[zaN,zaN,ih,ih (0*256+b.toNat),zy,zas];simp only[zbw,zO,zA];rw[zbd,zY 256];omega
theorem LR(b:UInt8)(s:List UInt8):cB (b::s)=b.toNat*256^s.length+cB s:=by
 have:=Ua s (0*256+b.toNat);simpa[cB]using this
theorem AK(s:List UInt8):cB s<256^s.length:=by
 induction s with
 |nil=>simp[cB]
 |cons b s ih=>
  rw[LR,zy,zas];have hb:=zbp b;have:b.toNat*256^s.length≤255*256^s.length:=zn _ (by omega);omega
theorem Ub{v c i:Nat}(hv:v<256^i)(hc:c<256):ay v (i/8)|||c*2^(i%8*8)=ay (v+c*256^i) (i/8)∧∀q,q≠i/8→ay (v+c*256^i) q=ay v q:=by
 have uU:256^i=18446744073709551616^(i/8)*2^(i%8*8):=by
  rw[show(18446744073709551616:Nat)=2^64 from rfl,←za4,←zbF,show(256:Nat)=2^8 from rfl,←za4];congr 1;omega
 generalize hq:i/8=q at*;generalize hr:i%8*8=r at*;have G4:r≤56:=by omega
 generalize hW:18446744073709551616^q=W at*;have G7:0<W:=by rw[←hW];exact zbE (by decide)
 have h1:v/W<2^r:=zaU (by rw[←uU];exact hv);have AL:2^r≤2^56:=zai (by decide) G4;have G8:ay v q=v/W:=by
  unfold ay;rw[hW,zaf];exact zaw h1 (z9 AL (by decide))
 have hs:(v+c*256^i)/W=v/W+2^r*c:=by
  rw[uU,show c*(W*2^r)=W*(2^r*c)by rw[zaq,zY c],zbS _ _ G7]
 constructor
 ·rw[G8];unfold ay;rw[hW,hs,zY c,Nat.or_comm,←zbN h1,zaf,zaF];have h2:v/W+2^r*c<2^r*256:=by
   have:2^r*c≤2^r*255:=zaA _ (by omega);omega
  have h3:2^r*256≤2^56*256:=zn _ AL;rw[zaF]at h2;exact zaw (by rwa[zaF]at h2) (z9 h3 (by decide))
 ·intro q' cE;unfold ay;rcases zb7 cE with h|h
  ·have AM:W=18446744073709551616^q'*(18446744073709551616*18446744073709551616^(q-q'-1)):=by
    rw[←hW,←Nat.pow_succ',←zbF];congr 1;omega
   rw[uU,AM,show c*(18446744073709551616^q'*(18446744073709551616*18446744073709551616^(q-q'-1))*2^r)=18446744073709551616^q'*(18446744073709551616*(18446744073709551616^(q-q'-1)*(2^r*c)))by
    simp only[zY,zaq,zbd],zbS _ _ (zbE (by decide)),Nat.add_mul_mod_self_left]
  ·have AN:256^(i+1)≤18446744073709551616^q':=by
    rw[show(18446744073709551616:Nat)=256^8 from rfl,←za4];exact zai (by decide) (by omega)
   have h2:v+c*256^i<256^(i+1):=by
    rw[zas];have:c*256^i≤255*256^i:=zn _ (by omega);omega
   have h3:v<18446744073709551616^q':=by
    have:v≤v+c*256^i:=za8 _ _;omega
   rw[zaO (by omega),zaO h3]
theorem Uc{v c i:Nat}(hv:v<256^i)(hc:c<256)(hi:i<32):(uc v).set (i/8) (nv (ay v (i/8)|||c*2^(i%8*8)))=uc (v+c*256^i):=by
 obtain⟨h1,h2⟩:=Ub hv hc;rw[h1];generalize i/8=q at*;by_cases h:q<4
 ·have:q=0∨q=1∨q=2∨q=3:=by omega
  rcases this with rfl|rfl|rfl|rfl
  ·simp only[uc,List.set,h2 1 (by omega),h2 2 (by omega),h2 3 (by omega)]
  ·simp only[uc,List.set,h2 0 (by omega),h2 2 (by omega),h2 3 (by omega)]
  ·simp only[uc,List.set,h2 1 (by omega),h2 0 (by omega),h2 3 (by omega)]
  ·simp only[uc,List.set,h2 1 (by omega),h2 2 (by omega),h2 0 (by omega)]
 ·rw[List.set_eq_of_length_le (by simp;omega)];simp only[uc,h2 0 (by omega),h2 1 (by omega),h2 2 (by omega),h2 3 (by omega)]
theorem Ud{s:List UInt8}{i:Nat}{c:UInt8}(hi:i<s.length)(hc:s[s.length-1-i]? =some c):cB (s.drop (s.length-(i+1)))=cB (s.drop (s.length-i))+c.toNat*256^i:=by
 obtain⟨h1,h2⟩:=List.getElem?_eq_some_iff.1 hc;have e:s.drop (s.length-(i+1))=c::s.drop (s.length-i):=by
  rw[zW (by omega)];congr 1
  ·rw[←h2];congr 1;omega
  ·congr 1;omega
 rw[e,LR,zQ,show s.length-(s.length-i)=i by omega];omega
def kX(s:List UInt8):Bool:=decide (s.length≤32)&& !(s.head? ==some 0)
theorem LS(s:List UInt8)(hs:s.length≤2^47):Spec prog 143 [.string (bC s)] [] (fun v B=>v= .tuple #[uv (if kX s then cB s else 0),.int .i64 (if kX s then 0 else 1)]∧B=[]):=by
 refine x_sp func143 ntmps143 fun E cs Γ=>?_;refine ko (h:=?_);have hz:(bC s).size=s.length:=dV s;refine tq (h:=?_);refine ao (aC rfl fun p2=>?_);refine bU (h:=tq (h:=?_));refine ao (aC rfl fun p4=>?_);refine eR (h:=?_);have fx:kX s=(decide (s.length≤32)&& !(s.head? ==some 0)):=rfl;refine uH (α:=Unit) (fun _=>kX s=true) (fun _=>[(4,dp p4),(3,iv 0),(2,dp p2),(0,.string (bC s))]) (fun _=>Row p4 0 [nv 0,nv 0,nv 0,nv 0]::Row p2 0 [nv 0,nv 0,nv 0,nv 0]::Γ) ?_ ?_;rotate_left
 ·intro td back;by_cases LU:s.length≤32
  ·cases s with
   |nil=>
    refine gg (h:=?_);refine yN rfl rfl rfl rfl ?_;refine Wq ?_;exact aV (back () rfl)
   |cons c s=>
    refine gg (h:=?_);refine F2 rfl rfl (fun h=>by have:=yM (b:=[]) h;cases this) rfl ?_;refine uI (h:=uI (h:=fT (h:=?_)));refine bL (rD (bs:=c::s) (j:=0) rfl rfl rfl rfl) rfl ?_;by_cases hc:c.toNat=0
    ·have kY:c=0:=UInt8.toNat_inj.1 hc;have hf:kX (c::s)=false:=by rw[fx,kY];simp
     refine Wq ?_;rw[hf];refine bP (rs:=[.cell 2 24,.tmp 3]) (vs:=[uv 0,.int .i64 1]) ⟨bG rfl rfl,bO rfl,trivial⟩ [] ⟨rfl,rfl⟩ Sub.h
    ·have kY:c≠0:=fun h=>hc (by rw[h];rfl);have hf:kX (c::s)=true:=by rw[fx];simp only[zh,decide_eq_true_eq];exact⟨LU,by simpa using kY⟩
     refine Wq ?_;exact aV (back () hf)
  ·have hf:kX s=false:=by rw[fx];simp;omega
   refine Wq ?_;rw[hf];exact bP (rs:=[.cell 2 24,.tmp 3]) (vs:=[uv 0,.int .i64 1]) ⟨bG rfl rfl,bO rfl,trivial⟩ [] ⟨rfl,rfl⟩ Sub.h
 intro _ bn;rw[bn,if_pos rfl,if_pos rfl];have LU:s.length≤32:=by rw[fx]at bn;simp only[zh,decide_eq_true_eq]at bn;exact bn.1
 refine Wq ?_;refine aQ (α:=Nat) (fun i=>i≤s.length) (fun i=>[(21,iv i),(20,iv (bC s).size),(4,dp p4),(3,iv 0),(2,dp p2),(0,.string (bC s))])
  (fun i=>Row p4 0 (uc (cB (s.drop (s.length-i))))::Row p2 0 [nv 0,nv 0,nv 0,nv 0]::Γ) (fun i=>s.length-i) 0 (by omega) ⟨rfl,rfl,rfl,rfl,rfl,rfl,trivial⟩ ?_ ?_
 ·rw[show s.drop (s.length-0)=[]by simp];exact Sub.h (Δ:=Row p4 0 [nv 0,nv 0,nv 0,nv 0]::Row p2 0 [nv 0,nv 0,nv 0,nv 0]::Γ)
 intro i hi back;refine bQ (h:=?_);by_cases h:i<s.length
 ·obtain⟨c,hc⟩:=bc (l:=s) (i:=s.length-1-i) (by omega);have hv:cB (s.drop (s.length-i))<256^i:=by
   have:=AK (s.drop (s.length-i));rwa[zQ,show s.length-(s.length-i)=i by omega]at this
  have fj:=zbp c;refine Wq ?_;refine aZ 18 (aX [18] [0,1,2,3,4,5,6,7,8,9,10,11,12,13,14,15,16,17,18]) [Row p4 0 (uc (cB (s.drop (s.length-i))))] ?_;refine dD (h:=?_);refine au rfl (J6 rfl rfl (by omega) (by omega) (gE (by omega))) ?_;refine au rfl (du (j:=i/8) rfl rfl (by omega) (by omega)) ?_;refine au rfl (fk (i:=i/8) rfl (by omega) (fO _ (by omega))) ?_;refine Ws ?_;refine au rfl (rD (bs:=s) (j:=s.length-1-i) rfl rfl (by omega) hc) ?_;refine au rfl (Dd rfl) ?_;refine dD (h:=LV (h:=LW (h:=?_)));have kn:c.toNat*2^(i%8*8)<2^64:=by
   have:c.toNat*2^(i%8*8)≤255*2^56:=zaZ (by omega) (zai (by decide) (by omega));exact zaI this (by decide)
  refine au rfl (Dc (b:=i%8*8) rfl rfl (by omega) (by omega) kn) ?_;refine au rfl (j5 _ rfl rfl (fE _ _) kn (.inr (.inl ⟨rfl,rfl⟩))) ?_;refine au rfl (du (j:=i/8) rfl rfl (by omega) (by omega)) ?_;skip;refine bN rfl rfl (iS (i:=i/8) rfl rfl rfl (by omega) (by simp[zN];omega) ?_);rw[Uc hv (by omega) (by omega),←Ud h hc];refine dQ (h:=?_);exact aV (back (i+1) (by omega) (by omega))
 ·obtain rfl:i=s.length:=by omega
  rw[zbX,List.drop_zero];refine Wq ?_;exact bP (rs:=[.cell 2 24,.tmp 3]) (vs:=[uv (cB s),.int .i64 0]) ⟨bG rfl rfl,bO rfl,trivial⟩ [] ⟨rfl,rfl⟩ Sub.h
theorem AO{x:Nat}(h:x<aI):uc x=[nv x,nv 0,nv 0,nv 0]:=by
 unfold uc ay;simp only[Nat.pow_zero,Nat.div_one,Nat.pow_one,Nat.reducePow];unfold aI at h;rw[zaf h,zaO h,zaO (by omega),zaO (by omega)]
theorem LY{n:Nat}(h:n<2^63):Spec prog 284 [.int .i64 n] [] (fun v B=>v= .tuple #[uv n,.int .i64 0]∧B=[]):=by
 refine x_sp func284 ntmps284 fun E cs Γ=>?_;refine gi (h:=?_);refine ao (aC rfl fun p2=>?_);refine aA (h:=?_);refine ft rfl rfl ?_;rw[nY (by omega)];refine aw (h:=?_);refine tn rfl (by rfl) rfl ?_;refine dO (h:=?_);refine jH (us:=[nv n,nv 0,nv 0,nv 0]) rfl rfl rfl rfl rfl (by simp) ?_;rw[←AO (by unfold aI;omega)];refine bU (h:=?_);exact bP (rs:=[.cell 2 24,.tmp 3]) (vs:=[uv n,.int .i64 0]) ⟨bG rfl rfl,bO rfl,trivial⟩ [] ⟨rfl,rfl⟩ Sub.h
end
section
open Go.Proofs Tryz
open Go.Proofs Go.RowKit
theorem Ue{x0 x1 y0 y1:Nat}(rG:x0<4294967296)(ku:x1<4294967296)(iT:y0<4294967296)(gu:y1<4294967296){w0 t w1 w2 v1 hi:Nat}
 (e0:w0=x0*y0%aI) (e1:t=(x1*y0%aI+w0/4294967296)%aI) (e2:w1=t%4294967296) (e3:w2=t/4294967296) (e4:v1=(w1+x0*y1%aI)%aI) (e5:hi=((x1*y1%aI+w2)%aI+v1/4294967296)%aI):
 hi=(x1*4294967296+x0)*(y1*4294967296+y0)/aI:=by
 have b00:x0*y0≤4294967295*4294967295:=zaZ (by omega) (by omega);have b01:x0*y1≤4294967295*4294967295:=zaZ (by omega) (by omega);have b10:x1*y0≤4294967295*4294967295:=zaZ (by omega) (by omega);have b11:x1*y1≤4294967295*4294967295:=zaZ (by omega) (by omega);have e:(x1*4294967296+x0)*(y1*4294967296+y0)=x1*y1*18446744073709551616+(x1*y0+x0*y1)*4294967296+x0*y0:=by
  simp only[zA,zbG];have h1:x1*4294967296*(y1*4294967296)=x1*y1*18446744073709551616:=by
   rw[show(18446744073709551616:Nat)=4294967296*4294967296 from rfl];simp only[zbd,zaq]
  have h2:x1*4294967296*y0=x1*y0*4294967296:=Nat.mul_right_comm _ _ _;have h3:x0*(y1*4294967296)=x0*y1*4294967296:=by simp only[zbd]
  rw[h1,h2,h3];omega
 rw[e];generalize x0*y0=p00 at*;generalize x0*y1=p01 at*;generalize x1*y0=je at*;generalize x1*y1=pB at*;unfold aI at*;omega
theorem Uf{x y:Nat}(hx:x<aI)(hy:y<aI):Spec prog 232 [nv x,nv y] [] (fun v B=>v= .tuple #[nv (x*y/aI),nv (x*y%aI)]∧B=[]):=by
 refine x_sp func232 ntmps232 fun E cs Γ=>?_;have mask:∀z,z&&&4294967295=z%4294967296:=fun z=>zba z 32;have hm:(4294967295:Nat)<18446744073709551616:=by decide
 obtain⟨x0,Ug⟩:∃x0,x0=x%4294967296:=⟨_,rfl⟩
 obtain⟨x1,Uh⟩:∃x1,x1=x/4294967296:=⟨_,rfl⟩
 obtain⟨y0,Ui⟩:∃x0,x0=y%4294967296:=⟨_,rfl⟩
 obtain⟨y1,Uj⟩:∃x1,x1=y/4294967296:=⟨_,rfl⟩
 unfold aI at hx hy;refine qf (h:=aA (h:=?_));refine bL (j5 x0 rfl (b:=4294967295) rfl hx hm (.inl ⟨rfl,by rw[mask,Ug]⟩)) rfl ?_;refine aA (h:=?_);refine bL (mj (b:=32) rfl rfl rfl (by decide)) rfl ?_;rw[show x/2^32=x1 from Uh.symm];refine aA (h:=?_);refine bL (j5 y0 rfl (b:=4294967295) rfl hy hm (.inl ⟨rfl,by rw[mask,Ui]⟩)) rfl ?_;refine aA (h:=?_);refine bL (mj (b:=32) rfl rfl rfl (by decide)) rfl ?_;rw[show y/2^32=y1 from Uj.symm];refine Wq ?_;obtain⟨w0,e0⟩:∃w0,w0=x0*y0%aI:=⟨_,rfl⟩
 refine aw (h:=?_);refine bL (to rfl rfl) rfl ?_;rw[show x0*y0%18446744073709551616=w0 from e0.symm];refine aA (h:=?_);refine bL (to rfl rfl) rfl ?_;refine fv (h:=?_);refine bL (mj (b:=32) rfl rfl rfl (by decide)) rfl ?_;obtain⟨t,e1⟩:∃t,t=(x1*y0%aI+w0/4294967296)%aI:=⟨_,rfl⟩
 refine aw (h:=?_);refine bL (pA rfl rfl) rfl ?_;rw[show(x1*y0%18446744073709551616+w0/2^32)%18446744073709551616=t from e1.symm];refine Wq ?_;obtain⟨w1,e2⟩:∃w,w=t%4294967296:=⟨_,rfl⟩
 obtain⟨w2,e3⟩:∃w,w=t/4294967296:=⟨_,rfl⟩
 refine aw (h:=?_);refine bL (j5 w1 rfl (b:=4294967295) rfl (by rw[e1];exact za0 _ (by decide)) hm (.inl ⟨rfl,by rw[mask,e2]⟩)) rfl ?_;refine aA (h:=?_);refine bL (mj (b:=32) rfl rfl rfl (by decide)) rfl ?_;rw[show t/2^32=w2 from e3.symm];refine aA (h:=?_);refine bL (to rfl rfl) rfl ?_;obtain⟨v1,e4⟩:∃v,v=(w1+x0*y1%aI)%aI:=⟨_,rfl⟩
 refine aw (h:=?_);refine bL (pA rfl rfl) rfl ?_;rw[show(w1+x0*y1%18446744073709551616)%18446744073709551616=v1 from e4.symm];refine aA (h:=?_);refine bL (to rfl rfl) rfl ?_;refine fv (h:=?_);refine bL (pA rfl rfl) rfl ?_;refine fv (h:=?_);refine bL (mj (b:=32) rfl rfl rfl (by decide)) rfl ?_;obtain⟨hi,e5⟩:∃v,v=((x1*y1%aI+w2)%aI+v1/4294967296)%aI:=⟨_,rfl⟩
 refine aw (h:=?_);refine bL (pA rfl rfl) rfl ?_;rw[show((x1*y1%18446744073709551616+w2)%18446744073709551616+v1/2^32)%18446744073709551616=hi from e5.symm];refine aA (h:=?_);refine bL (to rfl rfl) rfl ?_;refine bU (h:=?_);have hh:=Ue (x0:=x0) (x1:=x1) (y0:=y0) (y1:=y1) (by omega) (by omega) (by omega) (by omega) e0 e1 e2 e3 e4 e5;rw[show x1*4294967296+x0=x by omega,show y1*4294967296+y0=y by omega]at hh;exact ap rfl [] ⟨by rw[←hh];rfl,rfl⟩ Sub.h
theorem Uk(x y c:Nat)(hc:c≤1)(w:World):(callFunc 318 [nv x,nv y,nv c].toArray).run prog w= .ok (.value (.tuple [nv ((x+aI-y-c)%aI),nv (if x<y+c then 1 else 0)].toArray)) w:=by
 have h:=run_callFunc_extern func318 (by kernel_rfl) (by kernel_rfl) (by kernel_rfl) (e:=fun args=>do
  let (x,y,b)←Extern.MathBitsCarry.three "Sub64" args
  pure (Extern.MathBitsCarry.pair ((x+Extern.MathBitsCarry.m64-y-b)%Extern.MathBitsCarry.m64) (if x<y+b then 1 else 0))) (by kernel_rfl) #[nv x,nv y,nv c] w
 refine h.trans ?_;have:c=0∨c=1:=by omega
 rcases this with rfl|rfl<;>rfl
def qp(a b:Nat):Nat→Nat
 |0=>0
 |i+1=>if ay a i<ay b i+qp a b i then 1 else 0
theorem Ul(a b:Nat):∀i,qp a b i≤1
 |0=>by simp[qp]
 |i+1=>by unfold qp;split<;>omega
theorem Um{f:Nat→Nat}(h:∀i,f i<aI):∃x,x<aT∧tp f 4=uc x:=by
 obtain⟨h0,h1,h2,h3⟩:=C7 (h 0) (h 1) (h 2) (h 3);refine⟨kT (f 0) (f 1) (f 2) (f 3),C8 (h 0) (h 1) (h 2) (h 3),?_⟩;rw[LH];simp only[uc,h0,h1,h2,h3]
theorem Un(a b:Nat):Spec prog 299 [uv a,uv b] [] (fun v B=>∃(x:Nat) (e:Int),v= .tuple #[uv x,.int .i64 e]∧B=[]∧x<aT):=by
 refine x_sp func299 ntmps299 fun E cs Γ=>?_;refine lL (h:=?_);refine ao (aM rfl rfl fun p2=>?_);refine ao (aM rfl rfl fun p3=>?_);refine ao (aC rfl fun p4=>?_);refine rE (h:=?_);refine ao (aC rfl fun p6=>?_);refine Wq ?_;refine aQ (α:=Nat) (fun i=>i≤4) (fun i=>[(9,iv i),(7,nv (qp a b i)),(6,dp p6),(4,dp p4),(3,dp p3),(2,dp p2),(5,iv 0)])
  (fun i=>Row p6 0 (tp (fun i=>(ay a i+aI-ay b i-qp a b i)%aI) i)::Row p4 0 [nv 0,nv 0,nv 0,nv 0]::Row p3 0 (uc b)::Row p2 0 (uc a)::Γ) (fun i=>4-i) 0 (by omega) x_tv (Sub.h (Δ:=Row p6 0 [nv 0,nv 0,nv 0,nv 0]::Row p4 0 [nv 0,nv 0,nv 0,nv 0]::Row p3 0 (uc b)::Row p2 0 (uc a)::Γ)) ?_
 intro i hi back;refine bQ (h:=?_);by_cases h:i<4
 ·refine Wq ?_;refine aZ 14 (aX [8,13] [0,1,2,3,4,5,6,7,8,9,10,11,12,13,14]) [Row p2 0 (uc a),Row p3 0 (uc b)] ?_;refine dK (h:=?_);refine au rfl (du rfl rfl rfl h) ?_;refine au rfl (fk (i:=i) rfl (by omega) (fO a h)) ?_;refine dD (h:=?_);refine au rfl (du rfl rfl rfl h) ?_;refine au rfl (fk (i:=i) rfl (by omega) (fO b h)) ?_;refine dD (h:=?_);refine aE rfl (AH rfl (Uk (ay a i) (ay b i) (qp a b i) (Ul a b i)) rfl ⟨bd,?_⟩);refine lM (h:=?_);refine au rfl (du rfl rfl rfl h) ?_;refine aE rfl (iS (i:=i) rfl rfl rfl (by omega) (by simpa[zN]using h) ⟨bd,?_⟩);rw[xg (fun i=>(ay a i+aI-ay b i-qp a b i)%aI) h];refine kB (h:=?_);exact aV (back (i+1) (by omega) (by omega))
 ·obtain rfl:i=4:=by omega
  obtain⟨x,hx,h4⟩:=Um (f:=fun i=>(ay a i+aI-ay b i-qp a b i)%aI) fun i=>za0 _ (by decide);rw[h4];by_cases h0:qp a b 4>0
  ·refine Wq ?_;exact bP (rs:=[.cell 4 24,.tmp 5]) (vs:=[uv 0,.int .i64 8]) ⟨bG rfl rfl,bO rfl,trivial⟩ [] ⟨0,8,rfl,rfl,by decide⟩ Sub.h
  ·refine Wq ?_;exact bP (rs:=[.cell 4 24,.tmp 5]) (vs:=[uv x,.int .i64 0]) ⟨bG rfl rfl,bO rfl,trivial⟩ [] ⟨x,0,rfl,rfl,hx⟩ Sub.h
end
section
open Go.Proofs Tryz
open Go.Proofs Go.RowKit
def pC(l:List Nat):Nat:=l.foldr (fun d v=>d+aI*v) 0
theorem G9:∀(l:List Nat) (j d:Nat),j<l.length→pC (l.set j d)+l.getD j 0*aI^j=pC l+d*aI^j
 |x::l,0,d,_=>by simp[pC];omega
 |x::l,j+1,d,h=>by
  have ih:=G9 l j d (by simpa using h);simp only[zaJ,List.getD_cons_succ];show x+aI*pC (l.set j d)+l.getD j 0*aI^(j+1)=x+aI*pC l+d*aI^(j+1);have e:∀z,z*aI^(j+1)=aI*(z*aI^j):=fun z=>by rw[zas];simp only[zY,zaq]
  rw[e,e,zax,zax,←zbG,←zbG,ih]
theorem Uo(a b c d:Nat):pC [a,b,c,d,0,0,0,0]=kT a b c d:=by simp[pC,kT]
theorem G_(a i:Nat):a%aI^(i+1)=a%aI^i+ay a i*aI^i:=by
 unfold ay;rw[zas,Nat.mod_mul,zY (a/_%_)]
theorem Up{x y s c:Nat}(hx:x<aI)(hy:y<aI)(hs:s<aI)(hc:c<aI):∃o k,o<aI∧k<aI∧x*y+s+c=aI*k+o∧
 ((x*y%aI+s+0)%aI+c+0)%aI=o∧((x*y/aI+(x*y%aI+s+0)/aI)%aI+((x*y%aI+s+0)%aI+c+0)/aI)%aI=k:=by
 have hp:x*y≤18446744073709551615*18446744073709551615:=by
  unfold aI at hx hy;exact zaZ (by omega) (by omega)
 refine⟨(x*y+s+c)%aI,(x*y+s+c)/aI,za0 _ (by decide),?_,(Nat.div_add_mod _ _).symm,?_,?_⟩<;>generalize x*y=p at* <;>unfold aI at* <;>omega
structure uV(a b i k:Nat)(L:List Nat)(c:Nat):Prop where
 len:L.length=8
 lt:∀d∈L,d<aI
 val:pC L+c*aI^(i+k)=a%aI^i*b+ay a i*(b%aI^k)*aI^i
 zero:∀j,i+4≤j→j<8→L[j]? =some 0
 c:c<aI
structure uW(a b i:Nat)(L:List Nat):Prop where
 len:L.length=8
 lt:∀d∈L,d<aI
 val:pC L=a%aI^i*b
 zero:∀j,i+4≤j→j<8→L[j]? =some 0
theorem Dl{p:Nat→Prop}{L:List Nat}(h:∀d∈L,p d){j d:Nat}(hd:p d):∀x∈L.set j d,p x:=by
 intro x hx;rcases zag hx with h1|h1
 ·exact h x h1
 ·rw[h1];exact hd
theorem uV.step{a b i k c s o c':Nat}{L:List Nat}(h:uV a b i k L c)(hi:i<4)(hk:k<4)(hs:L[i+k]? =some s)(ho:o<aI)(jz:c'<aI)(e:ay a i*ay b k+s+c=aI*c'+o):uV a b i (k+1) (L.set (i+k) o) c':=by
 refine⟨by rw[zH];exact h.len,Dl h.lt ho,?_,fun j h1 h2=>?_,jz⟩
 ·have h1:=G9 L (i+k) o (by have:=h.len;omega);have h2:L.getD (i+k) 0=s:=by rw[ze,hs];rfl
  rw[h2]at h1;have h3:=h.val;have e2:aI^(i+(k+1))=aI*aI^(i+k):=by rw[←zax,zas,zY]
  have e3:=G_ b k;have e4:aI^(i+k)=aI^i*aI^k:=zbF _ _ _;have e5:ay a i*(b%aI^(k+1))*aI^i=ay a i*(b%aI^k)*aI^i+ay a i*ay b k*aI^(i+k):=by
   rw[e3,e4,zbG,zA];congr 1;simp only[zbd,zY,zaq]
  rw[e5,e2];have e6:c'*(aI*aI^(i+k))+o*aI^(i+k)=(aI*c'+o)*aI^(i+k):=by
   rw[zA];congr 1;simp only[zbd,zY,zaq]
  rw[←e]at e6;have e7:(ay a i*ay b k+s+c)*aI^(i+k)=ay a i*ay b k*aI^(i+k)+s*aI^(i+k)+c*aI^(i+k):=by rw[zA,zA]
  omega
 ·rw[zaK (by omega)];exact h.zero j h1 h2
theorem w4:aI^4=aT:=by decide
theorem uV.out{a b i c:Nat}{L:List Nat}(h:uV a b i 4 L c)(hi:i<4)(hb:b<aT):uW a b (i+1) (L.set (i+4) c):=by
 refine⟨by rw[zH];exact h.len,Dl h.lt h.c,?_,fun j h1 h2=>?_⟩
 ·have h1:=G9 L (i+4) c (by have:=h.len;omega);have h2:L.getD (i+4) 0=0:=by rw[ze,h.zero _ (zq _) (by omega)];rfl
  rw[h2,zbw,zbx]at h1;rw[h1,h.val,G_ a i,zA,show b%aI^4=b from zaf (by rw[w4];exact hb)];congr 1;simp only[zY,zaq]
 ·rw[zaK (by omega)];exact h.zero j (by omega) h2
theorem uW.skip{a b i:Nat}{L:List Nat}(h:uW a b i L)(hz:ay a i=0):uW a b (i+1) L:=
 ⟨h.len,h.lt,by rw[h.val,G_,hz];simp,fun j h1 h2=>h.zero j (by omega) h2⟩
theorem uW.start{a b i:Nat}{L:List Nat}(h:uW a b i L):uV a b i 0 L 0:=
 ⟨h.len,h.lt,by rw[h.val];simp[Nat.mod_one],h.zero,by decide⟩
theorem eight{L:List Nat}(h:L.length=8):∃a b c d e f g k,L=[a,b,c,d,e,f,g,k]:=by
 match L,h with
 |[a,b,c,d,e,f,g,k],_=>exact⟨a,b,c,d,e,f,g,k,rfl⟩
theorem or_zero{a b:Nat}:a|||b=0↔a=0∧b=0:=by
 constructor
 ·intro h;have h1:a≤a|||b:=Nat.left_le_or;have h2:b≤a|||b:=Nat.right_le_or;omega
 ·rintro⟨rfl,rfl⟩;rfl
theorem AP{a b:Nat}(ha:a<aT)(hb:b<aT):Spec prog 192 [uv a,uv b] [] (fun v B=>v= .tuple #[uv (if a*b<aT then a*b else 0),.int .i64 (if a*b<aT then 0 else 8)]∧B=[]):=by
 refine x_sp func192 ntmps192 fun E cs Γ=>?_;refine lL (h:=?_);refine ao (aM rfl rfl fun p2=>?_);refine ao (aM rfl rfl fun p3=>?_);refine ao (aC rfl fun p4=>?_);refine Wq ?_;refine ao (aC rfl fun p6=>?_);refine Wq ?_;refine aQ (α:=Nat×List Nat) (fun q=>q.1≤4∧uW a b q.1 q.2) (fun q=>[(17,iv q.1),(16,uv a),(6,dp p6),(4,dp p4),(3,dp p3),(2,dp p2),(5,iv 0)])
  (fun q=>Row p6 0 (q.2.map nv)::Row p4 0 [nv 0,nv 0,nv 0,nv 0]::Row p3 0 (uc b)::Row p2 0 (uc a)::Γ) (fun q=>4-q.1) (0,[0,0,0,0,0,0,0,0])
  ⟨by simp,rfl,by intro d hd;simp at hd;subst hd;decide,by simp[pC,Nat.mod_one],fun j h1 h2=>by
   dsimp only at h1;have:j=4∨j=5∨j=6∨j=7:=by omega
   rcases this with rfl|rfl|rfl|rfl<;>rfl⟩ x_tv (Sub.h (Δ:=Row p6 0 [nv 0,nv 0,nv 0,nv 0,nv 0,nv 0,nv 0,nv 0]::Row p4 0 [nv 0,nv 0,nv 0,nv 0]::Row p3 0 (uc b)::Row p2 0 (uc a)::Γ)) ?_
 rintro⟨i,L⟩ ⟨hi,O⟩ back;dsimp only at hi O back⊢;refine bQ (h:=?_);by_cases h:i<4
 ·have xj:=fE a i;refine aA (h:=?_);refine xe rfl rfl rfl h (fO a h) rfl ?_;refine Wq ?_;by_cases hz:ay a i=0
  ·refine Wq ?_;exact aV (back (i+1,L) ⟨by dsimp only;omega,O.skip hz⟩ (by dsimp only;omega))
  ·refine Wq ?_;refine aQ (α:=Nat×List Nat×Nat) (fun q=>q.1≤4∧uV a b i q.1 q.2.1 q.2.2) (fun q=>[(24,iv q.1),(23,uv b),(9,nv q.2.2),(7,iv i),(8,nv (ay a i)),(17,iv i),(16,uv a),(6,dp p6),(4,dp p4),(3,dp p3),(2,dp p2),(5,iv 0)])
    (fun q=>Row p6 0 (q.2.1.map nv)::Row p4 0 [nv 0,nv 0,nv 0,nv 0]::Row p3 0 (uc b)::Row p2 0 (uc a)::Γ) (fun q=>4-q.1) (0,L,0) ⟨by simp,O.start⟩ x_tv Sub.h ?_
   rintro⟨k,L,c⟩ ⟨hk,I⟩ eY;dsimp only at hk I eY⊢;refine bQ (h:=?_);have Dm:=I.len;by_cases h2:k<4
   ·obtain⟨s,hs⟩:=bc (l:=L) (i:=i+k) (by omega);have dP:=I.lt s (zc hs);have AQ:(L.map nv)[i+k]? =some (nv s):=by rw[zf,hs];rfl
    obtain⟨o,c',ho,jz,hE,hO,hK⟩:=Up xj (fE b k) dP I.c;have hP:ay a i*ay b k/aI<aI:=zaU (Nat.mul_lt_mul'' xj (fE b k));refine aA (h:=?_);refine xe rfl rfl rfl h2 (fO b h2) rfl ?_;refine aA (h:=?_);refine aq rfl (Uf xj (fE b k)) rfl ?_;refine cS (h:=aA (h:=?_));refine dd (j:=i+k) rfl rfl (by omega) (by omega) rfl ?_;refine aw (h:=?_);refine iF (i:=i+k) rfl (by omega) AQ rfl ?_;refine aw (h:=?_);refine AH rfl (GR (ay a i*ay b k%aI) s 0 (by omega)) rfl ?_;refine aA (h:=?_);refine bL (pA rfl rfl) rfl ?_;refine aA (h:=?_);refine AH rfl (GR ((ay a i*ay b k%aI+s+0)%aI) c 0 (by omega)) rfl ?_;refine gj (h:=aw (h:=?_));refine dd (j:=i+k) rfl rfl (by omega) (by omega) rfl ?_;refine dO (h:=?_);refine iS (i:=i+k) rfl rfl rfl (by omega) (by simp[zN];omega) ?_;rw[←zak (f:=nv),hO];refine aA (h:=?_);refine bL (pA rfl rfl) rfl ?_;rw[show((ay a i*ay b k/aI+(ay a i*ay b k%aI+s+0)/aI)%18446744073709551616+((ay a i*ay b k%aI+s+0)%aI+c+0)/aI)%18446744073709551616=c' from hK];refine Wq ?_;exact aV (eY (k+1,L.set (i+k) o,c') ⟨by dsimp only;omega,I.step h h2 hs ho jz hE⟩ (by dsimp only;omega))
   ·obtain rfl:k=4:=by omega
    refine aA (h:=?_);refine dd (j:=i+4) rfl rfl (by omega) (by omega) rfl ?_;refine dO (h:=?_);refine iS (i:=i+4) rfl rfl rfl (by omega) (by simp[zN];omega) ?_;rw[←zak (f:=nv)];refine Wq ?_;exact aV (back (i+1,L.set (i+4) c) ⟨by dsimp only;omega,I.out h hb⟩ (by dsimp only;omega))
 ·obtain rfl:i=4:=by omega
  obtain⟨l0,l1,l2,l3,l4,l5,l6,l7,rfl⟩:=eight O.len;have nt:=O.val;rw[show a%aI^4=a from zaf (by rw[w4];exact ha)]at nt;have hL:=O.lt;have h0:=hL l0 (by simp);have h1:=hL l1 (by simp);have h2:=hL l2 (by simp);have h3:=hL l3 (by simp);have h4:=hL l4 (by simp);have h5:=hL l5 (by simp);have h6:=hL l6 (by simp);have h7:=hL l7 (by simp);refine aA (h:=?_);refine dd (j:=4) rfl rfl rfl (by omega) rfl ?_;refine aw (h:=?_);refine iF (i:=4) rfl (by omega) rfl rfl ?_;refine aw (h:=?_);refine dd (j:=5) rfl rfl rfl (by omega) rfl ?_;refine aw (h:=?_);refine iF (i:=5) rfl (by omega) rfl rfl ?_;refine aw (h:=?_);refine bL (j5 _ rfl rfl h4 h5 (.inr (.inl ⟨rfl,rfl⟩))) rfl ?_;have LZ:l4|||l5<18446744073709551616:=zcb (n:=64) h4 h5;refine aw (h:=?_);refine dd (j:=6) rfl rfl rfl (by omega) rfl ?_;refine aw (h:=?_);refine iF (i:=6) rfl (by omega) rfl rfl ?_;refine aw (h:=?_);refine bL (j5 _ rfl rfl LZ h6 (.inr (.inl ⟨rfl,rfl⟩))) rfl ?_;have Uq:l4|||l5|||l6<18446744073709551616:=zcb (n:=64) LZ h6;refine aw (h:=?_);refine dd (j:=7) rfl rfl rfl (by omega) rfl ?_;refine aw (h:=?_);refine iF (i:=7) rfl (by omega) rfl rfl ?_;refine aw (h:=?_);refine bL (j5 _ rfl rfl Uq h7 (.inr (.inl ⟨rfl,rfl⟩))) rfl ?_;by_cases hz:l4|||l5|||l6|||l7=0
  ·have pD:=hz;rw[or_zero,or_zero,or_zero]at pD;obtain⟨⟨⟨rfl,rfl⟩,rfl⟩,rfl⟩:=pD;rw[Uo]at nt;have aN:=C8 h0 h1 h2 h3;rw[nt]at aN;rw[if_pos aN,if_pos aN];obtain⟨g0,g1,g2,g3⟩:=C7 h0 h1 h2 h3;rw[nt]at g0 g1 g2 g3;refine aA (h:=?_);refine dd (j:=0) rfl rfl rfl (by omega) rfl ?_;refine aw (h:=?_);refine iF (i:=0) rfl (by omega) rfl rfl ?_;refine aw (h:=?_);refine dd (j:=1) rfl rfl rfl (by omega) rfl ?_;refine aw (h:=?_);refine iF (i:=1) rfl (by omega) rfl rfl ?_;refine aw (h:=?_);refine dd (j:=2) rfl rfl rfl (by omega) rfl ?_;refine aw (h:=?_);refine iF (i:=2) rfl (by omega) rfl rfl ?_;refine aw (h:=?_);refine dd (j:=3) rfl rfl rfl (by omega) rfl ?_;refine aw (h:=?_);refine iF (i:=3) rfl (by omega) rfl rfl ?_;refine aw (h:=?_);refine tn rfl (by rfl) rfl ?_;refine dO (h:=?_);refine jH (us:=[nv l0,nv l1,nv l2,nv l3]) rfl rfl rfl rfl rfl (by simp) ?_;have Ur:uc (a*b)=[nv l0,nv l1,nv l2,nv l3]:=by simp only[uc,g0,g1,g2,g3]
   rw[←Ur];refine bU (h:=?_);exact bP (rs:=[.cell 4 24,.tmp 5]) (vs:=[uv (a*b),.int .i64 0]) ⟨bG rfl rfl,bO rfl,trivial⟩ [] ⟨rfl,rfl⟩ Sub.h
  ·have Dn:¬a*b<aT:=by
    rw[←nt];intro aN;apply hz;simp only[pC,List.foldr]at aN;unfold aI aT at aN;rw[or_zero,or_zero,or_zero];omega
   rw[if_neg Dn,if_neg Dn];refine Wq ?_;exact bP (rs:=[.cell 4 24,.tmp 5]) (vs:=[uv 0,.int .i64 8]) ⟨bG rfl rfl,bO rfl,trivial⟩ [] ⟨rfl,rfl⟩ Sub.h
end
section
open Go.Proofs Tryz
open Go.Proofs Go.RowKit
theorem Us(d:Nat)(a b:Nat)(w:World):(Op.equalIn (d+1) 22 (nv a) (nv b)).run prog w= .ok (decide (a=b)) w:=by
 have u:=underlying22;rw[Op.equalIn];simp only[Sem.run_bind,cN u,Result.andThen_ok];have e:((a:Int)==(b:Int))=decide (a=b):=by
  by_cases h:a=b
  ·subst h;simp
  ·rw[decide_eq_false h];simp;omega
 show(pure ((a:Int)==(b:Int)):Sem Bool).run prog w=_;rw[e];rfl
theorem L0(a b:Nat)(ha:a<aT)(hb:b<aT)(w:World):(Op.equal 24 (uv a) (uv b)).run prog w= .ok (decide (a=b)) w:=by
 have u:=underlying24;have z:=typeInfo22;have e:decide (a=b)=(decide (ay a 0=ay b 0)&&(decide (ay a 1=ay b 1)&&(decide (ay a 2=ay b 2)&&decide (ay a 3=ay b 3)))):=by
  by_cases h:a=b
  ·subst h;simp
  ·rw[decide_eq_false h];symm;rw[Bool.eq_false_iff];intro h2;simp only[zh,decide_eq_true_eq]at h2;obtain⟨h0,h1,h2,h3⟩:=h2;apply h;rw[←ti ha,←ti hb,h0,h1,h2,h3]
 have hz:(Go.sizeOf 22).run prog w= .ok 1 w:=by
  unfold Go.sizeOf;simp[z];rfl
 have hp:∀(l:List Value) (i:Nat) (v:Value),l[i]? =some v→(part 22 l.toArray (i*1)).run prog w= .ok v w:=fun l i v h=>by
  simp[part,cU.agg,h]
 rw[F4,Op.equalIn];simp only[Sem.run_bind,cN u,Result.andThen_ok];have hr:(List.range' 0 4 1)=[0,1,2,3]:=rfl;simp only[Std.Legacy.Range.forIn_eq_forIn_range',Std.Legacy.Range.size];have iy:∀(x:Nat) (i:Nat) (v:Value),(uc x)[i]? =some v→(part 22 (uc x).toArray i).run prog w= .ok v w:=fun x i v h=>by
  have:=hp _ _ _ h;rwa[zaj]at this
 have a0:=iy a 0 _ rfl;have a1:=iy a 1 _ rfl;have a2:=iy a 2 _ rfl;have a3:=iy a 3 _ rfl;have b0:=iy b 0 _ rfl;have b1:=iy b 1 _ rfl;have b2:=iy b 2 _ rfl;have b3:=iy b 3 _ rfl;have Q:=Us 9998;simp only[hz,Result.andThen_ok,show(4-0+1-1)/1=4 from rfl,hr,List.forIn_cons,List.forIn_nil,Sem.run_bind,zaj,a0,b0,Q];rw[e];by_cases h0:ay a 0=ay b 0
 ·by_cases h1:ay a 1=ay b 1
  ·by_cases h2:ay a 2=ay b 2
   ·by_cases h3:ay a 3=ay b 3
    ·simp[h0,h1,h2,h3,a1,b1,a2,b2,a3,b3,Q]
    ·simp[h0,h1,h2,h3,a1,b1,a2,b2,a3,b3,Q]
   ·simp[h0,h1,h2,a1,b1,a2,b2,Q]
  ·simp[h0,h1,a1,b1,Q]
 ·simp[h0]
end
section
open Go.Proofs Tryz
open Go.Proofs Go.RowKit
theorem Ha{ρ:aK}{Γ:List HP}{ty yt:TypeId}{x y:Operand}{a b:Nat}(hx:ev ρ x=some (uv a))(hy:ev ρ y=some (uv b))(ha:a<aT)(hb:b<aT):
 bI prog (.binOp .eql 24 x y yt) ty ρ Γ (.bool (decide (a=b))):=
 ⟨by simp,fun ee o E w ax aS he bg hs=>
  CF .eql ax (he _ _ hx) (he _ _ hy) (run_eqGuard_agg w .eql 24 x y _ _ (by kernel_rfl)) (by simp[binOp]) (L0 a b ha hb w)⟩
theorem L2{ρ:aK}{Γ:List HP}{ty yt:TypeId}{x y:Operand}{a b:Nat}(hx:ev ρ x=some (uv a))(hy:ev ρ y=some (uv b))(ha:a<aT)(hb:b<aT):
 bI prog (.binOp .neq 24 x y yt) ty ρ Γ (.bool (!decide (a=b))):=
 ⟨by simp,fun ee o E w ax aS he bg hs=>
  CF .neq ax (he _ _ hx) (he _ _ hy) (run_eqGuard_agg w .neq 24 x y _ _ (by kernel_rfl)) (by simp[binOp]) (L0 a b ha hb w)⟩
abbrev FF:Nat:=3338477
theorem Ut{l y:Nat}(hl:l<aI)(hy:0<y)(Hb:y<aI):Spec prog 320 [nv 0,nv l,nv y] [] (fun v B=>v= .tuple #[nv (l/y),nv (l%y)]∧B=[]):=by
 refine x_sp func320 ntmps320 fun E cs Γ=>?_;refine mR (h:=?_);refine Dp 3 (aX [] [0,1,2,3,4,5,6,7]) [] ?_;refine dK (h:=?_);refine au rfl (J6 rfl rfl (by omega) (by omega) ?_) ?_
 ·rw[show(l:Int)/(y:Int)=((l/y:Nat):Int)from rfl];exact nY (zaI (zbv _ _) hl)
 refine kC (h:=?_);exact ap rfl [] ⟨rfl,rfl⟩ Sub.h
theorem Uu:Spec prog 308 [uv 0,uv FF] [] (fun v B=>v= .tuple #[uv 0,uv 0,.int .i64 0]∧B=[]):=by
 refine x_sp func308 ntmps308 fun E cs Γ=>?_;refine lL (h:=?_);refine ao (aM rfl rfl fun p2=>?_);refine ao (aM rfl rfl fun p3=>?_);refine ao (aC rfl fun p4=>?_);refine ao (aC rfl fun p5=>?_);refine aA (h:=?_);refine aq rfl (GU (a:=FF) (by decide)) rfl ?_;rintro v B ⟨n,rfl,rfl,L⟩;refine dq (h:=?_);have hn:n=1:=by
  have h1:=L.lo;have h2:=L.hi;have:n=0∨n=1∨n=2∨n=3∨n=4:=by have:=L.le;omega
  rcases this with rfl|rfl|rfl|rfl|rfl
  ·simp at h2
  ·rfl
  ·exact absurd (h1 (by decide)) (by decide)
  ·exact absurd (h1 (by decide)) (by decide)
  ·exact absurd (h1 (by decide)) (by decide)
 subst hn;refine aA (h:=?_);refine aq rfl (ml (a:=0) (b:=FF) (by decide) (by decide)) rfl ?_;refine dh (h:=?_);rw[show cV 0 FF= -1 from rfl];refine nZ (h:=?_);refine aZ 4 (aX [2,3] [0,1,2,3,4]) [Row p4 0 [nv 0,nv 0,nv 0,nv 0],Row p2 0 (uc 0)] ?_;refine iA (h:=iA (h:=?_));refine aE rfl (dt rfl rfl rfl rfl rfl ⟨bd,?_⟩);refine aE rfl (dt rfl rfl rfl rfl rfl ⟨bd,?_⟩);refine df (h:=?_);exact bP (rs:=[.cell 4 24,.cell 5 24,.tmp 6]) (vs:=[uv 0,uv 0,.int .i64 0]) ⟨bG rfl rfl,bG rfl rfl,bO rfl,trivial⟩ [] ⟨rfl,rfl⟩ Sub.h
theorem Uv:Spec prog 308 [uv FF,uv FF] [] (fun v B=>v= .tuple #[uv 1,uv 0,.int .i64 0]∧B=[]):=by
 refine x_sp func308 ntmps308 fun E cs Γ=>?_;refine lL (h:=?_);refine ao (aM rfl rfl fun p2=>?_);refine ao (aM rfl rfl fun p3=>?_);refine ao (aC rfl fun p4=>?_);refine ao (aC rfl fun p5=>?_);refine aA (h:=?_);refine aq rfl (GU (a:=FF) (by decide)) rfl ?_;rintro v B ⟨n,rfl,rfl,L⟩;refine dq (h:=?_);have hn:n=1:=by
  have h1:=L.lo;have h2:=L.hi;have:n=0∨n=1∨n=2∨n=3∨n=4:=by have:=L.le;omega
  rcases this with rfl|rfl|rfl|rfl|rfl
  ·simp at h2
  ·rfl
  ·exact absurd (h1 (by decide)) (by decide)
  ·exact absurd (h1 (by decide)) (by decide)
  ·exact absurd (h1 (by decide)) (by decide)
 subst hn;refine aA (h:=?_);refine aq rfl (ml (a:=FF) (b:=FF) (by decide) (by decide)) rfl ?_;refine dh (h:=?_);rw[show cV FF FF=0 from rfl];refine nZ (h:=?_);refine aQ (α:=Nat) (fun k=>k≤4) (fun k=>[(9,iv (3-k)),(8,nv 0),(6,iv 0),(5,dp p5),(4,dp p4),(3,dp p3),(2,dp p2)])
  (fun k=>Row p5 0 [nv 0,nv 0,nv 0,nv 0]::Row p4 0 [nv (if k=4 then 1 else 0),nv 0,nv 0,nv 0]::Row p3 0 (uc FF)::Row p2 0 (uc FF)::Γ) (fun k=>4-k) 0 (by omega) ⟨rfl,rfl,rfl,rfl,rfl,rfl,rfl,trivial⟩
  (Sub.h (Δ:=Row p5 0 [nv 0,nv 0,nv 0,nv 0]::Row p4 0 [nv 0,nv 0,nv 0,nv 0]::Row p3 0 (uc FF)::Row p2 0 (uc FF)::Γ)) ?_
 intro k hk back;refine lN (h:=?_);by_cases h:k<4
 ·obtain⟨i,hi⟩:∃i,i=3-k:=⟨_,rfl⟩
  have fc:i<4:=by omega
  have oE:ay FF i<aI:=fE _ _;have hq:ay FF i/ay FF 0=(if i=0 then 1 else 0)∧ay FF i%ay FF 0=0:=by
   have:i=0∨i=1∨i=2∨i=3:=by omega
   rcases this with rfl|rfl|rfl|rfl<;>decide
  refine Wq ?_;refine aZ 13 (aX [7,12] [0,1,2,3,4,5,6,7,8,9,10,11,12,13]) [Row p2 0 (uc FF),Row p3 0 (uc FF)] ?_;refine uX (h:=?_);refine au rfl (du (j:=i) rfl rfl (by omega) fc) ?_;refine au rfl (fk (i:=i) rfl (by omega) (fO FF fc)) ?_;refine au rfl (du (j:=0) rfl rfl rfl (by omega)) ?_;refine au rfl (fk (i:=0) rfl (by omega) (fO FF (by omega))) ?_;refine aE rfl (aq rfl (Ut (l:=ay FF i) (y:=ay FF 0) oE (by decide) (fE _ _)) rfl ?_);refine cn (h:=lM (h:=?_));refine au rfl (du (j:=i) rfl rfl (by omega) fc) ?_;refine aE rfl (iS (i:=i) rfl rfl rfl (by omega) (by simpa[zN]using fc) ⟨bd,?_⟩);rw[hq.1];have kW:([nv (if k=4 then 1 else 0),nv 0,nv 0,nv 0]).set i (nv (if i=0 then 1 else 0))=[nv (if k+1=4 then 1 else 0),nv 0,nv 0,nv 0]:=by
   have:k=0∨k=1∨k=2∨k=3:=by omega
   rcases this with rfl|rfl|rfl|rfl<;>subst hi<;>rfl
  rw[kW];refine kB (h:=?_);rw[hq.2,show(3-(k:Int)-1)=3-((k+1:Nat):Int)by omega];exact aV (back (k+1) (by omega) (by omega))
 ·obtain rfl:k=4:=by omega
  refine Wq ?_;exact bP (rs:=[.cell 4 24,.cell 5 24,.tmp 6]) (vs:=[uv 1,uv 0,.int .i64 0]) ⟨bG rfl rfl,bG rfl rfl,bO rfl,trivial⟩ [] ⟨rfl,rfl⟩ Sub.h
theorem Uw:Spec prog 307 [uv 0,uv FF,uv 0,uv FF,.int .i64 1] [] (fun v B=>v= .tuple #[uv FF,uv 0,.int .i64 0]∧B=[]):=by
 refine x_sp func307 ntmps307 fun E cs Γ=>?_;refine lL (h:=?_);refine ao (aM rfl rfl fun p5=>?_);refine ao (aM rfl rfl fun p6=>?_);refine ao (aM rfl rfl fun p7=>?_);refine ao (aM rfl rfl fun p8=>?_);refine ao (aC rfl fun je=>?_);refine ao (aC rfl fun pB=>?_);refine aA (h:=?_);refine aq rfl (LY (n:=1) (by decide)) rfl ?_;refine xk (h:=?_);refine ao (aC rfl fun Ux=>?_);refine aA (h:=?_);refine aq rfl (uT (a:=0) (b:=FF) (by decide) (by decide)) rfl ?_;refine dh (h:=?_);rw[if_pos (by decide),if_pos (by decide),show 0+FF=FF from rfl];refine dq (h:=aA (h:=?_));refine aq rfl (AP (a:=FF) (b:=0) (by decide) (by decide)) rfl ?_;refine dh (h:=?_);rw[if_pos (by decide),if_pos (by decide),show FF*0=0 from rfl];refine qq (h:=?_);refine ao (aC rfl fun Uy=>?_);refine aA (h:=?_);refine aq rfl (AP (a:=FF) (b:=1) (by decide) (by decide)) rfl ?_;refine dh (h:=?_);rw[if_pos (by decide),if_pos (by decide),show FF*1=FF from rfl];refine qq (h:=?_);refine ao (aC rfl fun p18=>?_);refine aA (h:=?_);refine aq rfl Uu rfl ?_;refine jO (h:=?_);refine aZ 4 (aX [2,3] [0,1,2,3,4]) [Row je 0 (uc FF),Row pB 0 (uc 0)] ?_;refine iA (h:=iA (h:=?_));refine aE rfl (dt rfl rfl rfl rfl rfl ⟨bd,?_⟩);refine aE rfl (dt rfl rfl rfl rfl rfl ⟨bd,?_⟩);refine df (h:=?_);exact bP (rs:=[.cell 10 24,.cell 11 24,.tmp 12]) (vs:=[uv FF,uv 0,.int .i64 0]) ⟨bG rfl rfl,bG rfl rfl,bO rfl,trivial⟩ [] ⟨rfl,rfl⟩ Sub.h
theorem Uz:Spec prog 282 [uv 1,uv 0,uv FF] [] (fun v B=>v= .tuple #[uv 1,.int .i64 0]∧B=[]):=by
 refine x_sp func282 ntmps282 fun E cs Γ=>?_;refine lL (h:=?_);refine ao (aM rfl rfl fun p3=>?_);refine ao (aM rfl rfl fun p4=>?_);refine ao (aM rfl rfl fun p5=>?_);refine ao (aC rfl fun p6=>?_);refine Wq ?_;refine ao (aC rfl fun p8=>?_);refine ao (aC rfl fun p9=>?_);refine aA (h:=?_);refine bL (Ha (a:=FF) (b:=0) rfl rfl (by decide) (by decide)) rfl ?_;rw[show decide (FF=0)=false from rfl];refine aA (h:=?_);refine aq rfl (AP (a:=1) (b:=FF) (by decide) (by decide)) rfl ?_;refine dh (h:=?_);rw[if_pos (by decide),if_pos (by decide),show 1*FF=FF from rfl];refine qq (h:=?_);refine ao (aC rfl fun je=>?_);refine Wq ?_;refine aQ (α:=Nat) (fun k=>k≤1) (fun k=>[(12,iv (1+k)),(11,iv 0),(10,dp je),(9,dp p9),(8,dp p8),(7,iv 0),(6,dp p6),(5,dp p5),(4,dp p4)])
  (fun k=>Row je 0 (uc (if k=0 then FF else 0))::Row p9 0 (uc (if k=0 then 0 else FF))::Row p8 0 (uc 0)::Row p6 0 (uc 0)::Row p5 0 (uc FF)::Row p4 0 (uc 0)::Γ) (fun k=>1-k) 0 (by omega) ⟨rfl,rfl,rfl,rfl,rfl,rfl,rfl,rfl,rfl,trivial⟩
  (Sub.h (Δ:=Row je 0 [nv (ay FF 0),nv (ay FF 1),nv (ay FF 2),nv (ay FF 3)]::Row p9 0 [nv 0,nv 0,nv 0,nv 0]::Row p8 0 [nv 0,nv 0,nv 0,nv 0]::Row p6 0 [nv 0,nv 0,nv 0,nv 0]::Row p5 0 (uc FF)::Row p4 0 (uc 0)::Γ)) ?_
 intro k hk back;have:k=0∨k=1:=by omega
 rcases this with rfl|rfl
 ·simp only[if_pos];refine gg (h:=?_);refine bL (L2 (a:=FF) (b:=0) rfl rfl (by decide) (by decide)) rfl ?_;rw[show(!decide (FF=0))=true from rfl];refine aA (h:=?_);refine bL (Ha (a:=FF) (b:=0) rfl rfl (by decide) (by decide)) rfl ?_;rw[show decide (FF=0)=false from rfl];refine aA (h:=?_);refine aq rfl Uw rfl ?_;refine jO (h:=?_);have b1:=back 1 (by omega) (by omega);rw[if_neg (show¬1=0 by decide),if_neg (show¬1=0 by decide)]at b1;exact aV (b1)
 ·rw[if_neg (by decide),if_neg (by decide)];refine gg (h:=?_);refine bL (L2 (a:=0) (b:=0) rfl rfl (by decide) (by decide)) rfl ?_;rw[show(!decide (0=0))=false from rfl];refine aA (h:=?_);refine bL (Ha (a:=0) (b:=0) rfl rfl (by decide) (by decide)) rfl ?_;rw[show decide (0=0)=true from rfl];refine aA (h:=?_);refine aq rfl Uv rfl ?_;refine jO (h:=?_);refine ao (aC rfl fun Ux=>?_);refine ao (aC rfl fun xl=>?_);refine Wq ?_;exact bP (rs:=[.cell 6 24,.tmp 7]) (vs:=[uv 1,.int .i64 0]) ⟨bG rfl rfl,bO rfl,trivial⟩ [] ⟨rfl,rfl⟩ Sub.h
theorem UA:Spec prog 250 [.int .i64 0] [] (fun v B=>v= .tuple #[uv 1,.int .i64 0]∧B=[]):=by
 refine x_sp func250 ntmps250 fun E cs Γ=>?_;refine gi (h:=?_);refine ao (aC rfl fun p2=>?_);refine aA (h:=?_);refine ft rfl rfl ?_;refine ao (tn rfl (by rfl) rfl ?_);refine ao (tn rfl (by rfl) rfl ?_);refine aw (h:=?_);refine aq rfl Uz rfl ?_;refine xk (h:=?_);refine ao (aC rfl fun p4=>?_);refine Wq ?_;exact bP (rs:=[.cell 2 24,.tmp 3]) (vs:=[uv 1,.int .i64 0]) ⟨bG rfl rfl,bO rfl,trivial⟩ [] ⟨rfl,rfl⟩ Sub.h
end
section
open Go.Proofs Tryz
open Go.Proofs Go.RowKit
def bh(a j:Nat):Nat:=if j+2≤bT a then ay a ((bT a-2-j)/64)/2^((bT a-2-j)%64)%2 else 0
theorem Hc(a j:Nat):bh a j≤1:=by unfold bh;split<;>omega
def pE(a:Nat):Nat→Nat
 |0=>0
 |j+1=>2*pE a j+bh a j
theorem Dq(a:Nat):∀j,pE a j+1≤2^j
 |0=>by simp[pE]
 |j+1=>by have h1:=Dq a j;have h2:=Hc a j;simp only[pE,zas];omega
def nu(a:Nat):Int:=if bT a=0 then 0 else 8*((bT a:Int)-1)+pE a 3+1
theorem xm{a:Nat}(ha:a<aT):0≤nu a∧nu a≤2048:=by
 have h1:=Di ha;have h2:=Dq a 3;unfold nu;split<;>omega
theorem uY{P:Program}{X:Cx}{n:Nat}{ds:List Deferred}{ρ:aK}{Γ Δ:List HP}{todo:List Item}[T:Take Γ (Fact False jr) Δ]:Ex P X n ds todo ρ Γ:=
 kN (p:=False) (fun _ _ st=>((st.perm T.h).fact).1) False.elim
abbrev L3(a:Nat):List (List Value):=(List.range 3).map fun j=>[.int .i64 (bh a j:Nat)]
theorem UB(p1:Nat){a:Nat}(ha:a<aT):Iter prog 325 [] [dp p1] [Row p1 0 (uc a)] [] (L3 a):=by
 intro l I J hy;refine x_sp func325 ntmps325 fun E cs Γ=>?_;have hb:=Di ha;refine eh (h:=Dr (h:=aw (h:=?_)));refine aq rfl (GX ha) rfl ?_;refine jO (h:=?_);refine aQ (α:=Nat) (fun j=>j≤3) (fun j=>[(0,.func (.yield l) #[] #[]),(1,dp p1),(3,iv ((bT a:Int)-1)),(4,iv ((bT a:Int)-1-1-j))])
  (fun j=>I j::Row p1 0 (uc a)::Γ) (fun j=>3-j) 0 (by omega) ⟨rfl,rfl,rfl,by rw[show((bT a:Int)-1-1-((0:Nat):Int))=(bT a:Int)-1-1 by omega];rfl,trivial⟩ Sub.h ?_
 intro j hj back;refine Wl ?_;by_cases h:j<3
 ·have ru:=hy j [.int .i64 (bh a j:Nat)] (by simp[h]);refine Wq ?_;by_cases h0:j+2≤bT a
  ·have He:bh a j=ay a ((bT a-2-j)/64)/2^((bT a-2-j)%64)%2:=by unfold bh;rw[if_pos h0]
   have L4:(bT a-2-j)/64<4:=by omega
   have oE:=fE a ((bT a-2-j)/64);have kn:ay a ((bT a-2-j)/64)/2^((bT a-2-j)%64)<18446744073709551616:=zaI (zbv _ _) oE;refine aA (h:=?_);refine dd (j:=(bT a-2-j)/64) rfl rfl (by omega) L4 rfl ?_;refine aw (h:=?_);refine iF (i:=(bT a-2-j)/64) rfl (by omega) (fO a L4) rfl ?_;refine iu (h:=Dj (h:=aw (h:=?_)));refine bL (mj (b:=(bT a-2-j)%64) rfl rfl (by omega) (by simp[IntKind.bits];omega)) rfl ?_;refine aw (h:=?_);refine bL (j5 (bh a j) rfl (b:=1) rfl kn (by decide) (.inl ⟨rfl,by rw[He];exact(Nat.and_one_is_mod _).symm⟩)) rfl ?_;refine aw (h:=?_);refine ft rfl rfl ?_;rw[gE (x:=((bh a j:Nat):Int)) (by have:=Hc a j;omega)];refine aA (h:=?_);refine qe rfl rfl ru rfl ?_;rintro y B (⟨rfl,rfl⟩|⟨rfl,rfl⟩)
   ·refine bW (h:=?_);rw[show((bT a:Int)-1-1-(j:Int)-1)=(bT a:Int)-1-1-((j+1:Nat):Int)by omega];exact aV (back (j+1) (by omega) (by omega))
   ·refine uZ (h:=?_);exact ap rfl ([]++[J (j+1)]) (.inr ⟨_,rfl⟩) (by (refine dq (h:=?_));exact Sub.h)
  ·have He:bh a j=0:=by unfold bh;rw[if_neg h0]
   rw[He]at ru;refine aA (h:=?_);refine qe rfl rfl ru rfl ?_;rintro y B (⟨rfl,rfl⟩|⟨rfl,rfl⟩)
   ·refine bW (h:=?_);rw[show((bT a:Int)-1-1-(j:Int)-1)=(bT a:Int)-1-1-((j+1:Nat):Int)by omega];exact aV (back (j+1) (by omega) (by omega))
   ·refine uZ (h:=?_);exact ap rfl ([]++[J (j+1)]) (.inr ⟨_,rfl⟩) (by (refine dq (h:=?_));exact Sub.h)
 ·obtain rfl:j=3:=by omega
  refine Wq ?_;exact cJ ([]++[I 3]) (.inl rfl) (by (refine dq (h:=?_));exact Sub.h)
theorem UC(a:Nat):Spec prog 309 [uv a] [] (fun v B=>∃p1,v= .func (.func 325) #[] #[dp p1]∧B=[Row p1 0 (uc a)]):=by
 refine x_sp func309 ntmps309 fun E cs Γ=>?_;refine gi (h:=?_);refine ao (aM rfl rfl fun p1=>?_);refine ta (h:=?_);refine oW rfl rfl rfl ?_;refine bU (h:=?_);exact ap rfl [Row p1 0 (uc a)] ⟨p1,rfl,rfl⟩ Sub.h
theorem L5{a:Nat}(ha:a<aT):Spec prog 283 [uv a] [] (fun v B=>v= .int .i64 (nu a)∧B=[]):=by
 refine x_sp func283 ntmps283 fun E cs Γ=>?_;have hb:=Di ha;have hp3:pE a 3+1≤8:=Dq a 3;refine gi (h:=?_);refine ao (aM rfl rfl fun p1=>?_);refine aA (h:=?_);refine aq rfl (GX ha) rfl ?_;refine cS (h:=?_);by_cases h:bT a=0
 ·have hl:nu a=0:=by unfold nu;rw[if_pos h]
  rw[hl];refine Wq ?_;exact ap rfl [] ⟨rfl,rfl⟩ Sub.h
 ·have hl:nu a=8*((bT a:Int)-1)+pE a 3+1:=by unfold nu;rw[if_neg h]
  rw[hl];refine Wq ?_;refine ao (aC rfl fun p4=>?_);refine aA (h:=?_);refine aq rfl (UC a) rfl ?_;rintro v B ⟨pa,rfl,rfl⟩;refine nU (h:=?_);refine bJ (ak.nO _) ?_;refine uG (Ds:=[]) rfl rfl (UB pa ha) (fun j=>[Row p4 0 [.int .i64 (pE a j:Nat)]]) (fun _ _=>[Fact False jr]) (Δ2:=Row p1 0 (uc a)::Γ) (Sub.h (Δ:=Row p4 0 [.int .i64 0]::Row p1 0 (uc a)::Γ)) (by rfl) ?_ ?_ ?_ ?_
  ·intro j vs hj;rw[zf,zad]at hj;obtain⟨y,_,rfl⟩:=hj
   rfl
  ·intro j vs hj;have UD:j<3:=by have:=(List.getElem?_eq_some_iff.1 hj).1;simpa using this
   rw[zf,za3 UD]at hj;obtain rfl:[.int .i64 (bh a j:Nat)]=vs:=by simpa using hj
   intro Y l r Θ fZ eT cv nV nq;have l_:=Dq a j;have jc:=Hc a j;have rH:2^j≤4:=by
    have:j=0∨j=1∨j=2:=by omega
    rcases this with rfl|rfl|rfl<;>decide
   refine a_ (h:=nW (h:=bU (h:=?_)));refine nP (r:=r) eT ?_;refine Wq ?_;refine bJ ?_ (cv _);refine a_ (h:=?_);rw[show((pE a (j+1):Nat):Int)=2*(pE a j:Int)+bh a j by rw[pE];omega];exact Sub.h
  ·intro D;rw[show(L3 a).length=3 from rfl];refine bW (h:=?_);exact Aq rfl [] ⟨rfl,rfl⟩ Sub.h
  ·intro D c i;refine a_ (h:=?_);exact uY
theorem L6{a b:Nat}(ha:a<aT)(hb:b<aT):Spec prog 251 [uv a,uv b] [] (fun v B=>v= .int .i64 (nu a-nu b)∧B=[]):=by
 refine x_sp func251 ntmps251 fun E cs Γ=>?_;have h1:=xm ha;have h2:=xm hb;refine lL (h:=?_);refine ao (aM rfl rfl fun p2=>?_);refine ao (aM rfl rfl fun p3=>?_);refine nr (h:=?_);refine aZ 5 (aX [1,3] [0,2,1,3,4,5]) [Row p2 0 (uc a),Row p3 0 (uc b)] ?_;refine iA (h:=iA (h:=?_));refine aE rfl (aq rfl (L5 ha) rfl ?_);refine cn (h:=?_);refine aE rfl (aq rfl (L5 hb) rfl ?_);refine cn (h:=L7 (h:=df (h:=?_)));exact ap rfl [] ⟨rfl,rfl⟩ Sub.h
end
section
open Go.Proofs Tryz
open Go.Proofs Go.RowKit
theorem UE(s:List UInt8)(b:UInt8):cu (s++[b])=((cu s^^^b.toNat)*1099511628211)%18446744073709551616:=by unfold cu;rw[zbO,zaN,List.foldl_nil]
theorem UF(s:List UInt8)(m:Nat)(h:m<18446744073709551616):s.foldl (fun m b=>((m^^^b.toNat)*1099511628211)%18446744073709551616) m<18446744073709551616:=by
 induction s generalizing m with
 |nil=>exact h
 |cons b s ih=>exact ih _ (za0 _ (Nat.succ_pos _))
theorem Dt(s:List UInt8):cu s<18446744073709551616:=UF s _ (by omega)
theorem L8{s:List UInt8}{i:Nat}{c:UInt8}(h:s[i]? =some c):cu (s.take (i+1))=((cu (s.take i)^^^c.toNat)*1099511628211)%18446744073709551616:=by
 rw[zp,h,zaa,UE]
theorem L9(s:List UInt8)(hs:s.length≤2^47):Spec prog 107 [.string (bC s)] [] (fun v B=>v=nv (cu s)∧B=[]):=by
 refine x_sp func107 ntmps107 fun E cs Γ=>?_;have hz:(bC s).size=s.length:=dV s;refine kD (h:=?_);refine aQ (α:=Nat) (fun i=>i≤s.length) (fun i=>[(7,iv i),(6,iv (bC s).size),(3,nv (cu (s.take i))),(0,.string (bC s))]) (fun _=>Γ) (fun i=>s.length-i) 0 (by omega) x_tv Sub.h ?_;intro i hi back;refine bQ (h:=?_);by_cases h:i<s.length
 ·obtain⟨c,hc⟩:=bc (l:=s) (i:=i) h;have fj:=zbp c;have hm:=Dt (s.take i);have hx:cu (s.take i)^^^c.toNat<18446744073709551616:=zb6 (n:=64) hm (by omega);refine aA (h:=?_);refine bL (rD (bs:=s) (j:=i) rfl rfl rfl hc) rfl ?_;refine aw (h:=?_);refine bL (Dd rfl) rfl ?_;refine aw (h:=?_);refine bL (j5 _ rfl rfl hm (by omega) (.inr (.inr ⟨rfl,rfl⟩))) rfl ?_;refine aw (h:=?_);refine bL (to (b:=1099511628211) rfl rfl) rfl ?_;rw[←L8 hc];refine Wq ?_;exact aV (back (i+1) (by omega) (by omega))
 ·obtain rfl:i=s.length:=by omega
  rw[zu];refine Wq ?_;exact ap rfl [] ⟨rfl,rfl⟩ Sub.h
theorem L_(s:List UInt8)(hs:s.length≤2^47):Spec prog 54 [.string (bC s)] [] (fun v B=>v=nv (cu s)∧B=[]):=by
 refine x_sp func54 ntmps54 fun E cs Γ=>?_;have hz:(bC s).size=s.length:=dV s;refine kD (h:=?_);refine aQ (α:=Nat) (fun i=>i≤s.length) (fun i=>[(4,iv i),(3,nv (cu (s.take i))),(0,.string (bC s))]) (fun _=>Γ) (fun i=>s.length-i) 0 (by omega) x_tv Sub.h ?_;intro i hi back;refine Wl ?_;by_cases h:i<s.length
 ·obtain⟨c,hc⟩:=bc (l:=s) (i:=i) h;have fj:=zbp c;have hm:=Dt (s.take i);have hx:cu (s.take i)^^^c.toNat<18446744073709551616:=zb6 (n:=64) hm (by omega);refine aA (h:=?_);refine bL (rD (bs:=s) (j:=i) rfl rfl rfl hc) rfl ?_;refine aw (h:=?_);refine bL (Dd rfl) rfl ?_;refine aw (h:=?_);refine bL (j5 _ rfl rfl hm (by omega) (.inr (.inr ⟨rfl,rfl⟩))) rfl ?_;refine aw (h:=?_);refine bL (to (b:=1099511628211) rfl rfl) rfl ?_;rw[←L8 hc];refine Wq ?_;exact aV (back (i+1) (by omega) (by omega))
 ·obtain rfl:i=s.length:=by omega
  rw[zu];refine Wq ?_;exact ap rfl [] ⟨rfl,rfl⟩ Sub.h
def tu(f:Nat→UInt8)(m i:Nat):List UInt8:=(List.range m).map fun j=>if j<i then f j else 0
theorem UG(f:Nat→UInt8){m i:Nat}(h:i<m):(tu f m i).set i (f i)=tu f m (i+1):=by
 refine zbB (by simp[tu]) fun j h1 h2=>?_;rw[zbZ];simp only[tu,List.getElem_map,zb8];split
 ·rename_i e;subst e;rw[if_pos (by omega)]
 ·rename_i e;by_cases g:j<i
  ·rw[if_pos g,if_pos (by omega)]
  ·rw[if_neg g,if_neg (by omega)]
theorem UH(f:Nat→UInt8)(m:Nat):tu f m m=(List.range m).map f:=by
 unfold tu;refine zah fun j hj=>?_;rw[if_pos (by simpa using hj)]
theorem Ma(m:Nat)(j:Nat):UInt8.ofNat (m/2^(56-8*j)%256)=UInt8.ofNat (m/256^(7-j)%256):=by
 rw[show(256:Nat)^(7-j)=2^(56-8*j)by rw[show(256:Nat)=2^8 from rfl,←za4];congr 1;omega]
theorem UI{m:Nat}(hm:m<aI):Spec prog 112 [nv m] [] (fun v B=>v= .string (bC (dw m))∧B=[]):=by
 refine x_sp func112 ntmps112 fun E cs Γ=>?_;refine kD (h:=?_);refine ao (aC rfl fun p3=>?_);refine Wq ?_;refine aQ (α:=Nat) (fun i=>i≤8) (fun i=>[(5,iv i),(3,dp p3),(0,nv m)]) (fun i=>Row p3 0 ((tu (fun j=>UInt8.ofNat (m/256^(7-j)%256)) 8 i).map bv)::Γ) (fun i=>8-i) 0 (by omega) ⟨rfl,rfl,rfl,trivial⟩
  (Sub.h (Δ:=Row p3 0 [.int .u8 0,.int .u8 0,.int .u8 0,.int .u8 0,.int .u8 0,.int .u8 0,.int .u8 0,.int .u8 0]::Γ)) ?_
 intro i hi back;refine bQ (h:=?_);by_cases h:i<8
 ·refine aA (h:=?_);refine bL (mj (b:=56-8*i) rfl rfl (by omega) (by simp[IntKind.bits];omega)) rfl ?_;refine aw (h:=?_);refine bL (LF rfl) rfl ?_;rw[Ma];refine aw (h:=?_);refine dd (j:=i) rfl rfl rfl h rfl ?_;refine dO (h:=?_);refine iS (i:=i) rfl rfl rfl (by omega) (by simp[tu,zN];omega) ?_;rw[←zak (f:=bv),UG (fun j=>UInt8.ofNat (m/256^(7-j)%256)) h];refine Wq ?_;exact aV (back (i+1) (by omega) (by omega))
 ·obtain rfl:i=8:=by omega
  rw[UH];rw[show(List.range 8).map (fun j=>UInt8.ofNat (m/256^(7-j)%256))=dw m from rfl];refine aA (h:=?_);refine bL (TW rfl) rfl ?_;refine gh (ak.TY (s:=1) (m:=8) (by simp[dw]) _) ?_;have RS:=Sl.reads 1 (some ⟨p3,0,none⟩) 8 8 ((dw m).map bv) (by simp[dw]);refine aw (h:=?_);refine uy rfl RS rfl ?_;refine bU (h:=?_);exact ap rfl [] ⟨rfl,rfl⟩ Sub.h
theorem UJ{m:Nat}(hm:m<aI):Spec prog 85 [nv m] [] (fun v B=>v= .string (bC (dw m))∧B=[]):=by
 refine x_sp func85 ntmps85 fun E cs Γ=>?_;refine kD (h:=?_);refine aQ (α:=Nat×Option Addr×Nat) (fun q=>q.1≤8) (fun q=>[(4,iv (7-q.1)),(3,.slice q.2.1 q.1 q.2.2),(0,nv m)]) (fun q=>Sl 1 q.2.1 q.1 q.2.2 (((dw m).take q.1).map bv)::Γ) (fun q=>8-q.1) (0,none,0) (by simp) ⟨rfl,rfl,rfl,trivial⟩
  ((ak.cq 1 Γ).trans (Sub.h (Δ:=Sl 1 none 0 0 []::Γ))) ?_
 rintro⟨i,a3,c3⟩ hi back;dsimp only at hi back⊢;refine lN (h:=?_);by_cases h:i<8
 ·refine aA (h:=?_);refine bL (mj (b:=56-8*i) rfl rfl (by omega) (by simp[IntKind.bits];omega)) rfl ?_;refine aw (h:=?_);refine bL (LF rfl) rfl ?_;rw[Ma];refine aw (h:=?_);refine cf rfl (by rfl) (by rfl) (by rfl) (by rfl) rfl fun a2=>?_;refine aw (h:=?_);refine cF rfl rfl (by rfl) (by rfl) (by rfl) (by omega) rfl fun a4 c4 hc=>?_;have e:((dw m).take i).map bv++[bv (UInt8.ofNat (m/256^(7-i)%256))]=((dw m).take (i+1)).map bv:=by
   have hg:(dw m)[i]? =some (UInt8.ofNat (m/256^(7-i)%256)):=by
    unfold dw;rw[zf,za3 h];rfl
   rw[zp,hg];simp
  rw[e];refine Wq ?_;rw[show(7-(i:Int)-1)=7-((i+1:Nat):Int)by omega];exact aV (back (i+1,a4,c4) (by dsimp only;omega) (by dsimp only;omega))
 ·obtain rfl:i=8:=by omega
  rw[zo (by simp[dw])];have RS:=Sl.reads 1 a3 8 c3 ((dw m).map bv) (by simp[dw]);refine aA (h:=?_);refine uy rfl RS rfl ?_;refine bU (h:=?_);exact ap rfl [] ⟨rfl,rfl⟩ Sub.h
end
section
open Go.Proofs Tryz
open Go.Proofs Go.RowKit
abbrev qt(b:List UInt8):Nat:=cu (tj++b)
theorem u0(a b:List UInt8):bC a++bC b=bC (a++b):=by
 unfold bC;apply ByteArray.ext;simp
theorem UK(b:List UInt8)(hb:b.length≤2^46):Spec prog 190 [tv b] [] (fun v B=>v= .tuple #[nv (if b.length≤64 then qt b else 0),.int .i64 (if b.length≤64 then 0 else 2)]∧B=[]):=by
 refine x_sp func190 ntmps190 fun E cs Γ=>?_;have hz:(bC b).size=b.length:=dV b;refine ko (h:=?_);by_cases h:b.length≤64
 ·rw[if_pos h,if_pos h];refine aA (h:=?_);refine yO (a:=bC tj) rfl rfl (by rw[hz];show 4+_≤_;omega) rfl ?_;rw[u0];refine aw (h:=?_);refine aq rfl (L9 (tj++b) (by simp[tj];omega)) rfl ?_;refine cS (h:=qh (h:=?_));exact ap rfl [] ⟨rfl,rfl⟩ Sub.h
 ·rw[if_neg h,if_neg h];refine Wq ?_;exact ap rfl [] ⟨rfl,rfl⟩ Sub.h
theorem UL(b:List UInt8)(hb:b.length≤2^46):Spec prog 181 [tv b] [] (fun v B=>v=nv (qt b)∧B=[]):=by
 refine x_sp func181 ntmps181 fun E cs Γ=>?_;have hz:(bC b).size=b.length:=dV b;refine ko (h:=aA (h:=?_));refine yO (a:=bC tj) rfl rfl (by rw[hz];show 4+_≤_;omega) rfl ?_;rw[u0];refine aw (h:=?_);refine aq rfl (L_ (tj++b) (by simp[tj];omega)) rfl ?_;refine xn (h:=?_);exact ap rfl [] ⟨rfl,rfl⟩ Sub.h
theorem Mb{n:Nat}(h:1≤n∧n≤4):Spec prog 191 [.int .i64 n] [] (fun v B=>v= .tuple #[.int .i64 (131072*n:Nat),.int .i64 0]∧B=[]):=by
 refine x_sp func191 ntmps191 fun E cs Γ=>?_;refine kD (h:=?_);exact ap rfl [] ⟨by show Value.tuple #[.int .i64 ((n:Int)*131072),_]=_;rw[show(n:Int)*131072=((131072*n:Nat):Int)by omega],rfl⟩ Sub.h
theorem pF{hs:List Nat}{bl:List (List UInt8)}(h:qn hs bl=true):1≤bl.length∧bl.length≤4∧hs=bl.map qt∧∀b∈bl,b.length≤64:=by
 unfold qn at h;simp only[zh,decide_eq_true_eq,zaQ]at h;obtain⟨⟨⟨h1,h2⟩,h3⟩,h4⟩:=h;exact⟨h1,h2,h3,h4⟩
theorem UM{hs:List Nat}{bl:List (List UInt8)}(h1:1≤bl.length)(h2:bl.length≤4)(h3:hs=bl.map qt)(h4:∀b∈bl,b.length≤64):qn hs bl=true:=by
 unfold qn;simp only[zh,decide_eq_true_eq,zaQ];exact⟨⟨⟨h1,h2⟩,h3⟩,h4⟩
theorem UN{hs:List Nat}{bl:List (List UInt8)}{i:Nat}{g:Nat}{b:List UInt8}(hg:hs[i]? =some g)(hb:bl[i]? =some b):(hs.take (i+1)=(bl.take (i+1)).map qt)↔(hs.take i=(bl.take i).map qt∧qt b=g):=by
 rw[zp,zp,hg,hb,zg];simp only[zaa,zE,zal];constructor
 ·intro h;obtain⟨h1,h2⟩:=List.append_inj' h rfl;exact⟨h1,by simpa using h2.symm⟩
 ·rintro⟨h1,h2⟩;rw[h1,h2]
theorem UO{A:HP}{ah ab:Option Addr}{ch cb hl:Nat}{hs:List Nat}{bl:List (List UInt8)}(RH:Reads A 1 ah hl (hs.map nv))(RB:Reads A 1 ab bl.length (bl.map tv))(hb:∀b∈bl,b.length≤2^46):
 Spec prog 147 [.slice ah hl ch,.slice ab bl.length cb] [A] (fun v B=>∃e:Int,v= .int .i64 e∧B=[A]∧(e=0↔qn hs bl=true)):=by
 refine x_sp func147 ntmps147 fun E cs Γ=>?_;have GO:hs.length=hl:=by have:=RH.1;simpa using this
 refine eg (h:=?_);by_cases hg:1≤bl.length∧bl.length≤4∧hl=bl.length
 ·obtain⟨g1,g2,rfl⟩:=hg;refine Wq ?_;refine aQ (α:=Nat×Bool) (fun q=>q.1≤bl.length∧(∀b∈bl.take q.1,b.length≤64)∧(q.2=false↔hs.take q.1=(bl.take q.1).map qt)) (fun q=>[(27,iv q.1),(26,iv bl.length),(25,.slice ab bl.length cb),(5,.bool q.2),(1,.slice ab bl.length cb),(0,.slice ah bl.length ch)]) (fun _=>A::Γ) (fun q=>bl.length-q.1) (0,false)
   ⟨by simp,by simp,by simp⟩ x_tv Sub.h ?_
  rintro⟨i,un⟩ ⟨hi,hle,qk⟩ back;dsimp only at hi hle qk back⊢;refine bQ (h:=?_);by_cases h:i<bl.length
  ·obtain⟨b,qu⟩:=bc (l:=bl) (i:=i) h;obtain⟨g,u4⟩:=bc (l:=hs) (i:=i) (by omega);have Du:=zc qu;refine aA (h:=?_);refine bK rfl rfl RB (j:=i) rfl h rfl fun b1 off ha=>?_;refine aw (h:=?_);refine fM rfl RB ha (i:=i) (by omega) (by rw[zf,qu];rfl) rfl ?_;refine Wq ?_;refine aJ rfl (UK b (hb b Du)) rfl ?_;refine cS (h:=?_);by_cases xo:b.length≤64
   ·rw[if_pos xo,if_pos xo];have fx:=UN u4 qu;have gl:∀x∈bl.take (i+1),x.length≤64:=by
     rw[zp,qu];intro x hx;rcases zL.1 hx with hx|hx
     ·exact hle x hx
     ·obtain rfl:x=b:=by simpa using hx
      exact xo
    cases un with
    |true=>
     refine Wq ?_;exact aV (back (i+1,true) ⟨by dsimp only;omega,gl,by
      dsimp only;constructor
      ·intro h;cases h
      ·intro h;exact absurd (qk.2 (fx.1 h).1) (by decide)⟩ (by dsimp only;omega))
    |false=>
     refine gg (h:=?_);refine bK rfl rfl RH (j:=i) rfl (by omega) rfl fun b2 AR Dv=>?_;refine fT (h:=?_);refine fM rfl RH Dv (i:=i) (by omega) (by rw[zf,u4];rfl) rfl ?_;by_cases he:qt b=g
     ·subst he;refine Wq ?_;exact aV (back (i+1,false) ⟨by dsimp only;omega,gl,by
       dsimp only;exact⟨fun _=>fx.2 ⟨qk.1 rfl,rfl⟩,fun _=>rfl⟩⟩ (by dsimp only;omega))
     ·refine Wq ?_;exact aV (back (i+1,true) ⟨by dsimp only;omega,gl,by
       dsimp only;constructor
       ·intro h;cases h
       ·intro h;exact absurd (fx.1 h).2 he⟩ (by dsimp only;omega))
   ·rw[if_neg xo,if_neg xo];refine Wq ?_;refine ap rfl [A] ⟨2,rfl,rfl,(fun h=>absurd h (by decide)),fun hf=>?_⟩ Sub.h;exact absurd ((pF hf).2.2.2 b Du) xo
  ·obtain rfl:i=bl.length:=by omega
   rw[zu]at hle qk;rw[zo (by omega)]at qk;cases un with
   |true=>
    refine Wq ?_;refine ap rfl [A] ⟨1,rfl,rfl,(fun h=>absurd h (by decide)),fun hf=>?_⟩ Sub.h;exact absurd (qk.2 (pF hf).2.2.1) (by decide)
   |false=>
    refine Wq ?_;exact ap rfl [A] ⟨0,rfl,rfl,fun _=>UM g1 g2 (qk.1 rfl) hle,fun _=>rfl⟩ Sub.h
 ·have hf:¬qn hs bl=true:=fun hf=>by
   obtain⟨f1,f2,f3,-⟩:=pF hf;apply hg;exact⟨f1,f2,by rw[←GO,f3];simp⟩
  by_cases g1:1≤bl.length
  ·by_cases g2:bl.length≤4
   ·have g3:hl≠bl.length:=fun e=>hg ⟨g1,g2,e⟩;refine Wq ?_;exact ap rfl [A] ⟨1,rfl,rfl,(fun h=>absurd h (by decide)),fun h=>absurd h hf⟩ Sub.h
   ·refine Wq ?_;exact ap rfl [A] ⟨1,rfl,rfl,(fun h=>absurd h (by decide)),fun h=>absurd h hf⟩ Sub.h
  ·refine Wq ?_;exact ap rfl [A] ⟨1,rfl,rfl,(fun h=>absurd h (by decide)),fun h=>absurd h hf⟩ Sub.h
end
section
open Go.Proofs Tryz
open Go.Proofs
def iI(n len:Nat):Nat:=(len+n-1)/n
theorem n5{n len i:Nat}(hn:0<n):i<iI n len↔i*n<len:=by
 unfold iI;rw[Nat.lt_iff_add_one_le,Nat.le_div_iff_mul_le hn,zA,zbR];omega
def AS(n len:Nat)(a:Option Addr)(c i:Nat):List Value:=[.int .i64 i,.slice (cy 1 a c (i*n)) (min len (i*n+n)-i*n) (c-i*n)]
theorem UP(a:Option Addr)(len c:Nat)(n:Int):Spec prog 184 [.slice a len c,.int .i64 n] [] (fun v B=>∃pn pb,v= .func (.func 230) #[] #[dp pn,dp pb]∧B=[Row pn 0 [.int .i64 n],Row pb 0 [.slice a len c]]):=by
 refine x_sp func184 ntmps184 fun E cs Γ=>?_;refine qf (h:=nT (h:=?_));refine m8 rfl rfl rfl fun pb=>?_;refine aw (h:=?_);refine m8 rfl rfl rfl fun pn=>?_;refine ta (h:=?_);refine oW rfl rfl rfl ?_;refine bU (h:=?_);exact ap rfl [Row pn 0 [.int .i64 n],Row pb 0 [.slice a len c]] ⟨pn,pb,rfl,rfl⟩ Sub.h
theorem UQ(pn pb n:Nat)(a:Option Addr)(len c:Nat)(hn:0<n∧n≤2^20)(hl:len≤2^40)(hc:len≤c):
 Iter prog 230 [] [dp pn,dp pb] [Row pn 0 [.int .i64 n],Row pb 0 [.slice a len c]] [] ((List.range (iI n len)).map (AS n len a c)):=by
 intro l I J hy;refine x_sp func230 ntmps230 fun E cs Γ=>?_;refine jx (h:=Wl ?_);refine aQ (α:=Nat) (fun i=>i≤iI n len) (fun i=>[(0,.func (.yield l) #[] #[]),(1,dp pn),(2,dp pb),(4,iv i)])
  (fun i=>Row pn 0 [.int .i64 n]::Row pb 0 [.slice a len c]::I i::Γ)
  (fun i=>iI n len-i) 0 (zj _) x_tv Sub.h ?_
 intro i hi back;have c_:i*n≤len+n:=by
  cases i with
  |zero=>omega
  |succ j=>
   have:=(n5 hn.1).1 (show j<iI n len by omega);rw[zA];omega
 have Mc:i≤len+n:=z9 (Nat.le_mul_of_pos_right i hn.1) c_;refine eU (h:=?_);refine Cq rfl rfl (gE (by rw[←zav];omega)) rfl ?_;rw[←zav];refine AT (h:=?_);refine ao (yG rfl rfl ?_);refine aw (h:=?_);refine m7 rfl rfl rfl (fun h=>?_) (fun h=>?_)
 ·have dW:i<iI n len:=(n5 hn.1).2 (by omega);refine eU (h:=?_);refine Cq rfl rfl (gE (by rw[←zav];omega)) rfl ?_;rw[←zav];refine eU (h:=?_);refine Cq rfl rfl (gE (by rw[←zav];omega)) rfl ?_;rw[←zav];refine AT (h:=Dh (h:=?_));refine ao (RD rfl rfl rfl ?_);rw[show min (len:Int) (((i*n:Nat):Int)+n)=((min len (i*n+n):Nat):Int)by omega];refine aw (h:=?_);refine yH rfl rfl rfl (jl:=i*n) (jh:=min len (i*n+n)) rfl rfl (by omega) (by omega) rfl ?_;have UR:=hy i (AS n len a c i) (by simp[dW]);refine aw (h:=?_);refine qe rfl rfl UR rfl ?_;rintro y B (⟨rfl,rfl⟩|⟨rfl,rfl⟩)
  ·refine a_ (h:=Wv ?_);exact aV (back (i+1) (by omega) (by omega))
  ·refine uZ (h:=?_);exact ap rfl ([]++[J (i+1)]) (.inr ⟨_,rfl⟩) (by (refine dq (h:=?_));exact Sub.h)
 ·have dW:i=iI n len:=by
   apply Nat.le_antisymm hi;apply zbn;intro h2;exact h (by have:=(n5 hn.1).1 h2;omega)
  subst dW;refine eR (h:=CV (h:=?_));exact cJ ([]++[I ((List.range (iI n len)).map (AS n len a c)).length]) (.inl rfl) (by
   rw[zm,za2];refine dq (h:=?_);exact Sub.h)
open Go.Proofs
def tl(x:List UInt8):Nat:=(x.getD 1 0).toNat*256+(x.getD 2 0).toNat
def kE(n:Nat)(x:List UInt8):Option En:=
 if x.getD 0 0=0 then some none else if x.getD 0 0≠1∨x.length<n then none else if n<16+tl x then none else some (some ((x.drop 16).take (tl x)))
def jB(n:Nat)(b:List UInt8)(i:Nat):List UInt8:=(b.drop (i*n)).take n
def pz(n:Nat)(b:List UInt8)(i:Nat):Option En:=if 128≤i then none else kE n (jB n b i)
def parse(n:Nat)(b:List UInt8):Option (List En):=(List.range (iI n b.length)).mapM (pz n b)
instance:cM prog 137 [.cell 4 237,.cell 5 4]:=⟨_,func137,rfl⟩
def qv(p4:Nat)(l:List En):HP:=Any fun q:Option Addr×Nat=>Sep [Row p4 0 [.slice q.1 l.length q.2],Sl 2 q.1 l.length q.2 (l.flatMap bY)]
theorem St.AU{E:Env}{p4:Nat}{l:List En}{Γ:List HP}{w:World}(st:St E (qv p4 l::Γ) w):∃q:Option Addr×Nat,St E (Row p4 0 [.slice q.1 l.length q.2]::Sl 2 q.1 l.length q.2 (l.flatMap bY)::Γ) w:=by
 obtain⟨q,st⟩:=st.ex;exact⟨q,(ak.cx [_,_] Γ).st st⟩
theorem ak.AU{p4:Nat}(l:List En){a:Option Addr}{c:Nat}(Γ:List HP):ak (Row p4 0 [.slice a l.length c]::Sl 2 a l.length c (l.flatMap bY)::Γ) (qv p4 l::Γ):=
 (ak.cA [_,_] Γ).trans (ak.ex (A:=fun q:Option Addr×Nat=>Sep [Row p4 0 [.slice q.1 l.length q.2],Sl 2 q.1 l.length q.2 (l.flatMap bY)]) (a,c) Γ)
theorem US{α β:Type}(g:α→Option β):∀(l:List α) (i:Nat) (x:α) (ys:List β),l[i]? =some x→(l.take i).mapM g=some ys→(l.take (i+1)).mapM g=(g x).map fun y=>ys++[y]:=by
 intro l i x ys hx hy;rw[zp,hx];simp only[zaa];rw[List.mapM_append,hy];cases hg:g x<;>simp[hg]
theorem mapM_none{α β:Type}(g:α→Option β):∀(l:List α) (x:α),x∈l→g x=none→l.mapM g=none:=by
 intro l;induction l with
 |nil=>intro x hx;cases hx
 |cons y l ih=>
  intro x hx hg;rw[zbU];rcases zbe.1 hx with rfl|hx
  ·rw[hg];rfl
  ·rw[ih x hx hg];cases g y<;>rfl
theorem Dw{α β:Type}(g:α→Option β){l:List α}{ys:List β}(h:l.mapM g=some ys):ys.length=l.length:=(mapM_some_length h)
theorem UT{A:HP}{a:Option Addr}{c n:Nat}{b:List UInt8}(R:Reads A 1 a b.length (b.map bv))(hc:b.length≤c)(hb:b.length≤2^40)(UU:16≤n∧n≤2^20):
 Spec prog 137 [.slice a b.length c,.int .i64 n] [A] (fun v B=>(∃l a' c',parse n b=some l∧v= .tuple #[.slice a' l.length c',.bool true]∧B=[A,Sl 2 a' l.length c' (l.flatMap bY)])∨(parse n b=none∧v= .tuple #[.slice none 0 0,.bool false]∧B=[A])):=by
 have hn:0<n∧n≤2^20:=⟨by omega,UU.2⟩
 refine x_sp func137 ntmps137 fun E cs Γ=>?_;refine eg (h:=nT (h:=?_));refine m8 rfl rfl rfl fun p3=>?_;refine aw (h:=?_);refine aC rfl fun p4=>?_;refine aw (h:=?_);refine aC rfl fun p5=>?_;refine ew (h:=?_);refine aq rfl (UP a b.length c n) rfl ?_;rintro v B ⟨pn,pb,rfl,rfl⟩;refine nU (h:=?_);refine bJ (ak.nO _) ?_;refine uG (Ds:=[]) rfl rfl (UQ pn pb n a b.length c hn hb hc)
  (fun j=>[Any fun l=>Fact ((List.range j).mapM (pz n b)=some l) (qv p4 l),Row p5 0 [.bool false],Row p3 0 [.int .i64 n],A])
  (fun cd _=>[Fact (cd= .ret∧parse n b=none) (Row p4 0 [.slice none 0 0]),Row p5 0 [.bool false],A]) (Δ2:=Γ) ?_ (by rfl) ?_ ?_ ?_ ?_
 ·refine(ak.cq 2 _).trans ?_;refine(Sub.h (Δ:=Row p4 0 [.slice none 0 0]::Sl 2 none 0 0 []::Row p5 0 [.bool false]::Row p3 0 [.int .i64 n]::A::Γ)).trans ?_;refine(ak.AU [] _).trans ?_;refine(ak.fact (p:=(List.range 0).mapM (pz n b)=some []) rfl _).trans ?_;exact ak.ex (A:=fun l=>Fact ((List.range 0).mapM (pz n b)=some l) (qv p4 l)) [] _
 ·intro j vs hj;rw[zf,zad]at hj;obtain⟨y,_,rfl⟩:=hj
  rfl
 ·intro j vs hj;have lu:j<iI n b.length:=by have:=(List.getElem?_eq_some_iff.1 hj).1;simpa using this
  rw[zf,za3 lu]at hj;obtain rfl:AS n b.length a c j=vs:=by simpa using hj
  have UW:=(n5 hn.1).1 lu;intro Y l r Θ fZ eT cv nV nq;refine bJ (Γ':=Any (fun l=>Fact ((List.range j).mapM (pz n b)=some l) (qv p4 l))::Row p5 0 [.bool false]::Row p3 0 [.int .i64 n]::A::Rec l r .ready none::Θ) (by (refine a_ (h:=?_));exact Sub.h) ?_;refine dz (α:={l:List En//(List.range j).mapM (pz n b)=some l}) (Γ':=fun z=>qv p4 z.1::Row p5 0 [.bool false]::Row p3 0 [.int .i64 n]::A::Rec l r .ready none::Θ) (fun E w st=>by
   obtain⟨l,st⟩:=st.ex;obtain⟨h,st⟩:=st.fact;exact⟨⟨l,h⟩,st⟩) ?_
  rintro⟨es,dF⟩;dsimp only;have lO:=Dw _ dF;rw[za2]at lO;refine dz (fun E w st=>st.AU) fun ⟨a4,c4⟩=>?_;dsimp only;obtain⟨x,Hf⟩:∃x,jB n b j=x:=⟨_,rfl⟩
  obtain⟨m,hm⟩:∃m,min b.length (j*n+n)=m:=⟨_,rfl⟩
  obtain⟨jn,AB⟩:∃jn,j*n=jn:=⟨_,rfl⟩
  unfold AS;rw[AB]at UW hm⊢;rw[hm];have iJ:x.length=m-jn:=by rw[←Hf];unfold jB;rw[AB];simp;omega
  have Rx:=R.sub c jn m (by omega) (by omega) hc;have ex:((b.map bv).drop (jn*1)).take ((m-jn)*1)=x.map bv:=by
   rw[←Hf,zaj,zaj,←zbM,←zaM];unfold jB;rw[AB];congr 1;apply List.take_eq_take_iff.2;simp;omega
  rw[ex]at Rx;have rG:0<x.length:=by omega
  have F8:0<m-jn:=by omega
  have gV:∀(i:Nat) (h:i<x.length),x.getD i 0=x[i]:=fun i h=>by rw[ze,za h];rfl
  have UX:pz n b j=none→parse n b=none:=fun h=>mapM_none _ _ j (by simpa using lu) h;have AV:∀ρ' k' Δ,pz n b j=none→ak Δ (Row p4 0 [.slice none 0 0]::Row p5 0 [.bool false]::A::Rec l r .busy none::Θ)→Ex prog Y 60 [] (.code .ret::k') ρ' Δ:=fun ρ' k' Δ h hΔ=>
   bJ (hΔ.trans ((ak.fact (p:=Code.ret= .ret∧parse n b=none) ⟨rfl,UX h⟩ _).trans (by (refine a_ (h:=?_));exact Sub.h))) (nq k' ρ')
  have Md:∀ρ' (e:En) (a5:Option Addr) (c5:Nat) Δ,pz n b j=some e→ak Δ (Row p4 0 [.slice a5 (es.length+1) c5]::Sl 2 a5 (es.length+1) c5 (es.flatMap bY++bY e)::Row p5 0 [.bool false]::Row p3 0 [.int .i64 n]::A::Rec l r .busy none::Θ)→Ex prog Y 60 [] [] ρ' Δ:=fun ρ' e a5 c5 Δ h hΔ=>by
   refine bJ (hΔ.trans ?_) (cv ρ');have e1:(es++[e]).length=es.length+1:=by simp
   have e2:(es++[e]).flatMap bY=es.flatMap bY++bY e:=by simp
   have h1:=ak.AU (p4:=p4) (es++[e]) (a:=a5) (c:=c5) (Row p5 0 [.bool false]::Row p3 0 [.int .i64 n]::A::Rec l r .busy none::Θ);rw[e1,e2]at h1;have h2:(List.range (j+1)).mapM (pz n b)=some (es++[e]):=by
    have:=US (pz n b) (List.range (j+1)) j j es (by simp) (by rw[List.take_range,zat (by omega)];exact dF);rw[zo (by simp),h]at this;exact this
   refine h1.trans ((ak.fact h2 _).trans ((ak.ex (A:=fun l=>Fact ((List.range (j+1)).mapM (pz n b)=some l) (qv p4 l)) (es++[e]) _).trans ?_));refine a_ (h:=?_);exact Sub.h
  refine Wl ?_;refine nP (r:=r) eT ?_;by_cases nw:128≤j
  ·refine Wv ?_;exact AV _ _ _ (by unfold pz;rw[if_pos nw]) Sub.h
  ·have dG:pz n b j=kE n x:=by unfold pz;rw[if_neg nw,Hf]
   refine ew (h:=?_);refine bK rfl rfl Rx (j:=0) rfl F8 rfl fun b1 off ha=>?_;refine aw (h:=?_);refine fM rfl Rx ha (i:=0) (by omega) (CH rG) rfl ?_;refine aw (h:=?_);refine Rs rfl rfl rfl (fun h=>?_) (fun h=>?_)
   ·have h:x[0]=0:=UInt8.toNat_inj.1 (by simpa using h);have j3:pz n b j=some none:=by rw[dG];unfold kE;rw[gV 0 rG,if_pos h]
    refine ew (h:=?_);refine lV rfl (by rfl) rfl ?_;refine aw (h:=?_);refine cf rfl (by rfl) (by rfl) (by rfl) (by rfl) rfl fun a2=>?_;refine aw (h:=?_);refine cF rfl rfl (by rfl) (by rfl) (by rfl) (by omega) rfl fun a3 c3 hc=>?_;refine Wv ?_;refine Md _ none a3 c3 _ j3 ?_;show ak (Sl 2 a3 (es.length+1) c3 (List.flatMap bY es++bY none)::_) _;exact Sub.h
   ·have h:x[0]≠0:=fun e=>h (by rw[e];rfl);refine ew (h:=?_);refine bK rfl rfl Rx (j:=0) rfl F8 rfl fun b2 AR Dv=>?_;obtain⟨rfl,rfl⟩:b2=b1∧AR=off:=by rw[ha]at Dv;simpa using Dv.symm
    refine aw (h:=?_);refine fM rfl Rx ha (i:=0) (by omega) (CH rG) rfl ?_;have acB:∀ρ',(x[0]≠1∨x.length<n)→Ex prog Y 60 [] (.code .ret::[]) ρ' (Row p4 0 [.slice none 0 0]::Row p5 0 [.bool false]::A::Rec l r .busy none::Θ):=fun ρ' hh=>AV ρ' _ _ (by rw[dG];unfold kE;rw[gV 0 rG,if_neg h,if_pos hh]) Sub.h;by_cases h1:x[0]=1
    ·refine aw (h:=?_);refine Cs rfl rfl (by rw[h1];rfl) rfl ?_;refine Wv ?_;refine fT (h:=?_);refine m7 rfl rfl rfl (fun hl=>?_) (fun hl=>?_)
     ·refine Wv ?_;exact AV _ _ _ (by rw[dG];unfold kE;rw[gV 0 rG,if_neg h,if_pos (.inr (by omega))]) Sub.h
     ·have Me:n≤x.length:=by omega
      have x1:1<x.length:=by omega
      have x2:2<x.length:=by omega
      obtain⟨hi,kM⟩:∃hi,(x[1]).toNat=hi:=⟨_,rfl⟩
      obtain⟨lo,fN⟩:∃lo,(x[2]).toNat=lo:=⟨_,rfl⟩
      have ed:hi<256:=kM ▸ x[1].toNat_lt;have gX:lo<256:=fN ▸ x[2].toNat_lt;have ga:tl x=hi*256+lo:=by unfold tl;rw[gV 1 x1,gV 2 x2,kM,fN]
      refine Wv ?_;refine nc 11 [(0,false),(1,false),(2,false),(3,false),(4,false),(5,false),(6,false),(7,false),(8,false),(9,false),(10,false),(11,false)] [A] mixed (by kernel_rfl) bd ?_;refine dD (h:=?_);refine au rfl (aY rfl rfl ha (j:=1) rfl (by omega)) ?_;refine au rfl (b7 rfl Rx ha (i:=1) (by omega) (CH x1)) ?_;refine au rfl (yP rfl) ?_;rw[show(IntKind.i64.wrap (x[1].toNat:Int))=(hi:Int)from by rw[kM];exact gE (by omega)];have kn:(hi:Int)*2^(8:Int).toNat=((hi*256:Nat):Int):=by rw[zav];rfl
      refine au rfl (FD rfl rfl (by decide) (by rw[kn];exact gE (by omega))) ?_;rw[kn];refine au rfl (Cp rfl rfl (gE (by omega))) ?_;refine dD (h:=?_);refine au rfl (aY rfl rfl ha (j:=2) rfl (by omega)) ?_;refine au rfl (b7 rfl Rx ha (i:=2) (by omega) (CH x2)) ?_;refine au rfl (yP rfl) ?_;rw[show(IntKind.i64.wrap (x[2].toNat:Int))=(lo:Int)from by rw[fN];exact gE (by omega)];refine au rfl (Cp rfl rfl (gE (by omega))) ?_;refine df (h:=?_);rw[show(16:Int)+((hi*256:Nat):Int)+(lo:Int)=((16+tl x:Nat):Int)by omega];refine ew (h:=?_);refine FJ rfl rfl rfl (fun hg=>?_) (fun hg=>?_)
      ·refine Wv ?_;exact AV _ _ _ (by rw[dG];unfold kE;rw[gV 0 rG,if_neg h,if_neg (by rintro(e|e);exact e h1;omega),if_pos (by omega)]) Sub.h
      ·have oF:pz n b j=some (some ((x.drop 16).take (tl x))):=by rw[dG];unfold kE;rw[gV 0 rG,if_neg h,if_neg (by rintro(e|e);exact e h1;omega),if_neg (by omega)]
       refine eR (h:=rI (h:=?_));have Rt:=Rx.sub (c-jn) 16 (16+tl x) (by omega) (by omega) (by omega);refine nc 8 [(0,false),(1,false),(2,false),(3,false),(4,false),(5,false),(6,true),(7,true),(8,true)] [A,Row p4 0 [.slice a4 es.length c4]] mixed (by kernel_rfl) bd ?_;refine nn (h:=dK (h:=?_));refine au rfl (RK rfl rfl rfl (jl:=16) (jh:=16+tl x) rfl rfl (by omega) (by omega)) ?_;rw[show(x.map bv).drop (16*1)=(x.drop 16).map bv by simp]at Rt;rw[show((x.drop 16).map bv).take ((16+tl x-16)*1)=((x.drop 16).take (tl x)).map bv by simp]at Rt;refine au rfl (Se rfl Rt) ?_;refine au rfl (yL rfl (by rfl)) ?_;refine aE rfl (cf rfl (by rfl) (by rfl) (by rfl) (by rfl) rfl fun a2=>?_);refine kx (h:=?_);refine aE rfl (cF rfl rfl (by rfl) (by rfl) (by rfl) (by omega) rfl fun a3 c3 hc=>?_);refine kx (h:=?_);refine bN rfl rfl ?_;refine eZ rfl rfl rfl rfl Nat.zero_lt_one ?_;refine wY (h:=?_);refine Md _ (some ((x.drop 16).take (tl x))) a3 c3 _ oF ?_;show ak (Sl 2 a3 (es.length+1) c3 (List.flatMap bY es++bY (some ((x.drop 16).take (tl x))))::Rec l r .busy none::Row p4 0 [.slice a3 (es.length+1) c3]::_) _;exact Sub.h
    ·refine aw (h:=?_);refine Ki rfl rfl (fun e=>h1 (UInt8.toNat_inj.1 (by have:=Int.ofNat.inj e;simpa using this))) rfl ?_;refine Wv ?_;exact AV _ _ _ (by rw[dG];unfold kE;rw[gV 0 rG,if_neg h,if_pos (.inl h1)]) Sub.h
 ·intro D;refine dz (α:={l:List En//(List.range (iI n b.length)).mapM (pz n b)=some l}) (Γ':=fun z=>Marks [D]::qv p4 z.1::Row p5 0 [.bool false]::Row p3 0 [.int .i64 n]::A::Γ) (fun E w st=>by
   rw[zm,za2]at st;simp only[zl,zB]at st;have st:=(Sub.h (Δ:=Any (fun l=>Fact ((List.range (iI n b.length)).mapM (pz n b)=some l) (qv p4 l))::Marks [D]::Row p5 0 [.bool false]::Row p3 0 [.int .i64 n]::A::Γ)).st st;obtain⟨l,st⟩:=st.ex;obtain⟨h,st⟩:=st.fact;exact⟨⟨l,h⟩,Sub.h.st st⟩) ?_
  rintro⟨es,dF⟩;dsimp only;refine dz (Γ':=fun q:Option Addr×Nat=>Row p4 0 [.slice q.1 es.length q.2]::Sl 2 q.1 es.length q.2 (es.flatMap bY)::Marks [D]::Row p5 0 [.bool false]::Row p3 0 [.int .i64 n]::A::Γ) (fun E w st=>((Sub.h (Δ:=qv p4 es::Marks [D]::Row p5 0 [.bool false]::Row p3 0 [.int .i64 n]::A::Γ)).st st).AU) fun ⟨a4,c4⟩=>?_;refine Wv ?_;refine ry (rs:=[.cell 4 237,.cell 5 4]) (vs:=[.slice a4 es.length c4,.bool true]) ⟨ns rfl (Cell.row (off:=0) rfl rfl),ns rfl (Cell.row (off:=0) rfl rfl),trivial⟩ [A,Sl 2 a4 es.length c4 (es.flatMap bY)] (.inl ⟨es,a4,c4,dF,rfl,rfl⟩) Sub.h
 ·intro D cd j;refine dz (α:={_u:Unit//cd= .ret∧parse n b=none}) (Γ':=fun _=>Marks [D]::Row p4 0 [.slice none 0 0]::Row p5 0 [.bool false]::A::Γ) (fun E w st=>by
   simp only[zl,zB]at st;have st:=(Sub.h (Δ:=Fact (cd= .ret∧parse n b=none) (Row p4 0 [.slice none 0 0])::Marks [D]::Row p5 0 [.bool false]::A::Γ)).st st;obtain⟨h,st⟩:=st.fact;exact⟨⟨(),h⟩,Sub.h.st st⟩) ?_
  rintro⟨_,rfl,hp⟩;refine ry (rs:=[.cell 4 237,.cell 5 4]) (vs:=[.slice none 0 0,.bool false]) ⟨ns rfl (Cell.row (off:=0) rfl rfl),ns rfl (Cell.row (off:=0) rfl rfl),trivial⟩ [A] (.inr ⟨hp,rfl,rfl⟩) Sub.h
end
section
open Go.Proofs Tryz
open Go.Proofs
theorem Hg(k:Int):Spec prog 91 [.int .i64 k] [] (fun v B=>v=(if k<0∨4≤k then .tuple #[.int .i64 0,.int .i64 1]else .tuple #[.int .i64 ((128*2^k.toNat:Nat):Int),.int .i64 0])∧B=[]):=by
 refine x_sp func91 ntmps91 fun E cs Γ=>?_;refine ko (h:=?_);by_cases h1:k<0
 ·refine Wv ?_;exact ap rfl [] ⟨by rw[if_pos (.inl h1)];rfl,rfl⟩ Sub.h
 ·by_cases h2:4≤k
  ·refine Wv ?_;exact ap rfl [] ⟨by rw[if_pos (.inr h2)];rfl,rfl⟩ Sub.h
  ·obtain⟨i,rfl⟩:∃i:Nat,k=i:=⟨k.toNat,by omega⟩
   refine Wv ?_;have hi:i=0∨i=1∨i=2∨i=3:=by omega
   rw[if_neg (by omega)];refine aw (h:=?_);refine FC rfl rfl ⟨by omega,by simp[IntKind.bits];omega⟩ (gE (by rcases hi with rfl|rfl|rfl|rfl<;>decide)) rfl ?_;refine qh (h:=?_);exact ap rfl [] ⟨by rcases hi with rfl|rfl|rfl|rfl<;>rfl,rfl⟩ Sub.h
def n7(n:Int):Bool:=n==128||n==256||n==512||n==1024
theorem UY(n:Int):Spec prog 135 [.int .i64 n] [] (fun v B=>v= .bool (n7 n)∧B=[]):=by
 refine x_sp func135 ntmps135 fun E cs Γ=>?_;refine ko (h:=Wl ?_);refine aQ (α:=Nat) (fun i=>i≤4∧∀k<i,n≠((128*2^k:Nat):Int)) (fun i=>[(0,iv n),(6,iv i)]) (fun _=>Γ) (fun i=>4-i) 0 ⟨by omega,fun k h=>by omega⟩ ⟨rfl,rfl,trivial⟩ (.refl _) ?_;rintro i ⟨hi,hk⟩ back;refine bQ (h:=?_);by_cases h:i<4
 ·refine ew (h:=?_);refine aq rfl (Hg i) rfl ?_;refine dh (h:=?_);rw[if_neg (by omega)];refine dq (h:=?_);rw[zV];by_cases he:n=((128*2^i:Nat):Int)
  ·have hf:n7 n=true:=by
    have:i=0∨i=1∨i=2∨i=3:=by omega
    rcases this with rfl|rfl|rfl|rfl<;>rw[he]<;>rfl
   subst he;refine Wv ?_;exact ap rfl [] ⟨by rw[hf];rfl,rfl⟩ Sub.h
  ·refine Wv ?_;exact aV (back (i+1) ⟨by omega,fun k h=>by
    rcases Nat.lt_succ_iff_lt_or_eq.1 h with h|rfl
    ·exact hk k h
    ·exact he⟩ (by omega))
 ·have e:i=4:=by omega
  subst e;have hf:n7 n=false:=by
   have h0:=hk 0 (by omega);have h1:=hk 1 (by omega);have h2:=hk 2 (by omega);have h3:=hk 3 (by omega);unfold n7;simp only[zaY,beq_eq_false_iff_ne];exact⟨⟨⟨h0,h1⟩,h2⟩,h3⟩
  refine Wv ?_;exact ap rfl [] ⟨by rw[hf];rfl,rfl⟩ Sub.h
def sizeOf(n:Int):Int×Int:=if n<0 then (0,1)else if n≤112 then (0,0)else if n≤240 then (1,0)else if n≤496 then (2,0)else if n≤1008 then (3,0)else (0,2)
theorem UZ(n:Int)(i:Nat)(hi:i<4)(h0:0≤n)(hk:∀k<i,¬n≤((128*2^k:Nat):Int)-16)(h:n≤((128*2^i:Nat):Int)-16):sizeOf n=((i:Int),0):=by
 have:i=0∨i=1∨i=2∨i=3:=by omega
 unfold sizeOf;rw[if_neg (by omega)];rcases this with rfl|rfl|rfl|rfl
 ·rw[if_pos (show n≤112 from h)];rfl
 ·rw[if_neg (show¬n≤112 from hk 0 (by omega)),if_pos (show n≤240 from h)];rfl
 ·rw[if_neg (show¬n≤112 from hk 0 (by omega)),if_neg (show¬n≤240 from hk 1 (by omega)),if_pos (show n≤496 from h)];rfl
 ·rw[if_neg (show¬n≤112 from hk 0 (by omega)),if_neg (show¬n≤240 from hk 1 (by omega)),if_neg (show¬n≤496 from hk 2 (by omega)),if_pos (show n≤1008 from h)];rfl
theorem U0(n:Int)(h0:0≤n)(hk:∀k<4,¬n≤((128*2^k:Nat):Int)-16):sizeOf n=(0,2):=by
 unfold sizeOf;rw[if_neg (by omega),if_neg (show¬n≤112 from hk 0 (by omega)),if_neg (show¬n≤240 from hk 1 (by omega)),if_neg (show¬n≤496 from hk 2 (by omega)),if_neg (show¬n≤1008 from hk 3 (by omega))]
theorem Mf(n:Int):Spec prog 210 [.int .i64 n] [] (fun v B=>v= .tuple #[.int .i64 (sizeOf n).1,.int .i64 (sizeOf n).2]∧B=[]):=by
 refine x_sp func210 ntmps210 fun E cs Γ=>?_;refine ko (h:=?_);by_cases h0:n<0
 ·refine Wv ?_;exact ap rfl [] ⟨by unfold sizeOf;rw[if_pos h0];rfl,rfl⟩ Sub.h
 ·refine Wv ?_;refine aQ (α:=Nat) (fun i=>i≤4∧∀k<i,¬n≤((128*2^k:Nat):Int)-16) (fun i=>[(0,iv n),(7,iv i)]) (fun _=>Γ) (fun i=>4-i) 0 ⟨by omega,fun k h=>by omega⟩ ⟨rfl,rfl,trivial⟩ (.refl _) ?_;rintro i ⟨hi,hk⟩ back;refine bQ (h:=?_);by_cases h:i<4
  ·have fc:i=0∨i=1∨i=2∨i=3:=by omega
   have kn:(128:Int)*2^(i:Int).toNat=((128*2^i:Nat):Int):=by rcases fc with rfl|rfl|rfl|rfl<;>rfl
   have mb:128*2^i≤1024:=by rcases fc with rfl|rfl|rfl|rfl<;>decide
   refine ew (h:=?_);refine FC rfl rfl ⟨by omega,by simp[IntKind.bits];omega⟩ (by rw[kn];exact gE (by omega)) rfl ?_;rw[kn];refine aw (h:=?_);refine FA rfl rfl (gE (by omega)) rfl ?_;refine aw (h:=?_);refine FE rfl rfl rfl (fun hl=>?_) (fun hl=>?_)
   ·refine Wv ?_;exact ap rfl [] ⟨by rw[UZ n i h (by omega) hk hl];rfl,rfl⟩ Sub.h
   ·refine Wv ?_;exact aV (back (i+1) ⟨by omega,fun k h=>by
     rcases Nat.lt_succ_iff_lt_or_eq.1 h with h|rfl
     ·exact hk k h
     ·exact hl⟩ (by omega))
  ·have e:i=4:=by omega
   subst e;refine Wv ?_;exact ap rfl [] ⟨by rw[U0 n (by omega) hk];rfl,rfl⟩ Sub.h
end
section
open Go.Proofs Tryz
open Go.Proofs Go.RowKit
structure TZ where
 t:TX
 ah:Option Addr
 ch:Nat
 ab:Option Addr
 cb:Nat
abbrev TZ.cells(z:TZ):List Value:=[.int .i64 z.t.bx,.int .i64 z.t.ck,nv (ay z.t.bV 0),nv (ay z.t.bV 1),nv (ay z.t.bV 2),nv (ay z.t.bV 3),nv (ay z.t.cap 0),nv (ay z.t.cap 1),nv (ay z.t.cap 2),nv (ay z.t.cap 3),
 nv (ay z.t.bX 0),nv (ay z.t.bX 1),nv (ay z.t.bX 2),nv (ay z.t.bX 3),nv (ay z.t.val 0),nv (ay z.t.val 1),nv (ay z.t.val 2),nv (ay z.t.val 3),.int .i64 z.t.dr,.slice z.ah z.t.hs.length z.ch,.slice z.ab z.t.bl.length z.cb]
abbrev TZ.val(z:TZ):Value:= .agg z.cells.toArray
structure TZ.In(A:HP)(z:TZ):Prop where
 rh:Reads A 1 z.ah z.t.hs.length (z.t.hs.map nv)
 rb:Reads A 1 z.ab z.t.bl.length (z.t.bl.map tv)
 ch:z.t.hs.length≤z.ch
 cb:z.t.bl.length≤z.cb
 wf:z.t.Wf
 hl:z.t.hs.length≤2^40
 bl:z.t.bl.length≤2^40
 bb:∀b∈z.t.bl,b.length≤2^40
theorem TZ.In.up{h k:PH}{z:TZ}(I:z.In (Mem h))(p:PH.le h k):z.In (Mem k):=⟨I.rh.up p,I.rb.up p,I.ch,I.cb,I.wf,I.hl,I.bl,I.bb⟩
theorem Mg(z:TZ)(w:z.t.Wf)(hg:0≤z.t.dr∧z.t.dr≤1073741824)(hn:1≤z.t.bl.length∧z.t.bl.length≤4):
 Spec prog 148 [z.val] [] (fun v B=>∃x,v= .tuple #[uv x,.bool (decide (z.t.fF<aT))]∧B=[]∧x<aT∧(z.t.fF<aT→x=z.t.fF)):=by
 refine x_sp func148 ntmps148 fun E cs Γ=>?_;obtain⟨g,AW⟩:∃g:Nat,z.t.dr=g:=⟨z.t.dr.toNat,by omega⟩
 obtain⟨n,kQ⟩:∃n,n=z.t.bl.length:=⟨_,rfl⟩
 have u5:z.t.fF=z.t.cap*g+z.t.bX*(131072*n)+z.t.val:=by unfold TX.fF;rw[AW,kQ];rfl
 refine gi (h:=?_);refine ao (aM rfl rfl fun p1=>?_);refine ao (aC rfl fun p2=>?_);refine aA (h:=?_);refine aq rfl (Mb (n:=z.t.bl.length) hn) rfl ?_;refine cS (h:=aA (h:=?_));refine ft rfl rfl ?_;rw[AW,nY (by omega)];refine aw (h:=?_);refine tn rfl (by rfl) rfl ?_;have U1:uc g=[nv g,nv 0,nv 0,nv 0]:=AO (by unfold aI;omega);have h0:=w.cap;refine aw (h:=?_);refine aq (vs:=[uv z.t.cap,uv g]) (by rw[show uv g= .agg (uc g).toArray from rfl,U1];rfl) (AP w.cap (b:=g) (by unfold aT;omega)) rfl ?_;refine dh (h:=?_);obtain⟨x1,ku⟩:∃x,x=(if z.t.cap*g<aT then z.t.cap*g else 0):=⟨_,rfl⟩
 obtain⟨e1,rJ⟩:∃x:Int,x=(if z.t.cap*g<aT then 0 else 8):=⟨_,rfl⟩
 have b1:x1<aT:=by rw[ku];split<;>first|assumption|decide
 rw[←ku,←rJ];refine qq (h:=?_);refine ao (aC rfl fun p6=>?_);refine aA (h:=?_);refine ft rfl rfl ?_;rw[←kQ,nY (x:=131072*n) (by omega)];refine aw (h:=?_);refine tn rfl (by rfl) rfl ?_;have sI:uc (131072*n)=[nv (131072*n),nv 0,nv 0,nv 0]:=AO (by unfold aI;omega);refine aw (h:=?_);refine aq (vs:=[uv z.t.bX,uv (131072*n)]) (by rw[show uv (131072*n)= .agg (uc (131072*n)).toArray from rfl,sI];rfl) (AP w.bX (b:=131072*n) (by unfold aT;omega)) rfl ?_;refine dh (h:=?_);obtain⟨x2,mq⟩:∃x,x=(if z.t.bX*(131072*n)<aT then z.t.bX*(131072*n)else 0):=⟨_,rfl⟩
 obtain⟨e2,nx⟩:∃x:Int,x=(if z.t.bX*(131072*n)<aT then 0 else 8):=⟨_,rfl⟩
 have b2:x2<aT:=by rw[mq];split<;>first|assumption|decide
 rw[←mq,←nx];refine qq (h:=?_);refine ao (aC rfl fun p8=>?_);refine aA (h:=?_);refine aq rfl (uT b1 b2) rfl ?_;refine dh (h:=?_);obtain⟨x3,AX⟩:∃x,x=(if x1+x2<aT then x1+x2 else 0):=⟨_,rfl⟩
 obtain⟨e3,Mh⟩:∃x:Int,x=(if x1+x2<aT then 0 else 8):=⟨_,rfl⟩
 have b3:x3<aT:=by rw[AX];split<;>first|assumption|decide
 rw[←AX,←Mh];refine dq (h:=aA (h:=?_));refine aq rfl (uT b3 w.val) rfl ?_;refine dh (h:=?_);obtain⟨x4,pG⟩:∃x,x=(if x3+z.t.val<aT then x3+z.t.val else 0):=⟨_,rfl⟩
 obtain⟨e4,Mi⟩:∃x:Int,x=(if x3+z.t.val<aT then 0 else 8):=⟨_,rfl⟩
 have b4:x4<aT:=by rw[pG];split<;>first|assumption|decide
 rw[←pG,←Mi];have gF:(e1=0∧e2=0∧e3=0∧e4=0)↔z.t.fF<aT:=by
  have z1:e1=0↔z.t.cap*g<aT:=by rw[rJ];split<;>simp_all
  have z2:e2=0↔z.t.bX*(131072*n)<aT:=by rw[nx];split<;>simp_all
  have z3:e3=0↔x1+x2<aT:=by rw[Mh];split<;>simp_all
  have z4:e4=0↔x3+z.t.val<aT:=by rw[Mi];split<;>simp_all
  rw[z1,z2,z3,z4,u5];constructor
  ·rintro⟨h1,h2,h3,h4⟩;rw[if_pos h1]at ku;rw[if_pos h2]at mq;rw[if_pos h3]at AX;omega
  ·intro h;have h1:z.t.cap*g<aT:=by omega
   have h2:z.t.bX*(131072*n)<aT:=by omega
   rw[if_pos h1]at ku;rw[if_pos h2]at mq;have h3:x1+x2<aT:=by omega
   rw[if_pos h3]at AX;exact⟨h1,h2,h3,by omega⟩
 have nt:z.t.fF<aT→x4=z.t.fF:=fun h=>by
  have h1:z.t.cap*g<aT:=by omega
  have h2:z.t.bX*(131072*n)<aT:=by omega
  rw[if_pos h1]at ku;rw[if_pos h2]at mq;have h3:x1+x2<aT:=by omega
  rw[if_pos h3]at AX;rw[if_pos (by omega)]at pG;omega
 refine nZ (h:=?_);refine aQ (α:=Nat) (fun i=>i≤4∧∀j,j<i→[e1,e2,e3,e4][j]? =some 0) (fun i=>[(61,iv i),(60,.agg ([e1,e2,e3,e4].map (Value.int .i64)).toArray),(2,dp p2),(3,.bool false)])
  (fun _=>Row p2 0 (uc x4)::Γ) (fun i=>4-i) 0 ⟨by omega,fun j h=>by omega⟩ x_tv Sub.h ?_
 rintro i ⟨hi,hz⟩ back;refine bQ (h:=?_);by_cases h:i<4
 ·obtain⟨e,he⟩:∃e,[e1,e2,e3,e4][i]? =some e:=⟨_,za (by simpa using h)⟩
  refine aA (h:=?_);refine xe rfl rfl rfl h (by rw[zf,he];rfl) rfl ?_;by_cases h0:e=0
  ·subst h0;refine Wq ?_;exact aV (back (i+1) ⟨by omega,fun j hj=>by
    by_cases e:j=i
    ·subst e;exact he
    ·exact hz j (by omega)⟩ (by omega))
  ·have bM:¬z.t.fF<aT:=by
    intro hc;obtain⟨r1,r2,r3,r4⟩:=gF.2 hc;rw[r1,r2,r3,r4]at he;have:i=0∨i=1∨i=2∨i=3:=by omega
    rcases this with rfl|rfl|rfl|rfl<;>exact h0 (zD he).symm
   rw[decide_eq_false bM];refine Wq ?_;exact bP (rs:=[.cell 2 24,.tmp 3]) (vs:=[uv 0,.bool false]) ⟨bG rfl rfl,bO rfl,trivial⟩ [] ⟨0,rfl,rfl,by decide,fun h=>absurd h bM⟩ Sub.h
 ·obtain rfl:i=4:=by omega
  have AY:z.t.fF<aT:=gF.1 ⟨zD (hz 0 (by omega)),zD (hz 1 (by omega)),zD (hz 2 (by omega)),zD (hz 3 (by omega))⟩;rw[decide_eq_true AY];refine Wq ?_;exact bP (rs:=[.cell 2 24,.tmp 3]) (vs:=[uv x4,.bool true]) ⟨bG rfl rfl,bO rfl,trivial⟩ [] ⟨x4,rfl,rfl,b4,nt⟩ Sub.h
end
section
open Go.Proofs Tryz
open Go.Proofs Go.RowKit
theorem A0{A:HP}{a:Option Addr}{len cap:Nat}{xs:List Value}(R:Reads A 5 a len xs)(hlen:len≤2^40)(h1:xs.all Value.oneCell'=true):
 Spec prog 19 [.slice a len cap] [A] (fun v B=>∃a' bi,v= .slice a' len bi∧B=[A,Sl 5 a' len bi xs]∧len≤bi):=by
 refine x_sp func19 ntmps19 fun E cs Γ=>?_;refine wS (h:=?_);have hl:xs.length=len*5:=R.1;refine bL (wD (.inl rfl) rfl rfl) rfl ?_;cases a with
 |none=>
  refine Wl ?_;refine kN (fun E w s=>?_) (fun (h0:len=0)=>?_)
  ·rcases s.reads R with h|⟨_,_,h,_⟩
   ·exact h
   ·cases h
  subst h0;obtain rfl:xs=[]:=List.length_eq_zero_iff.1 (by omega);exact ap rfl [A,Sl 5 none 0 0 []] ⟨none,0,rfl,rfl,zq _⟩ ((ak.cq 5 _).trans Sub.h)
 |some q=>
  refine eU (h:=?_);refine cf rfl (by rfl) (by rfl) (by rfl) (by rfl) rfl fun a2=>?_;refine fv (h:=?_);refine pZ rfl rfl R (by rfl) (by rfl) h1 (by omega) rfl fun a3 c3 hc=>?_;refine bU (h:=?_);rw[zO]at hc⊢;rw[zB];exact ap rfl [A,Sl 5 a3 len c3 xs] ⟨a3,c3,by simp[eo],rfl,hc⟩ Sub.h
theorem U2{A:HP}{a:Option Addr}{len cap:Nat}{xs:List Value}(R:Reads A 1 a len xs)(hlen:len≤2^40)(h1:xs.all Value.oneCell'=true):
 Spec prog 179 [.slice a len cap] [A] (fun v B=>∃a' bi,v= .slice a' len bi∧B=[A,Sl 1 a' len bi xs]∧len≤bi):=by
 refine x_sp func179 ntmps179 fun E cs Γ=>?_;refine wS (h:=?_);have hl:xs.length=len*1:=R.1;refine bL (wD (.inl rfl) rfl rfl) rfl ?_;cases a with
 |none=>
  refine Wl ?_;refine kN (fun E w s=>?_) (fun (h0:len=0)=>?_)
  ·rcases s.reads R with h|⟨_,_,h,_⟩
   ·exact h
   ·cases h
  subst h0;obtain rfl:xs=[]:=List.length_eq_zero_iff.1 (by omega);exact ap rfl [A,Sl 1 none 0 0 []] ⟨none,0,rfl,rfl,zq _⟩ ((ak.cq 1 _).trans Sub.h)
 |some q=>
  refine eU (h:=?_);refine cf rfl (by rfl) (by rfl) (by rfl) (by rfl) rfl fun a2=>?_;refine fv (h:=?_);refine pZ rfl rfl R (by rfl) (by rfl) h1 (by omega) rfl fun a3 c3 hc=>?_;refine bU (h:=?_);rw[zO]at hc⊢;rw[zB];exact ap rfl [A,Sl 1 a3 len c3 xs] ⟨a3,c3,by simp[eo],rfl,hc⟩ Sub.h
theorem U3{A:HP}{a:Option Addr}{len cap:Nat}{xs:List Value}(R:Reads A 1 a len xs)(hlen:len≤2^40)(h1:xs.all Value.oneCell'=true):
 Spec prog 180 [.slice a len cap] [A] (fun v B=>∃a' bi,v= .slice a' len bi∧B=[A,Sl 1 a' len bi xs]∧len≤bi):=by
 refine x_sp func180 ntmps180 fun E cs Γ=>?_;refine wS (h:=?_);have hl:xs.length=len*1:=R.1;refine bL (wD (.inl rfl) rfl rfl) rfl ?_;cases a with
 |none=>
  refine Wl ?_;refine kN (fun E w s=>?_) (fun (h0:len=0)=>?_)
  ·rcases s.reads R with h|⟨_,_,h,_⟩
   ·exact h
   ·cases h
  subst h0;obtain rfl:xs=[]:=List.length_eq_zero_iff.1 (by omega);exact ap rfl [A,Sl 1 none 0 0 []] ⟨none,0,rfl,rfl,zq _⟩ ((ak.cq 1 _).trans Sub.h)
 |some q=>
  refine eU (h:=?_);refine cf rfl (by rfl) (by rfl) (by rfl) (by rfl) rfl fun a2=>?_;refine fv (h:=?_);refine pZ rfl rfl R (by rfl) (by rfl) h1 (by omega) rfl fun a3 c3 hc=>?_;refine bU (h:=?_);rw[zO]at hc⊢;rw[zB];exact ap rfl [A,Sl 1 a3 len c3 xs] ⟨a3,c3,by simp[eo],rfl,hc⟩ Sub.h
theorem Dx{A:HP}{a:Option Addr}{len cap:Nat}{xs:List Value}(R:Reads A 6 a len xs)(hlen:len≤2^40)(h1:xs.all Value.oneCell'=true):
 Spec prog 213 [.slice a len cap] [A] (fun v B=>∃a' bi,v= .slice a' len bi∧B=[A,Sl 6 a' len bi xs]∧len≤bi):=by
 refine x_sp func213 ntmps213 fun E cs Γ=>?_;refine wS (h:=?_);have hl:xs.length=len*6:=R.1;refine bL (wD (.inl rfl) rfl rfl) rfl ?_;cases a with
 |none=>
  refine Wl ?_;refine kN (fun E w s=>?_) (fun (h0:len=0)=>?_)
  ·rcases s.reads R with h|⟨_,_,h,_⟩
   ·exact h
   ·cases h
  subst h0;obtain rfl:xs=[]:=List.length_eq_zero_iff.1 (by omega);exact ap rfl [A,Sl 6 none 0 0 []] ⟨none,0,rfl,rfl,zq _⟩ ((ak.cq 6 _).trans Sub.h)
 |some q=>
  refine eU (h:=?_);refine cf rfl (by rfl) (by rfl) (by rfl) (by rfl) rfl fun a2=>?_;refine fv (h:=?_);refine pZ rfl rfl R (by rfl) (by rfl) h1 (by omega) rfl fun a3 c3 hc=>?_;refine bU (h:=?_);rw[zO]at hc⊢;rw[zB];exact ap rfl [A,Sl 6 a3 len c3 xs] ⟨a3,c3,by simp[eo],rfl,hc⟩ Sub.h
theorem U4(l:List Nat):(l.map nv).all Value.oneCell'=true:=by simp[Value.oneCell']
theorem U5(l:List (List UInt8)):(l.map tv).all Value.oneCell'=true:=by simp[Value.oneCell']
theorem TZ.one(z:TZ):z.cells.all Value.oneCell'=true:=by simp[Value.oneCell']
theorem rK{A:HP}(z:TZ)(I:z.In A):Spec prog 100 [z.val] [A] (fun v B=>v= .int .i64 (if z.t.ok then 0 else 1)∧B=[A]):=by
 refine x_sp func100 ntmps100 fun E cs Γ=>?_;have hw:=I.wf;refine jx (h:=?_);have bad:∀ρ k Δ,z.t.ok=false→lk ρ 2=some (.int .i64 1)→ak Δ (A::Γ)→Ex prog (jX prog 100 E cs (fun v B=>v= .int .i64 (if z.t.ok then 0 else 1)∧B=[A]) Γ) 50 [] (.code .ret::k) ρ Δ:=fun ρ k Δ hz hρ hE=>
  ap (vs:=[.int .i64 1]) (by simp only[List.map,gk,ev,hρ]) [A] ⟨by rw[hz];rfl,rfl⟩ hE
 have bn:z.t.ok=(decide (0≤z.t.bx)&&decide (z.t.bx<8)&&decide (0≤z.t.ck)&&decide (z.t.ck≤1099511627776)&&decide (0≤z.t.dr)&&decide (z.t.dr≤1073741824)&&decide (z.t.bV≤z.t.cap)&&z.t.fits&&decide (z.t.fF<aT)):=rfl;by_cases h1:0≤z.t.bx
 ·by_cases h2:z.t.bx<8
  ·by_cases h3:0≤z.t.ck
   ·by_cases h4:z.t.ck≤1099511627776
    ·by_cases h5:0≤z.t.dr
     ·by_cases h6:z.t.dr≤1073741824
      ·refine bQ (h:=?_);refine ao (aM rfl rfl fun p1=>?_);refine Wq ?_;refine aJ rfl (ml hw.bV hw.cap) rfl ?_;refine cS (h:=?_);by_cases h7:z.t.bV≤z.t.cap
       ·have hc:cV z.t.bV z.t.cap≤0:=by unfold cV;(repeat' split)<;>omega
        refine Wq ?_;refine aJ rfl (UO I.rh I.rb fun b hb=>z9 (I.bb b hb) (by decide)) rfl ?_;rintro v B ⟨e,rfl,rfl,he⟩;refine a_ (h:=?_);by_cases h8:e=0
        ·have hf:=he.1 h8;have dM:=pF hf;refine Wq ?_;refine aJ rfl (Mg z hw ⟨h5,h6⟩ ⟨dM.1,dM.2.1⟩) rfl ?_;rintro v B ⟨x,rfl,rfl,hx,-⟩;refine dq (h:=?_);cases h9:decide (z.t.fF<aT)with
         |true=>
          refine gj (h:=?_);refine ao (aC rfl fun p3=>?_);refine Wq ?_;exact ap rfl [A] ⟨by rw[bn,show z.t.fits=true from hf];simp[h1,h2,h3,h4,h5,h6,h7,of_decide_eq_true h9];rfl,rfl⟩ Sub.h
         |false=>
          refine gj (h:=?_);refine ao (aC rfl fun p3=>?_);refine Wq ?_;exact bad _ _ _ (by rw[bn,h9];simp) rfl Sub.h
        ·have hf:z.t.fits=false:=by
          cases hh:z.t.fits with
          |false=>rfl
          |true=>exact absurd (he.2 hh) h8
         refine Wq ?_;exact bad _ _ _ (by rw[bn,hf];simp) rfl Sub.h
       ·have hc:cV z.t.bV z.t.cap=1:=by unfold cV;rw[if_neg (by omega),if_pos (by omega)]
        refine Wq ?_;exact bad _ _ _ (by rw[bn,decide_eq_false h7];simp) rfl Sub.h
      ·refine bQ (h:=?_);refine ao (aM rfl rfl fun p1=>?_);refine Wq ?_;exact bad _ _ _ (by rw[bn,decide_eq_false h6];simp) rfl Sub.h
     ·refine bQ (h:=?_);refine ao (aM rfl rfl fun p1=>?_);refine Wq ?_;exact bad _ _ _ (by rw[bn,decide_eq_false h5];simp) rfl Sub.h
    ·refine bQ (h:=?_);refine ao (aM rfl rfl fun p1=>?_);refine Wq ?_;exact bad _ _ _ (by rw[bn,decide_eq_false h4];simp) rfl Sub.h
   ·refine bQ (h:=?_);refine ao (aM rfl rfl fun p1=>?_);refine Wq ?_;exact bad _ _ _ (by rw[bn,decide_eq_false h3];simp) rfl Sub.h
  ·refine bQ (h:=?_);refine ao (aM rfl rfl fun p1=>?_);refine Wq ?_;exact bad _ _ _ (by rw[bn,decide_eq_false h2];simp) rfl Sub.h
 ·refine bQ (h:=?_);refine ao (aM rfl rfl fun p1=>?_);refine Wq ?_;exact bad _ _ _ (by rw[bn,decide_eq_false h1];simp) rfl Sub.h
theorem mr{t:TX}(h:t.ok=true):0≤t.bx∧t.bx<8∧0≤t.ck∧t.ck≤1099511627776∧0≤t.dr∧t.dr≤1073741824∧t.bV≤t.cap∧t.fits=true∧t.fF<aT:=by
 unfold TX.ok at h;simp only[zh,decide_eq_true_eq]at h;obtain⟨⟨⟨⟨⟨⟨⟨⟨h1,h2⟩,h3⟩,h4⟩,h5⟩,h6⟩,h7⟩,h8⟩,h9⟩:=h;exact⟨h1,h2,h3,h4,h5,h6,h7,h8,h9⟩
theorem Hh{A:HP}(z:TZ)(I:z.In A):Spec prog 202 [z.val] [A] (fun v B=>v= .tuple #[uv (if z.t.ok then z.t.fF else 0),.int .i64 (if z.t.ok then 0 else 1)]∧B=[A]):=by
 refine x_sp func202 ntmps202 fun E cs Γ=>?_;refine eh (h:=?_);refine ao (aM rfl rfl fun p1=>?_);refine ao (aC rfl fun p2=>?_);refine Wq ?_;refine aJ rfl (rK z I) rfl ?_;refine de (h:=?_);cases hz:z.t.ok with
 |true=>
  have hk:=mr hz;have dM:=pF hk.2.2.2.2.2.2.2.1;rw[if_pos rfl,if_pos rfl];refine Wq ?_;refine aJ rfl (Mg z I.wf ⟨hk.2.2.2.2.1,hk.2.2.2.2.2.1⟩ ⟨dM.1,dM.2.1⟩) rfl ?_;rintro v B ⟨x,rfl,rfl,hx,mq⟩;obtain rfl:=mq hk.2.2.2.2.2.2.2.2;refine qq (h:=?_);refine ao (aC rfl fun p5=>?_);refine Wq ?_;exact bP (rs:=[.cell 2 24,.tmp 3]) (vs:=[uv z.t.fF,.int .i64 0]) ⟨bG rfl rfl,bO rfl,trivial⟩ [A] ⟨rfl,rfl⟩ Sub.h
 |false=>
  rw[if_neg (by decide),if_neg (by decide)];refine Wq ?_;exact bP (rs:=[.cell 2 24,.tmp 3]) (vs:=[uv 0,.int .i64 1]) ⟨bG rfl rfl,bO rfl,trivial⟩ [A] ⟨rfl,rfl⟩ Sub.h
end
section
open Go.Proofs Tryz
open Go.RowKit Go.Proofs
def xp(P:Program)(gf:FuncId)(fs caps:List Value)(A A':List HP)(n:Nat)(Q:Nat→List Value→HP→Prop):Prop:=
 ∀(l:Nat) (I J:Nat→HP),(∀i vs R,Q i vs R→uF P l vs [R,I i] fun b B=>(b=true∧B=[I (i+1)])∨(b=false∧B=[J (i+1)]))→
  Spec P gf (fs++[.func (.yield l) #[] #[]]++caps) (A++[I 0]) fun _ B=>B=A'++[I n]∨∃i,B=A'++[J i]
def U6(P:Program)(fn:FuncId)(n:Nat)(todo:List Item)(ρ:aK)(I:Nat→List HP)(J:Code→Nat→List HP)(R:HP)(i:Nat):Prop:=
 ∀(Y:Cx) (l:Nat) (r:Loop) (Θ:List HP),Y.fn=fn→Y.ro=some l→
  (∀ρ',Ex P Y n [] [] ρ' (Rec l r .busy none::(I (i+1)++Θ)))→
  (∀id k ρ',exitTo id k=none→Ex P Y n [] (.code (.exit id)::k) ρ' (Rec l r .busy none::(J (.exit id) (i+1)++Θ)))→
  (∀k ρ',Ex P Y n [] (.code .ret::k) ρ' (Rec l r .busy none::(J .ret (i+1)++Θ)))→
  Ex P Y n [] todo ρ (Rec l r .ready none::(R::(I i++Θ)))
section
variable {P:Program} {X:Cx} {n:Nat} {ρ:aK} {Γ:List HP} {k:List Item}
theorem xq{f:Operand}{ps:List Nat}{assign body:Code}{gf:FuncId}{fs caps:List Value}{A A' Δ Δ1 Δ2:List HP}{Ds:List Nat}{n':Nat}{Q:Nat→List Value→HP→Prop}(eT:X.ro=none)(hf:ev ρ f=some (.func (.func gf) fs.toArray caps.toArray))[C:aB P gf]
 [TM:Take Γ (Marks Ds) Δ] [TA:nN Δ A Δ1] (it:xp P gf fs caps A A' n' Q) (I:Nat→List HP) (J:Code→Nat→List HP) (hI:ak Δ1 (I 0++Δ2)) (po:ps.all (fun p=>Nat.blt p n)=true) (ni:∀(i:Nat) (vs:List Value) (R:HP),Q i vs R→vs.length=ps.length)
 (Ai:∀i vs R,Q i vs R→U6 P X.fn n [.code assign,.beginRound,.code body] (Ah ps vs ρ) I J R i)
 (Aj:∀D,Ex P X n (dX (D::Ds)) k ρ (Marks (D::Ds)::(I n'++(A'++Δ2))))
 (Ak:∀D c i,Ex P X n (dX (D::Ds)) (.code c::k) ρ (Marks (D::Ds)::(J c i++(A'++Δ2)))):
 Ex P X n (dX Ds) (.code (.rangeFunc f ps.toArray assign body)::k) ρ Γ:=by
 intro t w cP hm hs;obtain⟨E,hE⟩:∃E,X.E=E:=⟨_,rfl⟩
 rw[hE]at hs;obtain⟨r,hr⟩:∃r:Loop,r={state:= .ready,pending:=none,fn:=X.fn,tmps:=t,params:=ps.toArray,assign,body,defers:=w.heap.size}:=⟨_,rfl⟩
 have s0:=hs.perm TM.h;have s1:=((s0.sE (.deferred (some []))).sE (.loop r))
 simp only[World.size_alloc]at s1;obtain⟨w1,q9⟩:∃w1,(w.alloc (.deferred (some []))).alloc (.loop r)=w1:=⟨_,rfl⟩
 rw[q9]at s1;obtain⟨D,hD⟩:∃D,D=w.heap.size:=⟨_,rfl⟩
 rw[←hD]at s1;have Al:Rec (D+1) r .ready none=Whole (D+1) (.loop r):=by rw[hr];rfl
 rw[←Al]at s1;obtain⟨II,mN⟩:∃II:Nat→HP,II=fun i=>Sep (Rec (D+1) r .ready none::Whole D (.deferred (some []))::I i):=⟨_,rfl⟩
 obtain⟨JJ,pq⟩:∃JJ:Nat→HP,JJ=fun i=>Any fun c=>Sep (Rec (D+1) r .done (some c)::Whole D (.deferred (some []))::J c i):=⟨_,rfl⟩
 have sA:St E ((A++[II 0])++(Marks Ds::Δ2)) w1:=by
  have p1:(Rec (D+1) r .ready none::Whole D (.deferred (some []))::Marks Ds::Δ).Perm (A++(Rec (D+1) r .ready none::Whole D (.deferred (some []))::Marks Ds::Δ1)):=by
   refine((((TA.h).cons (Marks Ds)).cons _).cons _).trans ?_;refine List.Perm.trans ?_ (zac (l₁:=_::_::_::Δ1));simp only[zl];exact(((zac (l₁:=A) (l₂:=Δ1)).cons _).cons _).cons _
  have s2:=s1.perm p1;have e1:ak (Rec (D+1) r .ready none::Whole D (.deferred (some []))::Marks Ds::Δ1) (II 0::Marks Ds::Δ2):=by
   refine(((hI.cons (Marks Ds)).cons _).cons _).trans ?_;refine(ak.perm (?_:List.Perm _ ((Rec (D+1) r .ready none::Whole D (.deferred (some []))::I 0)++(Marks Ds::Δ2)))).trans ?_
   ·simp only[zl];exact(zau.symm.cons _).cons _
   ·rw[mN];exact ak.cA _ _
  have s3:=(e1.append A).st s2;simpa using s3
 have Am:∀i vs R,Q i vs R→uF P (D+1) vs [R,II i] fun b B=>(b=true∧B=[II (i+1)])∨(b=false∧B=[JJ (i+1)]):=by
  intro i vs R hi E' Θ w' s';rw[mN]at s';have s2:=(ak.cx _ _).st (St.perm (List.Perm.swap _ _ _) s');simp only[zl]at s2;have hl:=s2.fz;have hlen:=ni i vs R hi;have hy:=run_yield (P:=P) (args:=vs.toArray) hl (by rw[hr];simpa using hlen);rw[hr]at hy;refine⟨X.fn,_,assign,body,hy,fun c cs=>?_⟩;obtain⟨Rr,nj⟩:∃Rr:Bool→List HP→Prop,Rr=fun b B=>(b=true∧B=[II (i+1)])∨(b=false∧B=[JJ (i+1)]):=⟨_,rfl⟩
  have hB:=Ai i vs R hi (wQ X.fn (D+1) c cs E' Rr Θ) (D+1) r (Whole D (.deferred (some []))::Θ) rfl rfl ?_ ?_ ?_
  ·have hz:=Gg ps vs ρ t hm (by rw[cP];exact po);have e2:((ps.toArray.zip vs.toArray).foldl (fun tmps x=>tmps.setIfInBounds x.1 x.2) t)=(ps.zip vs).foldl (fun tmps (x:Nat×Value)=>tmps.setIfInBounds x.1 x.2) t:=by simp
   have:=hB _ w' (by rw[hz.2];exact cP) hz.1 (s2.perm (by
    refine List.Perm.cons _ ?_;refine List.Perm.trans ?_ (List.Perm.cons R zau.symm);exact(List.Perm.cons _ zau).trans (List.Perm.swap _ _ _)))
   rw[←nj];have e3:(wQ X.fn (D+1) c cs E' Rr Θ).base.atR ⟨(ps.zip vs).foldl (fun tmps (x:Nat×Value)=>tmps.setIfInBounds x.1 x.2) t,[]⟩ [.code assign,.beginRound,.code body]=Frame.round (D+1) X.fn ((ps.toArray.zip vs.toArray).foldl (fun tmps x=>tmps.setIfInBounds x.1 x.2) t) assign body .normal:=by
    rw[e2];rfl
   rw[e3]at this;exact this
  ·
   intro ρ' t' v' _ _ st;have cv:=run_endRound (P:=P) none st.fz;refine .step (stepR_round_end rfl rfl cv) (.now ⟨true,[II (i+1)],_,rfl,by rw[nj];exact .inl ⟨rfl,rfl⟩,?_⟩);have iU:=st.lD (.loop {r with state:= .ready,pending:=none});rw[mN];refine(ak.cA (Rec (D+1) r .ready none::Whole D (.deferred (some []))::I (i+1)) Θ).st (iU.perm ?_);simp only[zl];exact List.Perm.cons _ zau
  ·intro id k' ρ' hk t' v' _ _ st;have cv:=run_endRound (P:=P) (some (.exit id)) st.fz;refine .step (stepR_round_exit rfl rfl hk cv) (.now ⟨false,[JJ (i+1)],_,rfl,by rw[nj];exact .inr ⟨rfl,rfl⟩,?_⟩);have iU:=st.lD (.loop {r with state:= .done,pending:=some (.exit id)});rw[pq];refine(ak.ex (A:=fun c=>Sep (Rec (D+1) r .done (some c)::Whole D (.deferred (some []))::J c (i+1))) (.exit id) Θ).st ?_;refine(ak.cA (Rec (D+1) r .done (some (.exit id))::Whole D (.deferred (some []))::J (.exit id) (i+1)) Θ).st (iU.perm ?_);simp only[zl];exact List.Perm.cons _ zau
  ·intro k' ρ' t' v' _ _ st;have cv:=run_endRound (P:=P) (some .ret) st.fz;refine .step (stepR_round_ret rfl rfl cv) (.now ⟨false,[JJ (i+1)],_,rfl,by rw[nj];exact .inr ⟨rfl,rfl⟩,?_⟩);have iU:=st.lD (.loop {r with state:= .done,pending:=some .ret});rw[pq];refine(ak.ex (A:=fun c=>Sep (Rec (D+1) r .done (some c)::Whole D (.deferred (some []))::J c (i+1))) .ret Θ).st ?_;refine(ak.cA (Rec (D+1) r .done (some .ret)::Whole D (.deferred (some []))::J .ret (i+1)) Θ).st (iU.perm ?_);simp only[zl];exact List.Perm.cons _ zau
 have An:=it (D+1) II JJ Am E (Marks Ds::Δ2) w1 sA;have Ao:(Instr.enterLoop X.base.fn t ps.toArray assign body X.base.roundOf).run P w= .ok (D+1,[ng D]) w1:=by
  have hb:X.base.roundOf=none:=eT;rw[hb,run_enterLoop_outer,←q9,hr,hD];rfl
 have qZ:=hm.ev (dX Ds) hf;have lx:(resolve (Act.mk t (dX Ds)).eval (rangeCall f (D+1)) 0).run P w1= .ok {target:= .fn (.func gf) caps.toArray,args:=fs.toArray++ #[.func (.yield (D+1)) #[] #[]]} w1:=by
  show((Deferred.ofValue ((Act.mk t (dX Ds)).eval f) (#[Operand.const (.func (.yield (D+1)) #[] #[])].map (Act.mk t (dX Ds)).eval)):Sem Deferred).run P w1=_;rw[qZ];simp[Deferred.ofValue,Act.eval]
 have lY:=stepR_rangeFunc (P:=P) (b:=X.base) (a:=⟨t,dX Ds⟩) (k:=k) (cs:=X.cs) (w:=w) (g:=f) (ps:=ps.toArray) (assign:=assign) (body:=body) Ao lx
  (show(invoke (.fn (.func gf) caps.toArray) (fs.toArray++ #[.func (.yield (D+1)) #[] #[]])).run P w1= .ok (.enter gf _) w1 from C.run _ _)
 refine .step lY ?_;obtain⟨e,w2,fr,⟨v,B,rfl,hB,s2⟩,p_,fZ,qT⟩:=An (X.base.atR ⟨t,[ng D]++dX Ds⟩ (.inRangeFunc (D+1)::k)::X.cs);have Ap:(fs++[Value.func (.yield (D+1)) #[] #[]]++caps).toArray=(fs.toArray++ #[.func (.yield (D+1)) #[] #[]])++caps.toArray:=by simp
 rw[Ap]at p_;refine .steps p_ (.step (step_leave_returned qT) ?_);rw[finish_atR_inRangeFunc];rcases hB with rfl|⟨i,rfl⟩
 ·have s3:St E (Rec (D+1) r .ready none::(Whole D (.deferred (some []))::Marks Ds::(I n'++(A'++Δ2)))) w2:=by
   have p1:((A'++[II n'])++(Marks Ds::Δ2)).Perm (II n'::(Marks Ds::(A'++Δ2))):=by
    simp only[zr,zl,zB];exact zau.trans (zau.cons _)
   have s4:=s2.perm p1;rw[mN]at s4;have s5:=(ak.cx _ _).st s4;refine s5.perm ?_;simp only[zl];exact(zau.cons _).cons _
  have pr:=run_endLoop (P:=P) s3.fz (by simp);refine .step (stepR_endRangeFunc (b:=X.base) (a:=⟨t,[ng D]++dX Ds⟩) pr) ?_;have s4:=s3.lD (.loop {r with state:= .exhausted,pending:=none});have s6:=(ak.wP D Ds _).st (s4.drop);exact Aj D t _ cP hm (by rw[hE];exact s6)
 ·have s3:∃c,St E (Rec (D+1) r .done (some c)::(Whole D (.deferred (some []))::Marks Ds::(J c i++(A'++Δ2)))) w2:=by
   have p1:((A'++[JJ i])++(Marks Ds::Δ2)).Perm (JJ i::(Marks Ds::(A'++Δ2))):=by
    simp only[zr,zl,zB];exact zau.trans (zau.cons _)
   have s4:=s2.perm p1;rw[pq]at s4;obtain⟨c,s4⟩:=s4.ex;refine⟨c,?_⟩;have s5:=(ak.cx _ _).st s4;refine s5.perm ?_;simp only[zl];exact(zau.cons _).cons _
  obtain⟨c,s3⟩:=s3;have pr:=run_endLoop (P:=P) s3.fz (by simp);refine .step (stepR_endRangeFunc (b:=X.base) (a:=⟨t,[ng D]++dX Ds⟩) pr) ?_;have s4:=s3.lD (.loop {r with state:= .exhausted,pending:=some c});have s6:=(ak.wP D Ds _).st (s4.drop);exact Ak D c i t _ cP hm (by rw[hE];exact s6)
end
section ops
variable {P:Program} {X:Cx} {n:Nat} {ds:List Deferred} {ρ:aK} {Γ:List HP} {Nx:Value→List HP→Prop} {d:Nat} {ty:TypeId}
theorem Hi{t t2 e y:Nat}{x z:Operand}{a:Option Addr}{len cap:Nat}{bs:List UInt8}{xs zv:List Value}{Δ:List HP}[T:cX P t e 1 y][S:pY P t2][Z:cp P e zv](hx:ev ρ x=some (.slice a len cap))(hz:ev ρ z=some (.string (bC bs)))
 [TS:ig Γ a 1 len cap xs Δ] (fB:zv.length=1) (iT:Nat.blt 0 y=true) (hb:(2*(len+bs.length)+192)*y≤2^48) (hn:Nat.blt d n=true)
 (h:∀a' bi,len+bs.length≤bi→Nx (.slice a' (len+bs.length) bi) (Sl 1 a' (len+bs.length) bi (xs++bs.map bv)::Δ)):
 bm P X n ds (some d) (.call ⟨.builtin .append,#[x,z],#[t,t2]⟩) ty Nx ρ Γ:=
 b_ (by simp) hn fun ee o w ax aS he bg hs=>by
  obtain⟨z0,fY,oY⟩:=cp.get (P:=P) (t:=e);have st:=hs.perm TS.h;have jK:z0.cells.size=1:=by rw[←fB,←fY];simp
  obtain⟨a',bi,w',hr,hc,s1⟩:=FW (P:=P) (t:=t) (t2:=t2) (y:=y) (m:=bs.length) (yv:= .string (bC bs)) (ys:=bs.map bv) oY jK (by simpa[zN]using iT) st (fun w=>by simp[Builtin.lenOf,dV]) (by simp)
   (fun w' jW=>by
    simp only[Builtin.firstCells,Sem.run_pure];congr 1;apply zbW;simp[bC,zcf];intro a _;rfl) (wE bs) hb o.type
  refine⟨_,w',_,?_,s1,h a' bi hc⟩;simp[execOp,ax,resolve,he x _ hx,he z _ hz,invoke,builtin,hr]
end ops
theorem ak.mu(Γ:List HP):ak Γ (Mem PH.emp::Γ):=(jr.intro Γ).trans (ak.one (fun _ h=>h) Γ)
theorem St.U7{E:Env}{Γ:List HP}{w:World}{h g:PH}(st:St E (Mem h::Mem g::Γ) w):∃k:{k:PH//PH.le h k∧PH.le g k},St E (Mem k.1::Γ) w:=by
 obtain⟨e,x,⟨h1,r1,hA,⟨h2,r2,hM,hr,d2,rfl⟩,d1,rfl⟩,W⟩:=st;obtain rfl:h1=h:=hA;obtain rfl:h2=g:=hM;obtain⟨d11,d12⟩:=PH.oj.1 d1;refine⟨⟨h1.join h2,fun b x e he=>by simp[PH.join,he],fun b x e he=>by rw[PH.join_comm d11];simp[PH.join,he]⟩,e,(h1.join h2).join r2,⟨_,r2,rfl,hr,PH.sB.2 ⟨d12,d2⟩,rfl⟩,by rw[PH.join_assoc];exact W⟩
theorem ny{P:Program}{X:Cx}{n:Nat}{ds:List Deferred}{ρ:aK}{Γ Δ Θ:List HP}{todo:List Item}(h g:PH)[T:Take Γ (Mem h) Δ][U:Take Δ (Mem g) Θ]
 (H:∀k:PH,PH.le h k→PH.le g k→Ex P X n ds todo ρ (Mem k::Θ)):Ex P X n ds todo ρ Γ:=
 dz (Γ':=fun k:{k:PH//PH.le h k∧PH.le g k}=>Mem k.1::Θ) (fun E w st=>((st.perm T.h).perm (U.h.cons _)).U7) fun k=>H k.1 k.2.1 k.2.2
end
section
open Go.Proofs Tryz
open Go.Proofs Go.RowKit
abbrev Dy(t:TX)(a:Option Addr)(c:Nat)(b:Option Addr)(d:Nat):TZ:=⟨t,a,c,b,d⟩
theorem xr{A:HP}(z:TZ)(I:z.In A):Spec prog 124 [z.val] [A] (fun v B=>∃(k:PH) (z':TZ),z'.t=z.t∧z'.In (Mem k)∧v=z'.val∧B=[A,Mem k]):=by
 refine x_sp func124 ntmps124 fun E cs Γ=>?_;refine eh (h:=?_);refine ao (aM rfl rfl fun p1=>?_);refine ao (aC rfl fun p2=>?_);refine u6 (h:=?_);refine aZ 7 (aX [2,5,7,9] [0,1,3,4,2,6,5,7,8,9]) [Row p1 0 z.cells,A] ?_;refine Ws ?_;refine aE rfl (aq rfl (U2 I.rh I.hl (U4 _)) rfl ?_);rintro v B ⟨a5,c5,rfl,rfl,A6⟩;refine dc (h:=j6 (h:=?_));refine aE rfl (aq rfl (U3 I.rb I.bl (U5 _)) rfl ?_);rintro v B ⟨a8,c8,rfl,rfl,rq⟩;refine dc (h:=?_);refine bN rfl rfl (eZ rfl rfl rfl rfl (by simp) ?_);refine j6 (h:=?_);refine bN rfl rfl (eZ rfl rfl rfl rfl (by simp) ?_);refine dU (h:=?_);dsimp only[Nat.reduceSub,Nat.reduceAdd,List.set];refine bJ (ak.mu _) ?_;refine fw a5 (h:=PH.emp) fun k1 ey R5 acC=>?_;refine fw a8 (h:=k1) fun k2 bH R8 acD=>?_;refine Wq ?_;exact bP (rs:=[.cell 2 88]) (vs:=[TZ.val (Dy z.t a5 c5 a8 c8)]) ⟨bG rfl rfl,trivial⟩ [A,Mem k2] ⟨k2,Dy z.t a5 c5 a8 c8,rfl,⟨R5.up bH,R8,A6,rq,I.wf,I.hl,I.bl,I.bb⟩,rfl,rfl⟩ Sub.h
abbrev av(l:List TZ):List Value:=l.flatMap TZ.cells
theorem TZ.len(z:TZ):z.cells.length=21:=rfl
theorem da(l:List TZ):(av l).length=l.length*21:=lF (f:=TZ.cells) (s:=21) TZ.len l
def bR(A:HP)(l:List TZ):Prop:=∀z∈l,z.In A
theorem bR.up{h k:PH}{l:List TZ}(I:bR (Mem h) l)(p:PH.le h k):bR (Mem k) l:=fun z hz=>(I z hz).up p
theorem bR.snoc{A:HP}{l:List TZ}{z:TZ}(I:bR A l)(hz:z.In A):bR A (l++[z]):=fun x hx=>by
 rcases zL.1 hx with hx|hx
 ·exact I x hx
 ·obtain rfl:x=z:=by simpa using hx
  exact hz
def Same(l l':List TZ):Prop:=l'.map TZ.t=l.map TZ.t
theorem cG{l:List TZ}{i:Nat}{z:TZ}(h:l[i]? =some z){j:Nat}{v:Value}(hv:z.cells[j]? =some v):(av l)[i*21+j]? =some v:=by
 obtain⟨h1,h2⟩:=List.getElem?_eq_some_iff.1 h;have:=oA (l:=l) (f:=TZ.cells) TZ.len h1 j (by have:=(List.getElem?_eq_some_iff.1 hv).1;rwa[TZ.len]at this);rw[this,h2];exact hv
theorem xt{A:HP}{a:Option Addr}{cap:Nat}{l:List TZ}(R:Reads A 21 a l.length (av l))(I:bR A l)(hlen:l.length≤2^38):
 Spec prog 77 [.slice a l.length cap] [A] (fun v B=>∃(k:PH) (l':List TZ) (a':Option Addr) (c':Nat),Same l l'∧bR (Mem k) l'∧v= .slice a' l'.length c'∧B=[A,Mem k,Sl 21 a' l'.length c' (av l')]):=by
 refine x_sp func77 ntmps77 fun E cs Γ=>?_;refine j7 (h:=?_);refine aQ (α:=Nat×PH×List TZ×Option Addr×Nat) (fun q=>q.1≤l.length∧q.2.2.1.length=q.1∧q.2.2.1.map TZ.t=(l.take q.1).map TZ.t∧bR (Mem q.2.1) q.2.2.1) (fun q=>[(8,iv q.1),(7,iv l.length),(6,.slice a l.length cap),(3,.slice q.2.2.2.1 q.1 q.2.2.2.2)])
  (fun q=>A::Mem q.2.1::Sl 21 q.2.2.2.1 q.1 q.2.2.2.2 (av q.2.2.1)::Γ) (fun q=>l.length-q.1) (0,PH.emp,[],none,0) ⟨by simp,rfl,by simp,fun z hz=>by cases hz⟩ ⟨rfl,rfl,rfl,rfl,trivial⟩
  ((ak.cq 21 _).trans ((ak.mu _).trans (Sub.h (Δ:=A::Mem PH.emp::Sl 21 none 0 0 []::Γ)))) ?_
 rintro⟨i,k,l',a3,c3⟩ ⟨hi,fi,hs,I'⟩ back;dsimp only at hi fi hs I' back⊢;refine bQ (h:=?_);by_cases aN:i<l.length
 ·obtain⟨z,hz⟩:=bc (l:=l) (i:=i) aN;have Rk:=R;have jP:=I z (zc hz);refine aA (h:=?_);refine bK rfl rfl Rk (j:=i) rfl aN rfl fun b off ha=>?_;refine aw (h:=?_);refine dA rfl Rk ha (i:=i*21) (us:=z.cells) (by omega) rfl (fun j v hv=>cG hz hv) rfl ?_;refine ao (aC rfl fun p5=>?_);refine Wq ?_;refine aJ rfl (xr z jP) rfl ?_;rintro v B ⟨k2,z',fe,eA,rfl,rfl⟩;refine rc (h:=?_);refine cf rfl (by rfl) (by rfl) (by rfl) (by rfl) rfl fun a2=>?_;refine aw (h:=?_);refine cF rfl rfl (by rfl) (by rfl) (by rfl) (by omega) rfl fun a4 c4 hc=>?_;have e:av l'++z'.cells=av (l'++[z']):=by simp[av]
  rw[show(av l'++_:List Value)=av (l'++[z'])from e];refine Wq ?_;refine ny k k2 fun k3 hk bH=>?_;exact aV (back (i+1,k3,l'++[z'],a4,c4) ⟨by dsimp only;omega,by simp[fi],by
   dsimp only;rw[zg,hs,zp,hz];simp[fe],(I'.up hk).snoc (eA.up bH)⟩ (by dsimp only;omega))
 ·obtain rfl:i=l.length:=by omega
  rw[zu]at hs;refine Wq ?_;exact ap rfl [A,Mem k,Sl 21 a3 l'.length c3 (av l')] ⟨k,l',a3,c3,hs,I',by rw[fi];rfl,rfl⟩ (by rw[fi];exact Sub.h)
end
section
open Go.Proofs Tryz
open Go.Proofs Go.RowKit
inductive It where
 |aP (s:List UInt8)
 |bS (l:List It)
mutual
def It.enc:It→List UInt8
 | .aP s=>cT s
 | .bS l=>cZ 192 (It.cH l).length++It.cH l
def It.cH:List It→List UInt8
 |[]=>[]
 |x::l=>x.enc++It.cH l
end
theorem It.A7(l:List It):It.cH l=(l.map It.enc).flatten:=by
 induction l with
 |nil=>rfl
 |cons x l ih=>rw[It.cH,ih];rfl
theorem It.Mj(l:List It):(It.bS l).enc=mg (l.map It.enc):=by rw[It.enc,It.A7];rfl
def It.text:It→List UInt8
 | .aP s=>s
 | .bS _=>[]
def It.bq:It→List It
 | .aP _=>[]
 | .bS l=>l
inductive IZ where
 |aP (s:List UInt8)
 |bS (a:Option Addr) (c:Nat) (l:List IZ)
mutual
def IZ.er:IZ→It
 | .aP s=> .aP s
 | .bS _ _ l=> .bS (IZ.Dz l)
def IZ.Dz:List IZ→List It
 |[]=>[]
 |x::l=>x.er::IZ.Dz l
end
theorem IZ.nz(l:List IZ):IZ.Dz l=l.map IZ.er:=by
 induction l with
 |nil=>rfl
 |cons x l ih=>rw[IZ.Dz,ih];rfl
def IZ.n8:IZ→Bool
 | .aP _=>false
 | .bS .. =>true
def IZ.text:IZ→List UInt8
 | .aP s=>s
 | .bS .. =>[]
def IZ.bq:IZ→List IZ
 | .aP _=>[]
 | .bS _ _ l=>l
def IZ.a:IZ→Option Addr
 | .aP _=>none
 | .bS a _ _=>a
def IZ.c:IZ→Nat
 | .aP _=>0
 | .bS _ c _=>c
abbrev IZ.cells(z:IZ):List Value:=[.bool z.n8,tv z.text,.slice z.a z.bq.length z.c]
abbrev IZ.val(z:IZ):Value:= .agg z.cells.toArray
theorem IZ.Hj(z:IZ):z.er.bq=z.bq.map IZ.er:=by
 cases z with
 |aP s=>rfl
 |bS a c l=>show(IZ.er (.bS a c l)).bq=_;rw[IZ.er,IZ.nz];rfl
theorem IZ.u7(z:IZ):z.er.text=z.text:=by cases z<;>simp[IZ.er,It.text,IZ.text]
inductive IZ.In(A:HP):IZ→Prop
 |aP (s:List UInt8) (h:s.length≤2^40):IZ.In A (.aP s)
 |bS (a:Option Addr) (c:Nat) (l:List IZ) (R:Reads A 3 a l.length (l.flatMap IZ.cells)) (hc:l.length≤c) (hl:l.length≤2^38) (h:∀z∈l,IZ.In A z):IZ.In A (.bS a c l)
theorem IZ.In.up{h k:PH}{z:IZ}(I:z.In (Mem h))(p:PH.le h k):z.In (Mem k):=by
 induction I with
 |aP s hs=>exact .aP s hs
 |bS a c l R hc hl _ ih=>exact .bS a c l (R.up p) hc hl ih
theorem IZ.In.bq{A:HP}{z:IZ}(I:z.In A):Reads A 3 z.a z.bq.length (z.bq.flatMap IZ.cells)∧z.bq.length≤z.c∧z.bq.length≤2^38∧∀x∈z.bq,x.In A:=by
 cases I with
 |aP s h=>exact⟨⟨rfl,fun _ _ _ _=> .inl rfl⟩,zq _,zj _,fun x hx=>by cases hx⟩
 |bS a c l R hc hl h=>exact⟨R,hc,hl,h⟩
theorem IZ.In.text{A:HP}{z:IZ}(I:z.In A):z.text.length≤2^40:=by
 cases I with
 |aP s h=>exact h
 |bS a c l R hc hl h=>exact zj _
theorem IZ.sub_lt{z x:IZ}(h:x∈z.bq):SizeOf.sizeOf x<SizeOf.sizeOf z:=by
 cases z with
 |aP s=>cases h
 |bS a c l=>
  have:=List.sizeOf_lt_of_mem (show x∈l from h);simp only[IZ.bS.sizeOf_spec];omega
theorem tw{l:List IZ}{i:Nat}{z:IZ}(h:l[i]? =some z){j:Nat}{v:Value}(hv:z.cells[j]? =some v):(l.flatMap IZ.cells)[i*3+j]? =some v:=by
 obtain⟨h1,h2⟩:=List.getElem?_eq_some_iff.1 h;have:=oA (s:=3) (l:=l) (f:=IZ.cells) (fun _=>rfl) h1 j (by have:=(List.getElem?_eq_some_iff.1 hv).1;exact this);rw[this,h2];exact hv
theorem Mk{z:IZ}(h:z.n8=false):z= .aP z.text:=by
 cases z with
 |aP s=>rfl
 |bS a c l=>cases h
theorem Ml{z:IZ}(h:z.n8=true):z= .bS z.a z.c z.bq:=by
 cases z with
 |aP s=>cases h
 |bS a c l=>rfl
theorem U8{z:IZ}(h:z.n8=true):z.text=[]:=by
 cases z with
 |aP s=>cases h
 |bS a c l=>rfl
theorem Mm{z:IZ}(h:z.n8=false):z.bq=[]∧z.a=none∧z.c=0:=by
 cases z with
 |aP s=>exact⟨rfl,rfl,rfl⟩
 |bS a c l=>cases h
theorem U9{A:HP}:∀(n:Nat) (z:IZ),SizeOf.sizeOf z<n→z.In A→Spec prog 189 [z.val] [A] (fun v B=>∃(k:PH) (z':IZ),z'.er=z.er∧z'.In (Mem k)∧v=z'.val∧B=[A,Mem k]):=by
 intro n;induction n with
 |zero=>intro z hz;omega
 |succ n ih=>
  intro z hz I;obtain⟨R,hc,hl,hI⟩:=I.bq;refine x_sp func189 ntmps189 fun E cs Γ=>?_;refine eh (h:=?_);refine ao (aM rfl rfl fun p1=>?_);refine ao (aC rfl fun p2=>?_);refine Wq ?_;refine ao (aC rfl fun p3=>?_);refine Wq ?_;refine aQ (α:=Nat×PH×List IZ×Option Addr×Nat) (fun q=>q.1≤z.bq.length∧q.2.2.1.length=q.1∧q.2.2.1.map IZ.er=(z.bq.take q.1).map IZ.er∧(∀x∈q.2.2.1,x.In (Mem q.2.1))∧(q.1=0→q.2.2.2.1=none∧q.2.2.2.2=0))
   (fun q=>[(14,iv q.1),(13,iv z.bq.length),(12,.slice z.a z.bq.length z.c),(3,dp p3),(2,dp p2)])
   (fun q=>A::Mem q.2.1::Row p3 0 [.bool z.n8,tv z.text,.slice q.2.2.2.1 q.1 q.2.2.2.2]::Sl 3 q.2.2.2.1 q.1 q.2.2.2.2 (q.2.2.1.flatMap IZ.cells)::Row p2 0 [.bool false,tv [],.slice none 0 0]::Γ)
   (fun q=>z.bq.length-q.1) (0,PH.emp,[],none,0) ⟨by simp,rfl,by simp,(fun x hx=>by cases hx),fun _=>⟨rfl,rfl⟩⟩ ⟨rfl,rfl,rfl,rfl,rfl,trivial⟩
   ((ak.cq 3 _).trans ((ak.mu _).trans (Sub.h (Δ:=A::Mem PH.emp::Row p3 0 [.bool z.n8,tv z.text,.slice none 0 0]::Sl 3 none 0 0 []::Row p2 0 [.bool false,.string ⟨#[]⟩,.slice none 0 0]::Γ)))) ?_
  rintro⟨i,k,l',a3,c3⟩ ⟨hi,fi,hs,I',h0⟩ back;dsimp only at hi fi hs I' h0 back⊢;refine bQ (h:=?_);by_cases aN:i<z.bq.length
  ·obtain⟨x,hx⟩:=bc (l:=z.bq) (i:=i) aN;have fG:=zc hx;have Rk:=R;have mw:=hI x fG;have bZ:=IZ.sub_lt fG;refine aA (h:=?_);refine bK rfl rfl Rk (j:=i) rfl aN rfl fun b off ha=>?_;refine aw (h:=?_);refine dA rfl Rk ha (i:=i*3) (us:=x.cells) (by omega) rfl (fun j v hv=>tw hx hv) rfl ?_;refine ao (aC rfl fun p5=>?_);refine mS (h:=?_);refine aZ 7 (aX [3,4,5,7] [0,1,2,3,4,5,6,7]) [Row p3 0 [.bool z.n8,tv z.text,.slice a3 i c3],Row p5 0 x.cells,A] ?_;refine rn (h:=iA (h:=?_));refine aE rfl (aq rfl (ih x (by omega) mw) rfl ?_);rintro v B ⟨k2,x',j8,eA,rfl,rfl⟩;refine dc (h:=?_);refine aE rfl (cf rfl (by rfl) (by rfl) (by rfl) (by rfl) rfl fun a2=>⟨bd,?_⟩);refine aE rfl (cF rfl rfl (by rfl) (by rfl) (by rfl) (by omega) rfl fun a4 c4 gI=>⟨bd,?_⟩);refine j6 (h:=?_);refine bN rfl rfl (eZ rfl rfl rfl rfl (by simp) ?_);refine dU (h:=?_);dsimp only[Nat.reduceSub,Nat.reduceAdd,List.set];rw[show(l'.flatMap IZ.cells++[Value.bool x'.n8,tv x'.text,Value.slice x'.a x'.bq.length x'.c])=(l'++[x']).flatMap IZ.cells by simp];refine Wq ?_;refine ny k k2 fun k3 hk bH=>?_;exact aV (back (i+1,k3,l'++[x'],a4,c4) ⟨by dsimp only;omega,by simp[fi],by
    dsimp only;rw[zg,hs,zp,hx];simp[j8],(fun y hy=>by
    rcases zL.1 hy with hy|hy
    ·exact(I' y hy).up hk
    ·obtain rfl:y=x':=by simpa using hy
     exact eA.up bH),fun h=>by dsimp only at h;omega⟩ (by dsimp only;omega))
  ·obtain rfl:i=z.bq.length:=by omega
   rw[zu]at hs;refine Wq ?_;refine fw a3 (h:=k) fun k3 dZ R3 lH=>?_;cases hL:z.n8 with
   |false=>
    obtain⟨e1,e2,e3⟩:=Mm hL;obtain⟨rfl,rfl⟩:=h0 (by rw[e1];rfl);rw[e1];exact bP (rs:=[.cell 2 179]) (vs:=[IZ.val (.aP z.text)]) ⟨bG (us:=IZ.cells (.aP z.text)) rfl rfl,trivial⟩ [A,Mem k3] ⟨k3,.aP z.text,by conv=>rhs;rw[Mk hL],.aP _ I.text,rfl,rfl⟩ Sub.h
   |true=>
    rw[U8 hL];rw[←fi]at R3 lH⊢;exact bP (rs:=[.cell 2 179]) (vs:=[IZ.val (.bS a3 c3 l')]) ⟨bG (us:=IZ.cells (.bS a3 c3 l')) rfl rfl,trivial⟩ [A,Mem k3] ⟨k3,.bS a3 c3 l',by
     conv=>rhs;rw[Ml hL]
     rw[IZ.er,IZ.er,IZ.nz,IZ.nz,hs],.bS _ _ _ R3 lH (by rw[fi];exact hl) fun y hy=>(I' y hy).up dZ,rfl,rfl⟩ Sub.h
def U_(z:IZ)(vs:List Value)(R:HP):Prop:=∃(k:PH) (z':IZ),z'.er=z.er∧z'.In (Mem k)∧vs=[z'.val]∧R=Mem k
theorem Hk(z:IZ):Spec prog 145 [z.val] [] (fun v B=>∃p1,v= .func (.func 188) #[] #[dp p1]∧B=[Row p1 0 z.cells]):=by
 refine x_sp func145 ntmps145 fun E cs Γ=>?_;refine gi (h:=?_);refine ao (aM rfl rfl fun p1=>?_);refine ta (h:=?_);refine oW rfl rfl rfl ?_;refine bU (h:=?_);exact ap rfl [Row p1 0 z.cells] ⟨p1,rfl,rfl⟩ Sub.h
theorem Hl{A:HP}(p1:Nat){z:IZ}(I:z.In A):xp prog 188 [] [dp p1] [Row p1 0 z.cells,A] [A] z.bq.length (fun i vs R=>∃x,z.bq[i]? =some x∧U_ x vs R):=by
 intro l S J hy;obtain⟨R,hc,hl,hI⟩:=I.bq;refine x_sp func188 ntmps188 fun E cs Γ=>?_;refine jx (h:=?_);cases hL:z.n8 with
 |false=>
  obtain⟨e1,e2,e3⟩:=Mm hL;refine Wq ?_;rw[hL];refine sF rfl ?_;exact ap rfl ([A]++[S z.bq.length]) (.inl rfl) (by rw[e1];(refine a_ (h:=?_));exact Sub.h)
 |true=>
  refine Wq ?_;rw[hL];refine Wq ?_;refine aQ (α:=Nat) (fun i=>i≤z.bq.length) (fun i=>[(0,.func (.yield l) #[] #[]),(11,iv i),(10,iv z.bq.length),(9,.slice z.a z.bq.length z.c)])
   (fun i=>S i::A::Γ) (fun i=>z.bq.length-i) 0 (zj _) x_tv Sub.h ?_
  intro i hi back;refine bQ (h:=?_);by_cases h:i<z.bq.length
  ·obtain⟨x,hx⟩:=bc (l:=z.bq) (i:=i) h;have mw:=hI x (zc hx);refine aA (h:=?_);refine bK rfl rfl R (j:=i) rfl h rfl fun b off ha=>?_;refine aw (h:=?_);refine dA rfl R ha (i:=i*3) (us:=x.cells) (by omega) rfl (fun j v hv=>tw hx hv) rfl ?_;refine ao (aC rfl fun p4=>?_);refine Wq ?_;refine aJ rfl (U9 _ x (za7 _) mw) rfl ?_;rintro v B ⟨k2,x',j8,eA,rfl,rfl⟩;refine rc (h:=?_);refine qe rfl rfl (hy i [x'.val] (Mem k2) ⟨x,hx,k2,x',j8,eA,rfl,rfl⟩) rfl ?_;rintro y B (⟨rfl,rfl⟩|⟨rfl,rfl⟩)
   ·refine bW (h:=?_);exact aV (back (i+1) (by omega) (by omega))
   ·refine uZ (h:=?_);exact ap rfl ([A]++[J (i+1)]) (.inr ⟨_,rfl⟩) (by (refine a_ (h:=?_));exact Sub.h)
  ·obtain rfl:i=z.bq.length:=by omega
   refine Wq ?_;exact cJ ([A]++[S z.bq.length]) (.inl rfl) (by (refine a_ (h:=?_));exact Sub.h)
end
section
open Go.Proofs Tryz
open Go.Proofs Go.RowKit
def iK(s:List UInt8):Bool:=decide (s.length=1)&&decide (s.headD 0<128)
theorem xu(s:List UInt8):cT s=if iK s then s else cZ 128 s.length++s:=by
 unfold cT iK;by_cases h1:s.length=1
 ·by_cases h2:s.headD 0<128<;>simp[h1,h2]
 ·simp[h1]
theorem Hm(s:List UInt8):Spec prog 220 [tv s] [] (fun v B=>v= .bool (iK s)∧B=[]):=by
 refine x_sp func220 ntmps220 fun E cs Γ=>?_;have hz:(bC s).size=s.length:=dV s;refine ko (h:=?_);by_cases h:s.length=1
 ·obtain⟨c,rfl⟩:∃c,s=[c]:=by
   match s,h with
   |[c],_=>exact⟨c,rfl⟩
  have hc:iK [c]=decide (c.toNat<128):=by
   unfold iK;simp only[zC,decide_true,Bool.true_and,List.headD_cons];exact decide_eq_decide.2 UInt8.lt_iff_toNat_lt
  refine gg (h:=?_);refine bL (rD (bs:=[c]) (j:=0) rfl rfl rfl rfl) rfl ?_;rw[hc];by_cases h2:c.toNat<128
  ·refine Wq ?_;exact ap rfl [] ⟨by rw[decide_eq_true h2];rfl,rfl⟩ Sub.h
  ·refine Wq ?_;exact ap rfl [] ⟨by rw[decide_eq_false h2];rfl,rfl⟩ Sub.h
 ·have hc:iK s=false:=by unfold iK;rw[decide_eq_false h];rfl
  rw[hc];refine Wq ?_;exact ap rfl [] ⟨rfl,rfl⟩ Sub.h
theorem Mn{n:Nat}(h:n<2^63):Spec prog 256 [.int .i64 n] [] (fun v B=>v=tv (aU n)∧B=[]):=by
 refine x_sp func256 ntmps256 fun E cs Γ=>?_;refine kD (h:=?_);refine aJ rfl (LY h) rfl ?_;refine xk (h:=?_);refine ao (aC rfl fun p3=>?_);refine Wq ?_;refine aJ rfl (LP (a:=n) (by unfold aT;omega)) rfl ?_;refine xn (h:=?_);exact ap rfl [] ⟨rfl,rfl⟩ Sub.h
theorem Mo(b n:Nat):(cZ b n).length=if n≤55 then 1 else 1+(aU n).length:=by
 unfold cZ;split<;>simp;omega
theorem Mp{n:Nat}(h:n<2^60)(b:Nat):Spec prog 255 [.int .i64 n] [] (fun v B=>v= .int .i64 ((cZ b n).length:Nat)∧B=[]):=by
 refine x_sp func255 ntmps255 fun E cs Γ=>?_;refine ko (h:=?_);rw[Mo];by_cases pH:n≤55
 ·rw[if_pos pH];refine Wq ?_;exact ap rfl [] ⟨rfl,rfl⟩ Sub.h
 ·rw[if_neg pH];have hz:(bC (aU n)).size=(aU n).length:=dV _;have hle:=mh (a:=n) (k:=8) (by simp only[Nat.reduceMul,Nat.reducePow];omega);refine Wq ?_;refine aJ rfl (Mn (n:=n) (by omega)) rfl ?_;refine jO (h:=?_);exact ap rfl [] ⟨by
   show Value.int .i64 (1+((bC (aU n)).size:Int))=_;rw[hz];congr 1,rfl⟩ Sub.h
theorem DA(x:Nat):Value.int .u8 (IntKind.u8.wrap (x:Int))=bv (UInt8.ofNat x):=by
 rw[GY];congr 1;apply UInt8.toNat_inj.1;simp
theorem Mq{a:Option Addr}{cap b n:Nat}{xs:List UInt8}(hx:xs.length≤2^40)(hn:n<65536)(hb:b=128∨b=192):
 Spec prog 219 [.slice a xs.length cap,.int .i64 b,.int .i64 n] [Sl 1 a xs.length cap (xs.map bv)] (fun v B=>∃a' c',v= .slice a' (xs++cZ b n).length c'∧B=[Sl 1 a' (xs++cZ b n).length c' ((xs++cZ b n).map bv)]):=by
 refine x_sp func219 ntmps219 fun E cs Γ=>?_;refine eg (h:=?_);by_cases pH:n≤55
 ·have e:cZ b n=[UInt8.ofNat (b+n)]:=by unfold cZ;rw[if_pos pH]
  rw[e];refine aA (h:=?_);refine ft rfl rfl ?_;rw[show(b:Int)+n=((b+n:Nat):Int)by omega,DA];refine aw (h:=?_);refine cf rfl (by rfl) (by rfl) (by rfl) (by rfl) rfl fun a2=>?_;refine aw (h:=?_);refine cF rfl rfl (by rfl) (by rfl) (by rfl) (by omega) rfl fun a4 c4 hc=>?_;rw[show xs.map bv++[bv (UInt8.ofNat (b+n))]=(xs++[UInt8.ofNat (b+n)]).map bv by simp];refine bU (h:=?_);exact ap rfl [Sl 1 a4 (xs++[UInt8.ofNat (b+n)]).length c4 ((xs++[UInt8.ofNat (b+n)]).map bv)] ⟨a4,c4,by simp[eo],rfl⟩ (by rw[show(xs++[UInt8.ofNat (b+n)]).length=xs.length+1 by simp];exact Sub.h)
 ·have e:cZ b n=UInt8.ofNat (b+55+(aU n).length)::aU n:=by unfold cZ;rw[if_neg pH]
  rw[e];have hz:(bC (aU n)).size=(aU n).length:=dV _;have hle:=mh (a:=n) (k:=2) (by simp only[Nat.reduceMul,Nat.reducePow];omega);refine Wq ?_;refine aJ rfl (Mn (n:=n) (by omega)) rfl ?_;refine cS (h:=aA (h:=?_));refine ft rfl rfl ?_;rw[hz,show(b:Int)+55+((aU n).length:Int)=((b+55+(aU n).length:Nat):Int)by omega,DA];refine aw (h:=?_);refine cf rfl (by rfl) (by rfl) (by rfl) (by rfl) rfl fun a2=>?_;refine aw (h:=?_);refine cF rfl rfl (by rfl) (by rfl) (by rfl) (by omega) rfl fun a4 c4 hc=>?_;refine fv (h:=?_);refine Hi rfl rfl (by rfl) (by rfl) (by omega) rfl fun a5 c5 hc=>?_;rw[show xs.map bv++[bv (UInt8.ofNat (b+55+(aU n).length))]++(aU n).map bv=(xs++UInt8.ofNat (b+55+(aU n).length)::aU n).map bv by simp];refine bU (h:=?_);exact ap rfl [Sl 1 a5 (xs++UInt8.ofNat (b+55+(aU n).length)::aU n).length c5 ((xs++UInt8.ofNat (b+55+(aU n).length)::aU n).map bv)] ⟨a5,c5,by
   show Value.slice a5 (xs.length+1+(aU n).length) c5=_;congr 1;simp;omega,rfl⟩ (by rw[show(xs++UInt8.ofNat (b+55+(aU n).length)::aU n).length=xs.length+1+(aU n).length by simp;omega];exact Sub.h)
theorem Hn{l:List IZ}{i:Nat}{x:IZ}(h:l[i]? =some x):It.cH ((l.take (i+1)).map IZ.er)=It.cH ((l.take i).map IZ.er)++x.er.enc:=by
 rw[zp,h,It.A7,It.A7];simp
theorem A8{l:List IZ}(i:Nat):(It.cH ((l.take i).map IZ.er)).length≤(It.cH (l.map IZ.er)).length:=by
 conv=>rhs;rw[←zG i l]
 rw[It.A7,It.A7,zg,zg,List.flatten_append,zd];omega
theorem Ho(a:Option Addr)(c:Nat)(l:List IZ):(IZ.er (.bS a c l)).enc=cZ 192 (It.cH (l.map IZ.er)).length++It.cH (l.map IZ.er):=by rw[IZ.er,IZ.nz,It.enc]
theorem xv(b n:Nat):1≤(cZ b n).length:=by rw[Mo];split<;>omega
theorem Mr{z x:IZ}(h:x∈z.bq):SizeOf.sizeOf x.er<SizeOf.sizeOf z.er:=by
 cases z with
 |aP s=>cases h
 |bS a c l=>
  rw[IZ.er,IZ.nz];have:=List.sizeOf_lt_of_mem (zaB (f:=IZ.er) (show x∈l from h));simp only[It.bS.sizeOf_spec];omega
theorem Va:∀(n:Nat) (A:HP) (z:IZ) (a:Option Addr) (cap:Nat) (xs:List UInt8),SizeOf.sizeOf z.er<n→z.In A→z.er.enc.length≤65536→xs.length≤2^40→
 Spec prog 170 [.slice a xs.length cap,z.val] [A,Sl 1 a xs.length cap (xs.map bv)] (fun v B=>∃a' c',v= .slice a' (xs++z.er.enc).length c'∧B=[A,Sl 1 a' (xs++z.er.enc).length c' ((xs++z.er.enc).map bv)]):=by
 intro n;induction n with
 |zero=>intro A z a cap xs hz;omega
 |succ n ih=>
  intro A z a cap xs hz I gY ni;refine x_sp func170 ntmps170 fun E cs Γ=>?_;obtain⟨RI,hc,hl,hI⟩:=I.bq;refine eg (h:=?_);cases hL:z.n8 with
  |true=>
   refine bQ (h:=?_);refine ao (aM rfl rfl fun p3=>?_);refine Wq ?_;rw[hL];refine sF rfl ?_;refine bQ (h:=?_);refine ao (aC rfl fun p5=>?_);refine Wq ?_;refine aJ rfl (Hk z) rfl ?_;rintro v B ⟨pe,rfl,rfl⟩;refine nU (h:=?_);have Hp:=Ml hL;have pI:z.er.enc=cZ 192 (It.cH (z.bq.map IZ.er)).length++It.cH (z.bq.map IZ.er):=by conv=>lhs;rw[Hp,Ho]
   have Hq:(It.cH (z.bq.map IZ.er)).length<65536:=by
    rw[pI,zd]at gY;have:=xv 192 (It.cH (z.bq.map IZ.er)).length;omega
   refine bJ (ak.nO _) ?_;refine xq (Ds:=[]) rfl rfl (Hl pe I)
    (fun j=>[Any fun q:Option Addr×Nat=>Sep [Row p5 0 [.slice q.1 (It.cH ((z.bq.take j).map IZ.er)).length q.2],Sl 1 q.1 (It.cH ((z.bq.take j).map IZ.er)).length q.2 ((It.cH ((z.bq.take j).map IZ.er)).map bv)]])
    (fun _ _=>[Fact False jr]) (Δ2:=Sl 1 a xs.length cap (xs.map bv)::Γ) ?_ (by rfl) ?_ ?_ ?_ ?_
   ·refine(ak.cq 1 _).trans ((Sub.h (Δ:=Row p5 0 [.slice none 0 0]::Sl 1 none 0 0 []::Sl 1 a xs.length cap (xs.map bv)::Γ)).trans ?_);exact(ak.cA [_,_] _).trans (ak.ex (A:=fun q:Option Addr×Nat=>Sep [Row p5 0 [.slice q.1 (It.cH ((z.bq.take 0).map IZ.er)).length q.2],Sl 1 q.1 (It.cH ((z.bq.take 0).map IZ.er)).length q.2 ((It.cH ((z.bq.take 0).map IZ.er)).map bv)]) (none,0) _)
   ·rintro j vs R ⟨x,hx,k,z',fe,eA,rfl,rfl⟩
    rfl
   ·rintro j vs R ⟨x,hx,k,z',fe,eA,rfl,rfl⟩;intro Y l r Θ fZ eT cv nV nq;refine a_ (h:=?_);have Ms:=A8 (l:=z.bq) j;have Vb:=A8 (l:=z.bq) (j+1);have het:=Hn hx;have Hr:x.er.enc.length≤65536:=by rw[het,zd]at Vb;omega
    refine dz (Γ':=fun q:Option Addr×Nat=>Row p5 0 [.slice q.1 (It.cH ((z.bq.take j).map IZ.er)).length q.2]::Sl 1 q.1 (It.cH ((z.bq.take j).map IZ.er)).length q.2 ((It.cH ((z.bq.take j).map IZ.er)).map bv)::Rec l r .ready none::Mem k::Θ) (fun E w st=>by
     have st:=(Sub.h (Δ:=Any (fun q:Option Addr×Nat=>Sep [Row p5 0 [.slice q.1 (It.cH ((z.bq.take j).map IZ.er)).length q.2],Sl 1 q.1 (It.cH ((z.bq.take j).map IZ.er)).length q.2 ((It.cH ((z.bq.take j).map IZ.er)).map bv)])::Rec l r .ready none::Mem k::Θ)).st st;obtain⟨q,st⟩:=st.ex;exact⟨q,(ak.cx [_,_] _).st st⟩) ?_
    rintro⟨aj,cj⟩;dsimp only;refine nW (h:=?_);refine ao (aC rfl fun p6=>?_);refine mS (h:=?_);refine nP (r:=r) eT ?_;refine Wq ?_;have fG:=zc hx;have bZ:=Mr fG;refine aJ rfl (ih (Mem k) z' aj cj (It.cH ((z.bq.take j).map IZ.er)) (by rw[fe];omega) eA (by rw[fe];exact Hr) (by omega)) rfl ?_;rintro v B ⟨a6,c6,rfl,rfl⟩;rw[fe,←het];refine bW (h:=?_);refine bJ ?_ (cv _);refine a_ (h:=?_);refine(Sub.h (Δ:=Row p5 0 [.slice a6 (It.cH ((z.bq.take (j+1)).map IZ.er)).length c6]::Sl 1 a6 (It.cH ((z.bq.take (j+1)).map IZ.er)).length c6 ((It.cH ((z.bq.take (j+1)).map IZ.er)).map bv)::Rec l r .busy none::Θ)).trans ?_;refine((ak.cA [_,_] _).trans (ak.ex (A:=fun q:Option Addr×Nat=>Sep [Row p5 0 [.slice q.1 (It.cH ((z.bq.take (j+1)).map IZ.er)).length q.2],Sl 1 q.1 (It.cH ((z.bq.take (j+1)).map IZ.er)).length q.2 ((It.cH ((z.bq.take (j+1)).map IZ.er)).map bv)]) (a6,c6) _)).trans ?_;exact Sub.h
   ·intro D;refine dz (Γ':=fun q:Option Addr×Nat=>Row p5 0 [.slice q.1 (It.cH ((z.bq.take z.bq.length).map IZ.er)).length q.2]::Sl 1 q.1 (It.cH ((z.bq.take z.bq.length).map IZ.er)).length q.2 ((It.cH ((z.bq.take z.bq.length).map IZ.er)).map bv)::Marks [D]::A::Sl 1 a xs.length cap (xs.map bv)::Γ) (fun E w st=>by
     simp only[zl,zB]at st;have st:=(Sub.h (Δ:=Any (fun q:Option Addr×Nat=>Sep [Row p5 0 [.slice q.1 (It.cH ((z.bq.take z.bq.length).map IZ.er)).length q.2],Sl 1 q.1 (It.cH ((z.bq.take z.bq.length).map IZ.er)).length q.2 ((It.cH ((z.bq.take z.bq.length).map IZ.er)).map bv)])::Marks [D]::A::Sl 1 a xs.length cap (xs.map bv)::Γ)).st st;obtain⟨q,st⟩:=st.ex;exact⟨q,(ak.cx [_,_] _).st st⟩) ?_
    rintro⟨aj,cj⟩;dsimp only;rw[zu];obtain⟨bs,py⟩:∃bs,It.cH (z.bq.map IZ.er)=bs:=⟨_,rfl⟩
    rw[py]at pI Hq⊢;rw[pI];refine iz (h:=eM (h:=?_));have RB:=Sl.reads 1 aj bs.length cj (bs.map bv) (by simp);refine aZ 6 (aX [3,5] [0,1,2,4,3,5,6]) [Row p5 0 [.slice aj bs.length cj],Sl 1 aj bs.length cj (bs.map bv)] ?_;refine Ws ?_;refine aE rfl (aq rfl (Mq (b:=192) (n:=bs.length) ni Hq (.inr rfl)) rfl ?_);rintro v B ⟨a7,c7,rfl,rfl⟩;refine dc (h:=?_);have Vc:=C9 (b:=192) (n:=bs.length) Hq;have Hr:(xs++cZ 192 bs.length).length≤2^40+3:=by rw[zd];omega
    refine aE rfl (pZ rfl rfl RB (by rfl) (by rfl) (wE bs) (by omega) rfl fun a8 c8 rq=>⟨bd,?_⟩);refine df (h:=?_);have e1:(xs++cZ 192 bs.length).map bv++bs.map bv=(xs++(cZ 192 bs.length++bs)).map bv:=by simp
    have e2:(xs++cZ 192 bs.length).length+bs.length=(xs++(cZ 192 bs.length++bs)).length:=by simp;omega
    rw[e1,e2];skip;exact Aq rfl [A,Sl 1 a8 (xs++(cZ 192 bs.length++bs)).length c8 ((xs++(cZ 192 bs.length++bs)).map bv)] ⟨a8,c8,rfl,rfl⟩ Sub.h
   ·intro D c i;refine a_ (h:=?_);exact uY
  |false=>
   have Hp:=Mk hL;have pI:z.er.enc=cT z.text:=by
    conv=>lhs;rw[Hp]
    rw[IZ.er,It.enc]
   have u9:(bC z.text).size=z.text.length:=dV _;have ga:=I.text;rw[pI]at gY⊢;rw[xu]at gY⊢;refine bQ (h:=?_);refine ao (aM rfl rfl fun p3=>?_);refine Wq ?_;rw[hL];refine Wq ?_;refine aJ rfl (Hm z.text) rfl ?_;refine cS (h:=?_);cases jf:iK z.text with
   |true=>
    rw[jf,if_pos rfl]at gY;rw[if_pos rfl];refine aA (h:=?_);refine Hi rfl rfl (by rfl) (by rfl) (by omega) rfl fun a5 c5 hc=>?_;rw[show xs.map bv++z.text.map bv=(xs++z.text).map bv by simp,show xs.length+z.text.length=(xs++z.text).length by simp];refine bU (h:=?_);exact ap rfl [A,Sl 1 a5 (xs++z.text).length c5 ((xs++z.text).map bv)] ⟨a5,c5,rfl,rfl⟩ Sub.h
   |false=>
    rw[jf,if_neg (by decide),zd]at gY;rw[if_neg (by decide)];have hp:=xv 128 z.text.length;refine Wq ?_;rw[u9];refine aJ rfl (Mq (b:=128) (n:=z.text.length) ni (by omega) (.inl rfl)) rfl ?_;rintro v B ⟨a7,c7,rfl,rfl⟩;have Vc:=C9 (b:=128) (n:=z.text.length) (by omega);have Hr:(xs++cZ 128 z.text.length).length≤2^40+3:=by rw[zd];omega
    refine n9 (h:=?_);refine Hi rfl rfl (by rfl) (by rfl) (by omega) rfl fun a5 c5 hc=>?_;rw[show(xs++cZ 128 z.text.length).map bv++z.text.map bv=(xs++(cZ 128 z.text.length++z.text)).map bv by simp,show(xs++cZ 128 z.text.length).length+z.text.length=(xs++(cZ 128 z.text.length++z.text)).length by simp;omega];refine bU (h:=?_);exact ap rfl [A,Sl 1 a5 (xs++(cZ 128 z.text.length++z.text)).length c5 ((xs++(cZ 128 z.text.length++z.text)).map bv)] ⟨a5,c5,rfl,rfl⟩ Sub.h
end
section
open Go.Proofs Tryz
open Go.RowKit
section draw
variable {P:Program} {X:Cx} {n:Nat} {ds:List Deferred} {k:List Item} {ρ:aK} {Γ:List HP}
def kZ(P:Program)(X:Cx)(n:Nat)(ds:List Deferred)(l:List Oper)(m ee:Nat)(base:aK)(F:List HP)(k:List Item):Tr→aK→List HP→Prop
 | .nil,acc,Γ=>Ex P X n ds k (kO l acc++base) Γ
 | .look i t,acc,Γ=>∃o v,l[i]? =some o∧GV P acc o (gn l ee base acc i o.after.toList) F v∧kZ P X n ds l m ee base F k t ((i,v)::acc) Γ
 | .act i t,acc,Γ=>∃o,l[i]? =some o∧(o.guard=none∨∃j b,o.guard=some (j,b)∧lk acc j=some (.bool b))∧
  bm P X n ds o.dst o.op o.type (fun v Γ'=>(Nat.ble m i=true∨∃Δ,Γ'.Perm (F++Δ))∧kZ P X n ds l m ee base F k t ((i,v)::acc) Γ') (gn l ee base acc i o.after.toList) Γ
 | .alt a b,acc,Γ=>kZ P X n ds l m ee base F k a acc Γ∧kZ P X n ds l m ee base F k b acc Γ
theorem xw{l:List Oper}{m ee:Nat}{base:aK}{F:List HP}{ms A:List Nat}{len:Nat}{acc:aK}{i:Nat}:∀(T:Tr) (mQ:Bool) (bw:List Nat),eX ms len m A mQ T bw=true→kZ P X n ds l m ee base F k T acc Γ→i∈mP T→
 ∃t,kZ P X n ds l m ee base F k (.act i t) acc Γ∧eX ms len m A false (.act i t) bw=true
 | .nil,_,_,_,_,h=>by cases h
 | .look _ _,_,_,_,_,h=>by cases h
 | .act j t,mQ,bw,ho,hs,h=>by
  have e:i=j:=by simpa[mP]using h
  subst e;refine⟨t,hs,?_⟩;unfold eX at ho⊢;simp only[zh]at ho⊢;exact⟨⟨⟨⟨rfl,ho.1.1.1.2⟩,ho.1.1.2⟩,ho.1.2⟩,ho.2⟩
 | .alt a b,mQ,bw,ho,hs,h=>by
  unfold eX at ho;simp only[zh]at ho;rcases zL.1 h with h|h
  ·exact xw a false bw ho.1.2 hs.1 h
  ·exact xw b false bw ho.2 hs.2 h
structure n_(P:Program)(X:Cx)(n:Nat)(ds:List Deferred)(l:List Oper)(m ee:Nat)(base:aK)(F:List HP)(k:List Item)(A:List Nat)(S:Nat→Bool)(ρ:aK)(Γ:List HP)(π1:List (Nat×Bool))(bw:List Nat)(T:Tr)(acc:aK):Prop where
 nd:(π1.map (·.1)).Nodup
 part:∀i,i<l.length→i∈π1.map (·.1)∨i∈bw
 fh:∀i,i∈bw→i∉π1.map (·.1)
 ok:eX (eS l []) l.length m A true T bw=true
 flag:∀i b,(i,b)∈π1→b=lZ i A
 jL:kZ P X n ds l m ee base F k T acc Γ
 facts:∀i b,(i,b)∈π1→∃v o,lk acc i=some v∧l[i]? =some o∧(b=true→S i=true)∧(b=false→∃ep,gR ep acc∧GV P ep o (gn l ee base ep i o.after.toList) F v)
 gS:acc.map (·.1)=(π1.map (·.1)).reverse
 done:∀i,S i=true→i∈π1.map (·.1)
 iX:∀i v d,S i=true→lk acc i=some v→(l[i]?).bind (·.dst)=some d→lk ρ d=some v
 jZ:∀s v,lk base s=some v→(∀j,(l[j]?).bind (·.dst)=some s→S j=false)→lk ρ s=some v
 m_:uD l S
 fr:(∃t,m≤t∧S t=true∧(List.range l.length).all (fun p=>lZ p A||((eS l []).getD t 0).testBit p)=true)∨∃Δ,Γ.Perm (F++Δ)
theorem n_.pure{l:List Oper}{m ee:Nat}{base:aK}{F:List HP}{A:List Nat}{S:Nat→Bool}:∀(T:Tr) (π1:List (Nat×Bool)) (bw:List Nat) (acc:aK),n_ P X n ds l m ee base F k A S ρ Γ π1 bw T acc→
 ∃π1' GK T' qc,n_ P X n ds l m ee base F k A S ρ Γ π1' GK T' qc∧∀i t,T'≠.look i t
 | .nil,π1,bw,acc,I=>⟨π1,bw,.nil,acc,I,fun _ _ h=>by cases h⟩
 | .act i t,π1,bw,acc,I=>⟨π1,bw,.act i t,acc,I,fun _ _ h=>by cases h⟩
 | .alt a b,π1,bw,acc,I=>⟨π1,bw,.alt a b,acc,I,fun _ _ h=>by cases h⟩
 | .look i T,π1,bw,acc,I=>by
  obtain⟨o,v,ho,hg,hs⟩:=I.jL;have bn:=I.ok;unfold eX at bn;simp only[zh,Bool.true_and,zbz]at bn;obtain⟨⟨hp,hA⟩,bn⟩:=bn;have kP:i∉π1.map (·.1):=I.fh i (ox.1 hp);have o8:lk acc i=none:=by
   cases h:lk acc i with
   |none=>rfl
   |some u=>have:=qW h;rw[I.gS]at this;exact absurd (by simpa using this) kP
  have hle:gR acc ((i,v)::acc):=fun j u hj=>by
   rw[ir]
   ·exact hj
   ·rintro rfl;rw[o8]at hj;cases hj
  refine n_.pure T (π1++[(i,false)]) (tg i bw) ((i,v)::acc) ⟨?_,?_,?_,bn,?_,hs,?_,by simp[I.gS],?_,?_,I.jZ,I.m_,I.fr⟩
  ·rw[zg,zab];exact⟨I.nd,by simp,fun a ha b hb=>by
    have:b=i:=by simpa using hb
    subst this;rintro rfl;exact kP ha⟩
  ·intro j hj;rw[zg,zL];rcases I.part j hj with h|h
   ·exact .inl (.inl h)
   ·by_cases e:j=i
    ·exact .inl (.inr (by simp[e]))
    ·exact .inr (th.2 ⟨h,e⟩)
  ·intro j hj hm;obtain⟨h1,h2⟩:=th.1 hj;rw[zg,zL]at hm;rcases hm with hm|hm
   ·exact I.fh j h1 hm
   ·exact h2 (by simpa using hm)
  ·intro j b hj;rcases zL.1 hj with hj|hj
   ·exact I.flag j b hj
   ·have e:(j,b)=(i,false):=by simpa using hj
    cases e;exact hA.symm
  ·intro j b hj;rw[zL]at hj;rcases hj with hj|hj
   ·obtain⟨u,o',h1,h2,h3,h4⟩:=I.facts j b hj;refine⟨u,o',hle j u h1,h2,h3,fun hb=>?_⟩;obtain⟨ep,h5,h6⟩:=h4 hb;exact⟨ep,fun a c hc=>hle a c (h5 a c hc),h6⟩
   ·have e:(j,b)=(i,false):=by simpa using hj
    cases e;exact⟨v,o,jY,ho,(fun h=>by cases h),fun _=>⟨acc,hle,hg⟩⟩
  ·intro j hj;rw[zg];exact zK _ (I.done j hj)
  ·intro j u d hS hj hd;have eC:i≠j:=by rintro rfl;exact kP (I.done _ hS)
   rw[ir eC]at hj;exact I.iX j u d hS hj hd
theorem kZ.sN{l:List Oper}{m ee:Nat}{base:aK}{F:List HP}{A bw:List Nat}{π1:List (Nat×Bool)}{T:Tr}{S:Nat→Bool}{acc ep:aK}{i:Nat}{o:Oper}(I:n_ P X n ds l m ee base F k A S ρ Γ π1 bw T acc)(hle:gR ep acc)
 (hd:∀e∈o.after,Region.binds .any e=true→S e.on=true) (hb:∀s v,lk base s=some v→∀j,(l[j]?).bind (·.dst)=some s→∀i,i<ee→((eS l []).getD j 0).testBit i=true)
 (fj:∀j,((eS l []).getD j 0).testBit i=true→S j=false):gR (gn l ee base ep i o.after.toList) ρ:=by
 intro s u h;unfold gn at h;rcases wL h with h|⟨_,h⟩
 ·obtain⟨e,he,hb,h1,h2⟩:=Gc h;exact I.iX e.on u s (hd e (by simpa using he) hb) (hle _ _ h2) h1
 ·cases hm:Nat.blt i ee with
  |true=>
   rw[hm]at h;have qb:i<ee:=by simpa[zN]using hm
   exact I.jZ s u h fun j hj=>fj j (hb s u h j hj i qb)
  |false=>
   rw[hm]at h;obtain⟨h1,h2⟩:=F_ h;exact I.jZ s u h1 fun j hj=>fj j (by have:=F9 h2 j hj;simpa using this)
theorem Vd{l:List Oper}{m ee:Nat}{base:aK}{F:List HP}{A bw:List Nat}{π1:List (Nat×Bool)}{T:Tr}{S:Nat→Bool}{acc:aK}(I:n_ P X n ds l m ee base F k A S ρ Γ π1 bw T acc)(dH:(π1.map (·.1)).Nodup)(gF:∀i,i∈π1.map (·.1)→S i=true)(yX:∀i,i<l.length→i∈π1.map (·.1)):gR (kO l acc++base) ρ:=by
 intro s v h;have hn:(acc.map (·.1)).Nodup:=by rw[I.gS];exact(List.reverse_perm _).nodup_iff.2 dH
 rcases wL h with h|⟨h0,h⟩
 ·obtain⟨i,h1,h2⟩:=Gd hn h;have hm:=qW h2;rw[I.gS]at hm;exact I.iX i v s (gF i (by simpa using hm)) h2 h1
 ·by_cases hs:s∈dstsOf l
  ·exfalso;obtain⟨o,ho,hd⟩:=List.mem_filterMap.1 hs;obtain⟨i,hi⟩:=zk ho;refine Ge (l:=l) (i:=i) (d:=s) (by simp[hi,hd]) ?_ h0;rw[I.gS];simpa using yX i (List.getElem?_eq_some_iff.1 hi).1
  ·exact I.jZ s v h fun j hj=>absurd (sO hj) hs
theorem Ve{id:Nat}{l:List Oper}(m ee:Nat)(A:List Nat)(T:Tr)(F:List HP)(yY:P.follows .mixedOrders=true)(sQ:(eX (eS l []) l.length m A true T (List.range l.length)&&o6 l 0&&sM (dstsOf l)&&Gb l&&wK l ee ρ&&(dstsOf l).all fun d=>Nat.blt d n)=true)(hF:∃Δ,Γ.Perm (F++Δ))
 (h:kZ P X n ds l m ee ρ F k T [] Γ):Ex P X n ds (.code (.region id l.toArray true)::k) ρ Γ:=by
 simp only[zh]at sQ;obtain⟨⟨⟨⟨⟨bn,h1⟩,h5⟩,h8⟩,hb⟩,sP⟩:=sQ;have hn:∀d∈dstsOf l,d<n:=fun d hd=>by have:=zaQ.1 sP d hd;simpa[zN]using this
 have qd:=CM.1 h5;refine CL yY h1 (fun S ρ' Γ'=>∃π1 bw T acc,n_ P X n ds l m ee ρ F k A S ρ' Γ' π1 bw T acc∧∀i t,T≠.look i t) ?_ ?_ ?_
 ·exact n_.pure T [] (List.range l.length) [] ⟨by simp,fun i hi=> .inr (List.mem_range.2 hi),fun i _ h=>by simp at h,bn,fun i b hi=>(by cases hi),h,fun i b hi=>(by cases hi),rfl,fun i hi=>(by cases hi),fun i v d hi=>(by cases hi),fun s v hs _=>hs,fun j o _ hj=>(by cases hj),.inr hF⟩
 ·rintro i o ho S ρ' Γ' nf hd ⟨π1,bw,T,acc,I,iY⟩;have ec:i<l.length:=(List.getElem?_eq_some_iff.1 ho).1;have o9:uD l (fun j=>S j||j==i):=by
   intro j o' hj eE e he sR;simp only[zM,beq_iff_eq]at eE⊢;rcases eE with eE|rfl
   ·exact .inl (I.m_ j o' hj eE e he sR)
   ·rw[ho]at hj;cases hj;exact .inl (hd e he sR)
  have sS:∀j,((eS l []).getD j 0).testBit i=true→S j=false:=by
   intro t yZ;cases lA:S t with
   |false=>rfl
   |true=>
    exfalso;have pd:t<l.length:=by
     have hm:=I.done t lA;obtain⟨⟨a,b⟩,dS,rfl⟩:=zbY.1 hm;obtain⟨_,o',_,eF,_⟩:=I.facts a b dS;exact(List.getElem?_eq_some_iff.1 eF).1
    have:=qV h1 I.m_ t pd lA i yZ;rw[nf]at this;cases this
  have next:∀v,lk acc i=some v→i∈π1.map (·.1)→n_ P X n ds l m ee ρ F k A (fun j=>S j||j==i) (put o.dst v ρ') Γ' π1 bw T acc:=by
   intro v hv dW;refine⟨I.nd,I.part,I.fh,I.ok,I.flag,I.jL,fun j b hj=>?_,I.gS,?_,?_,?_,o9,I.fr.imp_left fun ⟨t,a,b,c⟩=>⟨t,a,by simp[b],c⟩⟩
   ·obtain⟨u,o',g1,g2,g3,g4⟩:=I.facts j b hj;exact⟨u,o',g1,g2,fun hb=>by simp[g3 hb],g4⟩
   ·intro j hj;simp only[zM,beq_iff_eq]at hj;rcases hj with hj|rfl
    ·exact I.done j hj
    ·exact dW
   ·intro j u d hj gT iZ;simp only[zM,beq_iff_eq]at hj;by_cases eC:j=i
    ·subst eC;rw[hv]at gT;cases gT;have:o.dst=some d:=by simpa[ho]using iZ
     rw[this];exact jY
    ·have eE:S j=true:=hj.resolve_right eC;have:=I.iX j u d eE gT iZ;cases dJ:o.dst with
     |none=>exact this
     |some d'=>
      have cE:d'≠d:=by
       rintro rfl;exact eC (wM qd iZ (by simp[ho,dJ]))
      show lk ((d',v)::ρ') d=some u;rw[ir cE];exact this
   ·intro s u hs gU;have hold:lk ρ' s=some u:=I.jZ s u hs fun j hj=>by
     have:=gU j hj;simp only[zaY]at this;exact this.1
    cases dJ:o.dst with
    |none=>exact hold
    |some d'=>
     have cE:d'≠s:=by
      rintro rfl;have:=gU i (by simp[ho,dJ]);simp at this
     show lk ((d',v)::ρ') s=some u;rw[ir cE];exact hold
  have gB:∀d,o.dst=some d→Nat.blt d n=true:=fun d dJ=>by
   have:=hn d (sO (i:=i) (by simp[ho,dJ]));simpa[zN]using this
  rcases I.part i ec with dW|fS
  ·
   obtain⟨⟨a,b⟩,dS,rfl⟩:=zbY.1 dW;obtain⟨v,o',g1,g2,g3,g4⟩:=I.facts a b dS;rw[ho]at g2;cases g2;cases b with
   |true=>have:=g3 rfl;rw[nf]at this;cases this
   |false=>
    obtain⟨ep,hle,j1⟩:=g4 rfl;have gl:=kZ.sN I hle hd (wN hb) sS;have y9:∃Δ,Γ'.Perm (F++Δ):=by
     rcases I.fr with ⟨t,wO,lA,htπ⟩|h
     ·exfalso;have pf:=zaQ.1 htπ a (List.mem_range.2 ec);have tc:=I.flag a false dS;have oy:((eS l []).getD t 0).testBit a=true:=by
       rw[←tc]at pf;simpa using pf
      have pd:t<l.length:=by
       have sU:=I.done t lA;obtain⟨⟨a',b'⟩,y_,rfl⟩:=zbY.1 sU;obtain⟨_,o',_,eF,_⟩:=I.facts a' b' y_;exact(List.getElem?_eq_some_iff.1 eF).1
      have:=qV h1 I.m_ t pd lA a oy;rw[nf]at this;cases this
     ·exact h
    obtain⟨Δ,z_⟩:=y9;have sV:∀(F Δ:List HP),ak (F++Δ) F:=fun F Δ=>by
     refine(ak.perm zac).trans ?_;induction Δ with
     |nil=>exact .refl _
     |cons A Δ ih=>exact(ak.drop A _).trans ih
    have sW:∀E w,St E Γ' w→St E (fo o.op F) w:=fun E w s=>by
     rcases Ga o.op F with h|h
     ·rw[h];exact(sV F Δ).st (s.perm z_)
     ·rw[h];exact(sV [] Γ').st s
    have go:bI P o.op o.type (gn l ee ρ ep a o.after.toList) (fo o.op F) v→bm P X n ds o.dst o.op o.type (fun v' Γ''=>∃π1 bw T acc,n_ P X n ds l m ee ρ F k A (fun j=>S j||j==a) (put o.dst v' ρ') Γ'' π1 bw T acc∧∀i t,T≠.look i t) ρ' Γ':=by
     intro hv;cases dJ:o.dst with
     |none=>
      intro pg i' o' rest k' ρF sX sY Aa ax aS hw hK t w cP fC eD;have hr:=hv.2 (Act.mk t ds).eval o' X.E w ax aS (fun x u hx=>(fC.le fun s z hz=>sX s z (gl s z hz)).ev ds hx) (fun xs vs hx=>(fC.le fun s z hz=>sX s z (gl s z hz)).gk ds hx) (sW _ _ eD);refine .step (m':=lone (X.base.atR ⟨t,ds⟩ (.inRegion pg rest::k')) X.cs w) (step_lone_go ?_)
       (hK v Γ' ⟨π1,bw,T,acc,(by have:=next v g1 dW;rwa[dJ]at this),iY⟩ t w cP fC eD)
      rw[stepGR_op sY (hw t fC),Oper.semAt_eq _ _ _ (by rw[ax];exact hv.1)];have fX:=Frame.finish_atR X.base ⟨t,ds⟩ pg i' rest k' v;have hp:((pg[i']?).bind (·.dst))=none:=by simp[sY,Aa]
      rw[hp]at fX;simp only[stepG.apply,Sem.runT_eq,hr,if_true,GStep.bare_after,fX]
      rfl
     |some d=>
      have:=bL (X:=X) (n:=n) (ds:=ds) (d:=d) (Nx:=fun v' Γ''=>∃π1 bw T acc,n_ P X n ds l m ee ρ F k A (fun j=>S j||j==a) (put (some d) v' ρ') Γ'' π1 bw T acc∧∀i t,T≠.look i t)
       (hv.Fw sW) (gB d dJ) ⟨π1,bw,T,acc,(by have:=next v g1 dW;rwa[dJ]at this),iY⟩
      exact this.le gl
    unfold GV at j1;cases dv:o.guard with
    |none=>rw[dv]at j1;exact .plain dv (go j1)
    |some jb=>
     obtain⟨j,b⟩:=jb;rw[dv]at j1;simp only at j1;have lB:=zaQ.1 h8 o (zc ho);simp only[dv,zh]at lB;obtain⟨ph,pi⟩:=lB;obtain⟨e,he,i_⟩:=Array.any_eq_true'.1 ph;simp only[zh]at i_;have pj:=zJ i_.1;obtain⟨d,lC⟩:=Option.isSome_iff_exists.1 pi;have eE:S j=true:=pj ▸ hd e he i_.2;have gV:∀u,lk ep j=some u→gd ρ' l.toArray j=some u:=by
      intro u hu;unfold gd;have:(l.toArray[j]?).bind (·.dst)=some d:=by simpa using lC
      rw[this];exact I.iX j u d eE (hle j u hu) lC
     rcases j1 with ⟨ed,hv⟩|⟨ed,rfl⟩
     ·exact .guarded dv (gV _ ed) (go hv)
     ·rcases ed with ed|ed
      ·exact .uC dv (gV _ ed) (.inl rfl) gB ⟨π1,bw,T,acc,next undef g1 dW,iY⟩
      ·exact .uC dv (gV _ ed) (.inr rfl) gB ⟨π1,bw,T,acc,next undef g1 dW,iY⟩
  ·
   have GL:i∈mP T:=by
    rcases Lz T bw I.ok with ⟨j,t,e⟩|e|hc
    ·exact absurd e (iY j t)
    ·subst e;have:=I.ok;unfold eX at this;cases bw with
     |nil=>cases fS
     |cons p q=>simp at this
    ·have h7:=zaQ.1 hc i fS;rw[zM]at h7;rcases h7 with h7|h7
     ·exact ox.1 h7
     ·obtain⟨c,AF,Ab⟩:=List.any_eq_true.1 h7;have l8:(fun j=>S j||j==i) c=true:=qV h1 o9 i ec (by simp) c Ab;simp only[zM,beq_iff_eq]at l8;rcases l8 with l8|rfl
      ·obtain⟨t,_,uP⟩:=xw T true bw I.ok I.jL AF;unfold eX at uP;simp only[zh]at uP;exact absurd (I.done c l8) (I.fh c (ox.1 uP.1.1.1.2))
      ·exact AF
   obtain⟨r,qX,gH⟩:=xw T true bw I.ok I.jL GL;unfold eX at gH;simp only[zh,zM]at gH;obtain⟨⟨⟨⟨-,hp⟩,hA⟩,uQ⟩,gH⟩:=gH
   ·obtain⟨o',eF,Ac,hex⟩:=qX;rw[ho]at eF;cases eF;have kP:i∉π1.map (·.1):=I.fh i fS;have o8:lk acc i=none:=by
     cases h:lk acc i with
     |none=>rfl
     |some u=>have:=qW h;rw[I.gS]at this;exact absurd (by simpa using this) kP
    have gl:=kZ.sN I (gR.refl acc) hd (wN hb) sS;have sZ:=(hex.mono (Nx':=fun v Γ''=>∃π1 bw T acc,n_ P X n ds l m ee ρ F k A (fun j=>S j||j==i) (put o.dst v ρ') Γ'' π1 bw T acc∧∀i t,T≠.look i t) fun v Γ'' ⟨Ad,uB⟩=>by
     have hle:gR acc ((i,v)::acc):=fun j u hj=>by
      rw[ir]
      ·exact hj
      ·rintro rfl;rw[o8]at hj;cases hj
     have s9:∀s u,(∀d,o.dst=some d→d≠s)→lk ρ' s=some u→lk (put o.dst v ρ') s=some u:=by
      intro s u cE hs;cases dJ:o.dst with
      |none=>exact hs
      |some d'=>show lk ((d',v)::ρ') s=some u;rw[ir (cE d' dJ)];exact hs
     refine n_.pure r (π1++[(i,true)]) (tg i bw) ((i,v)::acc) ⟨?_,?_,?_,gH,?_,uB,?_,by simp[I.gS],?_,?_,?_,o9,Ad.imp_left fun hm=>⟨i,zX hm,by simp,uQ.resolve_left fun hh=>?_⟩⟩
     ·rw[zg,zab];exact⟨I.nd,by simp,fun a ha b hb=>by
       have:b=i:=by simpa using hb
       subst this;rintro rfl;exact kP ha⟩
     ·intro j hj;rw[zg,zL];rcases I.part j hj with h|h
      ·exact .inl (.inl h)
      ·by_cases e:j=i
       ·exact .inl (.inr (by simp[e]))
       ·exact .inr (th.2 ⟨h,e⟩)
     ·intro j hj hm;obtain⟨h1,h2⟩:=th.1 hj;rw[zg,zL]at hm;rcases hm with hm|hm
      ·exact I.fh j h1 hm
      ·exact h2 (by simpa using hm)
     ·intro j b hj;rcases zL.1 hj with hj|hj
      ·exact I.flag j b hj
      ·have e:(j,b)=(i,true):=by simpa using hj
       cases e;exact hA.symm
     ·intro j b hj;rw[zL]at hj;rcases hj with hj|hj
      ·obtain⟨u,Ae,g1,g2,g3,g4⟩:=I.facts j b hj;refine⟨u,Ae,hle j u g1,g2,fun hb=>by simp[g3 hb],fun hb=>?_⟩;obtain⟨ep,g5,g6⟩:=g4 hb;exact⟨ep,fun a c hc=>hle a c (g5 a c hc),g6⟩
      ·have e:(j,b)=(i,true):=by simpa using hj
       cases e;exact⟨v,o,jY,ho,(fun _=>by simp),fun h=>by cases h⟩
     ·intro j hj;simp only[zM,beq_iff_eq]at hj;rw[zg,zL];rcases hj with hj|rfl
      ·exact .inl (I.done j hj)
      ·exact .inr (by simp)
     ·intro j u d hj gT iZ;simp only[zM,beq_iff_eq]at hj;by_cases eC:j=i
      ·subst eC;rw[jY]at gT;cases gT;have:o.dst=some d:=by simpa[ho]using iZ
       rw[this];exact jY
      ·have eE:S j=true:=hj.resolve_right eC;rw[ir (zb4 eC)]at gT;exact s9 d u (fun d' dJ lz=>by
        subst lz;exact eC (wM qd iZ (by simp[ho,dJ]))) (I.iX j u d eE gT iZ)
     ·intro s u hs gU;refine s9 s u (fun d' dJ lz=>?_) (I.jZ s u hs fun j hj=>by
       have:=gU j hj;simp only[zaY]at this;exact this.1)
      subst lz;have:=gU i (by simp[ho,dJ]);simp at this
     ·have xc:=zX hm;have GM:i<m:=by simpa[zN]using hh
      omega).le gl
    rcases Ac with dv|⟨j,b,dv,Af⟩
    ·exact .plain dv sZ
    ·have lB:=zaQ.1 h8 o (zc ho);simp only[dv,zh]at lB;obtain⟨ph,pi⟩:=lB;obtain⟨e,he,i_⟩:=Array.any_eq_true'.1 ph;simp only[zh]at i_;have pj:=zJ i_.1;obtain⟨d,lC⟩:=Option.isSome_iff_exists.1 pi;have eE:S j=true:=pj ▸ hd e he i_.2;refine .guarded dv ?_ sZ;unfold gd;have:(l.toArray[j]?).bind (·.dst)=some d:=by simpa using lC
     rw[this];exact I.iX j _ d eE Af lC
 ·rintro S ρ' Γ' hS ⟨π1,bw,T,acc,I,iY⟩;have bM:∀i∈bw,¬i<l.length:=fun i hi ec=>I.fh i hi (I.done i (hS i ec));have hT:T= .nil:=by
   cases T with
   |nil=>rfl
   |look i t=>exact absurd rfl (iY i t)
   |act i t=>
    exfalso;obtain⟨r,⟨o,ho,_⟩,gH⟩:=xw (Tr.act i t) true bw I.ok I.jL (i:=i) (by simp[mP]);unfold eX at gH;simp only[zh]at gH;exact bM i (ox.1 gH.1.1.1.2) (List.getElem?_eq_some_iff.1 ho).1
   |alt a b=>
    exfalso;have hk:=I.ok;unfold eX at hk;simp only[zh]at hk;obtain⟨i,hi⟩:=GJ a bw hk.1.2;obtain⟨r,⟨o,ho,_⟩,gH⟩:=xw (Tr.alt a b) true bw I.ok I.jL (i:=i) (zK _ hi);unfold eX at gH;simp only[zh]at gH;exact bM i (ox.1 gH.1.1.1.2) (List.getElem?_eq_some_iff.1 ho).1
  subst hT;have qX:Ex P X n ds k (kO l acc++ρ) Γ':=I.jL;have hl:=Vd I I.nd (fun i hi=>by
   obtain⟨⟨a,b⟩,dS,rfl⟩:=zbY.1 hi;obtain⟨_,o',_,eF,_⟩:=I.facts a b dS;exact hS a (List.getElem?_eq_some_iff.1 eF).1) (fun i hi=>(I.part i hi).resolve_right fun h=>bM i h hi)
  exact fun t w cP fC eD=>qX t w cP (fC.le hl) eD
variable {l:List Oper} {m ee:Nat} {base:aK} {F:List HP} {T:Tr} {acc:aK}
theorem rL{i:Nat}{dst:Option Tmp}{op:Op}{ty:TypeId}{pos:String}{af:Array Edge}{v:Value}(ho:l[i]? =some ⟨dst,op,ty,pos,af,none⟩)(hv:bI P op ty (gn l ee base acc i af.toList) (fo op F) v)(h:kZ P X n ds l m ee base F k T ((i,v)::acc) Γ):
 kZ P X n ds l m ee base F k (.look i T) acc Γ:=⟨_,v,ho,hv,h⟩
theorem Mt{i:Nat}{dst:Option Tmp}{op:Op}{ty:TypeId}{pos:String}{af:Array Edge}(ho:l[i]? =some ⟨dst,op,ty,pos,af,none⟩)
 (h:bm P X n ds dst op ty (fun v Γ'=>(∃Δ,Γ'.Perm (F++Δ))∧kZ P X n ds l m ee base F k T ((i,v)::acc) Γ') (gn l ee base acc i af.toList) Γ):
 kZ P X n ds l m ee base F k (.act i T) acc Γ:=⟨_,ho,.inl rfl,h.mono fun _ _ ⟨a,b⟩=>⟨.inr a,b⟩⟩
theorem Vf{i:Nat}{dst:Option Tmp}{op:Op}{ty:TypeId}{pos:String}{af:Array Edge}(ho:l[i]? =some ⟨dst,op,ty,pos,af,none⟩)(hm:Nat.ble m i=true)
 (h:bm P X n ds dst op ty (fun v Γ'=>kZ P X n ds l m ee base F k T ((i,v)::acc) Γ') (gn l ee base acc i af.toList) Γ):
 kZ P X n ds l m ee base F k (.act i T) acc Γ:=⟨_,ho,.inl rfl,h.mono fun _ _ b=>⟨.inl hm,b⟩⟩
theorem Vg{ρ':aK}(he:Ag (kO l acc++base)=some ρ')(h:Ex P X n ds k ρ' Γ):kZ P X n ds l m ee base F k .nil acc Γ:=by
 rw[KN he]at h;exact h
end draw
end
section
open Go.Proofs Tryz
open Go.Proofs Go.RowKit
mutual
def It.dep:It→Nat
 | .aP _=>0
 | .bS l=>1+It.gv l
def It.gv:List It→Nat
 |[]=>0
 |x::l=>max x.dep (It.gv l)
end
theorem DB{l:List It}{x:It}(h:x∈l):x.dep≤It.gv l:=by
 induction l with
 |nil=>cases h
 |cons y l ih=>
  rw[It.gv];rcases zbe.1 h with rfl|h
  ·omega
  ·have:=ih h;omega
theorem Vh:∀(n:Nat) (A:HP) (z:IZ) (deep:Nat),SizeOf.sizeOf z.er<n→z.In A→z.er.enc.length≤65536→z.er.dep+deep≤16→
 Spec prog 218 [z.val,.int .i64 deep] [A] (fun v B=>v= .tuple #[.int .i64 (z.er.enc.length:Nat),.bool true]∧B=[A]):=by
 intro n;induction n with
 |zero=>intro A z deep hz;omega
 |succ n ih=>
  intro A z deep hz I gY Mu;refine x_sp func218 ntmps218 fun E cs Γ=>?_;cases z with
  |aP s=>
   have u9:(bC s).size=s.length:=dV _;have pI:(IZ.er (.aP s)).enc=cT s:=by rw[IZ.er,It.enc]
   rw[pI]at gY⊢;rw[xu]at gY⊢;have hle:s.length≤65536:=by
    cases jf:iK s with
    |true=>rw[jf,if_pos rfl]at gY;exact gY
    |false=>rw[jf,if_neg (by decide),zd]at gY;omega
   have e4:(IZ.aP s).bq.length=0:=rfl;have Vi:(bC (IZ.aP s).text).size=s.length:=dV _;refine dx (h:=?_);refine ao (aM rfl rfl fun p2=>?_);refine gg (h:=?_);refine aq rfl (Hm s) rfl ?_;refine cS (h:=?_);cases jf:iK s with
   |true=>
    have h1:s.length=1:=by
     unfold iK at jf;simp only[zh,decide_eq_true_eq]at jf;exact jf.1
    rw[if_pos rfl];refine Wq ?_;exact ap rfl [A] ⟨by rw[h1];rfl,rfl⟩ Sub.h
   |false=>
    rw[jf,if_neg (by decide)]at gY;rw[if_neg (by decide)];rw[zd]at gY⊢;refine Wq ?_;refine aZ 9 (aX [6] [0,1,2,3,4,5,6,7,8]) [Row p2 0 (IZ.cells (.aP s)),A] ?_;refine Ws ?_;rw[Vi];refine aE rfl (aq rfl (Mp (n:=s.length) (by omega) 128) rfl ?_);refine cn (h:=DC (h:=df (h:=?_)));rw[show(s.length:Int)+((cZ 128 s.length).length:Int)=(((cZ 128 s.length).length+s.length:Nat):Int)by omega];refine Wq ?_;exact ap rfl [A] ⟨rfl,rfl⟩ Sub.h
  |bS a c l=>
   obtain⟨RI,hc,hl,hI⟩:=I.bq;have fi:l.length≤2^38:=hl;have hs:∀x,x∈l→SizeOf.sizeOf x.er<SizeOf.sizeOf (IZ.er (.bS a c l)):=fun x hx=>Mr (z:= .bS a c l) hx;have hd:∀x,x∈l→x.er.dep+1≤(IZ.er (.bS a c l)).dep:=fun x hx=>by
    rw[IZ.er,IZ.nz,It.dep];have:=DB (zaB (f:=IZ.er) hx);omega
   have tz:1≤(IZ.er (.bS a c l)).dep:=by rw[IZ.er,It.dep];omega
   rw[Ho]at gY⊢;obtain⟨bs,py⟩:∃bs,It.cH (l.map IZ.er)=bs:=⟨_,rfl⟩
   rw[py]at gY⊢;rw[zd]at gY⊢;refine dx (h:=?_);refine ao (aM rfl rfl fun p2=>?_);refine aA (h:=?_);refine yN rfl rfl rfl rfl ?_;refine Wq ?_;refine aQ (α:=Nat) (fun i=>i≤l.length) (fun i=>[(63,iv i),(62,iv l.length),(61,.slice a l.length c),(7,iv (It.cH ((l.take i).map IZ.er)).length),(1,iv deep)])
    (fun _=>A::Γ) (fun i=>l.length-i) 0 (by omega) x_tv Sub.h ?_
   intro i hi back;have Mv:=A8 (l:=l) i;rw[py]at Mv;refine bQ (h:=?_);by_cases h:i<l.length
   ·obtain⟨x,hx⟩:=bc (l:=l) (i:=i) h;have fG:=zc hx;have ni:=hs x fG;have hxd:=hd x fG;have het:=Hn hx;have Vj:=A8 (l:=l) (i+1);rw[py,het,zd]at Vj;refine aA (h:=?_);refine bK rfl rfl RI (j:=i) rfl h rfl fun b off ha=>?_;refine aw (h:=?_);refine dA rfl RI ha (i:=i*3) (us:=x.cells) (by omega) rfl (fun j v hv=>tw hx hv) rfl ?_;refine ao (aC rfl fun p9=>?_);refine Wq ?_;rw[show((deep:Int)+1)=((deep+1:Nat):Int)by omega];refine aJ rfl (ih A x (deep+1) (by omega) (hI x fG) (by omega) (by omega)) rfl ?_;refine jC (h:=?_);rw[show((It.cH ((l.take i).map IZ.er)).length:Int)+(x.er.enc.length:Int)=((It.cH ((l.take (i+1)).map IZ.er)).length:Nat)by rw[het,zd];omega];exact aV (back (i+1) (by omega) (by omega))
   ·obtain rfl:i=l.length:=by omega
    rw[zu,py]at Mv⊢;refine Wq ?_;refine aJ rfl (Mp (n:=bs.length) (by omega) 192) rfl ?_;refine jO (h:=?_);exact ap rfl [A] ⟨by
     show Value.tuple #[.int .i64 ((bs.length:Int)+(cZ 192 bs.length).length),_]=_;rw[show(bs.length:Int)+((cZ 192 bs.length).length:Int)=(((cZ 192 bs.length).length+bs.length:Nat):Int)by omega],rfl⟩ Sub.h
structure Fit(A:HP)(z:IZ):Prop where
 i:z.In A
 len:z.er.enc.length≤65536
 dep:z.er.dep≤16
theorem Vk{A:HP}(z:IZ)(F:Fit A z):Spec prog 169 [z.val] [A] (fun v B=>v= .int .i64 0∧B=[A]):=by
 refine x_sp func169 ntmps169 fun E cs Γ=>?_;refine eh (h:=?_);refine ao (aM rfl rfl fun p1=>?_);refine Wq ?_;refine aJ rfl (Vh _ A z 0 (za7 _) F.i F.len F.dep) rfl ?_;refine jC (h:=?_);exact ap rfl [A] ⟨rfl,rfl⟩ Sub.h
theorem Vl{A:HP}(z:IZ)(F:Fit A z):Spec prog 115 [z.val] [A] (fun v B=>v= .tuple #[tv z.er.enc,.int .i64 0]∧B=[A]):=by
 refine x_sp func115 ntmps115 fun E cs Γ=>?_;refine eh (h:=?_);refine ao (aM rfl rfl fun p1=>?_);refine Wq ?_;refine aJ rfl (Vk z F) rfl ?_;refine jC (h:=?_);refine gh (Γ':=Sl 1 none ([]:List UInt8).length 0 (([]:List UInt8).map bv)::A::Row p1 0 z.cells::Γ) (ak.cq 1 _) ?_;refine aJ rfl (Va _ A z none 0 [] (za7 _) F.i F.len (by simp)) rfl ?_;rintro v B ⟨a',c',rfl,rfl⟩;rw[zB];refine a_ (h:=?_);have RS:=Sl.reads 1 a' z.er.enc.length c' (z.er.enc.map bv) (by simp);refine aw (h:=?_);refine uy rfl RS rfl ?_;refine qh (h:=?_);exact ap rfl [A] ⟨rfl,rfl⟩ Sub.h
end
section
open Go.Proofs Tryz
open Go.Proofs Go.RowKit
theorem A9{a:Nat}(ha:a<aT):Spec prog 114 [uv a] [] (fun v B=>v=IZ.val (.aP (aU a))∧B=[]):=by
 refine x_sp func114 ntmps114 fun E cs Γ=>?_;refine gi (h:=?_);refine ao (aM rfl rfl fun p1=>?_);refine ao (aC rfl fun p2=>?_);refine uM (h:=Dr (h:=?_));refine aJ rfl (LP ha) rfl ?_;refine jO (h:=?_);exact bP (rs:=[.cell 2 179]) (vs:=[IZ.val (.aP (aU a))]) ⟨bG (us:=IZ.cells (.aP (aU a))) rfl rfl,trivial⟩ [] ⟨rfl,rfl⟩ Sub.h
theorem Hs{n:Int}(h:0≤n∧n<2^63):Spec prog 113 [.int .i64 n] [] (fun v B=>v=IZ.val (.aP (aU n.toNat))∧B=[]):=by
 obtain⟨m,rfl⟩:∃m:Nat,n=m:=⟨n.toNat,by omega⟩
 refine x_sp func113 ntmps113 fun E cs Γ=>?_;refine gi (h:=?_);refine ao (aC rfl fun p2=>?_);refine uM (h:=fv (h:=?_));refine ft rfl rfl ?_;rw[nY (by omega)];refine aw (h:=?_);refine tn rfl (by rfl) rfl ?_;refine aw (h:=?_);refine aq (vs:=[uv m]) (by rw[show uv m= .agg (uc m).toArray from rfl,AO (x:=m) (by unfold aI;omega)];rfl) (A9 (a:=m) (by unfold aT;omega)) rfl ?_;refine cS (h:=mS (h:=?_));exact bP (rs:=[.cell 2 179]) (vs:=[IZ.val (.aP (aU m))]) ⟨bG (us:=IZ.cells (.aP (aU m))) rfl rfl,trivial⟩ [] ⟨rfl,rfl⟩ Sub.h
theorem oG{P:Program}{X:Cx}{n:Nat}{ds:List Deferred}{ρ:aK}{Γ:List HP}{todo:List Item}{A:HP}{s len:Nat}{a:Option Addr}{xs:List Value}(R:Reads A s a len xs)[H:Has Γ A](hl:0<len)
 (h:∀b off,a=some ⟨b,off,none⟩→Ex P X n ds todo ρ Γ):Ex P X n ds todo ρ Γ:=
 dz (α:={q:Nat×Nat//a=some ⟨q.1,q.2,none⟩}) (Γ':=fun _=>Γ) (fun E w st=>by
  rcases st.reads R with h0|⟨b,off,ha,_⟩
  ·omega
  ·exact⟨⟨(b,off),ha⟩,st⟩) fun q=>h q.1.1 q.1.2 q.2
abbrev dB(l:List (List UInt8)):List IZ:=l.map IZ.aP
theorem Ht(l:List (List UInt8)):(dB l).map IZ.er=l.map It.aP:=by
 simp only[dB,zR];refine zah fun s _=>?_;show(IZ.aP s).er=_;rw[IZ.er]
theorem Mw(l:List (List UInt8))(a:Option Addr)(c:Nat):(IZ.er (.bS a c (dB l))).enc=mg (l.map cT):=by
 rw[IZ.er,IZ.nz,It.Mj,Ht,zR];exact congrArg mg (zah fun s _=>by show(It.aP s).enc=_;rw[It.enc])
theorem Vm(l:List (List UInt8))(a:Option Addr)(c:Nat):(IZ.er (.bS a c (dB l))).dep=1:=by
 rw[IZ.er,IZ.nz,Ht,It.dep];have:It.gv (l.map It.aP)=0:=by
  induction l with
  |nil=>rfl
  |cons s l ih=>rw[zE,It.gv,ih,It.dep];rfl
 omega
theorem DE{A:HP}{l:List (List UInt8)}(h:∀b∈l,b.length≤2^40):∀z∈dB l,z.In A:=fun z hz=>by
 obtain⟨s,hs,rfl⟩:=zbY.1 hz;exact .aP s (h s hs)
abbrev u_(t:TX)(a:Option Addr)(ah:Option Addr)(ch:Nat)(ab:Option Addr)(cb:Nat):IZ:=
 .bS a 9 [.aP (aU t.bx.toNat),.aP (aU t.ck.toNat),.aP (aU t.bV),.aP (aU t.cap),.aP (aU t.bX),.aP (aU t.val),.aP (aU t.dr.toNat),.bS ah ch (dB (t.hs.map dw)),.bS ab cb (dB t.bl)]
theorem A_(t:TX)(a:Option Addr)(ah:Option Addr)(ch:Nat)(ab:Option Addr)(cb:Nat):(u_ t a ah ch ab cb).er.enc=t.bytes:=by
 rw[IZ.er,IZ.nz,It.Mj];unfold TX.bytes;congr 1;have et:∀s,(IZ.aP s).er.enc=cT s:=fun s=>by rw[IZ.er,It.enc]
 simp only[zE,zal];rw[Mw,Mw,et,et,et,et,et,et,et,zR]
 rfl
theorem Hu(t:TX)(a:Option Addr)(ah:Option Addr)(ch:Nat)(ab:Option Addr)(cb:Nat):(u_ t a ah ch ab cb).er.dep≤16:=by
 rw[IZ.er,IZ.nz,It.dep];simp only[zE,zal,It.gv,Vm];simp[IZ.er,It.dep]
theorem qw{a:Nat}(h:a<aT):(aU a).length≤2^40:=by
 have:=mh (a:=a) (k:=32) (by simpa using h);omega
theorem va{A:HP}(z:TZ)(I:z.In A):Spec prog 70 [z.val] [A] (fun v B=>v= .tuple #[tv (if z.t.ok then z.t.bytes else []),.int .i64 (if z.t.ok then 0 else 1)]∧B=[A]):=by
 refine x_sp func70 ntmps70 fun E cs Γ=>?_;refine eh (h:=?_);refine ao (aM rfl rfl fun p1=>?_);refine Wq ?_;refine aJ rfl (rK z I) rfl ?_;refine de (h:=?_);cases hz:z.t.ok with
 |false=>
  rw[if_neg (by decide),if_neg (by decide)];refine Wq ?_;exact ap rfl [A] ⟨rfl,rfl⟩ Sub.h
 |true=>
  rw[if_pos rfl,if_pos rfl];obtain⟨f1,f2,f3,f4,f5,f6,f7,f8,f9⟩:=mr hz;obtain⟨g1,g2,g3,g4⟩:=pF f8;have Hv:z.t.hs.length=z.t.bl.length:=by rw[g3];simp
  have Vn:∀(i:Nat),i≤z.t.bl.length→((dB ((z.t.hs.take i).map dw)).length=i∧(dB (z.t.bl.take i)).length=i):=fun i hi=>by
   simp only[dB,zm,zw];omega
  refine Wq ?_;refine ao (aC rfl fun p5=>?_);refine ao (aC rfl fun p6=>?_);refine Wq ?_;refine aQ (α:=Nat×(Option Addr×Nat)×(Option Addr×Nat)) (fun q=>q.1≤z.t.bl.length) (fun q=>[(20,iv q.1),(19,iv z.t.bl.length),(18,.slice z.ab z.t.bl.length z.cb),(6,dp p6),(5,dp p5),(1,dp p1)])
   (fun q=>Row p6 0 [.bool true,tv [],.slice q.2.2.1 q.1 q.2.2.2]::Sl 3 q.2.2.1 q.1 q.2.2.2 ((dB (z.t.bl.take q.1)).flatMap IZ.cells)::Row p5 0 [.bool true,tv [],.slice q.2.1.1 q.1 q.2.1.2]::Sl 3 q.2.1.1 q.1 q.2.1.2 ((dB ((z.t.hs.take q.1).map dw)).flatMap IZ.cells)::A::Row p1 0 z.cells::Γ)
   (fun q=>z.t.bl.length-q.1) (0,(none,0),(none,0)) (by simp) ⟨rfl,rfl,rfl,rfl,rfl,rfl,trivial⟩
   ((ak.cq 3 _).trans ((ak.cq 3 _).trans (Sub.h (Δ:=Row p6 0 [.bool true,.string ⟨#[]⟩,.slice none 0 0]::Sl 3 none 0 0 []::Row p5 0 [.bool true,.string ⟨#[]⟩,.slice none 0 0]::Sl 3 none 0 0 []::A::Row p1 0 z.cells::Γ)))) ?_
  rintro⟨i,⟨ah,ch⟩,⟨ab,cb⟩⟩ hi back;dsimp only at hi back⊢;refine bQ (h:=?_);by_cases h:i<z.t.bl.length
  ·obtain⟨b,hb⟩:=bc (l:=z.t.bl) (i:=i) h;obtain⟨m,hm⟩:=bc (l:=z.t.hs) (i:=i) (by omega);have ja:=I.wf.hs m (zc hm);refine aA (h:=?_);refine bK rfl rfl I.rb (j:=i) rfl h rfl fun b1 off ha=>?_;refine aw (h:=?_);refine fM rfl I.rb ha (i:=i) (by omega) (by rw[zf,hb];rfl) rfl ?_;refine Wq ?_;refine oG I.rh (by omega) fun bh oh pJ=>?_;refine aZ 12 (aX [7,9,10,12] [0,1,2,3,4,5,6,7,8,9,10,11,12]) [Row p5 0 [.bool true,tv [],.slice ah i ch],Row p1 0 z.cells,A] ?_;refine Ws ?_;refine au rfl (aY rfl rfl pJ (j:=i) rfl (by omega)) ?_;refine au rfl (b7 rfl I.rh pJ (i:=i) (by omega) (by rw[zf,hm];rfl)) ?_;skip;refine aE rfl (aq rfl (UI ja) rfl ?_);refine cn (h:=vb (h:=?_));refine aE rfl (cf rfl (by rfl) (by rfl) (by rfl) (by rfl) rfl fun a2=>⟨bd,?_⟩);refine aE rfl (cF rfl rfl (by rfl) (by rfl) (by rfl) (by omega) rfl fun a4 c4 gI=>⟨bd,?_⟩);refine j6 (h:=?_);refine bN rfl rfl (eZ rfl rfl rfl rfl (by simp) ?_);refine dU (h:=?_);dsimp only[Nat.reduceSub,Nat.reduceAdd,List.set];have e1:(dB ((z.t.hs.take i).map dw)).flatMap IZ.cells++[Value.bool false,Value.string (bC (dw m)),Value.slice none 0 0]=(dB ((z.t.hs.take (i+1)).map dw)).flatMap IZ.cells:=by
    rw[zp,hm];simp only[zaa,zg,zE,zal,dB,zaC,zT,zbo,zF];rfl
   rw[e1];refine aA (h:=?_);refine cf rfl (by rfl) (by rfl) (by rfl) (by rfl) rfl fun a5=>?_;refine aw (h:=?_);refine cF rfl rfl (by rfl) (by rfl) (by rfl) (by omega) rfl fun a6 c6 xx=>?_;have e2:(dB (z.t.bl.take i)).flatMap IZ.cells++[Value.bool false,Value.string (bC b),Value.slice none 0 0]=(dB (z.t.bl.take (i+1))).flatMap IZ.cells:=by
    rw[zp,hb];simp only[zaa,zg,zE,zal,dB,zaC,zT,zbo,zF];rfl
   rw[e2];refine Wq ?_;exact aV (back (i+1,(a4,c4),(a6,c6)) (by dsimp only;omega) (by dsimp only;omega))
  ·obtain rfl:i=z.t.bl.length:=by omega
   rw[zu,zo (by omega)];refine Wq ?_;refine bJ (ak.mu _) ?_;refine fw ah (h:=PH.emp) fun k1 ey R1 jg=>?_;refine fw ab (h:=k1) fun k2 bH R2 eV=>?_;refine aZ 25 (aX [2,5,8,11,14,17,20,23] [0,1,3,4,6,7,9,10,12,13,15,16,18,19,21,22,2,5,8,11,14,17,20,23,24]) [Row p1 0 z.cells,Row p5 0 [.bool true,tv [],.slice ah z.t.bl.length ch],Row p6 0 [.bool true,tv [],.slice ab z.t.bl.length cb]] ?_;refine Ws ?_;refine aE rfl (aq rfl (Hs (n:=z.t.bx) (by omega)) rfl ?_);refine cn (h:=?_);refine aE rfl (aq rfl (Hs (n:=z.t.ck) (by omega)) rfl ?_);refine cn (h:=?_);refine aE rfl (aq rfl (A9 (a:=z.t.bV) I.wf.bV) rfl ?_);refine cn (h:=?_);refine aE rfl (aq rfl (A9 (a:=z.t.cap) I.wf.cap) rfl ?_);refine cn (h:=?_);refine aE rfl (aq rfl (A9 (a:=z.t.bX) I.wf.bX) rfl ?_);refine cn (h:=?_);refine aE rfl (aq rfl (A9 (a:=z.t.val) I.wf.val) rfl ?_);refine cn (h:=?_);refine aE rfl (aq rfl (Hs (n:=z.t.dr) (by omega)) rfl ?_);refine cn (h:=?_);refine aE rfl (cf rfl (by rfl) (by rfl) (by rfl) (by rfl) rfl fun a9=>⟨bd,?_⟩);refine df (h:=?_);refine fw a9 (h:=k2) fun k3 dZ R9 Mx=>?_;have l1:(dB (z.t.hs.map dw)).length=z.t.bl.length:=by simp[dB];exact Hv
   have l2:(dB z.t.bl).length=z.t.bl.length:=by simp[dB]
   have i1:(IZ.bS ah ch (dB (z.t.hs.map dw))).In (Mem k3):=by
    refine .bS ah ch _ ?_ (by rw[l1];exact jg) (by rw[l1];omega) (DE fun b hb=>?_)
    ·rw[l1];exact(R1.up bH).up dZ
    ·obtain⟨m,_,rfl⟩:=zbY.1 hb;rw[xf];decide
   have i2:(IZ.bS ab cb (dB z.t.bl)).In (Mem k3):=by
    refine .bS ab cb _ ?_ (by rw[l2];exact eV) (by rw[l2];omega) (DE fun b hb=>I.bb b hb);rw[l2];exact R2.up dZ
   have hF:Fit (Mem k3) (u_ z.t a9 ah ch ab cb):=by
    refine⟨.bS a9 9 _ ?_ (zq _) (by show 9≤2^38;decide) fun x hx=>?_,by rw[A_];have:=TX.rB I.wf hz;omega,Hu _ _ _ _ _ _⟩
    ·have e:([IZ.aP (aU z.t.bx.toNat),.aP (aU z.t.ck.toNat),.aP (aU z.t.bV),.aP (aU z.t.cap),.aP (aU z.t.bX),.aP (aU z.t.val),.aP (aU z.t.dr.toNat),.bS ah ch (dB (z.t.hs.map dw)),.bS ab cb (dB z.t.bl)]:List IZ).flatMap IZ.cells=
      (IZ.aP (aU z.t.bx.toNat)).cells++(IZ.aP (aU z.t.ck.toNat)).cells++(IZ.aP (aU z.t.bV)).cells++(IZ.aP (aU z.t.cap)).cells++(IZ.aP (aU z.t.bX)).cells++(IZ.aP (aU z.t.val)).cells++(IZ.aP (aU z.t.dr.toNat)).cells++[.bool true,tv [],.slice ah z.t.bl.length ch]++[.bool true,tv [],.slice ab z.t.bl.length cb]:=by
      simp only[zT,zbo,zF,zr];show _++(_++(_++(_++(_++(_++(_++([.bool true,tv [],.slice ah (dB (z.t.hs.map dw)).length ch]++[.bool true,tv [],.slice ab (dB z.t.bl).length cb])))))))=_;rw[l1,l2]
     rw[e];exact R9
    ·simp only[zbe,List.not_mem_nil,or_false]at hx;have hN:∀a:Int,0≤a→a<2^63→(aU a.toNat).length≤2^40:=fun a h1 h2=>qw (by unfold aT;omega);rcases hx with rfl|rfl|rfl|rfl|rfl|rfl|rfl|rfl|rfl
     ·exact .aP _ (hN _ f1 (by omega))
     ·exact .aP _ (hN _ f3 (by omega))
     ·exact .aP _ (qw I.wf.bV)
     ·exact .aP _ (qw I.wf.cap)
     ·exact .aP _ (qw I.wf.bX)
     ·exact .aP _ (qw I.wf.val)
     ·exact .aP _ (hN _ f5 (by omega))
     ·exact i1
     ·exact i2
   refine qj (h:=?_);refine ao (lV rfl (by rfl) rfl ?_);refine aw (h:=?_);refine aq (vs:=[(u_ z.t a9 ah ch ab cb).val]) rfl (Vl _ hF) rfl ?_;refine dh (h:=?_);rw[A_];refine bW (h:=?_);exact ap rfl [A] ⟨rfl,rfl⟩ Sub.h
theorem xy{A:HP}(z:TZ)(I:z.In A):Spec prog 66 [z.val] [A] (fun v B=>v= .tuple #[nv (if z.t.ok then z.t.id else 0),.int .i64 (if z.t.ok then 0 else 1)]∧B=[A]):=by
 refine x_sp func66 ntmps66 fun E cs Γ=>?_;refine eh (h:=?_);refine ao (aM rfl rfl fun p1=>?_);refine Wq ?_;refine aJ rfl (va z I) rfl ?_;refine de (h:=?_);cases hz:z.t.ok with
 |false=>
  rw[if_neg (by decide),if_neg (by decide),if_neg (by decide)];refine Wq ?_;exact ap rfl [A] ⟨rfl,rfl⟩ Sub.h
 |true=>
  rw[if_pos rfl,if_pos rfl,if_pos rfl];have hle:=TX.rB I.wf hz;refine Wq ?_;refine aJ rfl (L9 z.t.bytes (by omega)) rfl ?_;refine cS (h:=qh (h:=?_));exact ap rfl [A] ⟨rfl,rfl⟩ Sub.h
end
end Go.Proofs.YtacfncmndodlpaaGreat
